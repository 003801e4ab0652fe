/-
  No cell of these rows narrows 'for every input' (looked for: loops, veiled, ifaces, maps, wideKeys, modest, calm, conditions, laid).
  DERIVED. THE GIVEN ROWS OF THIS SEAT. 3 by the template 'for every input the law returns true; each argument reads behind the call as it read before'; 0 by the template 'total and deterministic' (their statements: YtceomkoecidoiaaTotals.lean).
  GIVEN WITH THE SEED: the statements are not yours to turn. If you find one false, say at which input.
  Laid BY PROGRAM, IN A SANDBOX (cutbox-rows.mjs): the forced cells as the released guide's own fill.sh prints them over the translation 76317957c2034326… (all of the seat's roots in one cut). By AI agents, Wed Nov 11 2026. No macro, syntax, notation, axiom, sorry.
-/
import Derived.Test.YtceomkoecidoiaaChecked
import GoSem.Claim
import GoSem.ClaimJoined
import GoSem.ClaimMapViews
import Derived.JoinedTies
import Derived.KernelRfl
namespace Go.Proofs.Ytceomkoecidoiaa
/- THE CELL 'sum', in the pinned program and in every row, IS THE sha256 OF THE DUMP (.gsa) THAT YtceomkoecidoiaaProg.lean LOADS. Nothing in Lean hashes anything: it is a label: what it is worth is what the hold of that sum in a sandbox is worth. -/
noncomputable def Try.pinned : Pinned := { name := "ytceomkoecidoiaa", sum := "76317957c2034326f040f7542fb2bda7919ab340c3d5233c10553d3af53362dc", checked := Try.checked }
namespace Rows
def none {H : Type} : Left H := { results := [], args := [] }

/-- 'telltalelaw17.FollowBuilds': WHATEVER THE INPUT: true; the input reads as it did. -/
def followBuildsSpec : ChangeSpec := { name := "followBuilds", fn := fun _ => fun
  | [d1, d2, d3] => { results := [.lit (.bool true)], args := [d1, d2, d3] }
  | _ => none }
def followBuildsRow : OpenClaim := { program := "ytceomkoecidoiaa", sum := "76317957c2034326f040f7542fb2bda7919ab340c3d5233c10553d3af53362dc", func := "telltale/telltalelaw17.FollowBuilds", spec := "followBuilds", recurses := true, plainKeys := false, apart := false }
def FollowBuildsSaid : Prop := followBuildsRow.holds Try.pinned (OpenSpec.ofChange followBuildsSpec)

/-- ITS FALSE NEIGHBOUR: 'it returns false'. Refute it at one input. -/
def followBuildsWrong : ChangeSpec := { name := "followBuilds", fn := fun _ => fun
  | [d1, d2, d3] => { results := [.lit (.bool false)], args := [d1, d2, d3] }
  | _ => none }
def FollowBuildsWrongFalsely : Prop := followBuildsRow.holds Try.pinned (OpenSpec.ofChange followBuildsWrong)

/-- 'telltalelaw17.FollowPaths': WHATEVER THE INPUT: true; the input reads as it did. -/
def followPathsSpec : ChangeSpec := { name := "followPaths", fn := fun _ => fun
  | [d1, d2] => { results := [.lit (.bool true)], args := [d1, d2] }
  | _ => none }
def followPathsRow : OpenClaim := { program := "ytceomkoecidoiaa", sum := "76317957c2034326f040f7542fb2bda7919ab340c3d5233c10553d3af53362dc", func := "telltale/telltalelaw17.FollowPaths", spec := "followPaths", recurses := true, plainKeys := false, apart := false }
def FollowPathsSaid : Prop := followPathsRow.holds Try.pinned (OpenSpec.ofChange followPathsSpec)

/-- ITS FALSE NEIGHBOUR: 'it returns false'. Refute it at one input. -/
def followPathsWrong : ChangeSpec := { name := "followPaths", fn := fun _ => fun
  | [d1, d2] => { results := [.lit (.bool false)], args := [d1, d2] }
  | _ => none }
def FollowPathsWrongFalsely : Prop := followPathsRow.holds Try.pinned (OpenSpec.ofChange followPathsWrong)

/-- 'telltalelaw17.FollowWords': WHATEVER THE INPUT: true; the input reads as it did. -/
def followWordsSpec : ChangeSpec := { name := "followWords", fn := fun _ => fun
  | [d1, d2] => { results := [.lit (.bool true)], args := [d1, d2] }
  | _ => none }
def followWordsRow : OpenClaim := { program := "ytceomkoecidoiaa", sum := "76317957c2034326f040f7542fb2bda7919ab340c3d5233c10553d3af53362dc", func := "telltale/telltalelaw17.FollowWords", spec := "followWords", unfollowed := true, recurses := true, plainKeys := false, apart := false }
def FollowWordsSaid : Prop := followWordsRow.holds Try.pinned (OpenSpec.ofChange followWordsSpec)

/-- ITS FALSE NEIGHBOUR: 'it returns false'. Refute it at one input. -/
def followWordsWrong : ChangeSpec := { name := "followWords", fn := fun _ => fun
  | [d1, d2] => { results := [.lit (.bool false)], args := [d1, d2] }
  | _ => none }
def FollowWordsWrongFalsely : Prop := followWordsRow.holds Try.pinned (OpenSpec.ofChange followWordsWrong)

/- THE SECOND FORM. 'bulk': how many values and letters a reading holds, each counted each time it is reached (what is shared counts as often as it is met; a slice's spare places count too). A statement '..UptoSaid' is the law's where the arguments, and the package variables that the reading takes, are together of bulk at most 1048576: NARROWER than '..Said'. Prove '..Said' where nothing that the law and all that it calls make is longer than what came in: it says more and counts as full. Else prove '..UptoSaid'. A law counts once. -/
mutual
def uptoBulk {H : Type} : DataW H → Nat
  | .lit (.string bytes) => bytes.length + 1
  | .lit _ => 1
  | .nil => 1
  | .ptr d => uptoBulk d + 1
  | .slice elems spare => uptoBulkAll elems + uptoBulkAll spare + 1
  | .agg parts => uptoBulkAll parts + 1
  | .iface _ d => uptoBulk d + 1
  | .map entries => uptoBulkEntries entries + 1
  | .held _ => 1
def uptoBulkAll {H : Type} : List (DataW H) → Nat
  | [] => 0
  | d :: r => uptoBulk d + uptoBulkAll r
def uptoBulkEntries {H : Type} : List (Lit × DataW H) → Nat
  | [] => 0
  | x :: r => uptoBulkEntry x + uptoBulkEntries r
def uptoBulkEntry {H : Type} : Lit × DataW H → Nat
  | (.string bytes, d) => bytes.length + uptoBulk d + 1
  | (_, d) => uptoBulk d + 1
 end
def uptoSmall : (H : Type) → List (DataW H) → Bool := fun _ ds => decide (uptoBulkAll ds ≤ 1048576)
def OpenSpec.upto (s : _root_.Go.ChangeSpec) : _root_.Go.OpenSpec := { _root_.Go.OpenSpec.ofChange s with cond := some uptoSmall }

/-- 'telltalelaw17.FollowBuilds', WHERE WHAT IT READS IS OF BULK AT MOST 1048576: true; the input reads as it did. -/
def followBuildsUptoRow : OpenClaim := { program := "ytceomkoecidoiaa", sum := "76317957c2034326f040f7542fb2bda7919ab340c3d5233c10553d3af53362dc", func := "telltale/telltalelaw17.FollowBuilds", spec := "followBuilds", recurses := true, plainKeys := false, apart := false, narrowed := true }
def FollowBuildsUptoSaid : Prop := followBuildsUptoRow.holds Try.pinned (OpenSpec.upto followBuildsSpec)

/-- 'telltalelaw17.FollowPaths', WHERE WHAT IT READS IS OF BULK AT MOST 1048576: true; the input reads as it did. -/
def followPathsUptoRow : OpenClaim := { program := "ytceomkoecidoiaa", sum := "76317957c2034326f040f7542fb2bda7919ab340c3d5233c10553d3af53362dc", func := "telltale/telltalelaw17.FollowPaths", spec := "followPaths", recurses := true, plainKeys := false, apart := false, narrowed := true }
def FollowPathsUptoSaid : Prop := followPathsUptoRow.holds Try.pinned (OpenSpec.upto followPathsSpec)

/-- 'telltalelaw17.FollowWords', WHERE WHAT IT READS IS OF BULK AT MOST 1048576: true; the input reads as it did. -/
def followWordsUptoRow : OpenClaim := { program := "ytceomkoecidoiaa", sum := "76317957c2034326f040f7542fb2bda7919ab340c3d5233c10553d3af53362dc", func := "telltale/telltalelaw17.FollowWords", spec := "followWords", unfollowed := true, recurses := true, plainKeys := false, apart := false, narrowed := true }
def FollowWordsUptoSaid : Prop := followWordsUptoRow.holds Try.pinned (OpenSpec.upto followWordsSpec)

end Rows
end Go.Proofs.Ytceomkoecidoiaa
