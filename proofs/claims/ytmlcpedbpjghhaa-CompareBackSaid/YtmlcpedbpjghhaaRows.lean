/-
  No cell of these rows narrows 'for every input' (looked for: loops, veiled, ifaces, maps, wideKeys, modest, calm, conditions, laid).
  DERIVED. THE GIVEN ROWS OF THIS SEAT. 5 by the template 'for every input the law returns true; each argument reads behind the call as it read before'; 0 by the template 'total and deterministic' (their statements: YtmlcpedbpjghhaaTotals.lean).
  GIVEN WITH THE SEED: the statements are not yours to turn. If you find one false, say at which input.
  Laid BY PROGRAM, IN A SANDBOX (cutbox-rows.mjs): the forced cells as the released guide's own fill.sh prints them over the translation 0ad09d5d8cc69086… (all of the seat's roots in one cut). By AI agents, Wed Nov 11 2026. No macro, syntax, notation, axiom, sorry.
-/
import Derived.Test.YtmlcpedbpjghhaaChecked
import GoSem.Claim
import GoSem.ClaimJoined
import GoSem.ClaimMapViews
import Derived.JoinedTies
import Derived.KernelRfl
namespace Go.Proofs.Ytmlcpedbpjghhaa
/- THE CELL 'sum', in the pinned program and in every row, IS THE sha256 OF THE DUMP (.gsa) THAT YtmlcpedbpjghhaaProg.lean LOADS. Nothing in Lean hashes anything: it is a label: what it is worth is what the hold of that sum in a sandbox is worth. -/
noncomputable def Try.pinned : Pinned := { name := "ytmlcpedbpjghhaa", sum := "0ad09d5d8cc6908671bd96de54a27a8d7f3f1a062055879b61a5bc0325740d5a", checked := Try.checked }
namespace Rows
def none {H : Type} : Left H := { results := [], args := [] }

/-- 'telltalelaw05.CompareHolds': WHATEVER THE INPUT: true; the input reads as it did. -/
def compareHoldsSpec : ChangeSpec := { name := "compareHolds", fn := fun _ => fun
  | [d1, d2, d3] => { results := [.lit (.bool true)], args := [d1, d2, d3] }
  | _ => none }
def compareHoldsRow : OpenClaim := { program := "ytmlcpedbpjghhaa", sum := "0ad09d5d8cc6908671bd96de54a27a8d7f3f1a062055879b61a5bc0325740d5a", func := "telltale/telltalelaw05.CompareHolds", spec := "compareHolds", inPlace := ["math.Float64frombits", "math.Float64bits", "math.archFloor", "math.archTrunc"], unfollowed := true, recurses := true, apart := false }
def CompareHoldsSaid : Prop := compareHoldsRow.holds Try.pinned (OpenSpec.ofChange compareHoldsSpec)

/-- ITS FALSE NEIGHBOUR: 'it returns false'. Refute it at one input. -/
def compareHoldsWrong : ChangeSpec := { name := "compareHolds", fn := fun _ => fun
  | [d1, d2, d3] => { results := [.lit (.bool false)], args := [d1, d2, d3] }
  | _ => none }
def CompareHoldsWrongFalsely : Prop := compareHoldsRow.holds Try.pinned (OpenSpec.ofChange compareHoldsWrong)

/-- 'telltalelaw05.CompareSums': WHATEVER THE INPUT: true; the input reads as it did. -/
def compareSumsSpec : ChangeSpec := { name := "compareSums", fn := fun _ => fun
  | [d1, d2] => { results := [.lit (.bool true)], args := [d1, d2] }
  | _ => none }
def compareSumsRow : OpenClaim := { program := "ytmlcpedbpjghhaa", sum := "0ad09d5d8cc6908671bd96de54a27a8d7f3f1a062055879b61a5bc0325740d5a", func := "telltale/telltalelaw05.CompareSums", spec := "compareSums", inPlace := ["math.Float64frombits", "math.Float64bits", "math.archFloor", "math.archTrunc"], unfollowed := true, recurses := true, apart := false }
def CompareSumsSaid : Prop := compareSumsRow.holds Try.pinned (OpenSpec.ofChange compareSumsSpec)

/-- ITS FALSE NEIGHBOUR: 'it returns false'. Refute it at one input. -/
def compareSumsWrong : ChangeSpec := { name := "compareSums", fn := fun _ => fun
  | [d1, d2] => { results := [.lit (.bool false)], args := [d1, d2] }
  | _ => none }
def CompareSumsWrongFalsely : Prop := compareSumsRow.holds Try.pinned (OpenSpec.ofChange compareSumsWrong)

/-- 'telltalelaw05.CompareBack': WHATEVER THE INPUT: true; the input reads as it did. -/
def compareBackSpec : ChangeSpec := { name := "compareBack", fn := fun _ => fun
  | [d1, d2] => { results := [.lit (.bool true)], args := [d1, d2] }
  | _ => none }
def compareBackRow : OpenClaim := { program := "ytmlcpedbpjghhaa", sum := "0ad09d5d8cc6908671bd96de54a27a8d7f3f1a062055879b61a5bc0325740d5a", func := "telltale/telltalelaw05.CompareBack", spec := "compareBack", inPlace := ["math.Float64frombits", "math.Float64bits", "math.archFloor", "math.archTrunc"], unfollowed := true, recurses := true, apart := false }
def CompareBackSaid : Prop := compareBackRow.holds Try.pinned (OpenSpec.ofChange compareBackSpec)

/-- ITS FALSE NEIGHBOUR: 'it returns false'. Refute it at one input. -/
def compareBackWrong : ChangeSpec := { name := "compareBack", fn := fun _ => fun
  | [d1, d2] => { results := [.lit (.bool false)], args := [d1, d2] }
  | _ => none }
def CompareBackWrongFalsely : Prop := compareBackRow.holds Try.pinned (OpenSpec.ofChange compareBackWrong)

/-- 'telltalelaw05.CompareChain': WHATEVER THE INPUT: true; the input reads as it did. -/
def compareChainSpec : ChangeSpec := { name := "compareChain", fn := fun _ => fun
  | [d] => { results := [.lit (.bool true)], args := [d] }
  | _ => none }
def compareChainRow : OpenClaim := { program := "ytmlcpedbpjghhaa", sum := "0ad09d5d8cc6908671bd96de54a27a8d7f3f1a062055879b61a5bc0325740d5a", func := "telltale/telltalelaw05.CompareChain", spec := "compareChain", inPlace := ["math.Float64frombits", "math.Float64bits", "math.archFloor", "math.archTrunc"], unfollowed := true, recurses := true, apart := false }
def CompareChainSaid : Prop := compareChainRow.holds Try.pinned (OpenSpec.ofChange compareChainSpec)

/-- ITS FALSE NEIGHBOUR: 'it returns false'. Refute it at one input. -/
def compareChainWrong : ChangeSpec := { name := "compareChain", fn := fun _ => fun
  | [d] => { results := [.lit (.bool false)], args := [d] }
  | _ => none }
def CompareChainWrongFalsely : Prop := compareChainRow.holds Try.pinned (OpenSpec.ofChange compareChainWrong)

/-- 'telltalelaw05.CompareOne': WHATEVER THE INPUT: true; the input reads as it did. -/
def compareOneSpec : ChangeSpec := { name := "compareOne", fn := fun _ => fun
  | [d1, d2] => { results := [.lit (.bool true)], args := [d1, d2] }
  | _ => none }
def compareOneRow : OpenClaim := { program := "ytmlcpedbpjghhaa", sum := "0ad09d5d8cc6908671bd96de54a27a8d7f3f1a062055879b61a5bc0325740d5a", func := "telltale/telltalelaw05.CompareOne", spec := "compareOne", inPlace := ["math.Float64frombits", "math.Float64bits", "math.archFloor", "math.archTrunc"], unfollowed := true, recurses := true, apart := false }
def CompareOneSaid : Prop := compareOneRow.holds Try.pinned (OpenSpec.ofChange compareOneSpec)

/-- ITS FALSE NEIGHBOUR: 'it returns false'. Refute it at one input. -/
def compareOneWrong : ChangeSpec := { name := "compareOne", fn := fun _ => fun
  | [d1, d2] => { results := [.lit (.bool false)], args := [d1, d2] }
  | _ => none }
def CompareOneWrongFalsely : Prop := compareOneRow.holds Try.pinned (OpenSpec.ofChange compareOneWrong)

/- THE SECOND FORM. 'bulk': how many values and letters a reading holds, each counted each time it is reached (what is shared counts as often as it is met; a slice's spare places count too). A statement '..UptoSaid' is the law's where the arguments, and the package variables that the reading takes, are together of bulk at most 1048576: NARROWER than '..Said'. Prove '..Said' where nothing that the law and all that it calls make is longer than what came in: it says more and counts as full. Else prove '..UptoSaid'. A law counts once. -/
mutual
def uptoBulk {H : Type} : DataW H → Nat
  | .lit (.string bytes) => bytes.length + 1
  | .lit _ => 1
  | .nil => 1
  | .ptr d => uptoBulk d + 1
  | .slice elems spare => uptoBulkAll elems + uptoBulkAll spare + 1
  | .agg parts => uptoBulkAll parts + 1
  | .iface _ d => uptoBulk d + 1
  | .map entries => uptoBulkEntries entries + 1
  | .held _ => 1
def uptoBulkAll {H : Type} : List (DataW H) → Nat
  | [] => 0
  | d :: r => uptoBulk d + uptoBulkAll r
def uptoBulkEntries {H : Type} : List (Lit × DataW H) → Nat
  | [] => 0
  | x :: r => uptoBulkEntry x + uptoBulkEntries r
def uptoBulkEntry {H : Type} : Lit × DataW H → Nat
  | (.string bytes, d) => bytes.length + uptoBulk d + 1
  | (_, d) => uptoBulk d + 1
 end
def uptoSmall : (H : Type) → List (DataW H) → Bool := fun _ ds => decide (uptoBulkAll ds ≤ 1048576)
def OpenSpec.upto (s : _root_.Go.ChangeSpec) : _root_.Go.OpenSpec := { _root_.Go.OpenSpec.ofChange s with cond := some uptoSmall }

/-- 'telltalelaw05.CompareHolds', WHERE WHAT IT READS IS OF BULK AT MOST 1048576: true; the input reads as it did. -/
def compareHoldsUptoRow : OpenClaim := { program := "ytmlcpedbpjghhaa", sum := "0ad09d5d8cc6908671bd96de54a27a8d7f3f1a062055879b61a5bc0325740d5a", func := "telltale/telltalelaw05.CompareHolds", spec := "compareHolds", inPlace := ["math.Float64frombits", "math.Float64bits", "math.archFloor", "math.archTrunc"], unfollowed := true, recurses := true, apart := false, narrowed := true }
def CompareHoldsUptoSaid : Prop := compareHoldsUptoRow.holds Try.pinned (OpenSpec.upto compareHoldsSpec)

/-- 'telltalelaw05.CompareSums', WHERE WHAT IT READS IS OF BULK AT MOST 1048576: true; the input reads as it did. -/
def compareSumsUptoRow : OpenClaim := { program := "ytmlcpedbpjghhaa", sum := "0ad09d5d8cc6908671bd96de54a27a8d7f3f1a062055879b61a5bc0325740d5a", func := "telltale/telltalelaw05.CompareSums", spec := "compareSums", inPlace := ["math.Float64frombits", "math.Float64bits", "math.archFloor", "math.archTrunc"], unfollowed := true, recurses := true, apart := false, narrowed := true }
def CompareSumsUptoSaid : Prop := compareSumsUptoRow.holds Try.pinned (OpenSpec.upto compareSumsSpec)

/-- 'telltalelaw05.CompareBack', WHERE WHAT IT READS IS OF BULK AT MOST 1048576: true; the input reads as it did. -/
def compareBackUptoRow : OpenClaim := { program := "ytmlcpedbpjghhaa", sum := "0ad09d5d8cc6908671bd96de54a27a8d7f3f1a062055879b61a5bc0325740d5a", func := "telltale/telltalelaw05.CompareBack", spec := "compareBack", inPlace := ["math.Float64frombits", "math.Float64bits", "math.archFloor", "math.archTrunc"], unfollowed := true, recurses := true, apart := false, narrowed := true }
def CompareBackUptoSaid : Prop := compareBackUptoRow.holds Try.pinned (OpenSpec.upto compareBackSpec)

/-- 'telltalelaw05.CompareChain', WHERE WHAT IT READS IS OF BULK AT MOST 1048576: true; the input reads as it did. -/
def compareChainUptoRow : OpenClaim := { program := "ytmlcpedbpjghhaa", sum := "0ad09d5d8cc6908671bd96de54a27a8d7f3f1a062055879b61a5bc0325740d5a", func := "telltale/telltalelaw05.CompareChain", spec := "compareChain", inPlace := ["math.Float64frombits", "math.Float64bits", "math.archFloor", "math.archTrunc"], unfollowed := true, recurses := true, apart := false, narrowed := true }
def CompareChainUptoSaid : Prop := compareChainUptoRow.holds Try.pinned (OpenSpec.upto compareChainSpec)

/-- 'telltalelaw05.CompareOne', WHERE WHAT IT READS IS OF BULK AT MOST 1048576: true; the input reads as it did. -/
def compareOneUptoRow : OpenClaim := { program := "ytmlcpedbpjghhaa", sum := "0ad09d5d8cc6908671bd96de54a27a8d7f3f1a062055879b61a5bc0325740d5a", func := "telltale/telltalelaw05.CompareOne", spec := "compareOne", inPlace := ["math.Float64frombits", "math.Float64bits", "math.archFloor", "math.archTrunc"], unfollowed := true, recurses := true, apart := false, narrowed := true }
def CompareOneUptoSaid : Prop := compareOneUptoRow.holds Try.pinned (OpenSpec.upto compareOneSpec)

end Rows
end Go.Proofs.Ytmlcpedbpjghhaa
