/-
  No cell of these rows narrows 'for every input' (looked for: loops, veiled, ifaces, maps, wideKeys, modest, calm, conditions, laid).
  DERIVED. THE GIVEN ROWS OF THIS SEAT. 6 by the template 'for every input the law returns true; each argument reads behind the call as it read before'; 0 by the template 'total and deterministic' (their statements: YtjcjaakbiiefkaaTotals.lean).
  GIVEN WITH THE SEED: the statements are not yours to turn. If you find one false, say at which input.
  Laid BY PROGRAM, IN A SANDBOX (cutbox-rows.mjs): the forced cells as the released guide's own fill.sh prints them over the translation 4b4eabb96d174b90… (all of the seat's roots in one cut). By AI agents, Wed Nov 11 2026. No macro, syntax, notation, axiom, sorry.
-/
import Derived.Test.YtjcjaakbiiefkaaChecked
import GoSem.Claim
import GoSem.ClaimJoined
import GoSem.ClaimMapViews
import Derived.JoinedTies
import Derived.KernelRfl
namespace Go.Proofs.Ytjcjaakbiiefkaa
/- THE CELL 'sum', in the pinned program and in every row, IS THE sha256 OF THE DUMP (.gsa) THAT YtjcjaakbiiefkaaProg.lean LOADS. Nothing in Lean hashes anything: it is a label: what it is worth is what the hold of that sum in a sandbox is worth. -/
noncomputable def Try.pinned : Pinned := { name := "ytjcjaakbiiefkaa", sum := "4b4eabb96d174b9087e2c32db3cabea25ce2cd3b85c04f99978c7adc2473eddb", checked := Try.checked }
namespace Rows
def none {H : Type} : Left H := { results := [], args := [] }

/-- 'telltalelaw03.RealTells': WHATEVER THE INPUT: true; the input reads as it did. -/
def realTellsSpec : ChangeSpec := { name := "realTells", fn := fun _ => fun
  | [d1, d2] => { results := [.lit (.bool true)], args := [d1, d2] }
  | _ => none }
def realTellsRow : OpenClaim := { program := "ytjcjaakbiiefkaa", sum := "4b4eabb96d174b9087e2c32db3cabea25ce2cd3b85c04f99978c7adc2473eddb", func := "telltale/telltalelaw03.RealTells", spec := "realTells", inPlace := ["math.Float64frombits", "math.archTrunc", "math.Float64bits", "math.archFloor"], apart := false }
def RealTellsSaid : Prop := realTellsRow.holds Try.pinned (OpenSpec.ofChange realTellsSpec)

/-- ITS FALSE NEIGHBOUR: 'it returns false'. Refute it at one input. -/
def realTellsWrong : ChangeSpec := { name := "realTells", fn := fun _ => fun
  | [d1, d2] => { results := [.lit (.bool false)], args := [d1, d2] }
  | _ => none }
def RealTellsWrongFalsely : Prop := realTellsRow.holds Try.pinned (OpenSpec.ofChange realTellsWrong)

/-- 'telltalelaw03.RealAdds': WHATEVER THE INPUT: true; the input reads as it did. -/
def realAddsSpec : ChangeSpec := { name := "realAdds", fn := fun _ => fun
  | [d1, d2] => { results := [.lit (.bool true)], args := [d1, d2] }
  | _ => none }
def realAddsRow : OpenClaim := { program := "ytjcjaakbiiefkaa", sum := "4b4eabb96d174b9087e2c32db3cabea25ce2cd3b85c04f99978c7adc2473eddb", func := "telltale/telltalelaw03.RealAdds", spec := "realAdds", inPlace := ["math.Float64frombits", "math.Float64bits", "math.archTrunc", "math.archFloor"], apart := false }
def RealAddsSaid : Prop := realAddsRow.holds Try.pinned (OpenSpec.ofChange realAddsSpec)

/-- ITS FALSE NEIGHBOUR: 'it returns false'. Refute it at one input. -/
def realAddsWrong : ChangeSpec := { name := "realAdds", fn := fun _ => fun
  | [d1, d2] => { results := [.lit (.bool false)], args := [d1, d2] }
  | _ => none }
def RealAddsWrongFalsely : Prop := realAddsRow.holds Try.pinned (OpenSpec.ofChange realAddsWrong)

/-- 'telltalelaw03.RealWhole': WHATEVER THE INPUT: true; the input reads as it did. -/
def realWholeSpec : ChangeSpec := { name := "realWhole", fn := fun _ => fun
  | [d1, d2] => { results := [.lit (.bool true)], args := [d1, d2] }
  | _ => none }
def realWholeRow : OpenClaim := { program := "ytjcjaakbiiefkaa", sum := "4b4eabb96d174b9087e2c32db3cabea25ce2cd3b85c04f99978c7adc2473eddb", func := "telltale/telltalelaw03.RealWhole", spec := "realWhole", inPlace := ["math.Float64frombits", "math.archTrunc", "math.Float64bits", "math.archFloor"], apart := false }
def RealWholeSaid : Prop := realWholeRow.holds Try.pinned (OpenSpec.ofChange realWholeSpec)

/-- ITS FALSE NEIGHBOUR: 'it returns false'. Refute it at one input. -/
def realWholeWrong : ChangeSpec := { name := "realWhole", fn := fun _ => fun
  | [d1, d2] => { results := [.lit (.bool false)], args := [d1, d2] }
  | _ => none }
def RealWholeWrongFalsely : Prop := realWholeRow.holds Try.pinned (OpenSpec.ofChange realWholeWrong)

/-- 'telltalelaw03.RealOrder': WHATEVER THE INPUT: true; the input reads as it did. -/
def realOrderSpec : ChangeSpec := { name := "realOrder", fn := fun _ => fun
  | [d1, d2] => { results := [.lit (.bool true)], args := [d1, d2] }
  | _ => none }
def realOrderRow : OpenClaim := { program := "ytjcjaakbiiefkaa", sum := "4b4eabb96d174b9087e2c32db3cabea25ce2cd3b85c04f99978c7adc2473eddb", func := "telltale/telltalelaw03.RealOrder", spec := "realOrder", inPlace := ["math.Float64frombits", "math.archTrunc", "math.Float64bits", "math.archFloor"], apart := false }
def RealOrderSaid : Prop := realOrderRow.holds Try.pinned (OpenSpec.ofChange realOrderSpec)

/-- ITS FALSE NEIGHBOUR: 'it returns false'. Refute it at one input. -/
def realOrderWrong : ChangeSpec := { name := "realOrder", fn := fun _ => fun
  | [d1, d2] => { results := [.lit (.bool false)], args := [d1, d2] }
  | _ => none }
def RealOrderWrongFalsely : Prop := realOrderRow.holds Try.pinned (OpenSpec.ofChange realOrderWrong)

/-- 'telltalelaw03.RealSums': WHATEVER THE INPUT: true; the input reads as it did. -/
def realSumsSpec : ChangeSpec := { name := "realSums", fn := fun _ => fun
  | [d1, d2, d3] => { results := [.lit (.bool true)], args := [d1, d2, d3] }
  | _ => none }
def realSumsRow : OpenClaim := { program := "ytjcjaakbiiefkaa", sum := "4b4eabb96d174b9087e2c32db3cabea25ce2cd3b85c04f99978c7adc2473eddb", func := "telltale/telltalelaw03.RealSums", spec := "realSums", inPlace := ["math.Float64frombits", "math.Float64bits", "math.archTrunc", "math.archFloor"], apart := false }
def RealSumsSaid : Prop := realSumsRow.holds Try.pinned (OpenSpec.ofChange realSumsSpec)

/-- ITS FALSE NEIGHBOUR: 'it returns false'. Refute it at one input. -/
def realSumsWrong : ChangeSpec := { name := "realSums", fn := fun _ => fun
  | [d1, d2, d3] => { results := [.lit (.bool false)], args := [d1, d2, d3] }
  | _ => none }
def RealSumsWrongFalsely : Prop := realSumsRow.holds Try.pinned (OpenSpec.ofChange realSumsWrong)

/-- 'telltalelaw03.RealExact': WHATEVER THE INPUT: true; the input reads as it did. -/
def realExactSpec : ChangeSpec := { name := "realExact", fn := fun _ => fun
  | [d1, d2] => { results := [.lit (.bool true)], args := [d1, d2] }
  | _ => none }
def realExactRow : OpenClaim := { program := "ytjcjaakbiiefkaa", sum := "4b4eabb96d174b9087e2c32db3cabea25ce2cd3b85c04f99978c7adc2473eddb", func := "telltale/telltalelaw03.RealExact", spec := "realExact", inPlace := ["math.Float64frombits", "math.archTrunc", "math.Float64bits", "math.archFloor"], apart := false }
def RealExactSaid : Prop := realExactRow.holds Try.pinned (OpenSpec.ofChange realExactSpec)

/-- ITS FALSE NEIGHBOUR: 'it returns false'. Refute it at one input. -/
def realExactWrong : ChangeSpec := { name := "realExact", fn := fun _ => fun
  | [d1, d2] => { results := [.lit (.bool false)], args := [d1, d2] }
  | _ => none }
def RealExactWrongFalsely : Prop := realExactRow.holds Try.pinned (OpenSpec.ofChange realExactWrong)

/- THE SECOND FORM. 'bulk': how many values and letters a reading holds, each counted each time it is reached (what is shared counts as often as it is met; a slice's spare places count too). A statement '..UptoSaid' is the law's where the arguments, and the package variables that the reading takes, are together of bulk at most 1048576: NARROWER than '..Said'. Prove '..Said' where nothing that the law and all that it calls make is longer than what came in: it says more and counts as full. Else prove '..UptoSaid'. A law counts once. -/
mutual
def uptoBulk {H : Type} : DataW H → Nat
  | .lit (.string bytes) => bytes.length + 1
  | .lit _ => 1
  | .nil => 1
  | .ptr d => uptoBulk d + 1
  | .slice elems spare => uptoBulkAll elems + uptoBulkAll spare + 1
  | .agg parts => uptoBulkAll parts + 1
  | .iface _ d => uptoBulk d + 1
  | .map entries => uptoBulkEntries entries + 1
  | .held _ => 1
def uptoBulkAll {H : Type} : List (DataW H) → Nat
  | [] => 0
  | d :: r => uptoBulk d + uptoBulkAll r
def uptoBulkEntries {H : Type} : List (Lit × DataW H) → Nat
  | [] => 0
  | x :: r => uptoBulkEntry x + uptoBulkEntries r
def uptoBulkEntry {H : Type} : Lit × DataW H → Nat
  | (.string bytes, d) => bytes.length + uptoBulk d + 1
  | (_, d) => uptoBulk d + 1
 end
def uptoSmall : (H : Type) → List (DataW H) → Bool := fun _ ds => decide (uptoBulkAll ds ≤ 1048576)
def OpenSpec.upto (s : _root_.Go.ChangeSpec) : _root_.Go.OpenSpec := { _root_.Go.OpenSpec.ofChange s with cond := some uptoSmall }

/-- 'telltalelaw03.RealTells', WHERE WHAT IT READS IS OF BULK AT MOST 1048576: true; the input reads as it did. -/
def realTellsUptoRow : OpenClaim := { program := "ytjcjaakbiiefkaa", sum := "4b4eabb96d174b9087e2c32db3cabea25ce2cd3b85c04f99978c7adc2473eddb", func := "telltale/telltalelaw03.RealTells", spec := "realTells", inPlace := ["math.Float64frombits", "math.archTrunc", "math.Float64bits", "math.archFloor"], apart := false, narrowed := true }
def RealTellsUptoSaid : Prop := realTellsUptoRow.holds Try.pinned (OpenSpec.upto realTellsSpec)

/-- 'telltalelaw03.RealAdds', WHERE WHAT IT READS IS OF BULK AT MOST 1048576: true; the input reads as it did. -/
def realAddsUptoRow : OpenClaim := { program := "ytjcjaakbiiefkaa", sum := "4b4eabb96d174b9087e2c32db3cabea25ce2cd3b85c04f99978c7adc2473eddb", func := "telltale/telltalelaw03.RealAdds", spec := "realAdds", inPlace := ["math.Float64frombits", "math.Float64bits", "math.archTrunc", "math.archFloor"], apart := false, narrowed := true }
def RealAddsUptoSaid : Prop := realAddsUptoRow.holds Try.pinned (OpenSpec.upto realAddsSpec)

/-- 'telltalelaw03.RealWhole', WHERE WHAT IT READS IS OF BULK AT MOST 1048576: true; the input reads as it did. -/
def realWholeUptoRow : OpenClaim := { program := "ytjcjaakbiiefkaa", sum := "4b4eabb96d174b9087e2c32db3cabea25ce2cd3b85c04f99978c7adc2473eddb", func := "telltale/telltalelaw03.RealWhole", spec := "realWhole", inPlace := ["math.Float64frombits", "math.archTrunc", "math.Float64bits", "math.archFloor"], apart := false, narrowed := true }
def RealWholeUptoSaid : Prop := realWholeUptoRow.holds Try.pinned (OpenSpec.upto realWholeSpec)

/-- 'telltalelaw03.RealOrder', WHERE WHAT IT READS IS OF BULK AT MOST 1048576: true; the input reads as it did. -/
def realOrderUptoRow : OpenClaim := { program := "ytjcjaakbiiefkaa", sum := "4b4eabb96d174b9087e2c32db3cabea25ce2cd3b85c04f99978c7adc2473eddb", func := "telltale/telltalelaw03.RealOrder", spec := "realOrder", inPlace := ["math.Float64frombits", "math.archTrunc", "math.Float64bits", "math.archFloor"], apart := false, narrowed := true }
def RealOrderUptoSaid : Prop := realOrderUptoRow.holds Try.pinned (OpenSpec.upto realOrderSpec)

/-- 'telltalelaw03.RealSums', WHERE WHAT IT READS IS OF BULK AT MOST 1048576: true; the input reads as it did. -/
def realSumsUptoRow : OpenClaim := { program := "ytjcjaakbiiefkaa", sum := "4b4eabb96d174b9087e2c32db3cabea25ce2cd3b85c04f99978c7adc2473eddb", func := "telltale/telltalelaw03.RealSums", spec := "realSums", inPlace := ["math.Float64frombits", "math.Float64bits", "math.archTrunc", "math.archFloor"], apart := false, narrowed := true }
def RealSumsUptoSaid : Prop := realSumsUptoRow.holds Try.pinned (OpenSpec.upto realSumsSpec)

/-- 'telltalelaw03.RealExact', WHERE WHAT IT READS IS OF BULK AT MOST 1048576: true; the input reads as it did. -/
def realExactUptoRow : OpenClaim := { program := "ytjcjaakbiiefkaa", sum := "4b4eabb96d174b9087e2c32db3cabea25ce2cd3b85c04f99978c7adc2473eddb", func := "telltale/telltalelaw03.RealExact", spec := "realExact", inPlace := ["math.Float64frombits", "math.archTrunc", "math.Float64bits", "math.archFloor"], apart := false, narrowed := true }
def RealExactUptoSaid : Prop := realExactUptoRow.holds Try.pinned (OpenSpec.upto realExactSpec)

end Rows
end Go.Proofs.Ytjcjaakbiiefkaa
