/-
  Whole of the document, walked.
-/
import Derived.Test.YtmlcpedbpjghhaaRealW10
import Derived.Deep.CutBlock
import Derived.Laws.Unary
namespace Go.Proofs.Ytmlcpedbpjghhaa
open Go.RowKit

theorem ret_two {a b : Int} {x y : Bool} (h : a = b) (k : x = y) : Ending.returned (.tuple #[.int .i64 a, .bool x]) = .returned (.tuple #[.int .i64 b, .bool y]) := by rw [h, k]

/-- the loops' relation of the document's Whole -/
def WIs (u m e : Nat) : Prop := Is u m e ∧ e ≤ 2047 ∧ m < 2 ^ 53 ∧ True
def WIs2 (u m e : Nat) : Prop := Is u m e ∧ e ≤ 2047 ∧ m ≤ 2 ^ 63 ∧ (m = 0 ∨ 1075 ≤ e)

end Go.Proofs.Ytmlcpedbpjghhaa
