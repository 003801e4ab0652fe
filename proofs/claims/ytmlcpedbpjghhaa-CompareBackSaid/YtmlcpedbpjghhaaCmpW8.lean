/-
  Rank of the document at texts, walked; order and stand.
-/
import Derived.Test.YtmlcpedbpjghhaaCmpW7
namespace Go.Proofs.Ytmlcpedbpjghhaa
open Go.RowKit

set_option maxRecDepth 100000 in
set_option maxHeartbeats 1000000 in
theorem rRank_t (n n' : Int) (u u' : Nat) (hu : u < 18446744073709551616) (hu' : u' < 18446744073709551616) (s s' : ByteArray) (w : World) : Calls Try.prog 52 #[V 4 n u s, V 4 n' u' s'] w fun e w' => e = .returned (.int .i64 (cmpT s.toList s'.toList)) ∧ Below w.heap.size w w' := by
  have H : Hid (∀ x y, cmpT x y = if Op.bytesLess x y = true then -1 else if (x == y) = true then 0 else 1) := Lib.hid fun _ _ => rfl
  unfold V
  go_enter Try.func52, Try.ntmps52
  go_wp2
  go_quiet ((go_at_call 73; exact Calls.quiet_of_same ((refRank_ok _ (by assumption) _).mono fun _ _ h => ⟨h.1, h.2.symm⟩)))
  go_wp2
  all_goals go_ret
  all_goals refine ⟨retI ?_, below_drewN2 (two_boxes _ _ _) _⟩
  all_goals rw [H.out]
  all_goals simp_all
end Go.Proofs.Ytmlcpedbpjghhaa
