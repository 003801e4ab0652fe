/-
  order of the program, walked.
-/
import Derived.Test.YtmlcpedbpjghhaaCmpW8
import Derived.Test.YtmlcpedbpjghhaaRealW6
namespace Go.Proofs.Ytmlcpedbpjghhaa
open Go.RowKit

def dblI (a b : Nat) : Int := if equalB a b = true then 0 else if lessB a b = true then -1 else if lessB b a = true then 1 else 0
def dblB (a b : Nat) : Bool := equalB a b || lessB a b || lessB b a
theorem doubles_v (a b : Nat) (w : World) : Calls Try.prog 45 #[.int .u64 a, .int .u64 b] w fun e w' => e = .returned (.tuple #[.int .i64 (dblI a b), .bool (dblB a b)]) ∧ w = w' := doubles_ok a b w
theorem vers_bound (n : Int) (u : Nat) : -1 ≤ versN n u ∧ versN n u ≤ 1 := by unfold versN; split; exact cmp_bound _ _; omega

theorem order_33 (n n' : Int) (u u' : Nat) (s s' : ByteArray) (w : World) : Calls Try.prog 27 #[V 3 n u s, V 3 n' u' s'] w fun e w' => e = .returned (.tuple #[.int .i64 (dblI u u'), .bool (dblB u u')]) ∧ Below w.heap.size w w' := by
  have hv := vers_bound n' u
  unfold V
  go_enter Try.func27, Try.ntmps27
  go_wp2_with (first | (go_at_call 45; refine (doubles_v _ _ _).mono ?_; rintro e w' ⟨rfl, rfl⟩) | (go_at_call 46; refine (versus_ok _ _ _).mono ?_; rintro e w' ⟨rfl, rfl⟩) | (go_at_call 47; refine (vRank_n n n' u u' s s' _).mono ?_; rintro e w1 ⟨rfl, hb⟩))
  go_ret2
  exact ⟨rfl, two_boxes _ _ _⟩
theorem order_31 (n n' : Int) (u u' : Nat) (s s' : ByteArray) (w : World) : Calls Try.prog 27 #[V 3 n u s, V 1 n' u' s'] w fun e w' => e = .returned (.tuple #[.int .i64 (-(versN n' u)), .bool (mayN n' u)]) ∧ Below w.heap.size w w' := by
  have hv := vers_bound n' u
  unfold V
  go_enter Try.func27, Try.ntmps27
  go_wp2_with (first | (go_at_call 45; refine (doubles_v _ _ _).mono ?_; rintro e w' ⟨rfl, rfl⟩) | (go_at_call 46; refine (versus_ok _ _ _).mono ?_; rintro e w' ⟨rfl, rfl⟩) | (go_at_call 47; refine (vRank_n n n' u u' s s' _).mono ?_; rintro e w1 ⟨rfl, hb⟩))
  go_ret2
  exact ⟨rfl, two_boxes _ _ _⟩
theorem order_13 (n n' : Int) (u u' : Nat) (s s' : ByteArray) (w : World) : Calls Try.prog 27 #[V 1 n u s, V 3 n' u' s'] w fun e w' => e = .returned (.tuple #[.int .i64 (versN n u'), .bool (mayN n u')]) ∧ Below w.heap.size w w' := by
  have hv := vers_bound n' u
  unfold V
  go_enter Try.func27, Try.ntmps27
  go_wp2_with (first | (go_at_call 45; refine (doubles_v _ _ _).mono ?_; rintro e w' ⟨rfl, rfl⟩) | (go_at_call 46; refine (versus_ok _ _ _).mono ?_; rintro e w' ⟨rfl, rfl⟩) | (go_at_call 47; refine (vRank_n n n' u u' s s' _).mono ?_; rintro e w1 ⟨rfl, hb⟩))
  go_ret2
  exact ⟨rfl, two_boxes _ _ _⟩
theorem order_n (n n' : Int) (u u' : Nat) (s s' : ByteArray) (w : World) : Calls Try.prog 27 #[V 1 n u s, V 1 n' u' s'] w fun e w' => e = .returned (.tuple #[.int .i64 (cmpI n n'), .bool (true)]) ∧ Below w.heap.size w w' := by
  have hv := vers_bound n' u
  unfold V
  go_enter Try.func27, Try.ntmps27
  go_wp2_with (first | (go_at_call 45; refine (doubles_v _ _ _).mono ?_; rintro e w' ⟨rfl, rfl⟩) | (go_at_call 46; refine (versus_ok _ _ _).mono ?_; rintro e w' ⟨rfl, rfl⟩) | (go_at_call 47; refine (vRank_n n n' u u' s s' _).mono ?_; rintro e w1 ⟨rfl, hb⟩))
  go_ret2
  exact ⟨rfl, (two_boxes _ _ _).trans (hb.mono (by simp; omega))⟩
theorem order_f (n n' : Int) (u u' : Nat) (s s' : ByteArray) (w : World) : Calls Try.prog 27 #[V 2 n u s, V 2 n' u' s'] w fun e w' => e = .returned (.tuple #[.int .i64 (cmpI n n'), .bool (true)]) ∧ Below w.heap.size w w' := by
  have hv := vers_bound n' u
  unfold V
  go_enter Try.func27, Try.ntmps27
  go_wp2_with (first | (go_at_call 45; refine (doubles_v _ _ _).mono ?_; rintro e w' ⟨rfl, rfl⟩) | (go_at_call 46; refine (versus_ok _ _ _).mono ?_; rintro e w' ⟨rfl, rfl⟩) | (go_at_call 47; refine (vRank_f n n' u u' s s' _).mono ?_; rintro e w1 ⟨rfl, hb⟩))
  go_ret2
  exact ⟨rfl, (two_boxes _ _ _).trans (hb.mono (by simp; omega))⟩
theorem order_t (n n' : Int) (u u' : Nat) (s s' : ByteArray) (w : World) : Calls Try.prog 27 #[V 4 n u s, V 4 n' u' s'] w fun e w' => e = .returned (.tuple #[.int .i64 (cmpT s.toList s'.toList), .bool (true)]) ∧ Below w.heap.size w w' := by
  have hv := vers_bound n' u
  unfold V
  go_enter Try.func27, Try.ntmps27
  go_wp2_with (first | (go_at_call 45; refine (doubles_v _ _ _).mono ?_; rintro e w' ⟨rfl, rfl⟩) | (go_at_call 46; refine (versus_ok _ _ _).mono ?_; rintro e w' ⟨rfl, rfl⟩) | (go_at_call 47; refine (vRank_t n n' u u' s s' _).mono ?_; rintro e w1 ⟨rfl, hb⟩))
  go_ret2
  exact ⟨rfl, (two_boxes _ _ _).trans (hb.mono (by simp; omega))⟩
end Go.Proofs.Ytmlcpedbpjghhaa
