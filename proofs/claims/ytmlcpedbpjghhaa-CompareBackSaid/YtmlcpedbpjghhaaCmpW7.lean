/-
  Rank of the program, walked; doubles.
-/
import Derived.Test.YtmlcpedbpjghhaaCmpW6
import Derived.Test.YtmlcpedbpjghhaaRealW13
namespace Go.Proofs.Ytmlcpedbpjghhaa
open Go.RowKit

/-- how values of one kind stand -/
def rankV (k n n' : Int) (u u' : Nat) (s s' : ByteArray) : Int :=
  if k = 1 ∨ k = 2 then cmpI n n' else if k = 3 then cmpI (rankN u) (rankN u') else if k = 4 then cmpT s.toList s'.toList else 0

theorem doubles_ok (a b : Nat) (w : World) : Calls Try.prog 45 #[.int .u64 a, .int .u64 b] w fun e w' => e = .returned (.tuple #[.int .i64 (if equalB a b = true then 0 else if lessB a b = true then -1 else if lessB b a = true then 1 else 0), .bool (equalB a b || lessB a b || lessB b a)]) ∧ w = w' := by
  cases h1 : equalB a b <;> cases h2 : lessB a b <;> cases h3 : lessB b a
  all_goals
    go_enter Try.func45, Try.ntmps45
    go_wp2_with (first | (go_at_call 63; refine (equal_ok _ _ _).mono ?_; rintro e w' ⟨rfl, rfl⟩) | (go_at_call 64; refine (less_ok _ _ _).mono ?_; rintro e w' ⟨rfl, rfl⟩))
    go_ret2
    exact ⟨rfl, rfl⟩
theorem vRank_n (n n' : Int) (u u' : Nat) (s s' : ByteArray) (w : World) : Calls Try.prog 47 #[V 1 n u s, V 1 n' u' s'] w fun e w' => e = .returned (.int .i64 (cmpI n n')) ∧ Below w.heap.size w w' := by
  have H : Hid (cmpI 1 1 = 0) := Lib.hid (by decide)
  unfold V
  go_enter Try.func47, Try.ntmps47
  go_wp2_with (first | (go_at_call 67; refine (cmp8_ok _ _ _).mono ?_; rintro e w' ⟨rfl, rfl⟩; rw [H.out]) | (go_at_call 68; refine (cmpI_ok _ _ _).mono ?_; rintro e w' ⟨rfl, rfl⟩) | (go_at_call 71; refine (cmpS_ok _ _ _).mono ?_; rintro e w' ⟨rfl, rfl⟩))
  go_ret
  exact ⟨rfl, two_boxes _ _ _⟩
theorem vRank_f (n n' : Int) (u u' : Nat) (s s' : ByteArray) (w : World) : Calls Try.prog 47 #[V 2 n u s, V 2 n' u' s'] w fun e w' => e = .returned (.int .i64 (cmpI n n')) ∧ Below w.heap.size w w' := by
  have H : Hid (cmpI 2 2 = 0) := Lib.hid (by decide)
  unfold V
  go_enter Try.func47, Try.ntmps47
  go_wp2_with (first | (go_at_call 67; refine (cmp8_ok _ _ _).mono ?_; rintro e w' ⟨rfl, rfl⟩; rw [H.out]) | (go_at_call 68; refine (cmpI_ok _ _ _).mono ?_; rintro e w' ⟨rfl, rfl⟩) | (go_at_call 71; refine (cmpS_ok _ _ _).mono ?_; rintro e w' ⟨rfl, rfl⟩))
  go_ret
  exact ⟨rfl, two_boxes _ _ _⟩
theorem vRank_t (n n' : Int) (u u' : Nat) (s s' : ByteArray) (w : World) : Calls Try.prog 47 #[V 4 n u s, V 4 n' u' s'] w fun e w' => e = .returned (.int .i64 (cmpT s.toList s'.toList)) ∧ Below w.heap.size w w' := by
  have H : Hid (cmpI 4 4 = 0) := Lib.hid (by decide)
  unfold V
  go_enter Try.func47, Try.ntmps47
  go_wp2_with (first | (go_at_call 67; refine (cmp8_ok _ _ _).mono ?_; rintro e w' ⟨rfl, rfl⟩; rw [H.out]) | (go_at_call 68; refine (cmpI_ok _ _ _).mono ?_; rintro e w' ⟨rfl, rfl⟩) | (go_at_call 71; refine (cmpS_ok _ _ _).mono ?_; rintro e w' ⟨rfl, rfl⟩))
  go_ret
  exact ⟨rfl, two_boxes _ _ _⟩
set_option maxRecDepth 100000 in
set_option maxHeartbeats 1000000 in
theorem rRank_n (n n' : Int) (u u' : Nat) (hu : u < 18446744073709551616) (hu' : u' < 18446744073709551616) (s s' : ByteArray) (w : World) : Calls Try.prog 52 #[V 1 n u s, V 1 n' u' s'] w fun e w' => e = .returned (.int .i64 (cmpI n n')) ∧ Below w.heap.size w w' := by
  unfold V
  go_enter Try.func52, Try.ntmps52
  go_wp2
  go_quiet ((go_at_call 73; exact Calls.quiet_of_same ((refRank_ok _ (by assumption) _).mono fun _ _ h => ⟨h.1, h.2.symm⟩)))
  go_wp2
  all_goals go_ret
  all_goals exact ⟨retI (by unfold cmpI; (repeat' split) <;> omega), below_drewN2 (two_boxes _ _ _) _⟩
set_option maxRecDepth 100000 in
set_option maxHeartbeats 1000000 in
theorem rRank_f (n n' : Int) (u u' : Nat) (hu : u < 18446744073709551616) (hu' : u' < 18446744073709551616) (s s' : ByteArray) (w : World) : Calls Try.prog 52 #[V 2 n u s, V 2 n' u' s'] w fun e w' => e = .returned (.int .i64 (cmpI n n')) ∧ Below w.heap.size w w' := by
  unfold V
  go_enter Try.func52, Try.ntmps52
  go_wp2
  go_quiet ((go_at_call 73; exact Calls.quiet_of_same ((refRank_ok _ (by assumption) _).mono fun _ _ h => ⟨h.1, h.2.symm⟩)))
  go_wp2
  all_goals go_ret
  all_goals exact ⟨retI (by unfold cmpI; (repeat' split) <;> omega), below_drewN2 (two_boxes _ _ _) _⟩
end Go.Proofs.Ytmlcpedbpjghhaa
