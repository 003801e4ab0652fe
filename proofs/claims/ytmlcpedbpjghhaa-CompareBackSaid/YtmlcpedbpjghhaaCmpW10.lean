/-
  stand of the document, walked; order and stand as one.
-/
import Derived.Test.YtmlcpedbpjghhaaCmpW9
namespace Go.Proofs.Ytmlcpedbpjghhaa
open Go.RowKit

theorem stand_31 (n n' : Int) (u u' : Nat) (hu : u < 18446744073709551616) (hu' : u' < 18446744073709551616) (s s' : ByteArray) (w : World) : Calls Try.prog 31 #[V 3 n u s, V 1 n' u' s'] w fun e w' => e = .returned (.tuple #[.int .i64 (-(versN n' u)), .bool (mayN n' u)]) ∧ Below w.heap.size w w' := by
  have hv := vers_bound n' u
  have _x := hu
  have _y := hu'
  unfold V
  go_enter Try.func31, Try.ntmps31
  go_wp2_with (first | (go_at_call 49; refine (refVersus_ok _ _ (by assumption) _).mono ?_; rintro e w' ⟨rfl, rfl⟩) | (go_at_call 52; refine (rRank_n n n' u u' hu hu' s s' _).mono ?_; rintro e w1 ⟨rfl, hb⟩))
  go_ret2
  exact ⟨rfl, two_boxes _ _ _⟩
theorem stand_13 (n n' : Int) (u u' : Nat) (hu : u < 18446744073709551616) (hu' : u' < 18446744073709551616) (s s' : ByteArray) (w : World) : Calls Try.prog 31 #[V 1 n u s, V 3 n' u' s'] w fun e w' => e = .returned (.tuple #[.int .i64 (versN n u'), .bool (mayN n u')]) ∧ Below w.heap.size w w' := by
  have hv := vers_bound n' u
  have _x := hu
  have _y := hu'
  unfold V
  go_enter Try.func31, Try.ntmps31
  go_wp2_with (first | (go_at_call 49; refine (refVersus_ok _ _ (by assumption) _).mono ?_; rintro e w' ⟨rfl, rfl⟩) | (go_at_call 52; refine (rRank_n n n' u u' hu hu' s s' _).mono ?_; rintro e w1 ⟨rfl, hb⟩))
  go_ret2
  exact ⟨rfl, two_boxes _ _ _⟩
theorem stand_n (n n' : Int) (u u' : Nat) (hu : u < 18446744073709551616) (hu' : u' < 18446744073709551616) (s s' : ByteArray) (w : World) : Calls Try.prog 31 #[V 1 n u s, V 1 n' u' s'] w fun e w' => e = .returned (.tuple #[.int .i64 (cmpI n n'), .bool (true)]) ∧ Below w.heap.size w w' := by
  unfold V
  go_enter Try.func31, Try.ntmps31
  go_wp2_with (first | (go_at_call 49; refine (refVersus_ok _ _ (by assumption) _).mono ?_; rintro e w' ⟨rfl, rfl⟩) | (go_at_call 52; refine (rRank_n n n' u u' hu hu' s s' _).mono ?_; rintro e w1 ⟨rfl, hb⟩))
  go_ret2
  exact ⟨rfl, (two_boxes _ _ _).trans (hb.mono (by simp; omega))⟩
theorem stand_f (n n' : Int) (u u' : Nat) (hu : u < 18446744073709551616) (hu' : u' < 18446744073709551616) (s s' : ByteArray) (w : World) : Calls Try.prog 31 #[V 2 n u s, V 2 n' u' s'] w fun e w' => e = .returned (.tuple #[.int .i64 (cmpI n n'), .bool (true)]) ∧ Below w.heap.size w w' := by
  unfold V
  go_enter Try.func31, Try.ntmps31
  go_wp2_with (first | (go_at_call 49; refine (refVersus_ok _ _ (by assumption) _).mono ?_; rintro e w' ⟨rfl, rfl⟩) | (go_at_call 52; refine (rRank_f n n' u u' hu hu' s s' _).mono ?_; rintro e w1 ⟨rfl, hb⟩))
  go_ret2
  exact ⟨rfl, (two_boxes _ _ _).trans (hb.mono (by simp; omega))⟩
theorem stand_t (n n' : Int) (u u' : Nat) (hu : u < 18446744073709551616) (hu' : u' < 18446744073709551616) (s s' : ByteArray) (w : World) : Calls Try.prog 31 #[V 4 n u s, V 4 n' u' s'] w fun e w' => e = .returned (.tuple #[.int .i64 (cmpT s.toList s'.toList), .bool (true)]) ∧ Below w.heap.size w w' := by
  unfold V
  go_enter Try.func31, Try.ntmps31
  go_wp2_with (first | (go_at_call 49; refine (refVersus_ok _ _ (by assumption) _).mono ?_; rintro e w' ⟨rfl, rfl⟩) | (go_at_call 52; refine (rRank_t n n' u u' hu hu' s s' _).mono ?_; rintro e w1 ⟨rfl, hb⟩))
  go_ret2
  exact ⟨rfl, (two_boxes _ _ _).trans (hb.mono (by simp; omega))⟩
theorem dbl_sym {a b : Nat} : equalB a b = true → lessB a b = false ∧ lessB b a = false := by
  unfold equalB lessB
  intro h
  simp only [Bool.and_eq_true, Bool.not_eq_true', decide_eq_true_eq] at h
  rw [h.1.1, h.1.2, h.2]
  simp
theorem dblI_eq (a b : Nat) : dblI a b = if lessB a b = true then -1 else if lessB b a = true then 1 else 0 := by
  unfold dblI
  cases h : equalB a b
  · simp
  · rw [(dbl_sym h).1, (dbl_sym h).2]; simp
theorem dblB_eq (a b : Nat) : dblB a b = if lessB a b = true then true else if lessB b a = true then true else equalB a b := by
  unfold dblB
  cases lessB a b <;> cases lessB b a <;> simp
theorem stand_33 (n n' : Int) (u u' : Nat) (hu : u < 18446744073709551616) (hu' : u' < 18446744073709551616) (s s' : ByteArray) (w : World) : Calls Try.prog 31 #[V 3 n u s, V 3 n' u' s'] w fun e w' => e = .returned (.tuple #[.int .i64 (dblI u u'), .bool (dblB u u')]) ∧ Below w.heap.size w w' := by
  have e1 := dblI_eq u u'
  have e2 := dblB_eq u u'
  have H1 := Lib.hid e1
  have H2 := Lib.hid e2
  clear e1 e2
  unfold V
  cases h2 : lessB u u' <;> cases h3 : lessB u' u
  all_goals
    go_enter Try.func31, Try.ntmps31
    go_wp2_with (first | (go_at_call 50; refine (refLess_ok _ _ (by assumption) (by assumption) _).mono ?_; rintro e w' ⟨rfl, rfl⟩) | (go_at_call 51; refine (refEqual_ok _ _ (by assumption) (by assumption) _).mono ?_; rintro e w' ⟨rfl, rfl⟩))
    go_ret2
    rw [H1.out, H2.out, h2, h3]
    exact ⟨rfl, two_boxes _ _ _⟩

/-- how two values that can be held against each other stand; and whether they are in order -/
def ordI (k n : Int) (u : Nat) (s : ByteArray) (k' n' : Int) (u' : Nat) (s' : ByteArray) : Int :=
  if k = 3 then (if k' = 3 then dblI u u' else -(versN n' u)) else if k' = 3 then versN n u' else if k = 4 then cmpT s.toList s'.toList else cmpI n n'
def ordB (k n : Int) (u : Nat) (k' n' : Int) (u' : Nat) : Bool :=
  if k = 3 then (if k' = 3 then dblB u u' else mayN n' u) else if k' = 3 then mayN n u' else true
/-- values of these kinds can be held against each other -/
def both (k k' : Int) : Bool := (k == k') || ((k == 1 || k == 3) && (k' == 1 || k' == 3))

theorem order_any (k n : Int) (u : Nat) (s : ByteArray) (k' n' : Int) (u' : Nat) (s' : ByteArray) (hk : 1 ≤ k ∧ k ≤ 4) (hk' : 1 ≤ k' ∧ k' ≤ 4) (hb : both k k' = true) (w : World) : Calls Try.prog 27 #[V k n u s, V k' n' u' s'] w fun e w' => e = .returned (.tuple #[.int .i64 (ordI k n u s k' n' u' s'), .bool (ordB k n u k' n' u')]) ∧ Below w.heap.size w w' := by
  have h : (k = 1 ∧ k' = 1) ∨ (k = 2 ∧ k' = 2) ∨ (k = 3 ∧ k' = 3) ∨ (k = 4 ∧ k' = 4) ∨ (k = 1 ∧ k' = 3) ∨ (k = 3 ∧ k' = 1) := by
    unfold both at hb
    simp at hb
    omega
  rcases h with ⟨rfl, rfl⟩ | ⟨rfl, rfl⟩ | ⟨rfl, rfl⟩ | ⟨rfl, rfl⟩ | ⟨rfl, rfl⟩ | ⟨rfl, rfl⟩
  · exact order_n n n' u u' s s' w
  · exact order_f n n' u u' s s' w
  · exact order_33 n n' u u' s s' w
  · exact order_t n n' u u' s s' w
  · exact order_13 n n' u u' s s' w
  · exact order_31 n n' u u' s s' w
theorem stand_any (k n : Int) (u : Nat) (s : ByteArray) (k' n' : Int) (u' : Nat) (s' : ByteArray) (hk : 1 ≤ k ∧ k ≤ 4) (hk' : 1 ≤ k' ∧ k' ≤ 4) (hb : both k k' = true) (hu : u < 18446744073709551616) (hu' : u' < 18446744073709551616) (w : World) : Calls Try.prog 31 #[V k n u s, V k' n' u' s'] w fun e w' => e = .returned (.tuple #[.int .i64 (ordI k n u s k' n' u' s'), .bool (ordB k n u k' n' u')]) ∧ Below w.heap.size w w' := by
  have h : (k = 1 ∧ k' = 1) ∨ (k = 2 ∧ k' = 2) ∨ (k = 3 ∧ k' = 3) ∨ (k = 4 ∧ k' = 4) ∨ (k = 1 ∧ k' = 3) ∨ (k = 3 ∧ k' = 1) := by
    unfold both at hb
    simp at hb
    omega
  rcases h with ⟨rfl, rfl⟩ | ⟨rfl, rfl⟩ | ⟨rfl, rfl⟩ | ⟨rfl, rfl⟩ | ⟨rfl, rfl⟩ | ⟨rfl, rfl⟩
  · exact stand_n n n' u u' hu hu' s s' w
  · exact stand_f n n' u u' hu hu' s s' w
  · exact stand_33 n n' u u' hu hu' s s' w
  · exact stand_t n n' u u' hu hu' s s' w
  · exact stand_13 n n' u u' hu hu' s s' w
  · exact stand_31 n n' u u' hu hu' s s' w
end Go.Proofs.Ytmlcpedbpjghhaa
