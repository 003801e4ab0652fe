/-
  Check of both sides, walked: any value.
-/
import Derived.Test.YtmlcpedbpjghhaaCmpW3
namespace Go.Proofs.Ytmlcpedbpjghhaa
open Go.RowKit

theorem vCheck_ok (k n : Int) (u : Nat) (s : ByteArray) (w : World) : Calls Try.prog 17 #[V k n u s] w fun e w' => e = .returned (.int .i64 (checkN k n u s)) ∧ Below w.heap.size w w' := by
  by_cases hk : k < 1 ∨ 4 < k
  · refine (check_none k n u s hk w).mono fun e w' h => ⟨by rw [h.1]; exact retI (by unfold checkN; rw [if_pos hk]), h.2⟩
  · rcases (show k = 1 ∨ k = 2 ∨ k = 3 ∨ k = 4 by omega) with rfl | rfl | rfl | rfl
    · exact check_num n u s w
    · exact check_flag n u s w
    · exact check_double n u s w
    · exact check_words n u s w
theorem below_drewN2 {B : Nat} {a w : World} (h : Below B a w) (n : Nat) : Below B a (w.drewN n) := ⟨h.os, h.tape, h.output, h.size, h.block⟩

theorem rCheck_none (k n : Int) (u : Nat) (s : ByteArray) (hk : k < 1 ∨ 4 < k) (w : World) : Calls Try.prog 29 #[V k n u s] w fun e w' => e = .returned (.int .i64 11) ∧ Below w.heap.size w w' := by
  unfold V
  by_cases h1 : k < 1
  · clear hk
    go_enter Try.func29, Try.ntmps29
    go_wp2
    go_ret
    exact ⟨rfl, one_box _ _⟩
  · have h2 : 4 < k := by omega
    clear hk
    go_enter Try.func29, Try.ntmps29
    go_wp2
    go_ret
    exact ⟨rfl, one_box _ _⟩
set_option maxHeartbeats 1000000 in
theorem rCheck_num (n : Int) (u : Nat) (s : ByteArray) (w : World) : Calls Try.prog 29 #[V 1 n u s] w fun e w' => e = .returned (.int .i64 (checkN 1 n u s)) ∧ Below w.heap.size w w' := by
  unfold V
  by_cases r1 : n < -4611686018427387904
  · have hk : checkN 1 n u s = 8 := by unfold checkN; rw [if_neg (by omega), if_pos rfl, if_pos (.inl r1)]
    have Hk := Lib.hid hk
    clear hk
    go_enter Try.func29, Try.ntmps29
    go_wp2
    go_ret
    exact ⟨retI Hk.out.symm, one_box _ _⟩
  · by_cases r2 : 4611686018427387904 < n
    · have hk : checkN 1 n u s = 8 := by unfold checkN; rw [if_neg (by omega), if_pos rfl, if_pos (.inr r2)]
      have Hk := Lib.hid hk
      clear hk
      go_enter Try.func29, Try.ntmps29
      go_wp2
      go_ret
      exact ⟨retI Hk.out.symm, one_box _ _⟩
    · have hk : checkN 1 n u s = if u = 0 ∧ s.toList.isEmpty = true then 0 else 2 := by unfold checkN; rw [if_neg (by omega), if_pos rfl, if_neg (by omega)]
      have Hk := Lib.hid hk
      clear hk
      go_enter Try.func29, Try.ntmps29
      go_wp2
      go_quiet (fail)
      go_wp2
      all_goals go_ret
      all_goals refine ⟨retI ?_, below_drewN2 (one_box _ _) _⟩
      all_goals rw [Hk.out]
      all_goals clear Hk
      all_goals (split <;> simp_all)
set_option maxHeartbeats 1000000 in
theorem rCheck_flag (n : Int) (u : Nat) (s : ByteArray) (w : World) : Calls Try.prog 29 #[V 2 n u s] w fun e w' => e = .returned (.int .i64 (checkN 2 n u s)) ∧ Below w.heap.size w w' := by
  unfold V
  by_cases r1 : n < 0
  · have hk : checkN 2 n u s = 8 := by unfold checkN; rw [if_neg (by omega), if_neg (by omega), if_pos rfl, if_pos (by omega)]
    have Hk := Lib.hid hk
    clear hk
    go_enter Try.func29, Try.ntmps29
    go_wp2
    go_ret
    exact ⟨retI Hk.out.symm, one_box _ _⟩
  · by_cases r2 : 1 < n
    · have hk : checkN 2 n u s = 8 := by unfold checkN; rw [if_neg (by omega), if_neg (by omega), if_pos rfl, if_pos (by omega)]
      have Hk := Lib.hid hk
      clear hk
      go_enter Try.func29, Try.ntmps29
      go_wp2
      go_ret
      exact ⟨retI Hk.out.symm, one_box _ _⟩
    · have hk : checkN 2 n u s = if u = 0 ∧ s.toList.isEmpty = true then 0 else 2 := by unfold checkN; rw [if_neg (by omega), if_neg (by omega), if_pos rfl, if_neg (by omega)]
      have Hk := Lib.hid hk
      clear hk
      go_enter Try.func29, Try.ntmps29
      go_wp2
      go_quiet (fail)
      go_wp2
      all_goals go_ret
      all_goals refine ⟨retI ?_, below_drewN2 (one_box _ _) _⟩
      all_goals rw [Hk.out]
      all_goals clear Hk
      all_goals (split <;> simp_all)
set_option maxHeartbeats 1000000 in
theorem rCheck_words (n : Int) (u : Nat) (s : ByteArray) (w : World) : Calls Try.prog 29 #[V 4 n u s] w fun e w' => e = .returned (.int .i64 (checkN 4 n u s)) ∧ Below w.heap.size w w' := by
  unfold V
  by_cases r1 : (24 : Int) < s.size
  · have hk : checkN 4 n u s = 5 := by unfold checkN; rw [if_neg (by omega), if_neg (by omega), if_neg (by omega), if_neg (by omega), if_pos r1]
    have Hk := Lib.hid hk
    clear hk
    go_enter Try.func29, Try.ntmps29
    go_wp2
    go_quiet (fail)
    go_wp2
    go_ret
    exact ⟨retI Hk.out.symm, below_drewN2 (one_box _ _) _⟩
  · have hk : checkN 4 n u s = if n = 0 ∧ u = 0 then 0 else 2 := by unfold checkN; rw [if_neg (by omega), if_neg (by omega), if_neg (by omega), if_neg (by omega), if_neg r1]
    have Hk := Lib.hid hk
    clear hk
    go_enter Try.func29, Try.ntmps29
    go_wp2
    go_quiet (fail)
    go_wp2
    all_goals go_ret
    all_goals refine ⟨retI ?_, below_drewN2 (one_box _ _) _⟩
    all_goals rw [Hk.out]
    all_goals clear Hk
    all_goals (split <;> simp_all)
end Go.Proofs.Ytmlcpedbpjghhaa
