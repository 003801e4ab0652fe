/-
  summed and Plus of the program, walked.
-/
import Derived.Test.YtmlcpedbpjghhaaCmpS0
namespace Go.Proofs.Ytmlcpedbpjghhaa
open Go.RowKit

set_option maxRecDepth 100000 in
set_option maxHeartbeats 1000000 in
theorem summed_ok (k n : Int) (u : Nat) (s : ByteArray) (k' n' : Int) (u' : Nat) (s' : ByteArray) (w : World) : Calls Try.prog 32 #[V k n u s, V k' n' u' s'] w fun e w' => e = .returned (.bool (sumB k n u s k' n' u' s')) ∧ Below w.heap.size w w' := by
  have H1 := Lib.hid fun w => vCheck_ok k n u s w
  have H2 := Lib.hid fun w => vCheck_ok k' n' u' s' w
  unfold V at *
  by_cases h : checkN k n u s = 0
  · have t1 := beq_yes h
    by_cases h' : checkN k' n' u' s' = 0
    · have t2 := beq_yes h'
      have H : Hid (sumB k n u s k' n' u' s' = (numB k && numB k')) := Lib.hid (by unfold sumB; rw [t1, t2]; rfl)
      clear h h'
      cases c1 : numB k <;> cases c2 : numB k'
      all_goals rw [c1, c2] at H
      all_goals
        go_enter Try.func32, Try.ntmps32
        go_wp2_with fail
        refine (H1.out _).mono ?_
        rintro e w1 ⟨rfl, hb1⟩
        obtain ⟨hA, hB⟩ := box_two w _ _ k n u s k' n' u' s'
        have hA1 := hA.later hb1 (by simp; omega)
        have hB1 := hB.later hb1 (by simp)
        clear hA hB
        have hz : w.heap.size + 2 ≤ w1.heap.size := by have := hb1.size; simp at this; omega
        replace hb1 : Below w.heap.size w w1 := (two_boxes _ _ _).trans (hb1.mono (by simp; omega))
        have hA' := hA1
        have hB' := hB1
        unfold Box at hA' hB'
        obtain ⟨a0, a1, a2, a3⟩ := hA'
        obtain ⟨b0, b1, b2, b3⟩ := hB'
        go_wp2_with fail
        clear a0 a1 a2 a3 b0 b1 b2 b3
        refine (H2.out _).mono ?_
        rintro e w2 ⟨rfl, hb2⟩
        have hA2 := hA1.later hb2 (by omega)
        have hB2 := hB1.later hb2 (by omega)
        clear hA1 hB1
        have hz2 : w.heap.size + 2 ≤ w2.heap.size := by have := hb2.size; omega
        replace hb2 : Below w.heap.size w w2 := hb1.trans (hb2.mono (by omega))
        clear hb1 hz w1
        unfold Box at hA2 hB2
        obtain ⟨a0, a1, a2, a3⟩ := hA2
        obtain ⟨b0, b1, b2, b3⟩ := hB2
        go_wp2_with (go_at_call 26; refine (numeric_v _ _).mono ?_; rintro e w' ⟨rfl, rfl⟩)
        go_ret
        exact ⟨retB H.out.symm, hb2⟩
    · have t2 := beq_no h'
      have H : Hid (sumB k n u s k' n' u' s' = false) := Lib.hid (by unfold sumB; rw [t1, t2]; rfl)
      clear h h'
      go_enter Try.func32, Try.ntmps32
      go_wp2_with fail
      refine (H1.out _).mono ?_
      rintro e w1 ⟨rfl, hb1⟩
      obtain ⟨hA, hB⟩ := box_two w _ _ k n u s k' n' u' s'
      have hA1 := hA.later hb1 (by simp; omega)
      have hB1 := hB.later hb1 (by simp)
      clear hA hB
      have hz : w.heap.size + 2 ≤ w1.heap.size := by have := hb1.size; simp at this; omega
      replace hb1 : Below w.heap.size w w1 := (two_boxes _ _ _).trans (hb1.mono (by simp; omega))
      have hA' := hA1
      have hB' := hB1
      unfold Box at hA' hB'
      obtain ⟨a0, a1, a2, a3⟩ := hA'
      obtain ⟨b0, b1, b2, b3⟩ := hB'
      go_wp2_with fail
      clear a0 a1 a2 a3 b0 b1 b2 b3
      refine (H2.out _).mono ?_
      rintro e w2 ⟨rfl, hb2⟩
      have hA2 := hA1.later hb2 (by omega)
      have hB2 := hB1.later hb2 (by omega)
      clear hA1 hB1
      have hz2 : w.heap.size + 2 ≤ w2.heap.size := by have := hb2.size; omega
      replace hb2 : Below w.heap.size w w2 := hb1.trans (hb2.mono (by omega))
      clear hb1 hz w1
      unfold Box at hA2 hB2
      obtain ⟨a0, a1, a2, a3⟩ := hA2
      obtain ⟨b0, b1, b2, b3⟩ := hB2
      go_wp2_with fail
      go_ret
      exact ⟨retB H.out.symm, hb2⟩
  · have t1 := beq_no h
    have H : Hid (sumB k n u s k' n' u' s' = false) := Lib.hid (by unfold sumB; rw [t1]; rfl)
    clear h
    go_enter Try.func32, Try.ntmps32
    go_wp2_with fail
    refine (H1.out _).mono ?_
    rintro e w1 ⟨rfl, hb1⟩
    obtain ⟨hc1, hf1⟩ := bcell hb1
    have hz1 : w.heap.size + 1 < w1.heap.size := by have := hb1.size; simp at this; omega
    go_wp2_with fail
    go_ret
    exact ⟨retB H.out.symm, (two_boxes _ _ _).trans (hb1.mono (by simp; omega))⟩
set_option maxRecDepth 100000 in
set_option maxHeartbeats 1000000 in
theorem plus_no (k n : Int) (u : Nat) (s : ByteArray) (k' n' : Int) (u' : Nat) (s' : ByteArray) (h : sumB k n u s k' n' u' s' = false) (w : World) : Calls Try.prog 12 #[V k n u s, V k' n' u' s'] w fun e w' => e = .returned (noneV) ∧ Below w.heap.size w w' := by
  have HS := Lib.hid fun w => summed_ok k n u s k' n' u' s' w
  rw [h] at HS
  clear h
  have hv := fun w => build_void w
  obtain ⟨q1, q2, q3, q4, q5, q6, q7⟩ := places w.heap.size
  unfold noneV
  unfold V at *
  go_enter Try.func12, Try.ntmps12
  go_wp2_with fail
  refine (HS.out _).mono ?_
  rintro e w1 ⟨rfl, hb1⟩
  obtain ⟨hT0, hsz, hb0⟩ := three_of w _ _ _ k n u s k' n' u' s' rfl
  rw [hsz] at hb1
  have hT1 := hT0.later hb1 rfl (by omega)
  have hz1 : w.heap.size + 3 ≤ w1.heap.size := by have := hb1.size; omega
  replace hb1 : Below w.heap.size w w1 := below_next hb0 hb1 ⟨rfl, rfl, rfl, rfl⟩ (by omega)
  clear hb0 hsz hT0
  obtain ⟨a0, a1, a2, a3, b0, b1, b2, b3, r0, r1, r2, r3, f0, f1, f2, f3⟩ := hT1.cells
  go_wp2_with fail
  exact bodyPost_ret (v := noneV) (by simp [results, Try.results12, go_sem, noneV, V, r0, r1, r2, r3]) rfl ⟨rfl, four_cells hb1 (by omega) _ _ _ _⟩
set_option maxRecDepth 100000 in
set_option maxHeartbeats 1000000 in
theorem plus_real1 (k n : Int) (u : Nat) (s : ByteArray) (k' n' : Int) (u' : Nat) (s' : ByteArray) (hu : u < 18446744073709551616) (hu' : u' < 18446744073709551616) (h : sumB k n u s k' n' u' s' = true) (hk : k ≠ 1) (w : World) : Calls Try.prog 12 #[V k n u s, V k' n' u' s'] w fun e w' => e = .returned (realV (dblV k n u) (dblV k' n' u')) ∧ Below w.heap.size w w' := by
  have HS := Lib.hid fun w => summed_ok k n u s k' n' u' s' w
  rw [h] at HS
  have HD1 := Lib.hid fun w => cdouble_ok k n u s w
  have HD2 := Lib.hid fun w => cdouble_ok k' n' u' s' w
  have HA := Lib.hid fun w => add_any (dblV k n u) (dblV k' n' u') (dblV_lt k n hu) (dblV_lt k' n' hu') w
  have HR := Lib.hid fun w => vOfReal_ok (sumN (dblV k n u) (dblV k' n' u')) w
  have x1 : (k == 1) = false := by simpa using hk
  clear hk
  clear h
  obtain ⟨q1, q2, q3, q4, q5, q6, q7⟩ := places w.heap.size
  unfold realV
  unfold V at *
  go_enter Try.func12, Try.ntmps12
  go_wp2_with fail
  refine (HS.out _).mono ?_
  rintro e w1 ⟨rfl, hb1⟩
  obtain ⟨hT0, hsz, hb0⟩ := three_of w _ _ _ k n u s k' n' u' s' rfl
  rw [hsz] at hb1
  have hT1 := hT0.later hb1 rfl (by omega)
  have hz1 : w.heap.size + 3 ≤ w1.heap.size := by have := hb1.size; omega
  replace hb1 : Below w.heap.size w w1 := below_next hb0 hb1 ⟨rfl, rfl, rfl, rfl⟩ (by omega)
  clear hb0 hsz hT0
  obtain ⟨a0, a1, a2, a3, b0, b1, b2, b3, r0, r1, r2, r3, f0, f1, f2, f3⟩ := hT1.cells
  have hx1 := hb1
  go_wp2_with fail
  go_region_with (first | (go_at_call 35; ((with_reducible refine (HD1.out _).mono ?_)); rintro e w3 ⟨rfl, hb3⟩; have hz3 : w.heap.size + 3 ≤ w3.heap.size := (by have := hb3.size; (try simp at this); omega); have hT3 := hT1.later hb3 rfl (by (try simp); omega); have hx3 := below_next hx1 hb3 ⟨rfl, rfl, rfl, rfl⟩ (by (try simp); omega); obtain ⟨a0, a1, a2, a3, b0, b1, b2, b3, r0, r1, r2, r3, f0, f1, f2, f3⟩ := hT3.cells) | (go_at_call 35; ((with_reducible refine (HD2.out _).mono ?_)); rintro e w4 ⟨rfl, hb4⟩; have hz4 : w.heap.size + 3 ≤ w4.heap.size := (by have := hb4.size; (try simp at this); omega); have hT4 := hT3.later hb4 rfl (by (try simp); omega); have hx4 := below_next hx3 hb4 ⟨rfl, rfl, rfl, rfl⟩ (by (try simp); omega); obtain ⟨a0, a1, a2, a3, b0, b1, b2, b3, r0, r1, r2, r3, f0, f1, f2, f3⟩ := hT4.cells) | (go_at_call 34; ((with_reducible refine (HA.out _).mono ?_)); rintro e w' ⟨rfl, n5, rfl⟩) | (go_at_call 20; ((with_reducible refine (HR.out _).mono ?_)); rintro e w6 ⟨rfl, hb6⟩; have hz6 : w.heap.size + 3 ≤ w6.heap.size := (by have := hb6.size; (try simp at this); omega); have hT6 := hT4.later hb6 rfl (by (try simp); omega); have hx6 := below_next hx4 hb6 ⟨rfl, rfl, rfl, rfl⟩ (by (try simp); omega); obtain ⟨a0, a1, a2, a3, b0, b1, b2, b3, r0, r1, r2, r3, f0, f1, f2, f3⟩ := hT6.cells))
  all_goals go_wp2
  all_goals exact bodyPost_ret (v := realV (dblV k n u) (dblV k' n' u')) (by simp [results, Try.results12, go_sem, realV, V, r0, r1, r2, r3]) rfl ⟨rfl, four_cells hx6 (by omega) _ _ _ _⟩
set_option maxRecDepth 100000 in
set_option maxHeartbeats 1000000 in
theorem plus_real2 (k n : Int) (u : Nat) (s : ByteArray) (k' n' : Int) (u' : Nat) (s' : ByteArray) (hu : u < 18446744073709551616) (hu' : u' < 18446744073709551616) (h : sumB k n u s k' n' u' s' = true) (hk : k = 1) (hk' : k' ≠ 1) (w : World) : Calls Try.prog 12 #[V k n u s, V k' n' u' s'] w fun e w' => e = .returned (realV (dblV k n u) (dblV k' n' u')) ∧ Below w.heap.size w w' := by
  have HS := Lib.hid fun w => summed_ok k n u s k' n' u' s' w
  rw [h] at HS
  have HD1 := Lib.hid fun w => cdouble_ok k n u s w
  have HD2 := Lib.hid fun w => cdouble_ok k' n' u' s' w
  have HA := Lib.hid fun w => add_any (dblV k n u) (dblV k' n' u') (dblV_lt k n hu) (dblV_lt k' n' hu') w
  have HR := Lib.hid fun w => vOfReal_ok (sumN (dblV k n u) (dblV k' n' u')) w
  have x1 : (k == 1) = true := by simpa using hk
  have x2 : (k' == 1) = false := by simpa using hk'
  clear hk hk'
  clear h
  obtain ⟨q1, q2, q3, q4, q5, q6, q7⟩ := places w.heap.size
  unfold realV
  unfold V at *
  go_enter Try.func12, Try.ntmps12
  go_wp2_with fail
  refine (HS.out _).mono ?_
  rintro e w1 ⟨rfl, hb1⟩
  obtain ⟨hT0, hsz, hb0⟩ := three_of w _ _ _ k n u s k' n' u' s' rfl
  rw [hsz] at hb1
  have hT1 := hT0.later hb1 rfl (by omega)
  have hz1 : w.heap.size + 3 ≤ w1.heap.size := by have := hb1.size; omega
  replace hb1 : Below w.heap.size w w1 := below_next hb0 hb1 ⟨rfl, rfl, rfl, rfl⟩ (by omega)
  clear hb0 hsz hT0
  obtain ⟨a0, a1, a2, a3, b0, b1, b2, b3, r0, r1, r2, r3, f0, f1, f2, f3⟩ := hT1.cells
  have hx1 := hb1
  go_wp2_with fail
  go_region_with (first | (go_at_call 35; ((with_reducible refine (HD1.out _).mono ?_)); rintro e w3 ⟨rfl, hb3⟩; have hz3 : w.heap.size + 3 ≤ w3.heap.size := (by have := hb3.size; (try simp at this); omega); have hT3 := hT1.later hb3 rfl (by (try simp); omega); have hx3 := below_next hx1 hb3 ⟨rfl, rfl, rfl, rfl⟩ (by (try simp); omega); obtain ⟨a0, a1, a2, a3, b0, b1, b2, b3, r0, r1, r2, r3, f0, f1, f2, f3⟩ := hT3.cells) | (go_at_call 35; ((with_reducible refine (HD2.out _).mono ?_)); rintro e w4 ⟨rfl, hb4⟩; have hz4 : w.heap.size + 3 ≤ w4.heap.size := (by have := hb4.size; (try simp at this); omega); have hT4 := hT3.later hb4 rfl (by (try simp); omega); have hx4 := below_next hx3 hb4 ⟨rfl, rfl, rfl, rfl⟩ (by (try simp); omega); obtain ⟨a0, a1, a2, a3, b0, b1, b2, b3, r0, r1, r2, r3, f0, f1, f2, f3⟩ := hT4.cells) | (go_at_call 34; ((with_reducible refine (HA.out _).mono ?_)); rintro e w' ⟨rfl, n5, rfl⟩) | (go_at_call 20; ((with_reducible refine (HR.out _).mono ?_)); rintro e w6 ⟨rfl, hb6⟩; have hz6 : w.heap.size + 3 ≤ w6.heap.size := (by have := hb6.size; (try simp at this); omega); have hT6 := hT4.later hb6 rfl (by (try simp); omega); have hx6 := below_next hx4 hb6 ⟨rfl, rfl, rfl, rfl⟩ (by (try simp); omega); obtain ⟨a0, a1, a2, a3, b0, b1, b2, b3, r0, r1, r2, r3, f0, f1, f2, f3⟩ := hT6.cells))
  all_goals go_wp2
  all_goals exact bodyPost_ret (v := realV (dblV k n u) (dblV k' n' u')) (by simp [results, Try.results12, go_sem, realV, V, r0, r1, r2, r3]) rfl ⟨rfl, four_cells hx6 (by omega) _ _ _ _⟩
set_option maxRecDepth 100000 in
set_option maxHeartbeats 1000000 in
theorem plus_whole (n : Int) (u : Nat) (s : ByteArray) (n' : Int) (u' : Nat) (s' : ByteArray) (h : sumB 1 n u s 1 n' u' s' = true) (ho : wholeOk n n' = true) (w : World) : Calls Try.prog 12 #[V 1 n u s, V 1 n' u' s'] w fun e w' => e = .returned (.tuple #[V 1 (n + n') 0 ⟨#[]⟩, .bool true]) ∧ Below w.heap.size w w' := by
  obtain ⟨g1, g2, _, _⟩ := sumB_yes h
  have g3 := check_num_bounds g1
  have g4 := check_num_bounds g2
  have HS := Lib.hid fun w => summed_ok 1 n u s 1 n' u' s' w
  rw [h] at HS
  have HW := Lib.hid fun w => wsum_yes n n' g3 (by omega) ho w
  obtain ⟨g5, g6⟩ := g3
  obtain ⟨g7, g8⟩ := g4
  clear h ho g1 g2
  obtain ⟨q1, q2, q3, q4, q5, q6, q7⟩ := places w.heap.size
  unfold noneV at *
  unfold V at *
  go_enter Try.func12, Try.ntmps12
  go_wp2_with fail
  refine (HS.out _).mono ?_
  rintro e w1 ⟨rfl, hb1⟩
  obtain ⟨hT0, hsz, hb0⟩ := three_of w _ _ _ 1 n u s 1 n' u' s' rfl
  rw [hsz] at hb1
  have hT1 := hT0.later hb1 rfl (by omega)
  have hz1 : w.heap.size + 3 ≤ w1.heap.size := by have := hb1.size; omega
  replace hb1 : Below w.heap.size w w1 := below_next hb0 hb1 ⟨rfl, rfl, rfl, rfl⟩ (by omega)
  clear hb0 hsz hT0
  obtain ⟨a0, a1, a2, a3, b0, b1, b2, b3, r0, r1, r2, r3, f0, f1, f2, f3⟩ := hT1.cells
  go_wp2_with fail
  refine (HW.out _).mono ?_
  rintro e w2 ⟨rfl, hb2⟩
  have hz2 : w.heap.size + 3 ≤ w2.heap.size := by have := hb2.size; omega
  have hT2 := hT1.later hb2 rfl (by omega)
  have hx2 := below_next hb1 hb2 ⟨rfl, rfl, rfl, rfl⟩ (by omega)
  clear a0 a1 a2 a3 b0 b1 b2 b3 r0 r1 r2 r3 f0 f1 f2 f3
  obtain ⟨a0, a1, a2, a3, b0, b1, b2, b3, r0, r1, r2, r3, f0, f1, f2, f3⟩ := hT2.cells
  go_wp2_with fail
  exact bodyPost_ret (v := .tuple #[V 1 (n + n') 0 ⟨#[]⟩, .bool true]) (by simp [results, Try.results12, go_sem, V, r0, r1, r2, r3]) rfl ⟨rfl, four_cells hx2 (by omega) _ _ _ _⟩
set_option maxRecDepth 100000 in
set_option maxHeartbeats 1000000 in
theorem plus_over (n : Int) (u : Nat) (s : ByteArray) (n' : Int) (u' : Nat) (s' : ByteArray) (h : sumB 1 n u s 1 n' u' s' = true) (ho : wholeOk n n' = false) (w : World) : Calls Try.prog 12 #[V 1 n u s, V 1 n' u' s'] w fun e w' => e = .returned (noneV) ∧ Below w.heap.size w w' := by
  obtain ⟨g1, g2, _, _⟩ := sumB_yes h
  have g3 := check_num_bounds g1
  have g4 := check_num_bounds g2
  have HS := Lib.hid fun w => summed_ok 1 n u s 1 n' u' s' w
  rw [h] at HS
  have HW := Lib.hid fun w => wsum_no n n' g3 (by omega) ho w
  obtain ⟨g5, g6⟩ := g3
  obtain ⟨g7, g8⟩ := g4
  clear h ho g1 g2
  obtain ⟨q1, q2, q3, q4, q5, q6, q7⟩ := places w.heap.size
  unfold noneV at *
  unfold V at *
  go_enter Try.func12, Try.ntmps12
  go_wp2_with fail
  refine (HS.out _).mono ?_
  rintro e w1 ⟨rfl, hb1⟩
  obtain ⟨hT0, hsz, hb0⟩ := three_of w _ _ _ 1 n u s 1 n' u' s' rfl
  rw [hsz] at hb1
  have hT1 := hT0.later hb1 rfl (by omega)
  have hz1 : w.heap.size + 3 ≤ w1.heap.size := by have := hb1.size; omega
  replace hb1 : Below w.heap.size w w1 := below_next hb0 hb1 ⟨rfl, rfl, rfl, rfl⟩ (by omega)
  clear hb0 hsz hT0
  obtain ⟨a0, a1, a2, a3, b0, b1, b2, b3, r0, r1, r2, r3, f0, f1, f2, f3⟩ := hT1.cells
  go_wp2_with fail
  refine (HW.out _).mono ?_
  rintro e w2 ⟨rfl, hb2⟩
  have hz2 : w.heap.size + 3 ≤ w2.heap.size := by have := hb2.size; omega
  have hT2 := hT1.later hb2 rfl (by omega)
  have hx2 := below_next hb1 hb2 ⟨rfl, rfl, rfl, rfl⟩ (by omega)
  clear a0 a1 a2 a3 b0 b1 b2 b3 r0 r1 r2 r3 f0 f1 f2 f3
  obtain ⟨a0, a1, a2, a3, b0, b1, b2, b3, r0, r1, r2, r3, f0, f1, f2, f3⟩ := hT2.cells
  go_wp2_with fail
  exact bodyPost_ret (v := noneV) (by simp [results, Try.results12, go_sem, noneV, V, r0, r1, r2, r3]) rfl ⟨rfl, four_cells hx2 (by omega) _ _ _ _⟩
theorem plus_ok (k n : Int) (u : Nat) (s : ByteArray) (k' n' : Int) (u' : Nat) (s' : ByteArray) (hu : u < 18446744073709551616) (hu' : u' < 18446744073709551616) (w : World) : Calls Try.prog 12 #[V k n u s, V k' n' u' s'] w fun e w' => e = .returned (plusV k n u s k' n' u' s') ∧ Below w.heap.size w w' := by
  unfold plusV
  cases h : sumB k n u s k' n' u' s'
  · exact plus_no k n u s k' n' u' s' h w
  · simp only [if_true]
    by_cases hk : k = 1 ∧ k' = 1
    · rw [if_pos hk]
      obtain ⟨rfl, rfl⟩ := hk
      unfold wsumV
      cases ho : wholeOk n n'
      · exact plus_over n u s n' u' s' h ho w
      · exact plus_whole n u s n' u' s' h ho w
    · rw [if_neg hk]
      by_cases h1 : k = 1
      · exact plus_real2 k n u s k' n' u' s' hu hu' h h1 (fun h2 => hk ⟨h1, h2⟩) w
      · exact plus_real1 k n u s k' n' u' s' hu hu' h h1 w
end Go.Proofs.Ytmlcpedbpjghhaa
