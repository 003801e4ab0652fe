/-
  Minus of the program, walked.
-/
import Derived.Test.YtmlcpedbpjghhaaCmpS1
namespace Go.Proofs.Ytmlcpedbpjghhaa
open Go.RowKit

set_option maxRecDepth 100000 in
set_option maxHeartbeats 1000000 in
theorem minus_no (k n : Int) (u : Nat) (s : ByteArray) (k' n' : Int) (u' : Nat) (s' : ByteArray) (h : sumB k n u s k' n' u' s' = false) (w : World) : Calls Try.prog 14 #[V k n u s, V k' n' u' s'] w fun e w' => e = .returned (noneV) ∧ Below w.heap.size w w' := by
  have HS := Lib.hid fun w => summed_ok k n u s k' n' u' s' w
  rw [h] at HS
  clear h
  have hv := fun w => build_void w
  obtain ⟨q1, q2, q3, q4, q5, q6, q7⟩ := places w.heap.size
  unfold noneV
  unfold V at *
  go_enter Try.func14, Try.ntmps14
  go_wp2_with fail
  refine (HS.out _).mono ?_
  rintro e w1 ⟨rfl, hb1⟩
  obtain ⟨hT0, hsz, hb0⟩ := three_of w _ _ _ k n u s k' n' u' s' rfl
  rw [hsz] at hb1
  have hT1 := hT0.later hb1 rfl (by omega)
  have hz1 : w.heap.size + 3 ≤ w1.heap.size := by have := hb1.size; omega
  replace hb1 : Below w.heap.size w w1 := below_next hb0 hb1 ⟨rfl, rfl, rfl, rfl⟩ (by omega)
  clear hb0 hsz hT0
  obtain ⟨a0, a1, a2, a3, b0, b1, b2, b3, r0, r1, r2, r3, f0, f1, f2, f3⟩ := hT1.cells
  go_wp2_with fail
  exact bodyPost_ret (v := noneV) (by simp [results, Try.results14, go_sem, noneV, V, r0, r1, r2, r3]) rfl ⟨rfl, four_cells hb1 (by omega) _ _ _ _⟩
set_option maxRecDepth 100000 in
set_option maxHeartbeats 1000000 in
theorem minus_real1 (k n : Int) (u : Nat) (s : ByteArray) (k' n' : Int) (u' : Nat) (s' : ByteArray) (hu : u < 18446744073709551616) (hu' : u' < 18446744073709551616) (h : sumB k n u s k' n' u' s' = true) (hk : k ≠ 1) (w : World) : Calls Try.prog 14 #[V k n u s, V k' n' u' s'] w fun e w' => e = .returned (realV (dblV k n u) (negN (dblV k' n' u'))) ∧ Below w.heap.size w w' := by
  have HS := Lib.hid fun w => summed_ok k n u s k' n' u' s' w
  rw [h] at HS
  have HD1 := Lib.hid fun w => cdouble_ok k n u s w
  have HD2 := Lib.hid fun w => cdouble_ok k' n' u' s' w
  have HN := Lib.hid fun w => neg_ok (dblV k' n' u') (dblV_lt k' n' hu') w
  have HA := Lib.hid fun w => add_any (dblV k n u) (negN (dblV k' n' u')) (dblV_lt k n hu) (negN_lt' (dblV_lt k' n' hu')) w
  have HR := Lib.hid fun w => vOfReal_ok (sumN (dblV k n u) (negN (dblV k' n' u'))) w
  have x1 : (k == 1) = false := by simpa using hk
  clear hk
  clear h
  obtain ⟨q1, q2, q3, q4, q5, q6, q7⟩ := places w.heap.size
  unfold realV
  unfold V at *
  go_enter Try.func14, Try.ntmps14
  go_wp2_with fail
  refine (HS.out _).mono ?_
  rintro e w1 ⟨rfl, hb1⟩
  obtain ⟨hT0, hsz, hb0⟩ := three_of w _ _ _ k n u s k' n' u' s' rfl
  rw [hsz] at hb1
  have hT1 := hT0.later hb1 rfl (by omega)
  have hz1 : w.heap.size + 3 ≤ w1.heap.size := by have := hb1.size; omega
  replace hb1 : Below w.heap.size w w1 := below_next hb0 hb1 ⟨rfl, rfl, rfl, rfl⟩ (by omega)
  clear hb0 hsz hT0
  obtain ⟨a0, a1, a2, a3, b0, b1, b2, b3, r0, r1, r2, r3, f0, f1, f2, f3⟩ := hT1.cells
  have hx1 := hb1
  go_wp2_with fail
  go_region_with (first | (go_at_call 35; ((with_reducible refine (HD1.out _).mono ?_)); rintro e w3 ⟨rfl, hb3⟩; have hz3 : w.heap.size + 3 ≤ w3.heap.size := (by have := hb3.size; (try simp at this); omega); have hT3 := hT1.later hb3 rfl (by (try simp); omega); have hx3 := below_next hx1 hb3 ⟨rfl, rfl, rfl, rfl⟩ (by (try simp); omega); obtain ⟨a0, a1, a2, a3, b0, b1, b2, b3, r0, r1, r2, r3, f0, f1, f2, f3⟩ := hT3.cells) | (go_at_call 35; ((with_reducible refine (HD2.out _).mono ?_)); rintro e w4 ⟨rfl, hb4⟩; have hz4 : w.heap.size + 3 ≤ w4.heap.size := (by have := hb4.size; (try simp at this); omega); have hT4 := hT3.later hb4 rfl (by (try simp); omega); have hx4 := below_next hx3 hb4 ⟨rfl, rfl, rfl, rfl⟩ (by (try simp); omega); obtain ⟨a0, a1, a2, a3, b0, b1, b2, b3, r0, r1, r2, r3, f0, f1, f2, f3⟩ := hT4.cells) | (go_at_call 40; ((with_reducible refine (HN.out _).mono ?_)); rintro e w' ⟨rfl, rfl⟩) | (go_at_call 34; ((with_reducible refine (HA.out _).mono ?_)); rintro e w' ⟨rfl, n5, rfl⟩) | (go_at_call 20; ((with_reducible refine (HR.out _).mono ?_)); rintro e w6 ⟨rfl, hb6⟩; have hz6 : w.heap.size + 3 ≤ w6.heap.size := (by have := hb6.size; (try simp at this); omega); have hT6 := hT4.later hb6 rfl (by (try simp); omega); have hx6 := below_next hx4 hb6 ⟨rfl, rfl, rfl, rfl⟩ (by (try simp); omega); obtain ⟨a0, a1, a2, a3, b0, b1, b2, b3, r0, r1, r2, r3, f0, f1, f2, f3⟩ := hT6.cells))
  all_goals go_wp2
  all_goals exact bodyPost_ret (v := realV (dblV k n u) (negN (dblV k' n' u'))) (by simp [results, Try.results14, go_sem, realV, V, r0, r1, r2, r3]) rfl ⟨rfl, four_cells hx6 (by omega) _ _ _ _⟩
set_option maxRecDepth 100000 in
set_option maxHeartbeats 1000000 in
theorem minus_real2 (k n : Int) (u : Nat) (s : ByteArray) (k' n' : Int) (u' : Nat) (s' : ByteArray) (hu : u < 18446744073709551616) (hu' : u' < 18446744073709551616) (h : sumB k n u s k' n' u' s' = true) (hk : k = 1) (hk' : k' ≠ 1) (w : World) : Calls Try.prog 14 #[V k n u s, V k' n' u' s'] w fun e w' => e = .returned (realV (dblV k n u) (negN (dblV k' n' u'))) ∧ Below w.heap.size w w' := by
  have HS := Lib.hid fun w => summed_ok k n u s k' n' u' s' w
  rw [h] at HS
  have HD1 := Lib.hid fun w => cdouble_ok k n u s w
  have HD2 := Lib.hid fun w => cdouble_ok k' n' u' s' w
  have HN := Lib.hid fun w => neg_ok (dblV k' n' u') (dblV_lt k' n' hu') w
  have HA := Lib.hid fun w => add_any (dblV k n u) (negN (dblV k' n' u')) (dblV_lt k n hu) (negN_lt' (dblV_lt k' n' hu')) w
  have HR := Lib.hid fun w => vOfReal_ok (sumN (dblV k n u) (negN (dblV k' n' u'))) w
  have x1 : (k == 1) = true := by simpa using hk
  have x2 : (k' == 1) = false := by simpa using hk'
  clear hk hk'
  clear h
  obtain ⟨q1, q2, q3, q4, q5, q6, q7⟩ := places w.heap.size
  unfold realV
  unfold V at *
  go_enter Try.func14, Try.ntmps14
  go_wp2_with fail
  refine (HS.out _).mono ?_
  rintro e w1 ⟨rfl, hb1⟩
  obtain ⟨hT0, hsz, hb0⟩ := three_of w _ _ _ k n u s k' n' u' s' rfl
  rw [hsz] at hb1
  have hT1 := hT0.later hb1 rfl (by omega)
  have hz1 : w.heap.size + 3 ≤ w1.heap.size := by have := hb1.size; omega
  replace hb1 : Below w.heap.size w w1 := below_next hb0 hb1 ⟨rfl, rfl, rfl, rfl⟩ (by omega)
  clear hb0 hsz hT0
  obtain ⟨a0, a1, a2, a3, b0, b1, b2, b3, r0, r1, r2, r3, f0, f1, f2, f3⟩ := hT1.cells
  have hx1 := hb1
  go_wp2_with fail
  go_region_with (first | (go_at_call 35; ((with_reducible refine (HD1.out _).mono ?_)); rintro e w3 ⟨rfl, hb3⟩; have hz3 : w.heap.size + 3 ≤ w3.heap.size := (by have := hb3.size; (try simp at this); omega); have hT3 := hT1.later hb3 rfl (by (try simp); omega); have hx3 := below_next hx1 hb3 ⟨rfl, rfl, rfl, rfl⟩ (by (try simp); omega); obtain ⟨a0, a1, a2, a3, b0, b1, b2, b3, r0, r1, r2, r3, f0, f1, f2, f3⟩ := hT3.cells) | (go_at_call 35; ((with_reducible refine (HD2.out _).mono ?_)); rintro e w4 ⟨rfl, hb4⟩; have hz4 : w.heap.size + 3 ≤ w4.heap.size := (by have := hb4.size; (try simp at this); omega); have hT4 := hT3.later hb4 rfl (by (try simp); omega); have hx4 := below_next hx3 hb4 ⟨rfl, rfl, rfl, rfl⟩ (by (try simp); omega); obtain ⟨a0, a1, a2, a3, b0, b1, b2, b3, r0, r1, r2, r3, f0, f1, f2, f3⟩ := hT4.cells) | (go_at_call 40; ((with_reducible refine (HN.out _).mono ?_)); rintro e w' ⟨rfl, rfl⟩) | (go_at_call 34; ((with_reducible refine (HA.out _).mono ?_)); rintro e w' ⟨rfl, n5, rfl⟩) | (go_at_call 20; ((with_reducible refine (HR.out _).mono ?_)); rintro e w6 ⟨rfl, hb6⟩; have hz6 : w.heap.size + 3 ≤ w6.heap.size := (by have := hb6.size; (try simp at this); omega); have hT6 := hT4.later hb6 rfl (by (try simp); omega); have hx6 := below_next hx4 hb6 ⟨rfl, rfl, rfl, rfl⟩ (by (try simp); omega); obtain ⟨a0, a1, a2, a3, b0, b1, b2, b3, r0, r1, r2, r3, f0, f1, f2, f3⟩ := hT6.cells))
  all_goals go_wp2
  all_goals exact bodyPost_ret (v := realV (dblV k n u) (negN (dblV k' n' u'))) (by simp [results, Try.results14, go_sem, realV, V, r0, r1, r2, r3]) rfl ⟨rfl, four_cells hx6 (by omega) _ _ _ _⟩
set_option maxRecDepth 100000 in
set_option maxHeartbeats 1000000 in
theorem minus_whole (n : Int) (u : Nat) (s : ByteArray) (n' : Int) (u' : Nat) (s' : ByteArray) (h : sumB 1 n u s 1 n' u' s' = true) (ho : wholeOk n (-n') = true) (w : World) : Calls Try.prog 14 #[V 1 n u s, V 1 n' u' s'] w fun e w' => e = .returned (.tuple #[V 1 (n + (-n')) 0 ⟨#[]⟩, .bool true]) ∧ Below w.heap.size w w' := by
  obtain ⟨g1, g2, _, _⟩ := sumB_yes h
  have g3 := check_num_bounds g1
  have g4 := check_num_bounds g2
  have HS := Lib.hid fun w => summed_ok 1 n u s 1 n' u' s' w
  rw [h] at HS
  have HW := Lib.hid fun w => wsum_yes n (-n') g3 (by omega) ho w
  obtain ⟨g5, g6⟩ := g3
  obtain ⟨g7, g8⟩ := g4
  clear h ho g1 g2
  obtain ⟨q1, q2, q3, q4, q5, q6, q7⟩ := places w.heap.size
  unfold noneV at *
  unfold V at *
  go_enter Try.func14, Try.ntmps14
  go_wp2_with fail
  refine (HS.out _).mono ?_
  rintro e w1 ⟨rfl, hb1⟩
  obtain ⟨hT0, hsz, hb0⟩ := three_of w _ _ _ 1 n u s 1 n' u' s' rfl
  rw [hsz] at hb1
  have hT1 := hT0.later hb1 rfl (by omega)
  have hz1 : w.heap.size + 3 ≤ w1.heap.size := by have := hb1.size; omega
  replace hb1 : Below w.heap.size w w1 := below_next hb0 hb1 ⟨rfl, rfl, rfl, rfl⟩ (by omega)
  clear hb0 hsz hT0
  obtain ⟨a0, a1, a2, a3, b0, b1, b2, b3, r0, r1, r2, r3, f0, f1, f2, f3⟩ := hT1.cells
  go_wp2_with fail
  refine (HW.out _).mono ?_
  rintro e w2 ⟨rfl, hb2⟩
  have hz2 : w.heap.size + 3 ≤ w2.heap.size := by have := hb2.size; omega
  have hT2 := hT1.later hb2 rfl (by omega)
  have hx2 := below_next hb1 hb2 ⟨rfl, rfl, rfl, rfl⟩ (by omega)
  clear a0 a1 a2 a3 b0 b1 b2 b3 r0 r1 r2 r3 f0 f1 f2 f3
  obtain ⟨a0, a1, a2, a3, b0, b1, b2, b3, r0, r1, r2, r3, f0, f1, f2, f3⟩ := hT2.cells
  go_wp2_with fail
  exact bodyPost_ret (v := .tuple #[V 1 (n + (-n')) 0 ⟨#[]⟩, .bool true]) (by simp [results, Try.results14, go_sem, V, r0, r1, r2, r3]) rfl ⟨rfl, four_cells hx2 (by omega) _ _ _ _⟩
set_option maxRecDepth 100000 in
set_option maxHeartbeats 1000000 in
theorem minus_over (n : Int) (u : Nat) (s : ByteArray) (n' : Int) (u' : Nat) (s' : ByteArray) (h : sumB 1 n u s 1 n' u' s' = true) (ho : wholeOk n (-n') = false) (w : World) : Calls Try.prog 14 #[V 1 n u s, V 1 n' u' s'] w fun e w' => e = .returned (noneV) ∧ Below w.heap.size w w' := by
  obtain ⟨g1, g2, _, _⟩ := sumB_yes h
  have g3 := check_num_bounds g1
  have g4 := check_num_bounds g2
  have HS := Lib.hid fun w => summed_ok 1 n u s 1 n' u' s' w
  rw [h] at HS
  have HW := Lib.hid fun w => wsum_no n (-n') g3 (by omega) ho w
  obtain ⟨g5, g6⟩ := g3
  obtain ⟨g7, g8⟩ := g4
  clear h ho g1 g2
  obtain ⟨q1, q2, q3, q4, q5, q6, q7⟩ := places w.heap.size
  unfold noneV at *
  unfold V at *
  go_enter Try.func14, Try.ntmps14
  go_wp2_with fail
  refine (HS.out _).mono ?_
  rintro e w1 ⟨rfl, hb1⟩
  obtain ⟨hT0, hsz, hb0⟩ := three_of w _ _ _ 1 n u s 1 n' u' s' rfl
  rw [hsz] at hb1
  have hT1 := hT0.later hb1 rfl (by omega)
  have hz1 : w.heap.size + 3 ≤ w1.heap.size := by have := hb1.size; omega
  replace hb1 : Below w.heap.size w w1 := below_next hb0 hb1 ⟨rfl, rfl, rfl, rfl⟩ (by omega)
  clear hb0 hsz hT0
  obtain ⟨a0, a1, a2, a3, b0, b1, b2, b3, r0, r1, r2, r3, f0, f1, f2, f3⟩ := hT1.cells
  go_wp2_with fail
  refine (HW.out _).mono ?_
  rintro e w2 ⟨rfl, hb2⟩
  have hz2 : w.heap.size + 3 ≤ w2.heap.size := by have := hb2.size; omega
  have hT2 := hT1.later hb2 rfl (by omega)
  have hx2 := below_next hb1 hb2 ⟨rfl, rfl, rfl, rfl⟩ (by omega)
  clear a0 a1 a2 a3 b0 b1 b2 b3 r0 r1 r2 r3 f0 f1 f2 f3
  obtain ⟨a0, a1, a2, a3, b0, b1, b2, b3, r0, r1, r2, r3, f0, f1, f2, f3⟩ := hT2.cells
  go_wp2_with fail
  exact bodyPost_ret (v := noneV) (by simp [results, Try.results14, go_sem, noneV, V, r0, r1, r2, r3]) rfl ⟨rfl, four_cells hx2 (by omega) _ _ _ _⟩
theorem minus_ok (k n : Int) (u : Nat) (s : ByteArray) (k' n' : Int) (u' : Nat) (s' : ByteArray) (hu : u < 18446744073709551616) (hu' : u' < 18446744073709551616) (w : World) : Calls Try.prog 14 #[V k n u s, V k' n' u' s'] w fun e w' => e = .returned (minusV k n u s k' n' u' s') ∧ Below w.heap.size w w' := by
  unfold minusV
  cases h : sumB k n u s k' n' u' s'
  · exact minus_no k n u s k' n' u' s' h w
  · simp only [if_true]
    by_cases hk : k = 1 ∧ k' = 1
    · rw [if_pos hk]
      obtain ⟨rfl, rfl⟩ := hk
      unfold wsumV
      cases ho : wholeOk n (-n')
      · exact minus_over n u s n' u' s' h ho w
      · exact minus_whole n u s n' u' s' h ho w
    · rw [if_neg hk]
      by_cases h1 : k = 1
      · exact minus_real2 k n u s k' n' u' s' hu hu' h h1 (fun h2 => hk ⟨h1, h2⟩) w
      · exact minus_real1 k n u s k' n' u' s' hu hu' h h1 w
end Go.Proofs.Ytmlcpedbpjghhaa
