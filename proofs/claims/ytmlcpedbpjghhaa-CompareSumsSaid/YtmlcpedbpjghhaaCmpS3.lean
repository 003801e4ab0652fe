/-
  Plus of the document, walked.
-/
import Derived.Test.YtmlcpedbpjghhaaCmpS0
namespace Go.Proofs.Ytmlcpedbpjghhaa
open Go.RowKit

theorem sumN_lt {a b : Nat} (ha : a < 18446744073709551616) (hb : b < 18446744073709551616) : sumN a b < 18446744073709551616 := by
  rcases add_eq (a := a) (b := b) ha hb with ⟨_, h⟩ | ⟨r, _, h, _, hr⟩
  · rw [h]; unfold cleanU; omega
  · rw [h]; exact hr
set_option maxRecDepth 100000 in
set_option maxHeartbeats 1000000 in
theorem rplus_no1 (k n : Int) (u : Nat) (s : ByteArray) (k' n' : Int) (u' : Nat) (s' : ByteArray) (hu : u < 18446744073709551616) (hu' : u' < 18446744073709551616) (h : checkN k n u s ≠ 0) (w : World) : Calls Try.prog 13 #[V k n u s, V k' n' u' s'] w fun e w' => e = .returned (noneV) ∧ Below w.heap.size w w' := by
  have _x := hu'
  have t1 := bne_yes h
  have H1 := Lib.hid fun w => rCheck_ok k n u hu s w
  clear h
  have hv := fun w => build_none w
  obtain ⟨q1, q2, q3, q4, q5, q6, q7⟩ := places w.heap.size
  unfold noneV
  unfold V at *
  go_enter Try.func13, Try.ntmps13
  go_wp2_with fail
  refine (H1.out _).mono ?_
  rintro e w1 ⟨rfl, hb1⟩
  obtain ⟨hT0, hsz, hb0⟩ := four_of w _ _ _ _ k n u s k' n' u' s' rfl
  rw [hsz] at hb1
  have hT1 := hT0.later hb1 rfl (by omega)
  have hz1 : w.heap.size + 4 ≤ w1.heap.size := by have := hb1.size; omega
  replace hb1 : Below w.heap.size w w1 := below_next hb0 hb1 ⟨rfl, rfl, rfl, rfl⟩ (by omega)
  clear hb0 hsz hT0
  obtain ⟨a0, a1, a2, a3, b0, b1, b2, b3, r0, r1, r2, r3, f0, f1, f2, f3⟩ := hT1.1.cells
  obtain ⟨d0, d1, d2, d3⟩ := hT1.rest
  go_wp2_with fail
  exact bodyPost_ret (v := noneV) (by simp [results, Try.results13, go_sem, noneV, V, r0, r1, r2, r3]) rfl ⟨rfl, four_cells hb1 (by omega) _ _ _ _⟩
set_option maxRecDepth 100000 in
set_option maxHeartbeats 1000000 in
theorem rplus_no2 (k n : Int) (u : Nat) (s : ByteArray) (k' n' : Int) (u' : Nat) (s' : ByteArray) (hu : u < 18446744073709551616) (hu' : u' < 18446744073709551616) (h : checkN k n u s = 0) (h' : checkN k' n' u' s' ≠ 0) (w : World) : Calls Try.prog 13 #[V k n u s, V k' n' u' s'] w fun e w' => e = .returned (noneV) ∧ Below w.heap.size w w' := by
  have t1 := bne_no h
  have t2 := bne_yes h'
  have H1 := Lib.hid fun w => rCheck_ok k n u hu s w
  have H2 := Lib.hid fun w => rCheck_ok k' n' u' hu' s' w
  clear h h'
  have hv := fun w => build_none w
  obtain ⟨q1, q2, q3, q4, q5, q6, q7⟩ := places w.heap.size
  unfold noneV
  unfold V at *
  go_enter Try.func13, Try.ntmps13
  go_wp2_with fail
  refine (H1.out _).mono ?_
  rintro e w1 ⟨rfl, hb1⟩
  obtain ⟨hT0, hsz, hb0⟩ := four_of w _ _ _ _ k n u s k' n' u' s' rfl
  rw [hsz] at hb1
  have hT1 := hT0.later hb1 rfl (by omega)
  have hz1 : w.heap.size + 4 ≤ w1.heap.size := by have := hb1.size; omega
  replace hb1 : Below w.heap.size w w1 := below_next hb0 hb1 ⟨rfl, rfl, rfl, rfl⟩ (by omega)
  clear hb0 hsz hT0
  obtain ⟨a0, a1, a2, a3, b0, b1, b2, b3, r0, r1, r2, r3, f0, f1, f2, f3⟩ := hT1.1.cells
  obtain ⟨d0, d1, d2, d3⟩ := hT1.rest
  go_wp2_with fail
  clear a0 a1 a2 a3 b0 b1 b2 b3 r0 r1 r2 r3 f0 f1 f2 f3 d0 d1 d2 d3
  refine (H2.out _).mono ?_
  rintro e w2 ⟨rfl, hb2⟩
  have hz2 : w.heap.size + 4 ≤ w2.heap.size := by have := hb2.size; omega
  have hT2 := hT1.later hb2 rfl (by omega)
  replace hb2 : Below w.heap.size w w2 := below_next hb1 hb2 ⟨rfl, rfl, rfl, rfl⟩ (by omega)
  clear hb1 hz1 hT1 w1
  obtain ⟨a0, a1, a2, a3, b0, b1, b2, b3, r0, r1, r2, r3, f0, f1, f2, f3⟩ := hT2.1.cells
  obtain ⟨d0, d1, d2, d3⟩ := hT2.rest
  go_wp2_with fail
  exact bodyPost_ret (v := noneV) (by simp [results, Try.results13, go_sem, noneV, V, r0, r1, r2, r3]) rfl ⟨rfl, four_cells hb2 (by omega) _ _ _ _⟩
set_option maxRecDepth 100000 in
set_option maxHeartbeats 1000000 in
theorem rplus_no3 (k n : Int) (u : Nat) (s : ByteArray) (k' n' : Int) (u' : Nat) (s' : ByteArray) (hu : u < 18446744073709551616) (hu' : u' < 18446744073709551616) (h : checkN k n u s = 0) (h' : checkN k' n' u' s' = 0) (hk : (numB k && numB k') = false) (w : World) : Calls Try.prog 13 #[V k n u s, V k' n' u' s'] w fun e w' => e = .returned (noneV) ∧ Below w.heap.size w w' := by
  have t1 := bne_no h
  have t2 := bne_no h'
  have H1 := Lib.hid fun w => rCheck_ok k n u hu s w
  have H2 := Lib.hid fun w => rCheck_ok k' n' u' hu' s' w
  clear h h'
  have hv := fun w => build_none w
  obtain ⟨q1, q2, q3, q4, q5, q6, q7⟩ := places w.heap.size
  unfold noneV
  unfold V at *
  cases c1 : numB k <;> cases c2 : numB k'
  · clear hk
    go_enter Try.func13, Try.ntmps13
    go_wp2_with fail
    refine (H1.out _).mono ?_
    rintro e w1 ⟨rfl, hb1⟩
    obtain ⟨hT0, hsz, hb0⟩ := four_of w _ _ _ _ k n u s k' n' u' s' rfl
    rw [hsz] at hb1
    have hT1 := hT0.later hb1 rfl (by omega)
    have hz1 : w.heap.size + 4 ≤ w1.heap.size := by have := hb1.size; omega
    replace hb1 : Below w.heap.size w w1 := below_next hb0 hb1 ⟨rfl, rfl, rfl, rfl⟩ (by omega)
    clear hb0 hsz hT0
    obtain ⟨a0, a1, a2, a3, b0, b1, b2, b3, r0, r1, r2, r3, f0, f1, f2, f3⟩ := hT1.1.cells
    obtain ⟨d0, d1, d2, d3⟩ := hT1.rest
    go_wp2_with fail
    clear a0 a1 a2 a3 b0 b1 b2 b3 r0 r1 r2 r3 f0 f1 f2 f3 d0 d1 d2 d3
    refine (H2.out _).mono ?_
    rintro e w2 ⟨rfl, hb2⟩
    have hz2 : w.heap.size + 4 ≤ w2.heap.size := by have := hb2.size; omega
    have hT2 := hT1.later hb2 rfl (by omega)
    replace hb2 : Below w.heap.size w w2 := below_next hb1 hb2 ⟨rfl, rfl, rfl, rfl⟩ (by omega)
    clear hb1 hz1 hT1 w1
    obtain ⟨a0, a1, a2, a3, b0, b1, b2, b3, r0, r1, r2, r3, f0, f1, f2, f3⟩ := hT2.1.cells
    obtain ⟨d0, d1, d2, d3⟩ := hT2.rest
    go_wp2_with (go_at_call 30; refine (rnumber_v _ _).mono ?_; rintro e w' ⟨rfl, rfl⟩)
    exact bodyPost_ret (v := noneV) (by simp [results, Try.results13, go_sem, noneV, V, r0, r1, r2, r3]) rfl ⟨rfl, four_cells hb2 (by omega) _ _ _ _⟩
  · clear hk
    go_enter Try.func13, Try.ntmps13
    go_wp2_with fail
    refine (H1.out _).mono ?_
    rintro e w1 ⟨rfl, hb1⟩
    obtain ⟨hT0, hsz, hb0⟩ := four_of w _ _ _ _ k n u s k' n' u' s' rfl
    rw [hsz] at hb1
    have hT1 := hT0.later hb1 rfl (by omega)
    have hz1 : w.heap.size + 4 ≤ w1.heap.size := by have := hb1.size; omega
    replace hb1 : Below w.heap.size w w1 := below_next hb0 hb1 ⟨rfl, rfl, rfl, rfl⟩ (by omega)
    clear hb0 hsz hT0
    obtain ⟨a0, a1, a2, a3, b0, b1, b2, b3, r0, r1, r2, r3, f0, f1, f2, f3⟩ := hT1.1.cells
    obtain ⟨d0, d1, d2, d3⟩ := hT1.rest
    go_wp2_with fail
    clear a0 a1 a2 a3 b0 b1 b2 b3 r0 r1 r2 r3 f0 f1 f2 f3 d0 d1 d2 d3
    refine (H2.out _).mono ?_
    rintro e w2 ⟨rfl, hb2⟩
    have hz2 : w.heap.size + 4 ≤ w2.heap.size := by have := hb2.size; omega
    have hT2 := hT1.later hb2 rfl (by omega)
    replace hb2 : Below w.heap.size w w2 := below_next hb1 hb2 ⟨rfl, rfl, rfl, rfl⟩ (by omega)
    clear hb1 hz1 hT1 w1
    obtain ⟨a0, a1, a2, a3, b0, b1, b2, b3, r0, r1, r2, r3, f0, f1, f2, f3⟩ := hT2.1.cells
    obtain ⟨d0, d1, d2, d3⟩ := hT2.rest
    go_wp2_with (go_at_call 30; refine (rnumber_v _ _).mono ?_; rintro e w' ⟨rfl, rfl⟩)
    exact bodyPost_ret (v := noneV) (by simp [results, Try.results13, go_sem, noneV, V, r0, r1, r2, r3]) rfl ⟨rfl, four_cells hb2 (by omega) _ _ _ _⟩
  · clear hk
    go_enter Try.func13, Try.ntmps13
    go_wp2_with fail
    refine (H1.out _).mono ?_
    rintro e w1 ⟨rfl, hb1⟩
    obtain ⟨hT0, hsz, hb0⟩ := four_of w _ _ _ _ k n u s k' n' u' s' rfl
    rw [hsz] at hb1
    have hT1 := hT0.later hb1 rfl (by omega)
    have hz1 : w.heap.size + 4 ≤ w1.heap.size := by have := hb1.size; omega
    replace hb1 : Below w.heap.size w w1 := below_next hb0 hb1 ⟨rfl, rfl, rfl, rfl⟩ (by omega)
    clear hb0 hsz hT0
    obtain ⟨a0, a1, a2, a3, b0, b1, b2, b3, r0, r1, r2, r3, f0, f1, f2, f3⟩ := hT1.1.cells
    obtain ⟨d0, d1, d2, d3⟩ := hT1.rest
    go_wp2_with fail
    clear a0 a1 a2 a3 b0 b1 b2 b3 r0 r1 r2 r3 f0 f1 f2 f3 d0 d1 d2 d3
    refine (H2.out _).mono ?_
    rintro e w2 ⟨rfl, hb2⟩
    have hz2 : w.heap.size + 4 ≤ w2.heap.size := by have := hb2.size; omega
    have hT2 := hT1.later hb2 rfl (by omega)
    replace hb2 : Below w.heap.size w w2 := below_next hb1 hb2 ⟨rfl, rfl, rfl, rfl⟩ (by omega)
    clear hb1 hz1 hT1 w1
    obtain ⟨a0, a1, a2, a3, b0, b1, b2, b3, r0, r1, r2, r3, f0, f1, f2, f3⟩ := hT2.1.cells
    obtain ⟨d0, d1, d2, d3⟩ := hT2.rest
    go_wp2_with (go_at_call 30; refine (rnumber_v _ _).mono ?_; rintro e w' ⟨rfl, rfl⟩)
    exact bodyPost_ret (v := noneV) (by simp [results, Try.results13, go_sem, noneV, V, r0, r1, r2, r3]) rfl ⟨rfl, four_cells hb2 (by omega) _ _ _ _⟩
  · rw [c1, c2] at hk; cases hk
set_option maxRecDepth 100000 in
set_option maxHeartbeats 1000000 in
theorem rplus_real1 (k n : Int) (u : Nat) (s : ByteArray) (k' n' : Int) (u' : Nat) (s' : ByteArray) (hu : u < 18446744073709551616) (hu' : u' < 18446744073709551616) (hn : -9223372036854775808 ≤ n ∧ n ≤ 9223372036854775807) (hn' : -9223372036854775808 ≤ n' ∧ n' ≤ 9223372036854775807) (h : sumB k n u s k' n' u' s' = true) (hk : k = 3) (w : World) : Calls Try.prog 13 #[V k n u s, V k' n' u' s'] w fun e w' => e = .returned (realV (dblV k n u) (dblV k' n' u')) ∧ Below w.heap.size w w' := by
  obtain ⟨g1, g2, c1, c2⟩ := sumB_yes h
  have t1 := bne_no g1
  have t2 := bne_no g2
  have H1 := Lib.hid fun w => rCheck_ok k n u hu s w
  have H2 := Lib.hid fun w => rCheck_ok k' n' u' hu' s' w
  have HD1 := Lib.hid fun w => rbits_ok k n hn u s w
  have HD2 := Lib.hid fun w => rbits_ok k' n' hn' u' s' w
  have HA := Lib.hid fun w => refAdd_ok (dblV k n u) (dblV k' n' u') (dblV_lt k n hu) (dblV_lt k' n' hu') w
  have HR := Lib.hid fun w => rOfReal_ok (sumN (dblV k n u) (dblV k' n' u')) (sumN_lt (dblV_lt k n hu) (dblV_lt k' n' hu')) w
  have x1 : (k == 3) = true := by simpa using hk
  clear hk
  clear h g1 g2
  have hv := fun w => build_none w
  obtain ⟨q1, q2, q3, q4, q5, q6, q7⟩ := places w.heap.size
  unfold realV
  unfold V at *
  go_enter Try.func13, Try.ntmps13
  go_wp2_with fail
  refine (H1.out _).mono ?_
  rintro e w1 ⟨rfl, hb1⟩
  obtain ⟨hT0, hsz, hb0⟩ := four_of w _ _ _ _ k n u s k' n' u' s' rfl
  rw [hsz] at hb1
  have hT1 := hT0.later hb1 rfl (by omega)
  have hz1 : w.heap.size + 4 ≤ w1.heap.size := by have := hb1.size; omega
  replace hb1 : Below w.heap.size w w1 := below_next hb0 hb1 ⟨rfl, rfl, rfl, rfl⟩ (by omega)
  clear hb0 hsz hT0
  obtain ⟨a0, a1, a2, a3, b0, b1, b2, b3, r0, r1, r2, r3, f0, f1, f2, f3⟩ := hT1.1.cells
  obtain ⟨d0, d1, d2, d3⟩ := hT1.rest
  go_wp2_with fail
  clear a0 a1 a2 a3 b0 b1 b2 b3 r0 r1 r2 r3 f0 f1 f2 f3 d0 d1 d2 d3
  refine (H2.out _).mono ?_
  rintro e w2 ⟨rfl, hb2⟩
  have hz2 : w.heap.size + 4 ≤ w2.heap.size := by have := hb2.size; omega
  have hT2 := hT1.later hb2 rfl (by omega)
  replace hb2 : Below w.heap.size w w2 := below_next hb1 hb2 ⟨rfl, rfl, rfl, rfl⟩ (by omega)
  clear hb1 hz1 hT1 w1
  obtain ⟨a0, a1, a2, a3, b0, b1, b2, b3, r0, r1, r2, r3, f0, f1, f2, f3⟩ := hT2.1.cells
  obtain ⟨d0, d1, d2, d3⟩ := hT2.rest
  have hx2 := hb2
  go_wp2_with (go_at_call 30; refine (rnumber_v _ _).mono ?_; rintro e w' ⟨rfl, rfl⟩)
  go_region_with (first | (go_at_call 38; ((with_reducible refine (HD1.out _).mono ?_)); rintro e w3 ⟨rfl, hb3⟩; have hz3 : w.heap.size + 4 ≤ w3.heap.size := (by have := hb3.size; (try simp at this); omega); have hT3 := hT2.later hb3 rfl (by (try simp); omega); have hx3 := below_next hx2 hb3 ⟨rfl, rfl, rfl, rfl⟩ (by (try simp); omega); obtain ⟨a0, a1, a2, a3, b0, b1, b2, b3, r0, r1, r2, r3, f0, f1, f2, f3⟩ := hT3.1.cells) | (go_at_call 38; ((with_reducible refine (HD2.out _).mono ?_)); rintro e w4 ⟨rfl, hb4⟩; have hz4 : w.heap.size + 4 ≤ w4.heap.size := (by have := hb4.size; (try simp at this); omega); have hT4 := hT3.later hb4 rfl (by (try simp); omega); have hx4 := below_next hx3 hb4 ⟨rfl, rfl, rfl, rfl⟩ (by (try simp); omega); obtain ⟨a0, a1, a2, a3, b0, b1, b2, b3, r0, r1, r2, r3, f0, f1, f2, f3⟩ := hT4.1.cells) | (go_at_call 37; ((with_reducible refine (HA.out _).mono ?_)); rintro e w' ⟨rfl, rfl⟩) | (go_at_call 36; ((with_reducible refine (HR.out _).mono ?_)); rintro e w6 ⟨rfl, hb6⟩; have hz6 : w.heap.size + 4 ≤ w6.heap.size := (by have := hb6.size; (try simp at this); omega); have hT6 := hT4.later hb6 rfl (by (try simp); omega); have hx6 := below_next hx4 hb6 ⟨rfl, rfl, rfl, rfl⟩ (by (try simp); omega); obtain ⟨a0, a1, a2, a3, b0, b1, b2, b3, r0, r1, r2, r3, f0, f1, f2, f3⟩ := hT6.1.cells))
  all_goals go_wp2
  all_goals exact bodyPost_ret (v := realV (dblV k n u) (dblV k' n' u')) (by simp [results, Try.results13, go_sem, realV, V, r0, r1, r2, r3]) rfl ⟨rfl, four_cells hx6 (by omega) _ _ _ _⟩
set_option maxRecDepth 100000 in
set_option maxHeartbeats 1000000 in
theorem rplus_real2 (k n : Int) (u : Nat) (s : ByteArray) (k' n' : Int) (u' : Nat) (s' : ByteArray) (hu : u < 18446744073709551616) (hu' : u' < 18446744073709551616) (hn : -9223372036854775808 ≤ n ∧ n ≤ 9223372036854775807) (hn' : -9223372036854775808 ≤ n' ∧ n' ≤ 9223372036854775807) (h : sumB k n u s k' n' u' s' = true) (hk : k ≠ 3) (hk' : k' = 3) (w : World) : Calls Try.prog 13 #[V k n u s, V k' n' u' s'] w fun e w' => e = .returned (realV (dblV k n u) (dblV k' n' u')) ∧ Below w.heap.size w w' := by
  obtain ⟨g1, g2, c1, c2⟩ := sumB_yes h
  have t1 := bne_no g1
  have t2 := bne_no g2
  have H1 := Lib.hid fun w => rCheck_ok k n u hu s w
  have H2 := Lib.hid fun w => rCheck_ok k' n' u' hu' s' w
  have HD1 := Lib.hid fun w => rbits_ok k n hn u s w
  have HD2 := Lib.hid fun w => rbits_ok k' n' hn' u' s' w
  have HA := Lib.hid fun w => refAdd_ok (dblV k n u) (dblV k' n' u') (dblV_lt k n hu) (dblV_lt k' n' hu') w
  have HR := Lib.hid fun w => rOfReal_ok (sumN (dblV k n u) (dblV k' n' u')) (sumN_lt (dblV_lt k n hu) (dblV_lt k' n' hu')) w
  have x1 : (k == 3) = false := by simpa using hk
  have x2 : (k' == 3) = true := by simpa using hk'
  clear hk hk'
  clear h g1 g2
  have hv := fun w => build_none w
  obtain ⟨q1, q2, q3, q4, q5, q6, q7⟩ := places w.heap.size
  unfold realV
  unfold V at *
  go_enter Try.func13, Try.ntmps13
  go_wp2_with fail
  refine (H1.out _).mono ?_
  rintro e w1 ⟨rfl, hb1⟩
  obtain ⟨hT0, hsz, hb0⟩ := four_of w _ _ _ _ k n u s k' n' u' s' rfl
  rw [hsz] at hb1
  have hT1 := hT0.later hb1 rfl (by omega)
  have hz1 : w.heap.size + 4 ≤ w1.heap.size := by have := hb1.size; omega
  replace hb1 : Below w.heap.size w w1 := below_next hb0 hb1 ⟨rfl, rfl, rfl, rfl⟩ (by omega)
  clear hb0 hsz hT0
  obtain ⟨a0, a1, a2, a3, b0, b1, b2, b3, r0, r1, r2, r3, f0, f1, f2, f3⟩ := hT1.1.cells
  obtain ⟨d0, d1, d2, d3⟩ := hT1.rest
  go_wp2_with fail
  clear a0 a1 a2 a3 b0 b1 b2 b3 r0 r1 r2 r3 f0 f1 f2 f3 d0 d1 d2 d3
  refine (H2.out _).mono ?_
  rintro e w2 ⟨rfl, hb2⟩
  have hz2 : w.heap.size + 4 ≤ w2.heap.size := by have := hb2.size; omega
  have hT2 := hT1.later hb2 rfl (by omega)
  replace hb2 : Below w.heap.size w w2 := below_next hb1 hb2 ⟨rfl, rfl, rfl, rfl⟩ (by omega)
  clear hb1 hz1 hT1 w1
  obtain ⟨a0, a1, a2, a3, b0, b1, b2, b3, r0, r1, r2, r3, f0, f1, f2, f3⟩ := hT2.1.cells
  obtain ⟨d0, d1, d2, d3⟩ := hT2.rest
  have hx2 := hb2
  go_wp2_with (go_at_call 30; refine (rnumber_v _ _).mono ?_; rintro e w' ⟨rfl, rfl⟩)
  go_region_with (first | (go_at_call 38; ((with_reducible refine (HD1.out _).mono ?_)); rintro e w3 ⟨rfl, hb3⟩; have hz3 : w.heap.size + 4 ≤ w3.heap.size := (by have := hb3.size; (try simp at this); omega); have hT3 := hT2.later hb3 rfl (by (try simp); omega); have hx3 := below_next hx2 hb3 ⟨rfl, rfl, rfl, rfl⟩ (by (try simp); omega); obtain ⟨a0, a1, a2, a3, b0, b1, b2, b3, r0, r1, r2, r3, f0, f1, f2, f3⟩ := hT3.1.cells) | (go_at_call 38; ((with_reducible refine (HD2.out _).mono ?_)); rintro e w4 ⟨rfl, hb4⟩; have hz4 : w.heap.size + 4 ≤ w4.heap.size := (by have := hb4.size; (try simp at this); omega); have hT4 := hT3.later hb4 rfl (by (try simp); omega); have hx4 := below_next hx3 hb4 ⟨rfl, rfl, rfl, rfl⟩ (by (try simp); omega); obtain ⟨a0, a1, a2, a3, b0, b1, b2, b3, r0, r1, r2, r3, f0, f1, f2, f3⟩ := hT4.1.cells) | (go_at_call 37; ((with_reducible refine (HA.out _).mono ?_)); rintro e w' ⟨rfl, rfl⟩) | (go_at_call 36; ((with_reducible refine (HR.out _).mono ?_)); rintro e w6 ⟨rfl, hb6⟩; have hz6 : w.heap.size + 4 ≤ w6.heap.size := (by have := hb6.size; (try simp at this); omega); have hT6 := hT4.later hb6 rfl (by (try simp); omega); have hx6 := below_next hx4 hb6 ⟨rfl, rfl, rfl, rfl⟩ (by (try simp); omega); obtain ⟨a0, a1, a2, a3, b0, b1, b2, b3, r0, r1, r2, r3, f0, f1, f2, f3⟩ := hT6.1.cells))
  all_goals go_wp2
  all_goals exact bodyPost_ret (v := realV (dblV k n u) (dblV k' n' u')) (by simp [results, Try.results13, go_sem, realV, V, r0, r1, r2, r3]) rfl ⟨rfl, four_cells hx6 (by omega) _ _ _ _⟩
set_option maxRecDepth 100000 in
set_option maxHeartbeats 1000000 in
theorem rplus_whole1 (n : Int) (u : Nat) (s : ByteArray) (n' : Int) (u' : Nat) (s' : ByteArray) (hu : u < 18446744073709551616) (hu' : u' < 18446744073709551616) (h : sumB 1 n u s 1 n' u' s' = true) (ho : wholeOk n n' = true) (hs : 0 < n') (w : World) : Calls Try.prog 13 #[V 1 n u s, V 1 n' u' s'] w fun e w' => e = .returned (.tuple #[V 1 (n + n') 0 ⟨#[]⟩, .bool true]) ∧ Below w.heap.size w w' := by
  obtain ⟨g1, g2, c1, c2⟩ := sumB_yes h
  have g3 := check_num_bounds g1
  have g4 := check_num_bounds g2
  have t1 := bne_no g1
  have t2 := bne_no g2
  have H1 := Lib.hid fun w => rCheck_ok 1 n u hu s w
  have H2 := Lib.hid fun w => rCheck_ok 1 n' u' hu' s' w
  unfold wholeOk at ho
  simp only [Bool.and_eq_true, decide_eq_true_eq] at ho
  have x1 : ¬ 4611686018427387904 - n' < n := by omega
  have HR := Lib.hid fun w => rOfInt_ok (n + n') w
  have hcl : clip (n + n') = n + n' := by unfold clip; omega
  rw [hcl] at HR
  obtain ⟨o1, o2⟩ := ho
  clear hcl
  obtain ⟨g5, g6⟩ := g3
  obtain ⟨g7, g8⟩ := g4
  clear h g1 g2
  have hv := fun w => build_none w
  obtain ⟨q1, q2, q3, q4, q5, q6, q7⟩ := places w.heap.size
  unfold V at *
  skip
  go_enter Try.func13, Try.ntmps13
  go_wp2_with fail
  refine (H1.out _).mono ?_
  rintro e w1 ⟨rfl, hb1⟩
  obtain ⟨hT0, hsz, hb0⟩ := four_of w _ _ _ _ 1 n u s 1 n' u' s' rfl
  rw [hsz] at hb1
  have hT1 := hT0.later hb1 rfl (by omega)
  have hz1 : w.heap.size + 4 ≤ w1.heap.size := by have := hb1.size; omega
  replace hb1 : Below w.heap.size w w1 := below_next hb0 hb1 ⟨rfl, rfl, rfl, rfl⟩ (by omega)
  clear hb0 hsz hT0
  obtain ⟨a0, a1, a2, a3, b0, b1, b2, b3, r0, r1, r2, r3, f0, f1, f2, f3⟩ := hT1.1.cells
  obtain ⟨d0, d1, d2, d3⟩ := hT1.rest
  go_wp2_with fail
  clear a0 a1 a2 a3 b0 b1 b2 b3 r0 r1 r2 r3 f0 f1 f2 f3 d0 d1 d2 d3
  refine (H2.out _).mono ?_
  rintro e w2 ⟨rfl, hb2⟩
  have hz2 : w.heap.size + 4 ≤ w2.heap.size := by have := hb2.size; omega
  have hT2 := hT1.later hb2 rfl (by omega)
  replace hb2 : Below w.heap.size w w2 := below_next hb1 hb2 ⟨rfl, rfl, rfl, rfl⟩ (by omega)
  clear hb1 hz1 hT1 w1
  obtain ⟨a0, a1, a2, a3, b0, b1, b2, b3, r0, r1, r2, r3, f0, f1, f2, f3⟩ := hT2.1.cells
  obtain ⟨d0, d1, d2, d3⟩ := hT2.rest
  go_wp2_with (first | (go_at_call 30; refine (rnumber_v _ _).mono ?_; rintro e w' ⟨rfl, rfl⟩) | (go_at_call 39; refine (HR.out _).mono ?_; rintro e w3 ⟨rfl, hb3⟩; have hz3 : w.heap.size + 4 ≤ w3.heap.size := (by have := hb3.size; omega); have hT3 := hT2.later hb3 rfl (by omega); have hx3 := below_next hb2 hb3 ⟨rfl, rfl, rfl, rfl⟩ (by omega); obtain ⟨a0, a1, a2, a3, b0, b1, b2, b3, r0, r1, r2, r3, f0, f1, f2, f3⟩ := hT3.1.cells))
  exact bodyPost_ret (v := .tuple #[V 1 (n + n') 0 ⟨#[]⟩, .bool true]) (by simp [results, Try.results13, go_sem, V, r0, r1, r2, r3]) rfl ⟨rfl, four_cells hx3 (by omega) _ _ _ _⟩
set_option maxRecDepth 100000 in
set_option maxHeartbeats 1000000 in
theorem rplus_whole2 (n : Int) (u : Nat) (s : ByteArray) (n' : Int) (u' : Nat) (s' : ByteArray) (hu : u < 18446744073709551616) (hu' : u' < 18446744073709551616) (h : sumB 1 n u s 1 n' u' s' = true) (ho : wholeOk n n' = true) (hs : n' < 0) (w : World) : Calls Try.prog 13 #[V 1 n u s, V 1 n' u' s'] w fun e w' => e = .returned (.tuple #[V 1 (n + n') 0 ⟨#[]⟩, .bool true]) ∧ Below w.heap.size w w' := by
  obtain ⟨g1, g2, c1, c2⟩ := sumB_yes h
  have g3 := check_num_bounds g1
  have g4 := check_num_bounds g2
  have t1 := bne_no g1
  have t2 := bne_no g2
  have H1 := Lib.hid fun w => rCheck_ok 1 n u hu s w
  have H2 := Lib.hid fun w => rCheck_ok 1 n' u' hu' s' w
  unfold wholeOk at ho
  simp only [Bool.and_eq_true, decide_eq_true_eq] at ho
  have x1 : ¬ n < -4611686018427387904 - n' := by omega
  have HR := Lib.hid fun w => rOfInt_ok (n + n') w
  have hcl : clip (n + n') = n + n' := by unfold clip; omega
  rw [hcl] at HR
  obtain ⟨o1, o2⟩ := ho
  clear hcl
  obtain ⟨g5, g6⟩ := g3
  obtain ⟨g7, g8⟩ := g4
  clear h g1 g2
  have hv := fun w => build_none w
  obtain ⟨q1, q2, q3, q4, q5, q6, q7⟩ := places w.heap.size
  unfold V at *
  skip
  go_enter Try.func13, Try.ntmps13
  go_wp2_with fail
  refine (H1.out _).mono ?_
  rintro e w1 ⟨rfl, hb1⟩
  obtain ⟨hT0, hsz, hb0⟩ := four_of w _ _ _ _ 1 n u s 1 n' u' s' rfl
  rw [hsz] at hb1
  have hT1 := hT0.later hb1 rfl (by omega)
  have hz1 : w.heap.size + 4 ≤ w1.heap.size := by have := hb1.size; omega
  replace hb1 : Below w.heap.size w w1 := below_next hb0 hb1 ⟨rfl, rfl, rfl, rfl⟩ (by omega)
  clear hb0 hsz hT0
  obtain ⟨a0, a1, a2, a3, b0, b1, b2, b3, r0, r1, r2, r3, f0, f1, f2, f3⟩ := hT1.1.cells
  obtain ⟨d0, d1, d2, d3⟩ := hT1.rest
  go_wp2_with fail
  clear a0 a1 a2 a3 b0 b1 b2 b3 r0 r1 r2 r3 f0 f1 f2 f3 d0 d1 d2 d3
  refine (H2.out _).mono ?_
  rintro e w2 ⟨rfl, hb2⟩
  have hz2 : w.heap.size + 4 ≤ w2.heap.size := by have := hb2.size; omega
  have hT2 := hT1.later hb2 rfl (by omega)
  replace hb2 : Below w.heap.size w w2 := below_next hb1 hb2 ⟨rfl, rfl, rfl, rfl⟩ (by omega)
  clear hb1 hz1 hT1 w1
  obtain ⟨a0, a1, a2, a3, b0, b1, b2, b3, r0, r1, r2, r3, f0, f1, f2, f3⟩ := hT2.1.cells
  obtain ⟨d0, d1, d2, d3⟩ := hT2.rest
  go_wp2_with (first | (go_at_call 30; refine (rnumber_v _ _).mono ?_; rintro e w' ⟨rfl, rfl⟩) | (go_at_call 39; refine (HR.out _).mono ?_; rintro e w3 ⟨rfl, hb3⟩; have hz3 : w.heap.size + 4 ≤ w3.heap.size := (by have := hb3.size; omega); have hT3 := hT2.later hb3 rfl (by omega); have hx3 := below_next hb2 hb3 ⟨rfl, rfl, rfl, rfl⟩ (by omega); obtain ⟨a0, a1, a2, a3, b0, b1, b2, b3, r0, r1, r2, r3, f0, f1, f2, f3⟩ := hT3.1.cells))
  exact bodyPost_ret (v := .tuple #[V 1 (n + n') 0 ⟨#[]⟩, .bool true]) (by simp [results, Try.results13, go_sem, V, r0, r1, r2, r3]) rfl ⟨rfl, four_cells hx3 (by omega) _ _ _ _⟩
set_option maxRecDepth 100000 in
set_option maxHeartbeats 1000000 in
theorem rplus_whole3 (n : Int) (u : Nat) (s : ByteArray) (n' : Int) (u' : Nat) (s' : ByteArray) (hu : u < 18446744073709551616) (hu' : u' < 18446744073709551616) (h : sumB 1 n u s 1 n' u' s' = true) (ho : wholeOk n n' = true) (hs : n' = 0) (w : World) : Calls Try.prog 13 #[V 1 n u s, V 1 n' u' s'] w fun e w' => e = .returned (.tuple #[V 1 (n + n') 0 ⟨#[]⟩, .bool true]) ∧ Below w.heap.size w w' := by
  subst hs
  obtain ⟨g1, g2, c1, c2⟩ := sumB_yes h
  have g3 := check_num_bounds g1
  have g4 := check_num_bounds g2
  have t1 := bne_no g1
  have t2 := bne_no g2
  have H1 := Lib.hid fun w => rCheck_ok 1 n u hu s w
  have H2 := Lib.hid fun w => rCheck_ok 1 0 u' hu' s' w
  unfold wholeOk at ho
  simp only [Bool.and_eq_true, decide_eq_true_eq] at ho
  have HR := Lib.hid fun w => rOfInt_ok n w
  have hcl : clip n = n := by unfold clip; omega
  rw [hcl] at HR
  rw [Int.add_zero] at *
  clear hcl
  obtain ⟨g5, g6⟩ := g3
  obtain ⟨g7, g8⟩ := g4
  clear h g1 g2 ho
  have hv := fun w => build_none w
  obtain ⟨q1, q2, q3, q4, q5, q6, q7⟩ := places w.heap.size
  unfold V at *
  skip
  go_enter Try.func13, Try.ntmps13
  go_wp2_with fail
  refine (H1.out _).mono ?_
  rintro e w1 ⟨rfl, hb1⟩
  obtain ⟨hT0, hsz, hb0⟩ := four_of w _ _ _ _ 1 n u s 1 0 u' s' rfl
  rw [hsz] at hb1
  have hT1 := hT0.later hb1 rfl (by omega)
  have hz1 : w.heap.size + 4 ≤ w1.heap.size := by have := hb1.size; omega
  replace hb1 : Below w.heap.size w w1 := below_next hb0 hb1 ⟨rfl, rfl, rfl, rfl⟩ (by omega)
  clear hb0 hsz hT0
  obtain ⟨a0, a1, a2, a3, b0, b1, b2, b3, r0, r1, r2, r3, f0, f1, f2, f3⟩ := hT1.1.cells
  obtain ⟨d0, d1, d2, d3⟩ := hT1.rest
  go_wp2_with fail
  clear a0 a1 a2 a3 b0 b1 b2 b3 r0 r1 r2 r3 f0 f1 f2 f3 d0 d1 d2 d3
  refine (H2.out _).mono ?_
  rintro e w2 ⟨rfl, hb2⟩
  have hz2 : w.heap.size + 4 ≤ w2.heap.size := by have := hb2.size; omega
  have hT2 := hT1.later hb2 rfl (by omega)
  replace hb2 : Below w.heap.size w w2 := below_next hb1 hb2 ⟨rfl, rfl, rfl, rfl⟩ (by omega)
  clear hb1 hz1 hT1 w1
  obtain ⟨a0, a1, a2, a3, b0, b1, b2, b3, r0, r1, r2, r3, f0, f1, f2, f3⟩ := hT2.1.cells
  obtain ⟨d0, d1, d2, d3⟩ := hT2.rest
  go_wp2_with (first | (go_at_call 30; refine (rnumber_v _ _).mono ?_; rintro e w' ⟨rfl, rfl⟩) | (go_at_call 39; refine (HR.out _).mono ?_; rintro e w3 ⟨rfl, hb3⟩; have hz3 : w.heap.size + 4 ≤ w3.heap.size := (by have := hb3.size; omega); have hT3 := hT2.later hb3 rfl (by omega); have hx3 := below_next hb2 hb3 ⟨rfl, rfl, rfl, rfl⟩ (by omega); obtain ⟨a0, a1, a2, a3, b0, b1, b2, b3, r0, r1, r2, r3, f0, f1, f2, f3⟩ := hT3.1.cells))
  exact bodyPost_ret (v := .tuple #[V 1 (n) 0 ⟨#[]⟩, .bool true]) (by simp [results, Try.results13, go_sem, V, r0, r1, r2, r3]) rfl ⟨rfl, four_cells hx3 (by omega) _ _ _ _⟩
set_option maxRecDepth 100000 in
set_option maxHeartbeats 1000000 in
theorem rplus_over1 (n : Int) (u : Nat) (s : ByteArray) (n' : Int) (u' : Nat) (s' : ByteArray) (hu : u < 18446744073709551616) (hu' : u' < 18446744073709551616) (h : sumB 1 n u s 1 n' u' s' = true) (ho : wholeOk n n' = false) (hs : 0 < n') (w : World) : Calls Try.prog 13 #[V 1 n u s, V 1 n' u' s'] w fun e w' => e = .returned (noneV) ∧ Below w.heap.size w w' := by
  obtain ⟨g1, g2, c1, c2⟩ := sumB_yes h
  have g3 := check_num_bounds g1
  have g4 := check_num_bounds g2
  have t1 := bne_no g1
  have t2 := bne_no g2
  have H1 := Lib.hid fun w => rCheck_ok 1 n u hu s w
  have H2 := Lib.hid fun w => rCheck_ok 1 n' u' hu' s' w
  unfold wholeOk at ho
  simp only [Bool.and_eq_false_iff, decide_eq_false_iff_not] at ho
  have x1 : 4611686018427387904 - n' < n := by omega
  obtain ⟨g5, g6⟩ := g3
  obtain ⟨g7, g8⟩ := g4
  clear h g1 g2 ho
  have hv := fun w => build_none w
  obtain ⟨q1, q2, q3, q4, q5, q6, q7⟩ := places w.heap.size
  unfold noneV at *
  unfold V at *
  go_enter Try.func13, Try.ntmps13
  go_wp2_with fail
  refine (H1.out _).mono ?_
  rintro e w1 ⟨rfl, hb1⟩
  obtain ⟨hT0, hsz, hb0⟩ := four_of w _ _ _ _ 1 n u s 1 n' u' s' rfl
  rw [hsz] at hb1
  have hT1 := hT0.later hb1 rfl (by omega)
  have hz1 : w.heap.size + 4 ≤ w1.heap.size := by have := hb1.size; omega
  replace hb1 : Below w.heap.size w w1 := below_next hb0 hb1 ⟨rfl, rfl, rfl, rfl⟩ (by omega)
  clear hb0 hsz hT0
  obtain ⟨a0, a1, a2, a3, b0, b1, b2, b3, r0, r1, r2, r3, f0, f1, f2, f3⟩ := hT1.1.cells
  obtain ⟨d0, d1, d2, d3⟩ := hT1.rest
  go_wp2_with fail
  clear a0 a1 a2 a3 b0 b1 b2 b3 r0 r1 r2 r3 f0 f1 f2 f3 d0 d1 d2 d3
  refine (H2.out _).mono ?_
  rintro e w2 ⟨rfl, hb2⟩
  have hz2 : w.heap.size + 4 ≤ w2.heap.size := by have := hb2.size; omega
  have hT2 := hT1.later hb2 rfl (by omega)
  replace hb2 : Below w.heap.size w w2 := below_next hb1 hb2 ⟨rfl, rfl, rfl, rfl⟩ (by omega)
  clear hb1 hz1 hT1 w1
  obtain ⟨a0, a1, a2, a3, b0, b1, b2, b3, r0, r1, r2, r3, f0, f1, f2, f3⟩ := hT2.1.cells
  obtain ⟨d0, d1, d2, d3⟩ := hT2.rest
  go_wp2_with (go_at_call 30; refine (rnumber_v _ _).mono ?_; rintro e w' ⟨rfl, rfl⟩)
  exact bodyPost_ret (v := noneV) (by simp [results, Try.results13, go_sem, noneV, V, r0, r1, r2, r3]) rfl ⟨rfl, four_cells hb2 (by omega) _ _ _ _⟩
set_option maxRecDepth 100000 in
set_option maxHeartbeats 1000000 in
theorem rplus_over2 (n : Int) (u : Nat) (s : ByteArray) (n' : Int) (u' : Nat) (s' : ByteArray) (hu : u < 18446744073709551616) (hu' : u' < 18446744073709551616) (h : sumB 1 n u s 1 n' u' s' = true) (ho : wholeOk n n' = false) (hs : n' < 0) (w : World) : Calls Try.prog 13 #[V 1 n u s, V 1 n' u' s'] w fun e w' => e = .returned (noneV) ∧ Below w.heap.size w w' := by
  obtain ⟨g1, g2, c1, c2⟩ := sumB_yes h
  have g3 := check_num_bounds g1
  have g4 := check_num_bounds g2
  have t1 := bne_no g1
  have t2 := bne_no g2
  have H1 := Lib.hid fun w => rCheck_ok 1 n u hu s w
  have H2 := Lib.hid fun w => rCheck_ok 1 n' u' hu' s' w
  unfold wholeOk at ho
  simp only [Bool.and_eq_false_iff, decide_eq_false_iff_not] at ho
  have x1 : n < -4611686018427387904 - n' := by omega
  obtain ⟨g5, g6⟩ := g3
  obtain ⟨g7, g8⟩ := g4
  clear h g1 g2 ho
  have hv := fun w => build_none w
  obtain ⟨q1, q2, q3, q4, q5, q6, q7⟩ := places w.heap.size
  unfold noneV at *
  unfold V at *
  go_enter Try.func13, Try.ntmps13
  go_wp2_with fail
  refine (H1.out _).mono ?_
  rintro e w1 ⟨rfl, hb1⟩
  obtain ⟨hT0, hsz, hb0⟩ := four_of w _ _ _ _ 1 n u s 1 n' u' s' rfl
  rw [hsz] at hb1
  have hT1 := hT0.later hb1 rfl (by omega)
  have hz1 : w.heap.size + 4 ≤ w1.heap.size := by have := hb1.size; omega
  replace hb1 : Below w.heap.size w w1 := below_next hb0 hb1 ⟨rfl, rfl, rfl, rfl⟩ (by omega)
  clear hb0 hsz hT0
  obtain ⟨a0, a1, a2, a3, b0, b1, b2, b3, r0, r1, r2, r3, f0, f1, f2, f3⟩ := hT1.1.cells
  obtain ⟨d0, d1, d2, d3⟩ := hT1.rest
  go_wp2_with fail
  clear a0 a1 a2 a3 b0 b1 b2 b3 r0 r1 r2 r3 f0 f1 f2 f3 d0 d1 d2 d3
  refine (H2.out _).mono ?_
  rintro e w2 ⟨rfl, hb2⟩
  have hz2 : w.heap.size + 4 ≤ w2.heap.size := by have := hb2.size; omega
  have hT2 := hT1.later hb2 rfl (by omega)
  replace hb2 : Below w.heap.size w w2 := below_next hb1 hb2 ⟨rfl, rfl, rfl, rfl⟩ (by omega)
  clear hb1 hz1 hT1 w1
  obtain ⟨a0, a1, a2, a3, b0, b1, b2, b3, r0, r1, r2, r3, f0, f1, f2, f3⟩ := hT2.1.cells
  obtain ⟨d0, d1, d2, d3⟩ := hT2.rest
  go_wp2_with (go_at_call 30; refine (rnumber_v _ _).mono ?_; rintro e w' ⟨rfl, rfl⟩)
  exact bodyPost_ret (v := noneV) (by simp [results, Try.results13, go_sem, noneV, V, r0, r1, r2, r3]) rfl ⟨rfl, four_cells hb2 (by omega) _ _ _ _⟩
theorem rplus_ok (k n : Int) (u : Nat) (s : ByteArray) (k' n' : Int) (u' : Nat) (s' : ByteArray) (hu : u < 18446744073709551616) (hu' : u' < 18446744073709551616) (hn : -9223372036854775808 ≤ n ∧ n ≤ 9223372036854775807) (hn' : -9223372036854775808 ≤ n' ∧ n' ≤ 9223372036854775807) (w : World) : Calls Try.prog 13 #[V k n u s, V k' n' u' s'] w fun e w' => e = .returned (plusV k n u s k' n' u' s') ∧ Below w.heap.size w w' := by
  unfold plusV
  cases h : sumB k n u s k' n' u' s'
  · rw [if_neg (by simp)]
    by_cases h1 : checkN k n u s = 0
    · by_cases h2 : checkN k' n' u' s' = 0
      · refine rplus_no3 k n u s k' n' u' s' hu hu' h1 h2 ?_ w
        unfold sumB at h
        rw [beq_yes h1, beq_yes h2] at h
        exact h
      · exact rplus_no2 k n u s k' n' u' s' hu hu' h1 h2 w
    · exact rplus_no1 k n u s k' n' u' s' hu hu' h1 w
  · simp only [if_true]
    obtain ⟨_, _, c1, c2⟩ := sumB_yes h
    by_cases hk : k = 1 ∧ k' = 1
    · rw [if_pos hk]
      obtain ⟨rfl, rfl⟩ := hk
      unfold wsumV
      cases ho : wholeOk n n'
      · by_cases h1 : 0 < n'
        · exact rplus_over1 n u s n' u' s' hu hu' h ho h1 w
        · by_cases h2 : n' < 0
          · exact rplus_over2 n u s n' u' s' hu hu' h ho h2 w
          · exfalso
            have g := check_num_bounds (sumB_yes h).1
            unfold wholeOk at ho
            simp only [Bool.and_eq_false_iff, decide_eq_false_iff_not] at ho
            omega
      · by_cases h1 : 0 < n'
        · exact rplus_whole1 n u s n' u' s' hu hu' h ho h1 w
        · by_cases h2 : n' < 0
          · exact rplus_whole2 n u s n' u' s' hu hu' h ho h2 w
          · exact rplus_whole3 n u s n' u' s' hu hu' h ho (by omega) w
    · rw [if_neg hk]
      rcases num_cases c1 with h1 | h1
      · rcases num_cases c2 with h2 | h2
        · exact absurd ⟨h1, h2⟩ hk
        · exact rplus_real2 k n u s k' n' u' s' hu hu' hn hn' h (by omega) h2 w
      · exact rplus_real1 k n u s k' n' u' s' hu hu' hn hn' h h1 w
end Go.Proofs.Ytmlcpedbpjghhaa
