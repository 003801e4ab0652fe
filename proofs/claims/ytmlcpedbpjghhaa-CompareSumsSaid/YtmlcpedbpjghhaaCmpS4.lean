/-
  Minus of the document, walked.
-/
import Derived.Test.YtmlcpedbpjghhaaCmpS3
namespace Go.Proofs.Ytmlcpedbpjghhaa
open Go.RowKit

theorem clean_idem (u : Nat) : cleanN (cleanN u) = cleanN u := by
  have hc : isNan cleanU = true := by decide
  unfold cleanN
  cases h : isNan u
  · simp [h]
  · simp [hc]
theorem clean_neg {u : Nat} (hu : u < 18446744073709551616) : cleanN (negN u) = negN u := by
  rw [← neg_turn hu, clean_idem]
theorem as_no1 {k n : Int} {u : Nat} {s : ByteArray} {k' n' : Int} {u' : Nat} {s' : ByteArray} (h : checkN k' n' u' s' ≠ 0) : minusV k n u s k' n' u' s' = noneV := by
  unfold minusV sumB
  rw [beq_no h]
  simp
theorem as_no2 {k n : Int} {u : Nat} {s : ByteArray} {k' n' : Int} {u' : Nat} {s' : ByteArray} (h : numB k' = false) : minusV k n u s k' n' u' s' = noneV := by
  unfold minusV sumB
  rw [h]
  simp
theorem check_turn {n : Int} {u : Nat} {s : ByteArray} : checkN 1 (-n) u s = checkN 1 n u s := by
  have a : ∀ m : Int, checkN 1 m u s = if m < -4611686018427387904 ∨ 4611686018427387904 < m then 8 else if u = 0 ∧ s.toList.isEmpty = true then 0 else 2 := fun m => by unfold checkN; rw [if_neg (by omega), if_pos rfl]
  rw [a, a]
  by_cases h : n < -4611686018427387904 ∨ 4611686018427387904 < n
  · rw [if_pos h, if_pos (by omega)]
  · rw [if_neg h, if_neg (by omega)]
theorem as_whole {n : Int} {u : Nat} {s : ByteArray} {n' : Int} {u' : Nat} {s' : ByteArray} : plusV 1 n u s 1 (-n') u' s' = minusV 1 n u s 1 n' u' s' := by
  unfold plusV minusV sumB
  rw [check_turn]
  simp only [and_self, if_true]
theorem check_real {u : Nat} (h : cleanN u = u) : checkN 3 0 u ⟨#[]⟩ = 0 := by
  unfold checkN
  rw [if_neg (by omega), if_neg (by omega), if_neg (by omega), if_pos rfl, if_neg (fun h' => h' h), if_pos ⟨rfl, by decide +kernel⟩]
theorem as_real {k n : Int} {u : Nat} {s : ByteArray} {k' n' : Int} {u' : Nat} {s' : ByteArray} (hu' : u' < 18446744073709551616) (h : checkN k' n' u' s' = 0) (hk : numB k' = true) (hn : ¬ (k = 1 ∧ k' = 1)) :
    plusV k n u s 3 0 (cleanN (negN (dblV k' n' u'))) ⟨#[]⟩ = minusV k n u s k' n' u' s' := by
  have hd := dblV_lt k' n' hu'
  rw [clean_neg hd]
  unfold plusV minusV sumB
  rw [h, check_real (clean_neg hd), hk, if_neg hn, if_neg (by omega : ¬ (k = 1 ∧ (3 : Int) = 1))]
  rfl
theorem plus_parts (k n : Int) (u : Nat) (s : ByteArray) (k' n' : Int) (u' : Nat) (s' : ByteArray) : ∃ (P : Value) (b : Bool), plusV k n u s k' n' u' s' = .tuple #[P, .bool b] := by
  unfold plusV wsumV realV noneV
  split
  · split
    · exact ⟨_, _, rfl⟩
    · exact ⟨_, _, rfl⟩
  · exact ⟨_, _, rfl⟩
theorem plus_shape {k n : Int} {u : Nat} {s : ByteArray} {k' n' : Int} {u' : Nat} {s' : ByteArray} {P : Value} {b : Bool} (h : plusV k n u s k' n' u' s' = .tuple #[P, .bool b]) : ∃ (P0 P1 : Int) (P2 : Int) (P3 : ByteArray), P = .agg #[.int .u8 P0, .int .i64 P1, .int .u64 P2, .string P3] := by
  unfold plusV wsumV realV noneV V at h
  split at h
  · split at h
    · cases h; exact ⟨_, _, _, _, rfl⟩
    · cases h; exact ⟨_, _, _, _, rfl⟩
  · cases h; exact ⟨_, _, _, _, rfl⟩
theorem below_trans2 {B C : Nat} {w a c : World} (h : Below B w a) (k : Below C a c) (hC : B ≤ C) : Below B w c := h.trans (k.mono hC)
theorem lt_three {a b : Nat} (h : a + 3 ≤ b) : a < b ∧ a + 1 < b ∧ a + 1 + 1 < b := ⟨by omega, by omega, by omega⟩
set_option maxRecDepth 100000 in
set_option maxHeartbeats 1000000 in
theorem rminus_no1 (k n : Int) (u : Nat) (s : ByteArray) (k' n' : Int) (u' : Nat) (s' : ByteArray) (hu' : u' < 18446744073709551616) (h : checkN k' n' u' s' ≠ 0) (w : World) : Calls Try.prog 15 #[V k n u s, V k' n' u' s'] w fun e w' => e = .returned (noneV) ∧ Below w.heap.size w w' := by
  have t2 := bne_yes h
  have H2 := Lib.hid fun w => rCheck_ok k' n' u' hu' s' w
  clear h
  have hv := fun w => build_none w
  obtain ⟨q1, q2, q3, q4, q5, q6, q7⟩ := places w.heap.size
  unfold noneV
  unfold V at *
  go_enter Try.func15, Try.ntmps15
  go_wp2_with fail
  refine (H2.out _).mono ?_
  rintro e w1 ⟨rfl, hb1⟩
  obtain ⟨hT0, hsz, hb0⟩ := three_of w _ _ _ k n u s k' n' u' s' rfl
  rw [hsz] at hb1
  have hT1 := hT0.later hb1 rfl (by omega)
  have hz1 : w.heap.size + 3 ≤ w1.heap.size := by have := hb1.size; omega
  replace hb1 : Below w.heap.size w w1 := below_next hb0 hb1 ⟨rfl, rfl, rfl, rfl⟩ (by omega)
  clear hb0 hsz hT0
  obtain ⟨a0, a1, a2, a3, b0, b1, b2, b3, r0, r1, r2, r3, f0, f1, f2, f3⟩ := hT1.cells
  go_wp2_with fail
  exact bodyPost_ret (v := noneV) (by simp [results, Try.results15, go_sem, noneV, V, r0, r1, r2, r3]) rfl ⟨rfl, four_cells hb1 (by omega) _ _ _ _⟩
set_option maxRecDepth 100000 in
set_option maxHeartbeats 1000000 in
theorem rminus_no2 (k n : Int) (u : Nat) (s : ByteArray) (k' n' : Int) (u' : Nat) (s' : ByteArray) (hu' : u' < 18446744073709551616) (h : checkN k' n' u' s' = 0) (hk : k' ≠ 1) (c2 : numB k' = false) (w : World) : Calls Try.prog 15 #[V k n u s, V k' n' u' s'] w fun e w' => e = .returned (noneV) ∧ Below w.heap.size w w' := by
  have t2 := bne_no h
  have H2 := Lib.hid fun w => rCheck_ok k' n' u' hu' s' w
  have x1 : (k' == 1) = false := by simpa using hk
  clear hk
  clear h
  have hv := fun w => build_none w
  obtain ⟨q1, q2, q3, q4, q5, q6, q7⟩ := places w.heap.size
  unfold noneV
  unfold V at *
  go_enter Try.func15, Try.ntmps15
  go_wp2_with fail
  refine (H2.out _).mono ?_
  rintro e w1 ⟨rfl, hb1⟩
  obtain ⟨hT0, hsz, hb0⟩ := three_of w _ _ _ k n u s k' n' u' s' rfl
  rw [hsz] at hb1
  have hT1 := hT0.later hb1 rfl (by omega)
  have hz1 : w.heap.size + 3 ≤ w1.heap.size := by have := hb1.size; omega
  replace hb1 : Below w.heap.size w w1 := below_next hb0 hb1 ⟨rfl, rfl, rfl, rfl⟩ (by omega)
  clear hb0 hsz hT0
  obtain ⟨a0, a1, a2, a3, b0, b1, b2, b3, r0, r1, r2, r3, f0, f1, f2, f3⟩ := hT1.cells
  go_wp2_with (go_at_call 30; refine (rnumber_v _ _).mono ?_; rintro e w' ⟨rfl, rfl⟩)
  exact bodyPost_ret (v := noneV) (by simp [results, Try.results15, go_sem, noneV, V, r0, r1, r2, r3]) rfl ⟨rfl, four_cells hb1 (by omega) _ _ _ _⟩
set_option maxRecDepth 100000 in
set_option maxHeartbeats 1000000 in
theorem rminus_whole (n : Int) (u : Nat) (s : ByteArray) (n' : Int) (u' : Nat) (s' : ByteArray) (hu : u < 18446744073709551616) (hu' : u' < 18446744073709551616) (hn : -9223372036854775808 ≤ n ∧ n ≤ 9223372036854775807) (h : checkN 1 n' u' s' = 0) (w : World) : Calls Try.prog 15 #[V 1 n u s, V 1 n' u' s'] w fun e w' => e = .returned (plusV 1 n u s 1 (-n') u' s') ∧ Below w.heap.size w w' := by
  have hbn := check_num_bounds h
  have t2 := bne_no h
  have H2 := Lib.hid fun w => rCheck_ok 1 n' u' hu' s' w
  have HP := Lib.hid fun w => rplus_ok 1 n u s 1 (-n') u' s' hu hu' hn (by omega) w
  obtain ⟨P, b, hPb⟩ : ∃ (P : Value) (b : Bool), plusV 1 n u s 1 (-n') u' s' = .tuple #[P, .bool b] := plus_parts _ _ _ _ _ _ _ _
  obtain ⟨P0, P1, P2, P3, rfl⟩ := plus_shape hPb
  rw [hPb] at HP
  rw [hPb]
  obtain ⟨g1, g2⟩ := hbn
  clear h hPb
  obtain ⟨q1, q2, q3, q4, q5, q6, q7⟩ := places w.heap.size
  unfold V at *
  go_enter Try.func15, Try.ntmps15
  go_wp2_with fail
  refine (H2.out _).mono ?_
  rintro e w1 ⟨rfl, hb1⟩
  have fb : w1.frozen? ⟨w.heap.size + 1, 1, none⟩ = false := (hb1.frozen (p := ⟨w.heap.size + 1, 1, none⟩) (by simp)).trans (by go_simp)
  obtain ⟨hT0, hsz, hb0⟩ := three_of w _ _ _ 1 n u s 1 n' u' s' rfl
  rw [hsz] at hb1
  have hT1 := hT0.later hb1 rfl (by omega)
  have hz1 : w.heap.size + 3 ≤ w1.heap.size := by have := hb1.size; omega
  replace hb1 : Below w.heap.size w w1 := below_next hb0 hb1 ⟨rfl, rfl, rfl, rfl⟩ (by omega)
  clear hb0 hsz hT0
  obtain ⟨a0, a1, a2, a3, b0, b1, b2, b3, r0, r1, r2, r3, f0, f1, f2, f3⟩ := hT1.cells
  go_wp2_with fail
  refine (HP.out _).mono ?_
  rintro e w2 ⟨rfl, hb2⟩
  have hsz2 : w.heap.size + 3 ≤ w2.heap.size := by have := hb2.size; (try simp at this); omega
  obtain ⟨hc2, hf2⟩ := bcell hb2
  obtain ⟨y1, z1, v1⟩ := lt_three hz1
  go_wp2_with fail
  exact bodyPost_ret (v := .tuple #[.agg #[.int .u8 P0, .int .i64 P1, .int .u64 P2, .string P3], .bool b]) (by simp [results, Try.results15, go_sem, r0, r1, r2, r3, hc2, v1]) rfl ⟨rfl, four_cells (below_trans2 (hb1.setCell (by first | (simp; done) | (simp; omega) | omega) _) hb2 (by first | (simp; done) | (simp; omega) | omega)) (by omega) _ _ _ _⟩
set_option maxRecDepth 100000 in
set_option maxHeartbeats 1000000 in
theorem rminus_real1 (k n : Int) (u : Nat) (s : ByteArray) (k' n' : Int) (u' : Nat) (s' : ByteArray) (hu : u < 18446744073709551616) (hu' : u' < 18446744073709551616) (hn : -9223372036854775808 ≤ n ∧ n ≤ 9223372036854775807) (hn' : -9223372036854775808 ≤ n' ∧ n' ≤ 9223372036854775807) (h : checkN k' n' u' s' = 0) (hk : k' ≠ 1) (c2 : numB k' = true) (w : World) : Calls Try.prog 15 #[V k n u s, V k' n' u' s'] w fun e w' => e = .returned (plusV k n u s 3 0 (cleanN (negN (dblV k' n' u'))) ⟨#[]⟩) ∧ Below w.heap.size w w' := by
  have t2 := bne_no h
  have H2 := Lib.hid fun w => rCheck_ok k' n' u' hu' s' w
  have HD2 := Lib.hid fun w => rbits_ok k' n' hn' u' s' w
  have HN := Lib.hid fun w => refNeg_ok (dblV k' n' u') (dblV_lt k' n' hu') w
  have HR := Lib.hid fun w => rOfReal_ok (negN (dblV k' n' u')) (negN_lt' (dblV_lt k' n' hu')) w
  have HP := Lib.hid fun w => rplus_ok k n u s 3 0 (cleanN (negN (dblV k' n' u'))) ⟨#[]⟩ hu (cleanN_lt (negN_lt' (dblV_lt k' n' hu'))) hn (by omega) w
  obtain ⟨P, b, hPb⟩ : ∃ (P : Value) (b : Bool), plusV k n u s 3 0 (cleanN (negN (dblV k' n' u'))) ⟨#[]⟩ = .tuple #[P, .bool b] := plus_parts _ _ _ _ _ _ _ _
  obtain ⟨P0, P1, P2, P3, rfl⟩ := plus_shape hPb
  rw [hPb] at HP
  rw [hPb]
  clear h hPb
  have x1 : (k' == 1) = false := by simpa using hk
  clear hk
  obtain ⟨q1, q2, q3, q4, q5, q6, q7⟩ := places w.heap.size
  unfold V at *
  go_enter Try.func15, Try.ntmps15
  go_wp2_with fail
  refine (H2.out _).mono ?_
  rintro e w1 ⟨rfl, hb1⟩
  obtain ⟨hT0, hsz, hb0⟩ := three_of w _ _ _ k n u s k' n' u' s' rfl
  rw [hsz] at hb1
  have hT1 := hT0.later hb1 rfl (by omega)
  have hz1 : w.heap.size + 3 ≤ w1.heap.size := by have := hb1.size; omega
  replace hb1 : Below w.heap.size w w1 := below_next hb0 hb1 ⟨rfl, rfl, rfl, rfl⟩ (by omega)
  clear hb0 hsz hT0
  obtain ⟨a0, a1, a2, a3, b0, b1, b2, b3, r0, r1, r2, r3, f0, f1, f2, f3⟩ := hT1.cells
  have hx1 := hb1
  go_wp2_with (go_at_call 30; refine (rnumber_v _ _).mono ?_; rintro e w' ⟨rfl, rfl⟩)
  go_region_with (first | (go_at_call 38; ((with_reducible refine (HD2.out _).mono ?_)); rintro e w3 ⟨rfl, hb3⟩; have hz3 : w.heap.size + 3 ≤ w3.heap.size := (by have := hb3.size; (try simp at this); omega); have hT3 := hT1.later hb3 rfl (by (try simp); omega); have hx3 := below_next hx1 hb3 ⟨rfl, rfl, rfl, rfl⟩ (by (try simp); omega); obtain ⟨a0, a1, a2, a3, b0, b1, b2, b3, r0, r1, r2, r3, f0, f1, f2, f3⟩ := hT3.cells) | (go_at_call 41; ((with_reducible refine (HN.out _).mono ?_)); rintro e w' ⟨rfl, rfl⟩) | (go_at_call 36; ((with_reducible refine (HR.out _).mono ?_)); rintro e w4 ⟨rfl, hb4⟩; have hz4 : w.heap.size + 3 ≤ w4.heap.size := (by have := hb4.size; (try simp at this); omega); have hT4 := hT3.later hb4 rfl (by (try simp); omega); have hx4 := below_next hx3 hb4 ⟨rfl, rfl, rfl, rfl⟩ (by (try simp); omega); obtain ⟨a0, a1, a2, a3, b0, b1, b2, b3, r0, r1, r2, r3, f0, f1, f2, f3⟩ := hT4.cells) | (go_at_call 13; ((with_reducible refine (HP.out _).mono ?_)); rintro e w6 ⟨rfl, hb6⟩; have hz6 : w.heap.size + 3 ≤ w6.heap.size := (by have := hb6.size; (try simp at this); omega); have hT6 := hT4.later hb6 rfl (by (try simp); omega); have hx6 := below_next hx4 hb6 ⟨rfl, rfl, rfl, rfl⟩ (by (try simp); omega); obtain ⟨a0, a1, a2, a3, b0, b1, b2, b3, r0, r1, r2, r3, f0, f1, f2, f3⟩ := hT6.cells))
  all_goals go_wp2
  all_goals exact bodyPost_ret (v := .tuple #[.agg #[.int .u8 P0, .int .i64 P1, .int .u64 P2, .string P3], .bool b]) (by simp [results, Try.results15, go_sem, r0, r1, r2, r3]) rfl ⟨rfl, four_cells hx6 (by omega) _ _ _ _⟩
set_option maxRecDepth 100000 in
set_option maxHeartbeats 1000000 in
theorem rminus_real2 (k n : Int) (u : Nat) (s : ByteArray) (k' n' : Int) (u' : Nat) (s' : ByteArray) (hu : u < 18446744073709551616) (hu' : u' < 18446744073709551616) (hn : -9223372036854775808 ≤ n ∧ n ≤ 9223372036854775807) (hn' : -9223372036854775808 ≤ n' ∧ n' ≤ 9223372036854775807) (h : checkN k' n' u' s' = 0) (hk : k' = 1) (hk2 : k ≠ 1) (c2 : numB k' = true) (w : World) : Calls Try.prog 15 #[V k n u s, V k' n' u' s'] w fun e w' => e = .returned (plusV k n u s 3 0 (cleanN (negN (dblV k' n' u'))) ⟨#[]⟩) ∧ Below w.heap.size w w' := by
  have t2 := bne_no h
  have H2 := Lib.hid fun w => rCheck_ok k' n' u' hu' s' w
  have HD2 := Lib.hid fun w => rbits_ok k' n' hn' u' s' w
  have HN := Lib.hid fun w => refNeg_ok (dblV k' n' u') (dblV_lt k' n' hu') w
  have HR := Lib.hid fun w => rOfReal_ok (negN (dblV k' n' u')) (negN_lt' (dblV_lt k' n' hu')) w
  have HP := Lib.hid fun w => rplus_ok k n u s 3 0 (cleanN (negN (dblV k' n' u'))) ⟨#[]⟩ hu (cleanN_lt (negN_lt' (dblV_lt k' n' hu'))) hn (by omega) w
  obtain ⟨P, b, hPb⟩ : ∃ (P : Value) (b : Bool), plusV k n u s 3 0 (cleanN (negN (dblV k' n' u'))) ⟨#[]⟩ = .tuple #[P, .bool b] := plus_parts _ _ _ _ _ _ _ _
  obtain ⟨P0, P1, P2, P3, rfl⟩ := plus_shape hPb
  rw [hPb] at HP
  rw [hPb]
  clear h hPb
  have x1 : (k' == 1) = true := by simpa using hk
  have x2 : (k == 1) = false := by simpa using hk2
  clear hk hk2
  obtain ⟨q1, q2, q3, q4, q5, q6, q7⟩ := places w.heap.size
  unfold V at *
  go_enter Try.func15, Try.ntmps15
  go_wp2_with fail
  refine (H2.out _).mono ?_
  rintro e w1 ⟨rfl, hb1⟩
  obtain ⟨hT0, hsz, hb0⟩ := three_of w _ _ _ k n u s k' n' u' s' rfl
  rw [hsz] at hb1
  have hT1 := hT0.later hb1 rfl (by omega)
  have hz1 : w.heap.size + 3 ≤ w1.heap.size := by have := hb1.size; omega
  replace hb1 : Below w.heap.size w w1 := below_next hb0 hb1 ⟨rfl, rfl, rfl, rfl⟩ (by omega)
  clear hb0 hsz hT0
  obtain ⟨a0, a1, a2, a3, b0, b1, b2, b3, r0, r1, r2, r3, f0, f1, f2, f3⟩ := hT1.cells
  have hx1 := hb1
  go_wp2_with (go_at_call 30; refine (rnumber_v _ _).mono ?_; rintro e w' ⟨rfl, rfl⟩)
  go_region_with (first | (go_at_call 38; ((with_reducible refine (HD2.out _).mono ?_)); rintro e w3 ⟨rfl, hb3⟩; have hz3 : w.heap.size + 3 ≤ w3.heap.size := (by have := hb3.size; (try simp at this); omega); have hT3 := hT1.later hb3 rfl (by (try simp); omega); have hx3 := below_next hx1 hb3 ⟨rfl, rfl, rfl, rfl⟩ (by (try simp); omega); obtain ⟨a0, a1, a2, a3, b0, b1, b2, b3, r0, r1, r2, r3, f0, f1, f2, f3⟩ := hT3.cells) | (go_at_call 41; ((with_reducible refine (HN.out _).mono ?_)); rintro e w' ⟨rfl, rfl⟩) | (go_at_call 36; ((with_reducible refine (HR.out _).mono ?_)); rintro e w4 ⟨rfl, hb4⟩; have hz4 : w.heap.size + 3 ≤ w4.heap.size := (by have := hb4.size; (try simp at this); omega); have hT4 := hT3.later hb4 rfl (by (try simp); omega); have hx4 := below_next hx3 hb4 ⟨rfl, rfl, rfl, rfl⟩ (by (try simp); omega); obtain ⟨a0, a1, a2, a3, b0, b1, b2, b3, r0, r1, r2, r3, f0, f1, f2, f3⟩ := hT4.cells) | (go_at_call 13; ((with_reducible refine (HP.out _).mono ?_)); rintro e w6 ⟨rfl, hb6⟩; have hz6 : w.heap.size + 3 ≤ w6.heap.size := (by have := hb6.size; (try simp at this); omega); have hT6 := hT4.later hb6 rfl (by (try simp); omega); have hx6 := below_next hx4 hb6 ⟨rfl, rfl, rfl, rfl⟩ (by (try simp); omega); obtain ⟨a0, a1, a2, a3, b0, b1, b2, b3, r0, r1, r2, r3, f0, f1, f2, f3⟩ := hT6.cells))
  all_goals go_wp2
  all_goals exact bodyPost_ret (v := .tuple #[.agg #[.int .u8 P0, .int .i64 P1, .int .u64 P2, .string P3], .bool b]) (by simp [results, Try.results15, go_sem, r0, r1, r2, r3]) rfl ⟨rfl, four_cells hx6 (by omega) _ _ _ _⟩
theorem rminus_ok (k n : Int) (u : Nat) (s : ByteArray) (k' n' : Int) (u' : Nat) (s' : ByteArray) (hu : u < 18446744073709551616) (hu' : u' < 18446744073709551616) (hn : -9223372036854775808 ≤ n ∧ n ≤ 9223372036854775807) (hn' : -9223372036854775808 ≤ n' ∧ n' ≤ 9223372036854775807) (w : World) : Calls Try.prog 15 #[V k n u s, V k' n' u' s'] w fun e w' => e = .returned (minusV k n u s k' n' u' s') ∧ Below w.heap.size w w' := by
  by_cases h : checkN k' n' u' s' = 0
  · by_cases hk : k = 1 ∧ k' = 1
    · obtain ⟨rfl, rfl⟩ := hk
      rw [← as_whole]
      exact rminus_whole n u s n' u' s' hu hu' hn h w
    · cases c2 : numB k'
      · rw [as_no2 c2]
        exact rminus_no2 k n u s k' n' u' s' hu' h (fun h1 => by rw [h1] at c2; cases c2) c2 w
      · rw [← as_real hu' h c2 hk]
        by_cases h1 : k' = 1
        · exact rminus_real2 k n u s k' n' u' s' hu hu' hn hn' h h1 (fun h2 => hk ⟨h2, h1⟩) c2 w
        · exact rminus_real1 k n u s k' n' u' s' hu hu' hn hn' h h1 c2 w
  · rw [as_no1 h]
    exact rminus_no1 k n u s k' n' u' s' hu' h w
end Go.Proofs.Ytmlcpedbpjghhaa
