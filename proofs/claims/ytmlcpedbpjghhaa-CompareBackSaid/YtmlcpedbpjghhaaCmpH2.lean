/-
  Holds of the program, walked: the rest.
-/
import Derived.Test.YtmlcpedbpjghhaaCmpBox
namespace Go.Proofs.Ytmlcpedbpjghhaa
open Go.RowKit

set_option maxRecDepth 100000 in
set_option maxHeartbeats 1000000 in
theorem holds_flag (op k n : Int) (u : Nat) (s : ByteArray) (k' n' : Int) (u' : Nat) (s' : ByteArray) (h : checkN k n u s = 0) (h' : checkN k' n' u' s' = 0) (hk : k = 2) (hk' : k' = 2) (hx : op ≠ 1) (hy : op ≠ 2) (w : World) : Calls Try.prog 10 #[.int .u8 op, V k n u s, V k' n' u' s'] w fun e w' => e = .returned (.bool (false)) ∧ Below w.heap.size w w' := by
  subst hk hk'
  have t1 := bne_no h
  have t2 := bne_no h'
  have H1 := Lib.hid fun w => vCheck_ok 2 n u s w
  have H2 := Lib.hid fun w => vCheck_ok 2 n' u' s' w
  have x1 : (op == 1) = false := by simpa using hx
  have y1 : (op == 2) = false := by simpa using hy
  have x2 : (op != 1) = true := by simpa using hx
  have y2 : (op != 2) = true := by simpa using hy
  clear h h' hx hy
  unfold V at *
  go_enter Try.func10, Try.ntmps10
  go_wp2_with fail
  refine (H1.out _).mono ?_
  rintro e w1 ⟨rfl, hb1⟩
  obtain ⟨hA, hB⟩ := box_two w _ _ 2 n u s 2 n' u' s'
  have hA1 := hA.later hb1 (by simp; omega)
  have hB1 := hB.later hb1 (by simp)
  clear hA hB
  have hz : w.heap.size + 2 ≤ w1.heap.size := by have := hb1.size; simp at this; omega
  replace hb1 : Below w.heap.size w w1 := (two_boxes _ _ _).trans (hb1.mono (by simp; omega))
  have hA' := hA1
  have hB' := hB1
  unfold Box at hA' hB'
  obtain ⟨a0, a1, a2, a3⟩ := hA'
  obtain ⟨b0, b1, b2, b3⟩ := hB'
  go_wp2_with fail
  clear a0 a1 a2 a3 b0 b1 b2 b3
  refine (H2.out _).mono ?_
  rintro e w2 ⟨rfl, hb2⟩
  have hA2 := hA1.later hb2 (by omega)
  have hB2 := hB1.later hb2 (by omega)
  clear hA1 hB1
  have hz2 : w.heap.size + 2 ≤ w2.heap.size := by have := hb2.size; omega
  replace hb2 : Below w.heap.size w w2 := hb1.trans (hb2.mono (by omega))
  clear hb1 hz w1
  unfold Box at hA2 hB2
  obtain ⟨a0, a1, a2, a3⟩ := hA2
  obtain ⟨b0, b1, b2, b3⟩ := hB2
  go_wp2_with fail
  go_ret
  exact ⟨rfl, hb2⟩
set_option maxRecDepth 100000 in
set_option maxHeartbeats 1000000 in
theorem holds_un_s (op k n : Int) (u : Nat) (s : ByteArray) (k' n' : Int) (u' : Nat) (s' : ByteArray) (h : checkN k n u s = 0) (h' : checkN k' n' u' s' = 0) (hk : k' = k) (hf : k ≠ 2) (ho : ordB k n u k' n' u' = false)  (w : World) : Calls Try.prog 10 #[.int .u8 op, V k n u s, V k' n' u' s'] w fun e w' => e = .returned (.bool (op == 2)) ∧ Below w.heap.size w w' := by
  subst hk
  have hkk := check_kind h
  have f1 : (k' == 2) = false := by simpa using hf
  clear hf
  have t1 := bne_no h
  have t2 := bne_no h'
  have H1 := Lib.hid fun w => vCheck_ok k' n u s w
  have H2 := Lib.hid fun w => vCheck_ok k' n' u' s' w
  have HO := Lib.hid fun w => order_any k' n u s k' n' u' s' hkk hkk (by unfold both; simp) w
  rw [ho] at HO
  obtain ⟨c1, c3⟩ := num_vals
  clear h h' ho
  unfold V at *
  go_enter Try.func10, Try.ntmps10
  go_wp2_with fail
  refine (H1.out _).mono ?_
  rintro e w1 ⟨rfl, hb1⟩
  obtain ⟨hA, hB⟩ := box_two w _ _ k' n u s k' n' u' s'
  have hA1 := hA.later hb1 (by simp; omega)
  have hB1 := hB.later hb1 (by simp)
  clear hA hB
  have hz : w.heap.size + 2 ≤ w1.heap.size := by have := hb1.size; simp at this; omega
  replace hb1 : Below w.heap.size w w1 := (two_boxes _ _ _).trans (hb1.mono (by simp; omega))
  have hA' := hA1
  have hB' := hB1
  unfold Box at hA' hB'
  obtain ⟨a0, a1, a2, a3⟩ := hA'
  obtain ⟨b0, b1, b2, b3⟩ := hB'
  go_wp2_with fail
  clear a0 a1 a2 a3 b0 b1 b2 b3
  refine (H2.out _).mono ?_
  rintro e w2 ⟨rfl, hb2⟩
  have hA2 := hA1.later hb2 (by omega)
  have hB2 := hB1.later hb2 (by omega)
  clear hA1 hB1
  have hz2 : w.heap.size + 2 ≤ w2.heap.size := by have := hb2.size; omega
  replace hb2 : Below w.heap.size w w2 := hb1.trans (hb2.mono (by omega))
  clear hb1 hz w1
  unfold Box at hA2 hB2
  obtain ⟨a0, a1, a2, a3⟩ := hA2
  obtain ⟨b0, b1, b2, b3⟩ := hB2
  go_wp2_with (first | (go_at_call 26; refine (numeric_v _ _).mono ?_; rintro e w' ⟨rfl, rfl⟩) | (go_at_call 27; refine (HO.out _).mono ?_; rintro e w3 ⟨rfl, hb3⟩) | (go_at_call 28; refine (says_ok _ _ _).mono ?_; rintro e w' ⟨rfl, rfl⟩))
  go_ret
  exact ⟨rfl, hb2.trans (hb3.mono (by omega))⟩
set_option maxRecDepth 100000 in
set_option maxHeartbeats 1000000 in
theorem holds_un_a (op k n : Int) (u : Nat) (s : ByteArray) (k' n' : Int) (u' : Nat) (s' : ByteArray) (h : checkN k n u s = 0) (h' : checkN k' n' u' s' = 0) (hk : k = 1) (hk' : k' = 3) (ho : ordB k n u k' n' u' = false)  (w : World) : Calls Try.prog 10 #[.int .u8 op, V k n u s, V k' n' u' s'] w fun e w' => e = .returned (.bool (op == 2)) ∧ Below w.heap.size w w' := by
  subst hk hk'
  have t1 := bne_no h
  have t2 := bne_no h'
  have H1 := Lib.hid fun w => vCheck_ok 1 n u s w
  have H2 := Lib.hid fun w => vCheck_ok 3 n' u' s' w
  have HO := Lib.hid fun w => order_any 1 n u s 3 n' u' s' ⟨by omega, by omega⟩ ⟨by omega, by omega⟩ rfl w
  rw [ho] at HO
  obtain ⟨c1, c3⟩ := num_vals
  clear h h' ho
  unfold V at *
  go_enter Try.func10, Try.ntmps10
  go_wp2_with fail
  refine (H1.out _).mono ?_
  rintro e w1 ⟨rfl, hb1⟩
  obtain ⟨hA, hB⟩ := box_two w _ _ 1 n u s 3 n' u' s'
  have hA1 := hA.later hb1 (by simp; omega)
  have hB1 := hB.later hb1 (by simp)
  clear hA hB
  have hz : w.heap.size + 2 ≤ w1.heap.size := by have := hb1.size; simp at this; omega
  replace hb1 : Below w.heap.size w w1 := (two_boxes _ _ _).trans (hb1.mono (by simp; omega))
  have hA' := hA1
  have hB' := hB1
  unfold Box at hA' hB'
  obtain ⟨a0, a1, a2, a3⟩ := hA'
  obtain ⟨b0, b1, b2, b3⟩ := hB'
  go_wp2_with fail
  clear a0 a1 a2 a3 b0 b1 b2 b3
  refine (H2.out _).mono ?_
  rintro e w2 ⟨rfl, hb2⟩
  have hA2 := hA1.later hb2 (by omega)
  have hB2 := hB1.later hb2 (by omega)
  clear hA1 hB1
  have hz2 : w.heap.size + 2 ≤ w2.heap.size := by have := hb2.size; omega
  replace hb2 : Below w.heap.size w w2 := hb1.trans (hb2.mono (by omega))
  clear hb1 hz w1
  unfold Box at hA2 hB2
  obtain ⟨a0, a1, a2, a3⟩ := hA2
  obtain ⟨b0, b1, b2, b3⟩ := hB2
  go_wp2_with (first | (go_at_call 26; refine (numeric_v _ _).mono ?_; rintro e w' ⟨rfl, rfl⟩) | (go_at_call 27; refine (HO.out _).mono ?_; rintro e w3 ⟨rfl, hb3⟩) | (go_at_call 28; refine (says_ok _ _ _).mono ?_; rintro e w' ⟨rfl, rfl⟩))
  go_ret
  exact ⟨rfl, hb2.trans (hb3.mono (by omega))⟩
set_option maxRecDepth 100000 in
set_option maxHeartbeats 1000000 in
theorem holds_un_b (op k n : Int) (u : Nat) (s : ByteArray) (k' n' : Int) (u' : Nat) (s' : ByteArray) (h : checkN k n u s = 0) (h' : checkN k' n' u' s' = 0) (hk : k = 3) (hk' : k' = 1) (ho : ordB k n u k' n' u' = false)  (w : World) : Calls Try.prog 10 #[.int .u8 op, V k n u s, V k' n' u' s'] w fun e w' => e = .returned (.bool (op == 2)) ∧ Below w.heap.size w w' := by
  subst hk hk'
  have t1 := bne_no h
  have t2 := bne_no h'
  have H1 := Lib.hid fun w => vCheck_ok 3 n u s w
  have H2 := Lib.hid fun w => vCheck_ok 1 n' u' s' w
  have HO := Lib.hid fun w => order_any 3 n u s 1 n' u' s' ⟨by omega, by omega⟩ ⟨by omega, by omega⟩ rfl w
  rw [ho] at HO
  obtain ⟨c1, c3⟩ := num_vals
  clear h h' ho
  unfold V at *
  go_enter Try.func10, Try.ntmps10
  go_wp2_with fail
  refine (H1.out _).mono ?_
  rintro e w1 ⟨rfl, hb1⟩
  obtain ⟨hA, hB⟩ := box_two w _ _ 3 n u s 1 n' u' s'
  have hA1 := hA.later hb1 (by simp; omega)
  have hB1 := hB.later hb1 (by simp)
  clear hA hB
  have hz : w.heap.size + 2 ≤ w1.heap.size := by have := hb1.size; simp at this; omega
  replace hb1 : Below w.heap.size w w1 := (two_boxes _ _ _).trans (hb1.mono (by simp; omega))
  have hA' := hA1
  have hB' := hB1
  unfold Box at hA' hB'
  obtain ⟨a0, a1, a2, a3⟩ := hA'
  obtain ⟨b0, b1, b2, b3⟩ := hB'
  go_wp2_with fail
  clear a0 a1 a2 a3 b0 b1 b2 b3
  refine (H2.out _).mono ?_
  rintro e w2 ⟨rfl, hb2⟩
  have hA2 := hA1.later hb2 (by omega)
  have hB2 := hB1.later hb2 (by omega)
  clear hA1 hB1
  have hz2 : w.heap.size + 2 ≤ w2.heap.size := by have := hb2.size; omega
  replace hb2 : Below w.heap.size w w2 := hb1.trans (hb2.mono (by omega))
  clear hb1 hz w1
  unfold Box at hA2 hB2
  obtain ⟨a0, a1, a2, a3⟩ := hA2
  obtain ⟨b0, b1, b2, b3⟩ := hB2
  go_wp2_with (first | (go_at_call 26; refine (numeric_v _ _).mono ?_; rintro e w' ⟨rfl, rfl⟩) | (go_at_call 27; refine (HO.out _).mono ?_; rintro e w3 ⟨rfl, hb3⟩) | (go_at_call 28; refine (says_ok _ _ _).mono ?_; rintro e w' ⟨rfl, rfl⟩))
  go_ret
  exact ⟨rfl, hb2.trans (hb3.mono (by omega))⟩
set_option maxRecDepth 100000 in
set_option maxHeartbeats 1000000 in
theorem holds_is_s (op k n : Int) (u : Nat) (s : ByteArray) (k' n' : Int) (u' : Nat) (s' : ByteArray) (h : checkN k n u s = 0) (h' : checkN k' n' u' s' = 0) (hk : k' = k) (hf : k ≠ 2) (ho : ordB k n u k' n' u' = true)  (w : World) : Calls Try.prog 10 #[.int .u8 op, V k n u s, V k' n' u' s'] w fun e w' => e = .returned (.bool (saysB op (ordI k n u s k' n' u' s'))) ∧ Below w.heap.size w w' := by
  subst hk
  have hkk := check_kind h
  have f1 : (k' == 2) = false := by simpa using hf
  clear hf
  have t1 := bne_no h
  have t2 := bne_no h'
  have H1 := Lib.hid fun w => vCheck_ok k' n u s w
  have H2 := Lib.hid fun w => vCheck_ok k' n' u' s' w
  have HO := Lib.hid fun w => order_any k' n u s k' n' u' s' hkk hkk (by unfold both; simp) w
  rw [ho] at HO
  obtain ⟨c1, c3⟩ := num_vals
  clear h h' ho
  unfold V at *
  go_enter Try.func10, Try.ntmps10
  go_wp2_with fail
  refine (H1.out _).mono ?_
  rintro e w1 ⟨rfl, hb1⟩
  obtain ⟨hA, hB⟩ := box_two w _ _ k' n u s k' n' u' s'
  have hA1 := hA.later hb1 (by simp; omega)
  have hB1 := hB.later hb1 (by simp)
  clear hA hB
  have hz : w.heap.size + 2 ≤ w1.heap.size := by have := hb1.size; simp at this; omega
  replace hb1 : Below w.heap.size w w1 := (two_boxes _ _ _).trans (hb1.mono (by simp; omega))
  have hA' := hA1
  have hB' := hB1
  unfold Box at hA' hB'
  obtain ⟨a0, a1, a2, a3⟩ := hA'
  obtain ⟨b0, b1, b2, b3⟩ := hB'
  go_wp2_with fail
  clear a0 a1 a2 a3 b0 b1 b2 b3
  refine (H2.out _).mono ?_
  rintro e w2 ⟨rfl, hb2⟩
  have hA2 := hA1.later hb2 (by omega)
  have hB2 := hB1.later hb2 (by omega)
  clear hA1 hB1
  have hz2 : w.heap.size + 2 ≤ w2.heap.size := by have := hb2.size; omega
  replace hb2 : Below w.heap.size w w2 := hb1.trans (hb2.mono (by omega))
  clear hb1 hz w1
  unfold Box at hA2 hB2
  obtain ⟨a0, a1, a2, a3⟩ := hA2
  obtain ⟨b0, b1, b2, b3⟩ := hB2
  go_wp2_with (first | (go_at_call 26; refine (numeric_v _ _).mono ?_; rintro e w' ⟨rfl, rfl⟩) | (go_at_call 27; refine (HO.out _).mono ?_; rintro e w3 ⟨rfl, hb3⟩) | (go_at_call 28; refine (says_ok _ _ _).mono ?_; rintro e w' ⟨rfl, rfl⟩))
  go_ret
  exact ⟨rfl, hb2.trans (hb3.mono (by omega))⟩
set_option maxRecDepth 100000 in
set_option maxHeartbeats 1000000 in
theorem holds_is_f1 (op k n : Int) (u : Nat) (s : ByteArray) (k' n' : Int) (u' : Nat) (s' : ByteArray) (h : checkN k n u s = 0) (h' : checkN k' n' u' s' = 0) (hk : k = 2) (hk' : k' = 2) (hx : op = 1) (ho : ordB k n u k' n' u' = true)  (w : World) : Calls Try.prog 10 #[.int .u8 op, V k n u s, V k' n' u' s'] w fun e w' => e = .returned (.bool (saysB op (ordI k n u s k' n' u' s'))) ∧ Below w.heap.size w w' := by
  subst hk hk'
  have x1 : (op == 1) = true := by simpa using hx
  have x2 : (op != 1) = false := by simpa using hx
  clear hx
  have t1 := bne_no h
  have t2 := bne_no h'
  have H1 := Lib.hid fun w => vCheck_ok 2 n u s w
  have H2 := Lib.hid fun w => vCheck_ok 2 n' u' s' w
  have HO := Lib.hid fun w => order_any 2 n u s 2 n' u' s' ⟨by omega, by omega⟩ ⟨by omega, by omega⟩ rfl w
  rw [ho] at HO
  obtain ⟨c1, c3⟩ := num_vals
  clear h h' ho
  unfold V at *
  go_enter Try.func10, Try.ntmps10
  go_wp2_with fail
  refine (H1.out _).mono ?_
  rintro e w1 ⟨rfl, hb1⟩
  obtain ⟨hA, hB⟩ := box_two w _ _ 2 n u s 2 n' u' s'
  have hA1 := hA.later hb1 (by simp; omega)
  have hB1 := hB.later hb1 (by simp)
  clear hA hB
  have hz : w.heap.size + 2 ≤ w1.heap.size := by have := hb1.size; simp at this; omega
  replace hb1 : Below w.heap.size w w1 := (two_boxes _ _ _).trans (hb1.mono (by simp; omega))
  have hA' := hA1
  have hB' := hB1
  unfold Box at hA' hB'
  obtain ⟨a0, a1, a2, a3⟩ := hA'
  obtain ⟨b0, b1, b2, b3⟩ := hB'
  go_wp2_with fail
  clear a0 a1 a2 a3 b0 b1 b2 b3
  refine (H2.out _).mono ?_
  rintro e w2 ⟨rfl, hb2⟩
  have hA2 := hA1.later hb2 (by omega)
  have hB2 := hB1.later hb2 (by omega)
  clear hA1 hB1
  have hz2 : w.heap.size + 2 ≤ w2.heap.size := by have := hb2.size; omega
  replace hb2 : Below w.heap.size w w2 := hb1.trans (hb2.mono (by omega))
  clear hb1 hz w1
  unfold Box at hA2 hB2
  obtain ⟨a0, a1, a2, a3⟩ := hA2
  obtain ⟨b0, b1, b2, b3⟩ := hB2
  go_wp2_with (first | (go_at_call 26; refine (numeric_v _ _).mono ?_; rintro e w' ⟨rfl, rfl⟩) | (go_at_call 27; refine (HO.out _).mono ?_; rintro e w3 ⟨rfl, hb3⟩) | (go_at_call 28; refine (says_ok _ _ _).mono ?_; rintro e w' ⟨rfl, rfl⟩))
  go_ret
  exact ⟨rfl, hb2.trans (hb3.mono (by omega))⟩
set_option maxRecDepth 100000 in
set_option maxHeartbeats 1000000 in
theorem holds_is_f2 (op k n : Int) (u : Nat) (s : ByteArray) (k' n' : Int) (u' : Nat) (s' : ByteArray) (h : checkN k n u s = 0) (h' : checkN k' n' u' s' = 0) (hk : k = 2) (hk' : k' = 2) (hx : op = 2) (ho : ordB k n u k' n' u' = true)  (w : World) : Calls Try.prog 10 #[.int .u8 op, V k n u s, V k' n' u' s'] w fun e w' => e = .returned (.bool (saysB op (ordI k n u s k' n' u' s'))) ∧ Below w.heap.size w w' := by
  subst hk hk'
  have x1 : (op == 2) = true := by simpa using hx
  have x2 : (op != 2) = false := by simpa using hx
  have x3 : (op == 1) = false := by rw [hx]; rfl
  have x4 : (op != 1) = true := by rw [hx]; rfl
  clear hx
  have t1 := bne_no h
  have t2 := bne_no h'
  have H1 := Lib.hid fun w => vCheck_ok 2 n u s w
  have H2 := Lib.hid fun w => vCheck_ok 2 n' u' s' w
  have HO := Lib.hid fun w => order_any 2 n u s 2 n' u' s' ⟨by omega, by omega⟩ ⟨by omega, by omega⟩ rfl w
  rw [ho] at HO
  obtain ⟨c1, c3⟩ := num_vals
  clear h h' ho
  unfold V at *
  go_enter Try.func10, Try.ntmps10
  go_wp2_with fail
  refine (H1.out _).mono ?_
  rintro e w1 ⟨rfl, hb1⟩
  obtain ⟨hA, hB⟩ := box_two w _ _ 2 n u s 2 n' u' s'
  have hA1 := hA.later hb1 (by simp; omega)
  have hB1 := hB.later hb1 (by simp)
  clear hA hB
  have hz : w.heap.size + 2 ≤ w1.heap.size := by have := hb1.size; simp at this; omega
  replace hb1 : Below w.heap.size w w1 := (two_boxes _ _ _).trans (hb1.mono (by simp; omega))
  have hA' := hA1
  have hB' := hB1
  unfold Box at hA' hB'
  obtain ⟨a0, a1, a2, a3⟩ := hA'
  obtain ⟨b0, b1, b2, b3⟩ := hB'
  go_wp2_with fail
  clear a0 a1 a2 a3 b0 b1 b2 b3
  refine (H2.out _).mono ?_
  rintro e w2 ⟨rfl, hb2⟩
  have hA2 := hA1.later hb2 (by omega)
  have hB2 := hB1.later hb2 (by omega)
  clear hA1 hB1
  have hz2 : w.heap.size + 2 ≤ w2.heap.size := by have := hb2.size; omega
  replace hb2 : Below w.heap.size w w2 := hb1.trans (hb2.mono (by omega))
  clear hb1 hz w1
  unfold Box at hA2 hB2
  obtain ⟨a0, a1, a2, a3⟩ := hA2
  obtain ⟨b0, b1, b2, b3⟩ := hB2
  go_wp2_with (first | (go_at_call 26; refine (numeric_v _ _).mono ?_; rintro e w' ⟨rfl, rfl⟩) | (go_at_call 27; refine (HO.out _).mono ?_; rintro e w3 ⟨rfl, hb3⟩) | (go_at_call 28; refine (says_ok _ _ _).mono ?_; rintro e w' ⟨rfl, rfl⟩))
  go_ret
  exact ⟨rfl, hb2.trans (hb3.mono (by omega))⟩
set_option maxRecDepth 100000 in
set_option maxHeartbeats 1000000 in
theorem holds_is_a (op k n : Int) (u : Nat) (s : ByteArray) (k' n' : Int) (u' : Nat) (s' : ByteArray) (h : checkN k n u s = 0) (h' : checkN k' n' u' s' = 0) (hk : k = 1) (hk' : k' = 3) (ho : ordB k n u k' n' u' = true)  (w : World) : Calls Try.prog 10 #[.int .u8 op, V k n u s, V k' n' u' s'] w fun e w' => e = .returned (.bool (saysB op (ordI k n u s k' n' u' s'))) ∧ Below w.heap.size w w' := by
  subst hk hk'
  have t1 := bne_no h
  have t2 := bne_no h'
  have H1 := Lib.hid fun w => vCheck_ok 1 n u s w
  have H2 := Lib.hid fun w => vCheck_ok 3 n' u' s' w
  have HO := Lib.hid fun w => order_any 1 n u s 3 n' u' s' ⟨by omega, by omega⟩ ⟨by omega, by omega⟩ rfl w
  rw [ho] at HO
  obtain ⟨c1, c3⟩ := num_vals
  clear h h' ho
  unfold V at *
  go_enter Try.func10, Try.ntmps10
  go_wp2_with fail
  refine (H1.out _).mono ?_
  rintro e w1 ⟨rfl, hb1⟩
  obtain ⟨hA, hB⟩ := box_two w _ _ 1 n u s 3 n' u' s'
  have hA1 := hA.later hb1 (by simp; omega)
  have hB1 := hB.later hb1 (by simp)
  clear hA hB
  have hz : w.heap.size + 2 ≤ w1.heap.size := by have := hb1.size; simp at this; omega
  replace hb1 : Below w.heap.size w w1 := (two_boxes _ _ _).trans (hb1.mono (by simp; omega))
  have hA' := hA1
  have hB' := hB1
  unfold Box at hA' hB'
  obtain ⟨a0, a1, a2, a3⟩ := hA'
  obtain ⟨b0, b1, b2, b3⟩ := hB'
  go_wp2_with fail
  clear a0 a1 a2 a3 b0 b1 b2 b3
  refine (H2.out _).mono ?_
  rintro e w2 ⟨rfl, hb2⟩
  have hA2 := hA1.later hb2 (by omega)
  have hB2 := hB1.later hb2 (by omega)
  clear hA1 hB1
  have hz2 : w.heap.size + 2 ≤ w2.heap.size := by have := hb2.size; omega
  replace hb2 : Below w.heap.size w w2 := hb1.trans (hb2.mono (by omega))
  clear hb1 hz w1
  unfold Box at hA2 hB2
  obtain ⟨a0, a1, a2, a3⟩ := hA2
  obtain ⟨b0, b1, b2, b3⟩ := hB2
  go_wp2_with (first | (go_at_call 26; refine (numeric_v _ _).mono ?_; rintro e w' ⟨rfl, rfl⟩) | (go_at_call 27; refine (HO.out _).mono ?_; rintro e w3 ⟨rfl, hb3⟩) | (go_at_call 28; refine (says_ok _ _ _).mono ?_; rintro e w' ⟨rfl, rfl⟩))
  go_ret
  exact ⟨rfl, hb2.trans (hb3.mono (by omega))⟩
set_option maxRecDepth 100000 in
set_option maxHeartbeats 1000000 in
theorem holds_is_b (op k n : Int) (u : Nat) (s : ByteArray) (k' n' : Int) (u' : Nat) (s' : ByteArray) (h : checkN k n u s = 0) (h' : checkN k' n' u' s' = 0) (hk : k = 3) (hk' : k' = 1) (ho : ordB k n u k' n' u' = true)  (w : World) : Calls Try.prog 10 #[.int .u8 op, V k n u s, V k' n' u' s'] w fun e w' => e = .returned (.bool (saysB op (ordI k n u s k' n' u' s'))) ∧ Below w.heap.size w w' := by
  subst hk hk'
  have t1 := bne_no h
  have t2 := bne_no h'
  have H1 := Lib.hid fun w => vCheck_ok 3 n u s w
  have H2 := Lib.hid fun w => vCheck_ok 1 n' u' s' w
  have HO := Lib.hid fun w => order_any 3 n u s 1 n' u' s' ⟨by omega, by omega⟩ ⟨by omega, by omega⟩ rfl w
  rw [ho] at HO
  obtain ⟨c1, c3⟩ := num_vals
  clear h h' ho
  unfold V at *
  go_enter Try.func10, Try.ntmps10
  go_wp2_with fail
  refine (H1.out _).mono ?_
  rintro e w1 ⟨rfl, hb1⟩
  obtain ⟨hA, hB⟩ := box_two w _ _ 3 n u s 1 n' u' s'
  have hA1 := hA.later hb1 (by simp; omega)
  have hB1 := hB.later hb1 (by simp)
  clear hA hB
  have hz : w.heap.size + 2 ≤ w1.heap.size := by have := hb1.size; simp at this; omega
  replace hb1 : Below w.heap.size w w1 := (two_boxes _ _ _).trans (hb1.mono (by simp; omega))
  have hA' := hA1
  have hB' := hB1
  unfold Box at hA' hB'
  obtain ⟨a0, a1, a2, a3⟩ := hA'
  obtain ⟨b0, b1, b2, b3⟩ := hB'
  go_wp2_with fail
  clear a0 a1 a2 a3 b0 b1 b2 b3
  refine (H2.out _).mono ?_
  rintro e w2 ⟨rfl, hb2⟩
  have hA2 := hA1.later hb2 (by omega)
  have hB2 := hB1.later hb2 (by omega)
  clear hA1 hB1
  have hz2 : w.heap.size + 2 ≤ w2.heap.size := by have := hb2.size; omega
  replace hb2 : Below w.heap.size w w2 := hb1.trans (hb2.mono (by omega))
  clear hb1 hz w1
  unfold Box at hA2 hB2
  obtain ⟨a0, a1, a2, a3⟩ := hA2
  obtain ⟨b0, b1, b2, b3⟩ := hB2
  go_wp2_with (first | (go_at_call 26; refine (numeric_v _ _).mono ?_; rintro e w' ⟨rfl, rfl⟩) | (go_at_call 27; refine (HO.out _).mono ?_; rintro e w3 ⟨rfl, hb3⟩) | (go_at_call 28; refine (says_ok _ _ _).mono ?_; rintro e w' ⟨rfl, rfl⟩))
  go_ret
  exact ⟨rfl, hb2.trans (hb3.mono (by omega))⟩
end Go.Proofs.Ytmlcpedbpjghhaa
