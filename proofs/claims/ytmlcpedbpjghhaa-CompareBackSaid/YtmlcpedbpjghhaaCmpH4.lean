/-
  Holds of the document, walked: values that are not in order.
-/
import Derived.Test.YtmlcpedbpjghhaaCmpBox
namespace Go.Proofs.Ytmlcpedbpjghhaa
open Go.RowKit

set_option maxRecDepth 100000 in
set_option maxHeartbeats 1000000 in
theorem rholds_flag (op k n : Int) (u : Nat) (s : ByteArray) (k' n' : Int) (u' : Nat) (s' : ByteArray) (h : checkN k n u s = 0) (h' : checkN k' n' u' s' = 0) (hk : k = 2) (hk' : k' = 2) (hx : 2 < op) (hu : u < 18446744073709551616) (hu' : u' < 18446744073709551616) (o1 : 1 ≤ op) (o2 : op ≤ 6) (w : World) : Calls Try.prog 11 #[.int .u8 op, V k n u s, V k' n' u' s'] w fun e w' => e = .returned (.bool (false)) ∧ Below w.heap.size w w' := by
  subst hk hk'
  have t1 := bne_no h
  have t2 := bne_no h'
  have H1 := Lib.hid fun w => rCheck_ok 2 n u hu s w
  have H2 := Lib.hid fun w => rCheck_ok 2 n' u' hu' s' w
  clear h h'
  have HB : Hid (ordB 2 n u 2 n' u' = true) := Lib.hid rfl
  have HO := Lib.hid fun w => stand_any 2 n u s 2 n' u' s' ⟨by omega, by omega⟩ ⟨by omega, by omega⟩ rfl hu hu' w
  rw [HB.out] at HO
  unfold V at *
  go_enter Try.func11, Try.ntmps11
  go_wp2_with fail
  refine (H1.out _).mono ?_
  rintro e w1 ⟨rfl, hb1⟩
  obtain ⟨hA, hB⟩ := box_two w _ _ 2 n u s 2 n' u' s'
  have hA1 := hA.later hb1 (by simp; omega)
  have hB1 := hB.later hb1 (by simp)
  clear hA hB
  have hz : w.heap.size + 2 ≤ w1.heap.size := by have := hb1.size; simp at this; omega
  replace hb1 : Below w.heap.size w w1 := (two_boxes _ _ _).trans (hb1.mono (by simp; omega))
  have hA' := hA1
  have hB' := hB1
  unfold Box at hA' hB'
  obtain ⟨a0, a1, a2, a3⟩ := hA'
  obtain ⟨b0, b1, b2, b3⟩ := hB'
  go_wp2_with fail
  clear a0 a1 a2 a3 b0 b1 b2 b3
  refine (H2.out _).mono ?_
  rintro e w2 ⟨rfl, hb2⟩
  have hA2 := hA1.later hb2 (by omega)
  have hB2 := hB1.later hb2 (by omega)
  clear hA1 hB1
  have hz2 : w.heap.size + 2 ≤ w2.heap.size := by have := hb2.size; omega
  replace hb2 : Below w.heap.size w w2 := hb1.trans (hb2.mono (by omega))
  clear hb1 hz w1
  unfold Box at hA2 hB2
  obtain ⟨a0, a1, a2, a3⟩ := hA2
  obtain ⟨b0, b1, b2, b3⟩ := hB2
  go_wp2_with (first | (go_at_call 30; refine (rnumber_v _ _).mono ?_; rintro e w' ⟨rfl, rfl⟩) | (go_at_call 31; refine (HO.out _).mono ?_; rintro e w3 ⟨rfl, hb3⟩; have a9 := (hb3.cell (p := ⟨w.heap.size, 0, none⟩) (show w.heap.size < w2.heap.size by omega)).trans a0) | (go_at_call 28; refine (says_ok _ _ _).mono ?_; rintro e w' ⟨rfl, rfl⟩))
  go_ret
  exact ⟨rfl, hb2.trans (hb3.mono (by omega))⟩
set_option maxRecDepth 100000 in
set_option maxHeartbeats 1000000 in
theorem rholds_un_s (op k n : Int) (u : Nat) (s : ByteArray) (k' n' : Int) (u' : Nat) (s' : ByteArray) (h : checkN k n u s = 0) (h' : checkN k' n' u' s' = 0) (hk : k' = k) (hf : k ≠ 2) (ho : ordB k n u k' n' u' = false)  (hu : u < 18446744073709551616) (hu' : u' < 18446744073709551616) (o1 : 1 ≤ op) (o2 : op ≤ 6) (w : World) : Calls Try.prog 11 #[.int .u8 op, V k n u s, V k' n' u' s'] w fun e w' => e = .returned (.bool (op == 2)) ∧ Below w.heap.size w w' := by
  subst hk
  have hkk := check_kind h
  have f1 : (k' == 2) = false := by simpa using hf
  clear hf
  have t1 := bne_no h
  have t2 := bne_no h'
  have H1 := Lib.hid fun w => rCheck_ok k' n u hu s w
  have H2 := Lib.hid fun w => rCheck_ok k' n' u' hu' s' w
  have HO := Lib.hid fun w => stand_any k' n u s k' n' u' s' hkk hkk (by unfold both; simp) hu hu' w
  rw [ho] at HO
  obtain ⟨c1, c3⟩ := num_vals
  clear h h' ho
  unfold V at *
  go_enter Try.func11, Try.ntmps11
  go_wp2_with fail
  refine (H1.out _).mono ?_
  rintro e w1 ⟨rfl, hb1⟩
  obtain ⟨hA, hB⟩ := box_two w _ _ k' n u s k' n' u' s'
  have hA1 := hA.later hb1 (by simp; omega)
  have hB1 := hB.later hb1 (by simp)
  clear hA hB
  have hz : w.heap.size + 2 ≤ w1.heap.size := by have := hb1.size; simp at this; omega
  replace hb1 : Below w.heap.size w w1 := (two_boxes _ _ _).trans (hb1.mono (by simp; omega))
  have hA' := hA1
  have hB' := hB1
  unfold Box at hA' hB'
  obtain ⟨a0, a1, a2, a3⟩ := hA'
  obtain ⟨b0, b1, b2, b3⟩ := hB'
  go_wp2_with fail
  clear a0 a1 a2 a3 b0 b1 b2 b3
  refine (H2.out _).mono ?_
  rintro e w2 ⟨rfl, hb2⟩
  have hA2 := hA1.later hb2 (by omega)
  have hB2 := hB1.later hb2 (by omega)
  clear hA1 hB1
  have hz2 : w.heap.size + 2 ≤ w2.heap.size := by have := hb2.size; omega
  replace hb2 : Below w.heap.size w w2 := hb1.trans (hb2.mono (by omega))
  clear hb1 hz w1
  unfold Box at hA2 hB2
  obtain ⟨a0, a1, a2, a3⟩ := hA2
  obtain ⟨b0, b1, b2, b3⟩ := hB2
  go_wp2_with (first | (go_at_call 30; refine (rnumber_v _ _).mono ?_; rintro e w' ⟨rfl, rfl⟩) | (go_at_call 31; refine (HO.out _).mono ?_; rintro e w3 ⟨rfl, hb3⟩; have a9 := (hb3.cell (p := ⟨w.heap.size, 0, none⟩) (show w.heap.size < w2.heap.size by omega)).trans a0) | (go_at_call 28; refine (says_ok _ _ _).mono ?_; rintro e w' ⟨rfl, rfl⟩))
  go_ret
  exact ⟨rfl, hb2.trans (hb3.mono (by omega))⟩
set_option maxRecDepth 100000 in
set_option maxHeartbeats 1000000 in
theorem rholds_un_a (op k n : Int) (u : Nat) (s : ByteArray) (k' n' : Int) (u' : Nat) (s' : ByteArray) (h : checkN k n u s = 0) (h' : checkN k' n' u' s' = 0) (hk : k = 1) (hk' : k' = 3) (ho : ordB k n u k' n' u' = false)  (hu : u < 18446744073709551616) (hu' : u' < 18446744073709551616) (o1 : 1 ≤ op) (o2 : op ≤ 6) (w : World) : Calls Try.prog 11 #[.int .u8 op, V k n u s, V k' n' u' s'] w fun e w' => e = .returned (.bool (op == 2)) ∧ Below w.heap.size w w' := by
  subst hk hk'
  have t1 := bne_no h
  have t2 := bne_no h'
  have H1 := Lib.hid fun w => rCheck_ok 1 n u hu s w
  have H2 := Lib.hid fun w => rCheck_ok 3 n' u' hu' s' w
  have HO := Lib.hid fun w => stand_any 1 n u s 3 n' u' s' ⟨by omega, by omega⟩ ⟨by omega, by omega⟩ rfl hu hu' w
  rw [ho] at HO
  obtain ⟨c1, c3⟩ := num_vals
  clear h h' ho
  unfold V at *
  go_enter Try.func11, Try.ntmps11
  go_wp2_with fail
  refine (H1.out _).mono ?_
  rintro e w1 ⟨rfl, hb1⟩
  obtain ⟨hA, hB⟩ := box_two w _ _ 1 n u s 3 n' u' s'
  have hA1 := hA.later hb1 (by simp; omega)
  have hB1 := hB.later hb1 (by simp)
  clear hA hB
  have hz : w.heap.size + 2 ≤ w1.heap.size := by have := hb1.size; simp at this; omega
  replace hb1 : Below w.heap.size w w1 := (two_boxes _ _ _).trans (hb1.mono (by simp; omega))
  have hA' := hA1
  have hB' := hB1
  unfold Box at hA' hB'
  obtain ⟨a0, a1, a2, a3⟩ := hA'
  obtain ⟨b0, b1, b2, b3⟩ := hB'
  go_wp2_with fail
  clear a0 a1 a2 a3 b0 b1 b2 b3
  refine (H2.out _).mono ?_
  rintro e w2 ⟨rfl, hb2⟩
  have hA2 := hA1.later hb2 (by omega)
  have hB2 := hB1.later hb2 (by omega)
  clear hA1 hB1
  have hz2 : w.heap.size + 2 ≤ w2.heap.size := by have := hb2.size; omega
  replace hb2 : Below w.heap.size w w2 := hb1.trans (hb2.mono (by omega))
  clear hb1 hz w1
  unfold Box at hA2 hB2
  obtain ⟨a0, a1, a2, a3⟩ := hA2
  obtain ⟨b0, b1, b2, b3⟩ := hB2
  go_wp2_with (first | (go_at_call 30; refine (rnumber_v _ _).mono ?_; rintro e w' ⟨rfl, rfl⟩) | (go_at_call 31; refine (HO.out _).mono ?_; rintro e w3 ⟨rfl, hb3⟩; have a9 := (hb3.cell (p := ⟨w.heap.size, 0, none⟩) (show w.heap.size < w2.heap.size by omega)).trans a0) | (go_at_call 28; refine (says_ok _ _ _).mono ?_; rintro e w' ⟨rfl, rfl⟩))
  go_ret
  exact ⟨rfl, hb2.trans (hb3.mono (by omega))⟩
set_option maxRecDepth 100000 in
set_option maxHeartbeats 1000000 in
theorem rholds_un_b (op k n : Int) (u : Nat) (s : ByteArray) (k' n' : Int) (u' : Nat) (s' : ByteArray) (h : checkN k n u s = 0) (h' : checkN k' n' u' s' = 0) (hk : k = 3) (hk' : k' = 1) (ho : ordB k n u k' n' u' = false)  (hu : u < 18446744073709551616) (hu' : u' < 18446744073709551616) (o1 : 1 ≤ op) (o2 : op ≤ 6) (w : World) : Calls Try.prog 11 #[.int .u8 op, V k n u s, V k' n' u' s'] w fun e w' => e = .returned (.bool (op == 2)) ∧ Below w.heap.size w w' := by
  subst hk hk'
  have t1 := bne_no h
  have t2 := bne_no h'
  have H1 := Lib.hid fun w => rCheck_ok 3 n u hu s w
  have H2 := Lib.hid fun w => rCheck_ok 1 n' u' hu' s' w
  have HO := Lib.hid fun w => stand_any 3 n u s 1 n' u' s' ⟨by omega, by omega⟩ ⟨by omega, by omega⟩ rfl hu hu' w
  rw [ho] at HO
  obtain ⟨c1, c3⟩ := num_vals
  clear h h' ho
  unfold V at *
  go_enter Try.func11, Try.ntmps11
  go_wp2_with fail
  refine (H1.out _).mono ?_
  rintro e w1 ⟨rfl, hb1⟩
  obtain ⟨hA, hB⟩ := box_two w _ _ 3 n u s 1 n' u' s'
  have hA1 := hA.later hb1 (by simp; omega)
  have hB1 := hB.later hb1 (by simp)
  clear hA hB
  have hz : w.heap.size + 2 ≤ w1.heap.size := by have := hb1.size; simp at this; omega
  replace hb1 : Below w.heap.size w w1 := (two_boxes _ _ _).trans (hb1.mono (by simp; omega))
  have hA' := hA1
  have hB' := hB1
  unfold Box at hA' hB'
  obtain ⟨a0, a1, a2, a3⟩ := hA'
  obtain ⟨b0, b1, b2, b3⟩ := hB'
  go_wp2_with fail
  clear a0 a1 a2 a3 b0 b1 b2 b3
  refine (H2.out _).mono ?_
  rintro e w2 ⟨rfl, hb2⟩
  have hA2 := hA1.later hb2 (by omega)
  have hB2 := hB1.later hb2 (by omega)
  clear hA1 hB1
  have hz2 : w.heap.size + 2 ≤ w2.heap.size := by have := hb2.size; omega
  replace hb2 : Below w.heap.size w w2 := hb1.trans (hb2.mono (by omega))
  clear hb1 hz w1
  unfold Box at hA2 hB2
  obtain ⟨a0, a1, a2, a3⟩ := hA2
  obtain ⟨b0, b1, b2, b3⟩ := hB2
  go_wp2_with (first | (go_at_call 30; refine (rnumber_v _ _).mono ?_; rintro e w' ⟨rfl, rfl⟩) | (go_at_call 31; refine (HO.out _).mono ?_; rintro e w3 ⟨rfl, hb3⟩; have a9 := (hb3.cell (p := ⟨w.heap.size, 0, none⟩) (show w.heap.size < w2.heap.size by omega)).trans a0) | (go_at_call 28; refine (says_ok _ _ _).mono ?_; rintro e w' ⟨rfl, rfl⟩))
  go_ret
  exact ⟨rfl, hb2.trans (hb3.mono (by omega))⟩
end Go.Proofs.Ytmlcpedbpjghhaa
