/-
  Holds of the document, walked: values that may not be, or cannot be held against each other.
-/
import Derived.Test.YtmlcpedbpjghhaaCmpBox
namespace Go.Proofs.Ytmlcpedbpjghhaa
open Go.RowKit

set_option maxRecDepth 100000 in
set_option maxHeartbeats 1000000 in
theorem rholds_bad1 (op k n : Int) (u : Nat) (s : ByteArray) (k' n' : Int) (u' : Nat) (s' : ByteArray) (h : checkN k n u s ≠ 0) (hu : u < 18446744073709551616) (hu' : u' < 18446744073709551616) (o1 : 1 ≤ op) (o2 : op ≤ 6) (w : World) : Calls Try.prog 11 #[.int .u8 op, V k n u s, V k' n' u' s'] w fun e w' => e = .returned (.bool (false)) ∧ Below w.heap.size w w' := by
  have _y := hu'
  have t1 := bne_yes h
  have H1 := Lib.hid fun w => rCheck_ok k n u hu s w
  clear h
  unfold V at *
  go_enter Try.func11, Try.ntmps11
  go_wp2_with fail
  refine (H1.out _).mono ?_
  rintro e w1 ⟨rfl, hb1⟩
  obtain ⟨hc1, hf1⟩ := bcell hb1
  have hz1 : w.heap.size + 1 < w1.heap.size := by have := hb1.size; simp at this; omega
  go_wp2_with fail
  go_ret
  exact ⟨rfl, (two_boxes _ _ _).trans (hb1.mono (by simp; omega))⟩
set_option maxRecDepth 100000 in
set_option maxHeartbeats 1000000 in
theorem rholds_bad2 (op k n : Int) (u : Nat) (s : ByteArray) (k' n' : Int) (u' : Nat) (s' : ByteArray) (h : checkN k n u s = 0) (h' : checkN k' n' u' s' ≠ 0) (hu : u < 18446744073709551616) (hu' : u' < 18446744073709551616) (o1 : 1 ≤ op) (o2 : op ≤ 6) (w : World) : Calls Try.prog 11 #[.int .u8 op, V k n u s, V k' n' u' s'] w fun e w' => e = .returned (.bool (false)) ∧ Below w.heap.size w w' := by
  have t1 := bne_no h
  have t2 := bne_yes h'
  have H1 := Lib.hid fun w => rCheck_ok k n u hu s w
  have H2 := Lib.hid fun w => rCheck_ok k' n' u' hu' s' w
  clear h h'
  unfold V at *
  go_enter Try.func11, Try.ntmps11
  go_wp2_with fail
  refine (H1.out _).mono ?_
  rintro e w1 ⟨rfl, hb1⟩
  obtain ⟨hA, hB⟩ := box_two w _ _ k n u s k' n' u' s'
  have hA1 := hA.later hb1 (by simp; omega)
  have hB1 := hB.later hb1 (by simp)
  clear hA hB
  have hz : w.heap.size + 2 ≤ w1.heap.size := by have := hb1.size; simp at this; omega
  replace hb1 : Below w.heap.size w w1 := (two_boxes _ _ _).trans (hb1.mono (by simp; omega))
  have hA' := hA1
  have hB' := hB1
  unfold Box at hA' hB'
  obtain ⟨a0, a1, a2, a3⟩ := hA'
  obtain ⟨b0, b1, b2, b3⟩ := hB'
  go_wp2_with fail
  clear a0 a1 a2 a3 b0 b1 b2 b3
  refine (H2.out _).mono ?_
  rintro e w2 ⟨rfl, hb2⟩
  have hA2 := hA1.later hb2 (by omega)
  have hB2 := hB1.later hb2 (by omega)
  clear hA1 hB1
  have hz2 : w.heap.size + 2 ≤ w2.heap.size := by have := hb2.size; omega
  replace hb2 : Below w.heap.size w w2 := hb1.trans (hb2.mono (by omega))
  clear hb1 hz w1
  unfold Box at hA2 hB2
  obtain ⟨a0, a1, a2, a3⟩ := hA2
  obtain ⟨b0, b1, b2, b3⟩ := hB2
  go_wp2_with fail
  go_ret
  exact ⟨rfl, hb2⟩
set_option maxRecDepth 100000 in
set_option maxHeartbeats 1000000 in
theorem rholds_ne (op k n : Int) (u : Nat) (s : ByteArray) (k' n' : Int) (u' : Nat) (s' : ByteArray) (h : checkN k n u s = 0) (h' : checkN k' n' u' s' = 0) (hb : both k k' = false) (hu : u < 18446744073709551616) (hu' : u' < 18446744073709551616) (o1 : 1 ≤ op) (o2 : op ≤ 6) (w : World) : Calls Try.prog 11 #[.int .u8 op, V k n u s, V k' n' u' s'] w fun e w' => e = .returned (.bool (op == 2)) ∧ Below w.heap.size w w' := by
  have t1 := bne_no h
  have t2 := bne_no h'
  have H1 := Lib.hid fun w => rCheck_ok k n u hu s w
  have H2 := Lib.hid fun w => rCheck_ok k' n' u' hu' s' w
  obtain ⟨t3, t3', t4⟩ := not_both hb
  clear h h' hb
  unfold V at *
  cases c1 : numB k <;> cases c2 : numB k'
  · clear t4
    go_enter Try.func11, Try.ntmps11
    go_wp2_with fail
    refine (H1.out _).mono ?_
    rintro e w1 ⟨rfl, hb1⟩
    obtain ⟨hA, hB⟩ := box_two w _ _ k n u s k' n' u' s'
    have hA1 := hA.later hb1 (by simp; omega)
    have hB1 := hB.later hb1 (by simp)
    clear hA hB
    have hz : w.heap.size + 2 ≤ w1.heap.size := by have := hb1.size; simp at this; omega
    replace hb1 : Below w.heap.size w w1 := (two_boxes _ _ _).trans (hb1.mono (by simp; omega))
    have hA' := hA1
    have hB' := hB1
    unfold Box at hA' hB'
    obtain ⟨a0, a1, a2, a3⟩ := hA'
    obtain ⟨b0, b1, b2, b3⟩ := hB'
    go_wp2_with fail
    clear a0 a1 a2 a3 b0 b1 b2 b3
    refine (H2.out _).mono ?_
    rintro e w2 ⟨rfl, hb2⟩
    have hA2 := hA1.later hb2 (by omega)
    have hB2 := hB1.later hb2 (by omega)
    clear hA1 hB1
    have hz2 : w.heap.size + 2 ≤ w2.heap.size := by have := hb2.size; omega
    replace hb2 : Below w.heap.size w w2 := hb1.trans (hb2.mono (by omega))
    clear hb1 hz w1
    unfold Box at hA2 hB2
    obtain ⟨a0, a1, a2, a3⟩ := hA2
    obtain ⟨b0, b1, b2, b3⟩ := hB2
    go_wp2_with (go_at_call 30; refine (rnumber_v _ _).mono ?_; rintro e w' ⟨rfl, rfl⟩)
    go_ret
    exact ⟨rfl, hb2⟩
  · clear t4
    go_enter Try.func11, Try.ntmps11
    go_wp2_with fail
    refine (H1.out _).mono ?_
    rintro e w1 ⟨rfl, hb1⟩
    obtain ⟨hA, hB⟩ := box_two w _ _ k n u s k' n' u' s'
    have hA1 := hA.later hb1 (by simp; omega)
    have hB1 := hB.later hb1 (by simp)
    clear hA hB
    have hz : w.heap.size + 2 ≤ w1.heap.size := by have := hb1.size; simp at this; omega
    replace hb1 : Below w.heap.size w w1 := (two_boxes _ _ _).trans (hb1.mono (by simp; omega))
    have hA' := hA1
    have hB' := hB1
    unfold Box at hA' hB'
    obtain ⟨a0, a1, a2, a3⟩ := hA'
    obtain ⟨b0, b1, b2, b3⟩ := hB'
    go_wp2_with fail
    clear a0 a1 a2 a3 b0 b1 b2 b3
    refine (H2.out _).mono ?_
    rintro e w2 ⟨rfl, hb2⟩
    have hA2 := hA1.later hb2 (by omega)
    have hB2 := hB1.later hb2 (by omega)
    clear hA1 hB1
    have hz2 : w.heap.size + 2 ≤ w2.heap.size := by have := hb2.size; omega
    replace hb2 : Below w.heap.size w w2 := hb1.trans (hb2.mono (by omega))
    clear hb1 hz w1
    unfold Box at hA2 hB2
    obtain ⟨a0, a1, a2, a3⟩ := hA2
    obtain ⟨b0, b1, b2, b3⟩ := hB2
    go_wp2_with (go_at_call 30; refine (rnumber_v _ _).mono ?_; rintro e w' ⟨rfl, rfl⟩)
    go_ret
    exact ⟨rfl, hb2⟩
  · clear t4
    go_enter Try.func11, Try.ntmps11
    go_wp2_with fail
    refine (H1.out _).mono ?_
    rintro e w1 ⟨rfl, hb1⟩
    obtain ⟨hA, hB⟩ := box_two w _ _ k n u s k' n' u' s'
    have hA1 := hA.later hb1 (by simp; omega)
    have hB1 := hB.later hb1 (by simp)
    clear hA hB
    have hz : w.heap.size + 2 ≤ w1.heap.size := by have := hb1.size; simp at this; omega
    replace hb1 : Below w.heap.size w w1 := (two_boxes _ _ _).trans (hb1.mono (by simp; omega))
    have hA' := hA1
    have hB' := hB1
    unfold Box at hA' hB'
    obtain ⟨a0, a1, a2, a3⟩ := hA'
    obtain ⟨b0, b1, b2, b3⟩ := hB'
    go_wp2_with fail
    clear a0 a1 a2 a3 b0 b1 b2 b3
    refine (H2.out _).mono ?_
    rintro e w2 ⟨rfl, hb2⟩
    have hA2 := hA1.later hb2 (by omega)
    have hB2 := hB1.later hb2 (by omega)
    clear hA1 hB1
    have hz2 : w.heap.size + 2 ≤ w2.heap.size := by have := hb2.size; omega
    replace hb2 : Below w.heap.size w w2 := hb1.trans (hb2.mono (by omega))
    clear hb1 hz w1
    unfold Box at hA2 hB2
    obtain ⟨a0, a1, a2, a3⟩ := hA2
    obtain ⟨b0, b1, b2, b3⟩ := hB2
    go_wp2_with (go_at_call 30; refine (rnumber_v _ _).mono ?_; rintro e w' ⟨rfl, rfl⟩)
    go_ret
    exact ⟨rfl, hb2⟩
  · rw [c1, c2] at t4; cases t4
end Go.Proofs.Ytmlcpedbpjghhaa
