/-
  CompareOne, walked: values that may not be.
-/
import Derived.Test.YtmlcpedbpjghhaaCmpL0
import Derived.Test.YtmlcpedbpjghhaaCmpA2
import Derived.Test.YtmlcpedbpjghhaaCmpOwnLaw
namespace Go.Proofs.Ytmlcpedbpjghhaa
open Go.RowKit

/-- two values of the call's own -/
def CutTwo (w : World) (k n : Int) (u : Nat) (s : ByteArray) (k' n' : Int) (u' : Nat) (s' : ByteArray) (x y : Value) (wx : World) : Prop :=
  ∃ p q, x = .pointer (some ⟨p, 0, none⟩) ∧ y = .pointer (some ⟨q, 0, none⟩) ∧ Aw w wx p k n u s ∧ Aw w wx q k' n' u' s'
theorem cutTwo_a {w W : World} {p0 : Nat} {k0 n0 : Int} {u0 : Nat} {s0 : ByteArray} (h : Aw w W p0 k0 n0 u0 s0) (k n : Int) (u : Nat) (s : ByteArray) (k' n' : Int) (u' : Nat) (s' : ByteArray) : CutTwo w k n u s k' n' u' s' (.pointer (some ⟨W.heap.size, 0, none⟩)) (.pointer (some ⟨W.heap.size + 1, 0, none⟩)) (((W.alloc (.cells #[.int .u8 k, .int .i64 n, .int .u64 u, .string s] 28)).alloc (.cells #[.int .u8 k', .int .i64 n', .int .u64 u', .string s'] 28)).drew) :=
  ⟨_, _, rfl, rfl, ((aw_new h _ _ _ _ _).alloc _).draw1, (show Aw w _ (W.heap.size + 1) _ _ _ _ by simpa using aw_new (h.alloc (.cells #[.int .u8 k, .int .i64 n, .int .u64 u, .string s] 28)) 28 k' n' u' s').draw1⟩
theorem cutTwo_b {w W : World} {p0 : Nat} {k0 n0 : Int} {u0 : Nat} {s0 : ByteArray} (h : Aw w W p0 k0 n0 u0 s0) (k n : Int) (u : Nat) (s : ByteArray) (k' n' : Int) (u' : Nat) (s' : ByteArray) : CutTwo w k n u s k' n' u' s' (.pointer (some ⟨W.heap.size + 1, 0, none⟩)) (.pointer (some ⟨W.heap.size, 0, none⟩)) (((W.alloc (.cells #[.int .u8 k', .int .i64 n', .int .u64 u', .string s'] 28)).alloc (.cells #[.int .u8 k, .int .i64 n, .int .u64 u, .string s] 28)).drew) :=
  ⟨_, _, rfl, rfl, (show Aw w _ (W.heap.size + 1) _ _ _ _ by simpa using aw_new (h.alloc (.cells #[.int .u8 k', .int .i64 n', .int .u64 u', .string s'] 28)) 28 k n u s).draw1, ((aw_new h _ _ _ _ _).alloc _).draw1⟩
set_option maxRecDepth 100000 in
set_option maxHeartbeats 2000000 in
theorem one_bad1 (k n : Int) (u : Nat) (s : ByteArray) (k' n' : Int) (u' : Nat) (s' : ByteArray) (hc : Came n u s) (hc' : Came n' u' s') (g1 : ¬ (100 : Int) < s.size) (g2 : ¬ (100 : Int) < s'.size) (h : checkN k n u s ≠ 0) (w : World) : Calls Try.prog 7 #[V k n u s, V k' n' u' s'] w fun e w' => e = .returned (.bool true) ∧ Below w.heap.size w w' := by
  obtain ⟨hn, hu, hs⟩ := hc
  obtain ⟨hn', hu', hs'⟩ := hc'
  have S1 := Lib.hid fun w => small_v k n u s hs w
  have S2 := Lib.hid fun w => small_v k' n' u' s' hs' w
  have A1 := Lib.hid fun w => awake_ok w
  have sd1 := small_dec s
  have sd2 := small_dec s'
  rw [decide_eq_false g1] at sd1
  rw [decide_eq_false g2] at sd2
  clear g1 g2
  have C1 := Lib.hid fun w => vCheck_ok k n u s w
  have C2 := Lib.hid fun w => vCheck_ok k' n' u' s' w
  have t1 := bne_yes h
  have F2 := Lib.hid fun w => hold_at 2 k n u s k' n' u' s' (by unfold holdsB; rw [if_pos (by omega)] : holdsB 2 k n u s k' n' u' s' = false) w
  have F1 := Lib.hid fun w => hold_at 1 k n u s k' n' u' s' (by unfold holdsB; rw [if_pos (by omega)] : holdsB 1 k n u s k' n' u' s' = false) w
  clear h
  clear hn hn' hs hs'
  unfold V at *
  obtain ⟨hA, hB⟩ := two_aw w 24 24 k n u s k' n' u' s'
  obtain ⟨a0, a1, a2, a3⟩ := hA.cells
  obtain ⟨b0, b1, b2, b3⟩ := hB.cells
  go_enter Try.func7, Try.ntmps7
  go_upto_region 3 with (first | (go_at_call 8; ((with_reducible refine (S1.out _).mono ?_)); rintro e w9 ⟨rfl, hb9⟩; clear a0 a1 a2 a3 b0 b1 b2 b3; replace hA := Aw.next (by first | exact hA | exact hA.alloc _ | exact hA.draw _ | exact (hA.draw _).alloc _ | exact (hA.alloc _).draw _ | exact hA.draw1 | exact hA.draw1.alloc _ | exact (hA.alloc _).draw1) hb9; replace hB := Aw.next (by first | exact hB | exact hB.alloc _ | exact hB.draw _ | exact (hB.draw _).alloc _ | exact (hB.alloc _).draw _ | exact hB.draw1 | exact hB.draw1.alloc _ | exact (hB.alloc _).draw1) hb9; obtain ⟨a0, a1, a2, a3⟩ := hA.cells; obtain ⟨b0, b1, b2, b3⟩ := hB.cells; clear hb9) | (go_at_call 8; ((with_reducible refine (S2.out _).mono ?_)); rintro e w9 ⟨rfl, hb9⟩; clear a0 a1 a2 a3 b0 b1 b2 b3; replace hA := Aw.next (by first | exact hA | exact hA.alloc _ | exact hA.draw _ | exact (hA.draw _).alloc _ | exact (hA.alloc _).draw _ | exact hA.draw1 | exact hA.draw1.alloc _ | exact (hA.alloc _).draw1) hb9; replace hB := Aw.next (by first | exact hB | exact hB.alloc _ | exact hB.draw _ | exact (hB.draw _).alloc _ | exact (hB.alloc _).draw _ | exact hB.draw1 | exact hB.draw1.alloc _ | exact (hB.alloc _).draw1) hb9; obtain ⟨a0, a1, a2, a3⟩ := hA.cells; obtain ⟨b0, b1, b2, b3⟩ := hB.cells; clear hb9) | (go_at_call 9; ((with_reducible refine (A1.out _).mono ?_)); rintro e w9 ⟨rfl, hb9⟩; clear a0 a1 a2 a3 b0 b1 b2 b3; replace hA := Aw.next (by first | exact hA | exact hA.alloc _ | exact hA.draw _ | exact (hA.draw _).alloc _ | exact (hA.alloc _).draw _ | exact hA.draw1 | exact hA.draw1.alloc _ | exact (hA.alloc _).draw1) hb9; replace hB := Aw.next (by first | exact hB | exact hB.alloc _ | exact hB.draw _ | exact (hB.draw _).alloc _ | exact (hB.alloc _).draw _ | exact hB.draw1 | exact hB.draw1.alloc _ | exact (hB.alloc _).draw1) hb9; obtain ⟨a0, a1, a2, a3⟩ := hA.cells; obtain ⟨b0, b1, b2, b3⟩ := hB.cells; clear hb9))
  have az := hA.2.2.1
  have bz := hB.2.2.1
  go_cut [5, 6] (fun x y wx => CutTwo w k n u s k' n' u' s' x y wx)
  case first =>
    go_region
    all_goals go_wp2_with fail
    all_goals go_meet
    all_goals first | exact cutTwo_a hA _ _ _ _ _ _ _ _ | exact cutTwo_b hA _ _ _ _ _ _ _ _
  case rest =>
    unfold CutTwo at hcut
    obtain ⟨p, q, rfl, rfl, hP, hQ⟩ := hcut
    clear hA hB a0 a1 a2 a3 b0 b1 b2 b3 az bz
    obtain ⟨a0, a1, a2, a3⟩ := hP.cells
    obtain ⟨b0, b1, b2, b3⟩ := hQ.cells
    go_wp2_with (first | (go_at_call 17; ((with_reducible refine (C1.out _).mono ?_)); rintro e w9 ⟨rfl, hb9⟩; clear a0 a1 a2 a3 b0 b1 b2 b3; replace hP := Aw.next (by first | exact hP | exact hP.alloc _ | exact hP.draw _ | exact (hP.draw _).alloc _ | exact (hP.alloc _).draw _ | exact hP.draw1 | exact hP.draw1.alloc _ | exact (hP.alloc _).draw1) hb9; replace hQ := Aw.next (by first | exact hQ | exact hQ.alloc _ | exact hQ.draw _ | exact (hQ.draw _).alloc _ | exact (hQ.alloc _).draw _ | exact hQ.draw1 | exact hQ.draw1.alloc _ | exact (hQ.alloc _).draw1) hb9; obtain ⟨a0, a1, a2, a3⟩ := hP.cells; obtain ⟨b0, b1, b2, b3⟩ := hQ.cells; clear hb9) | (go_at_call 17; ((with_reducible refine (C2.out _).mono ?_)); rintro e w9 ⟨rfl, hb9⟩; clear a0 a1 a2 a3 b0 b1 b2 b3; replace hP := Aw.next (by first | exact hP | exact hP.alloc _ | exact hP.draw _ | exact (hP.draw _).alloc _ | exact (hP.alloc _).draw _ | exact hP.draw1 | exact hP.draw1.alloc _ | exact (hP.alloc _).draw1) hb9; replace hQ := Aw.next (by first | exact hQ | exact hQ.alloc _ | exact hQ.draw _ | exact (hQ.draw _).alloc _ | exact (hQ.alloc _).draw _ | exact hQ.draw1 | exact hQ.draw1.alloc _ | exact (hQ.alloc _).draw1) hb9; obtain ⟨a0, a1, a2, a3⟩ := hP.cells; obtain ⟨b0, b1, b2, b3⟩ := hQ.cells; clear hb9) | (go_at_call 10; ((with_reducible refine (F2.out _).mono ?_)); rintro e w9 ⟨rfl, hb9⟩; clear a0 a1 a2 a3 b0 b1 b2 b3; replace hP := Aw.next (by first | exact hP | exact hP.alloc _ | exact hP.draw _ | exact (hP.draw _).alloc _ | exact (hP.alloc _).draw _ | exact hP.draw1 | exact hP.draw1.alloc _ | exact (hP.alloc _).draw1) hb9; replace hQ := Aw.next (by first | exact hQ | exact hQ.alloc _ | exact hQ.draw _ | exact (hQ.draw _).alloc _ | exact (hQ.alloc _).draw _ | exact hQ.draw1 | exact hQ.draw1.alloc _ | exact (hQ.alloc _).draw1) hb9; obtain ⟨a0, a1, a2, a3⟩ := hP.cells; obtain ⟨b0, b1, b2, b3⟩ := hQ.cells; clear hb9) | (go_at_call 10; ((with_reducible refine (F1.out _).mono ?_)); rintro e w9 ⟨rfl, hb9⟩; clear a0 a1 a2 a3 b0 b1 b2 b3; replace hP := Aw.next (by first | exact hP | exact hP.alloc _ | exact hP.draw _ | exact (hP.draw _).alloc _ | exact (hP.alloc _).draw _ | exact hP.draw1 | exact hP.draw1.alloc _ | exact (hP.alloc _).draw1) hb9; replace hQ := Aw.next (by first | exact hQ | exact hQ.alloc _ | exact hQ.draw _ | exact (hQ.draw _).alloc _ | exact (hQ.alloc _).draw _ | exact hQ.draw1 | exact hQ.draw1.alloc _ | exact (hQ.alloc _).draw1) hb9; obtain ⟨a0, a1, a2, a3⟩ := hP.cells; obtain ⟨b0, b1, b2, b3⟩ := hQ.cells; clear hb9) | (go_at_call 9; ((with_reducible refine (A1.out _).mono ?_)); rintro e w9 ⟨rfl, hb9⟩; clear a0 a1 a2 a3 b0 b1 b2 b3; replace hP := Aw.next (by first | exact hP | exact hP.alloc _ | exact hP.draw _ | exact (hP.draw _).alloc _ | exact (hP.alloc _).draw _ | exact hP.draw1 | exact hP.draw1.alloc _ | exact (hP.alloc _).draw1) hb9; replace hQ := Aw.next (by first | exact hQ | exact hQ.alloc _ | exact hQ.draw _ | exact (hQ.draw _).alloc _ | exact (hQ.alloc _).draw _ | exact hQ.draw1 | exact hQ.draw1.alloc _ | exact (hQ.alloc _).draw1) hb9; obtain ⟨a0, a1, a2, a3⟩ := hP.cells; obtain ⟨b0, b1, b2, b3⟩ := hQ.cells; clear hb9))
    go_ret
    exact ⟨rfl, hP.1⟩
set_option maxRecDepth 100000 in
set_option maxHeartbeats 2000000 in
theorem one_bad2 (k n : Int) (u : Nat) (s : ByteArray) (k' n' : Int) (u' : Nat) (s' : ByteArray) (hc : Came n u s) (hc' : Came n' u' s') (g1 : ¬ (100 : Int) < s.size) (g2 : ¬ (100 : Int) < s'.size) (h : checkN k n u s = 0) (h' : checkN k' n' u' s' ≠ 0) (w : World) : Calls Try.prog 7 #[V k n u s, V k' n' u' s'] w fun e w' => e = .returned (.bool true) ∧ Below w.heap.size w w' := by
  obtain ⟨hn, hu, hs⟩ := hc
  obtain ⟨hn', hu', hs'⟩ := hc'
  have S1 := Lib.hid fun w => small_v k n u s hs w
  have S2 := Lib.hid fun w => small_v k' n' u' s' hs' w
  have A1 := Lib.hid fun w => awake_ok w
  have sd1 := small_dec s
  have sd2 := small_dec s'
  rw [decide_eq_false g1] at sd1
  rw [decide_eq_false g2] at sd2
  clear g1 g2
  have C1 := Lib.hid fun w => vCheck_ok k n u s w
  have C2 := Lib.hid fun w => vCheck_ok k' n' u' s' w
  have t1 := bne_no h
  have t2 := bne_yes h'
  have F2 := Lib.hid fun w => hold_at 2 k n u s k' n' u' s' (by unfold holdsB; rw [if_pos (by omega)] : holdsB 2 k n u s k' n' u' s' = false) w
  have F1 := Lib.hid fun w => hold_at 1 k n u s k' n' u' s' (by unfold holdsB; rw [if_pos (by omega)] : holdsB 1 k n u s k' n' u' s' = false) w
  clear h h'
  clear hn hn' hs hs'
  unfold V at *
  obtain ⟨hA, hB⟩ := two_aw w 24 24 k n u s k' n' u' s'
  obtain ⟨a0, a1, a2, a3⟩ := hA.cells
  obtain ⟨b0, b1, b2, b3⟩ := hB.cells
  go_enter Try.func7, Try.ntmps7
  go_upto_region 3 with (first | (go_at_call 8; ((with_reducible refine (S1.out _).mono ?_)); rintro e w9 ⟨rfl, hb9⟩; clear a0 a1 a2 a3 b0 b1 b2 b3; replace hA := Aw.next (by first | exact hA | exact hA.alloc _ | exact hA.draw _ | exact (hA.draw _).alloc _ | exact (hA.alloc _).draw _ | exact hA.draw1 | exact hA.draw1.alloc _ | exact (hA.alloc _).draw1) hb9; replace hB := Aw.next (by first | exact hB | exact hB.alloc _ | exact hB.draw _ | exact (hB.draw _).alloc _ | exact (hB.alloc _).draw _ | exact hB.draw1 | exact hB.draw1.alloc _ | exact (hB.alloc _).draw1) hb9; obtain ⟨a0, a1, a2, a3⟩ := hA.cells; obtain ⟨b0, b1, b2, b3⟩ := hB.cells; clear hb9) | (go_at_call 8; ((with_reducible refine (S2.out _).mono ?_)); rintro e w9 ⟨rfl, hb9⟩; clear a0 a1 a2 a3 b0 b1 b2 b3; replace hA := Aw.next (by first | exact hA | exact hA.alloc _ | exact hA.draw _ | exact (hA.draw _).alloc _ | exact (hA.alloc _).draw _ | exact hA.draw1 | exact hA.draw1.alloc _ | exact (hA.alloc _).draw1) hb9; replace hB := Aw.next (by first | exact hB | exact hB.alloc _ | exact hB.draw _ | exact (hB.draw _).alloc _ | exact (hB.alloc _).draw _ | exact hB.draw1 | exact hB.draw1.alloc _ | exact (hB.alloc _).draw1) hb9; obtain ⟨a0, a1, a2, a3⟩ := hA.cells; obtain ⟨b0, b1, b2, b3⟩ := hB.cells; clear hb9) | (go_at_call 9; ((with_reducible refine (A1.out _).mono ?_)); rintro e w9 ⟨rfl, hb9⟩; clear a0 a1 a2 a3 b0 b1 b2 b3; replace hA := Aw.next (by first | exact hA | exact hA.alloc _ | exact hA.draw _ | exact (hA.draw _).alloc _ | exact (hA.alloc _).draw _ | exact hA.draw1 | exact hA.draw1.alloc _ | exact (hA.alloc _).draw1) hb9; replace hB := Aw.next (by first | exact hB | exact hB.alloc _ | exact hB.draw _ | exact (hB.draw _).alloc _ | exact (hB.alloc _).draw _ | exact hB.draw1 | exact hB.draw1.alloc _ | exact (hB.alloc _).draw1) hb9; obtain ⟨a0, a1, a2, a3⟩ := hA.cells; obtain ⟨b0, b1, b2, b3⟩ := hB.cells; clear hb9))
  have az := hA.2.2.1
  have bz := hB.2.2.1
  go_cut [5, 6] (fun x y wx => CutTwo w k n u s k' n' u' s' x y wx)
  case first =>
    go_region
    all_goals go_wp2_with fail
    all_goals go_meet
    all_goals first | exact cutTwo_a hA _ _ _ _ _ _ _ _ | exact cutTwo_b hA _ _ _ _ _ _ _ _
  case rest =>
    unfold CutTwo at hcut
    obtain ⟨p, q, rfl, rfl, hP, hQ⟩ := hcut
    clear hA hB a0 a1 a2 a3 b0 b1 b2 b3 az bz
    obtain ⟨a0, a1, a2, a3⟩ := hP.cells
    obtain ⟨b0, b1, b2, b3⟩ := hQ.cells
    go_wp2_with (first | (go_at_call 17; ((with_reducible refine (C1.out _).mono ?_)); rintro e w9 ⟨rfl, hb9⟩; clear a0 a1 a2 a3 b0 b1 b2 b3; replace hP := Aw.next (by first | exact hP | exact hP.alloc _ | exact hP.draw _ | exact (hP.draw _).alloc _ | exact (hP.alloc _).draw _ | exact hP.draw1 | exact hP.draw1.alloc _ | exact (hP.alloc _).draw1) hb9; replace hQ := Aw.next (by first | exact hQ | exact hQ.alloc _ | exact hQ.draw _ | exact (hQ.draw _).alloc _ | exact (hQ.alloc _).draw _ | exact hQ.draw1 | exact hQ.draw1.alloc _ | exact (hQ.alloc _).draw1) hb9; obtain ⟨a0, a1, a2, a3⟩ := hP.cells; obtain ⟨b0, b1, b2, b3⟩ := hQ.cells; clear hb9) | (go_at_call 17; ((with_reducible refine (C2.out _).mono ?_)); rintro e w9 ⟨rfl, hb9⟩; clear a0 a1 a2 a3 b0 b1 b2 b3; replace hP := Aw.next (by first | exact hP | exact hP.alloc _ | exact hP.draw _ | exact (hP.draw _).alloc _ | exact (hP.alloc _).draw _ | exact hP.draw1 | exact hP.draw1.alloc _ | exact (hP.alloc _).draw1) hb9; replace hQ := Aw.next (by first | exact hQ | exact hQ.alloc _ | exact hQ.draw _ | exact (hQ.draw _).alloc _ | exact (hQ.alloc _).draw _ | exact hQ.draw1 | exact hQ.draw1.alloc _ | exact (hQ.alloc _).draw1) hb9; obtain ⟨a0, a1, a2, a3⟩ := hP.cells; obtain ⟨b0, b1, b2, b3⟩ := hQ.cells; clear hb9) | (go_at_call 10; ((with_reducible refine (F2.out _).mono ?_)); rintro e w9 ⟨rfl, hb9⟩; clear a0 a1 a2 a3 b0 b1 b2 b3; replace hP := Aw.next (by first | exact hP | exact hP.alloc _ | exact hP.draw _ | exact (hP.draw _).alloc _ | exact (hP.alloc _).draw _ | exact hP.draw1 | exact hP.draw1.alloc _ | exact (hP.alloc _).draw1) hb9; replace hQ := Aw.next (by first | exact hQ | exact hQ.alloc _ | exact hQ.draw _ | exact (hQ.draw _).alloc _ | exact (hQ.alloc _).draw _ | exact hQ.draw1 | exact hQ.draw1.alloc _ | exact (hQ.alloc _).draw1) hb9; obtain ⟨a0, a1, a2, a3⟩ := hP.cells; obtain ⟨b0, b1, b2, b3⟩ := hQ.cells; clear hb9) | (go_at_call 10; ((with_reducible refine (F1.out _).mono ?_)); rintro e w9 ⟨rfl, hb9⟩; clear a0 a1 a2 a3 b0 b1 b2 b3; replace hP := Aw.next (by first | exact hP | exact hP.alloc _ | exact hP.draw _ | exact (hP.draw _).alloc _ | exact (hP.alloc _).draw _ | exact hP.draw1 | exact hP.draw1.alloc _ | exact (hP.alloc _).draw1) hb9; replace hQ := Aw.next (by first | exact hQ | exact hQ.alloc _ | exact hQ.draw _ | exact (hQ.draw _).alloc _ | exact (hQ.alloc _).draw _ | exact hQ.draw1 | exact hQ.draw1.alloc _ | exact (hQ.alloc _).draw1) hb9; obtain ⟨a0, a1, a2, a3⟩ := hP.cells; obtain ⟨b0, b1, b2, b3⟩ := hQ.cells; clear hb9) | (go_at_call 9; ((with_reducible refine (A1.out _).mono ?_)); rintro e w9 ⟨rfl, hb9⟩; clear a0 a1 a2 a3 b0 b1 b2 b3; replace hP := Aw.next (by first | exact hP | exact hP.alloc _ | exact hP.draw _ | exact (hP.draw _).alloc _ | exact (hP.alloc _).draw _ | exact hP.draw1 | exact hP.draw1.alloc _ | exact (hP.alloc _).draw1) hb9; replace hQ := Aw.next (by first | exact hQ | exact hQ.alloc _ | exact hQ.draw _ | exact (hQ.draw _).alloc _ | exact (hQ.alloc _).draw _ | exact hQ.draw1 | exact hQ.draw1.alloc _ | exact (hQ.alloc _).draw1) hb9; obtain ⟨a0, a1, a2, a3⟩ := hP.cells; obtain ⟨b0, b1, b2, b3⟩ := hQ.cells; clear hb9))
    go_ret
    exact ⟨rfl, hP.1⟩
end Go.Proofs.Ytmlcpedbpjghhaa
