/-
  CompareBack: for any two values it returns true.
-/
import Derived.Test.YtmlcpedbpjghhaaCmpBackB
import Derived.Test.YtmlcpedbpjghhaaCmpBackC
namespace Go.Proofs.Ytmlcpedbpjghhaa
open Go.RowKit

set_option maxRecDepth 100000 in
set_option maxHeartbeats 2000000 in
theorem back_long1 (k n : Int) (u : Nat) (s : ByteArray) (k' n' : Int) (u' : Nat) (s' : ByteArray) (hc : Came n u s) (hc' : Came n' u' s') (g1 : (100 : Int) < s.size) (w : World) : Calls Try.prog 5 #[V k n u s, V k' n' u' s'] w fun e w' => e = .returned (.bool true) ∧ Below w.heap.size w w' := by
  obtain ⟨hn, hu, hs⟩ := hc
  obtain ⟨hn', hu', hs'⟩ := hc'
  have S1 := Lib.hid fun w => small_v k n u s hs w
  have S2 := Lib.hid fun w => small_v k' n' u' s' hs' w
  have A1 := Lib.hid fun w => awake_ok w
  have sd1 := small_dec s
  have sd2 := small_dec s'
  unfold V at *
  rw [decide_eq_true g1] at sd1
  clear g1 sd2
  obtain ⟨hA, hB⟩ := two_aw w 24 24 k n u s k' n' u' s'
  obtain ⟨a0, a1, a2, a3⟩ := hA.cells
  obtain ⟨b0, b1, b2, b3⟩ := hB.cells
  go_enter Try.func5, Try.ntmps5
  go_wp2_with (first | (go_at_call 8; ((with_reducible refine (S1.out _).mono ?_)); rintro e w9 ⟨rfl, hb9⟩; clear a0 a1 a2 a3 b0 b1 b2 b3; replace hA := Aw.next (by first | exact hA | exact hA.alloc _ | exact hA.draw _ | exact (hA.draw _).alloc _ | exact (hA.alloc _).draw _ | exact hA.draw1 | exact hA.draw1.alloc _ | exact (hA.alloc _).draw1) hb9; replace hB := Aw.next (by first | exact hB | exact hB.alloc _ | exact hB.draw _ | exact (hB.draw _).alloc _ | exact (hB.alloc _).draw _ | exact hB.draw1 | exact hB.draw1.alloc _ | exact (hB.alloc _).draw1) hb9; obtain ⟨a0, a1, a2, a3⟩ := hA.cells; obtain ⟨b0, b1, b2, b3⟩ := hB.cells; clear hb9) | (go_at_call 8; ((with_reducible refine (S2.out _).mono ?_)); rintro e w9 ⟨rfl, hb9⟩; clear a0 a1 a2 a3 b0 b1 b2 b3; replace hA := Aw.next (by first | exact hA | exact hA.alloc _ | exact hA.draw _ | exact (hA.draw _).alloc _ | exact (hA.alloc _).draw _ | exact hA.draw1 | exact hA.draw1.alloc _ | exact (hA.alloc _).draw1) hb9; replace hB := Aw.next (by first | exact hB | exact hB.alloc _ | exact hB.draw _ | exact (hB.draw _).alloc _ | exact (hB.alloc _).draw _ | exact hB.draw1 | exact hB.draw1.alloc _ | exact (hB.alloc _).draw1) hb9; obtain ⟨a0, a1, a2, a3⟩ := hA.cells; obtain ⟨b0, b1, b2, b3⟩ := hB.cells; clear hb9) | (go_at_call 9; ((with_reducible refine (A1.out _).mono ?_)); rintro e w9 ⟨rfl, hb9⟩; clear a0 a1 a2 a3 b0 b1 b2 b3; replace hA := Aw.next (by first | exact hA | exact hA.alloc _ | exact hA.draw _ | exact (hA.draw _).alloc _ | exact (hA.alloc _).draw _ | exact hA.draw1 | exact hA.draw1.alloc _ | exact (hA.alloc _).draw1) hb9; replace hB := Aw.next (by first | exact hB | exact hB.alloc _ | exact hB.draw _ | exact (hB.draw _).alloc _ | exact (hB.alloc _).draw _ | exact hB.draw1 | exact hB.draw1.alloc _ | exact (hB.alloc _).draw1) hb9; obtain ⟨a0, a1, a2, a3⟩ := hA.cells; obtain ⟨b0, b1, b2, b3⟩ := hB.cells; clear hb9))
  go_ret
  exact ⟨rfl, hA.1⟩
set_option maxRecDepth 100000 in
set_option maxHeartbeats 2000000 in
theorem back_long2 (k n : Int) (u : Nat) (s : ByteArray) (k' n' : Int) (u' : Nat) (s' : ByteArray) (hc : Came n u s) (hc' : Came n' u' s') (g1 : ¬ (100 : Int) < s.size) (g2 : (100 : Int) < s'.size) (w : World) : Calls Try.prog 5 #[V k n u s, V k' n' u' s'] w fun e w' => e = .returned (.bool true) ∧ Below w.heap.size w w' := by
  obtain ⟨hn, hu, hs⟩ := hc
  obtain ⟨hn', hu', hs'⟩ := hc'
  have S1 := Lib.hid fun w => small_v k n u s hs w
  have S2 := Lib.hid fun w => small_v k' n' u' s' hs' w
  have A1 := Lib.hid fun w => awake_ok w
  have sd1 := small_dec s
  have sd2 := small_dec s'
  unfold V at *
  rw [decide_eq_false g1] at sd1
  rw [decide_eq_true g2] at sd2
  clear g1 g2
  obtain ⟨hA, hB⟩ := two_aw w 24 24 k n u s k' n' u' s'
  obtain ⟨a0, a1, a2, a3⟩ := hA.cells
  obtain ⟨b0, b1, b2, b3⟩ := hB.cells
  go_enter Try.func5, Try.ntmps5
  go_wp2_with (first | (go_at_call 8; ((with_reducible refine (S1.out _).mono ?_)); rintro e w9 ⟨rfl, hb9⟩; clear a0 a1 a2 a3 b0 b1 b2 b3; replace hA := Aw.next (by first | exact hA | exact hA.alloc _ | exact hA.draw _ | exact (hA.draw _).alloc _ | exact (hA.alloc _).draw _ | exact hA.draw1 | exact hA.draw1.alloc _ | exact (hA.alloc _).draw1) hb9; replace hB := Aw.next (by first | exact hB | exact hB.alloc _ | exact hB.draw _ | exact (hB.draw _).alloc _ | exact (hB.alloc _).draw _ | exact hB.draw1 | exact hB.draw1.alloc _ | exact (hB.alloc _).draw1) hb9; obtain ⟨a0, a1, a2, a3⟩ := hA.cells; obtain ⟨b0, b1, b2, b3⟩ := hB.cells; clear hb9) | (go_at_call 8; ((with_reducible refine (S2.out _).mono ?_)); rintro e w9 ⟨rfl, hb9⟩; clear a0 a1 a2 a3 b0 b1 b2 b3; replace hA := Aw.next (by first | exact hA | exact hA.alloc _ | exact hA.draw _ | exact (hA.draw _).alloc _ | exact (hA.alloc _).draw _ | exact hA.draw1 | exact hA.draw1.alloc _ | exact (hA.alloc _).draw1) hb9; replace hB := Aw.next (by first | exact hB | exact hB.alloc _ | exact hB.draw _ | exact (hB.draw _).alloc _ | exact (hB.alloc _).draw _ | exact hB.draw1 | exact hB.draw1.alloc _ | exact (hB.alloc _).draw1) hb9; obtain ⟨a0, a1, a2, a3⟩ := hA.cells; obtain ⟨b0, b1, b2, b3⟩ := hB.cells; clear hb9) | (go_at_call 9; ((with_reducible refine (A1.out _).mono ?_)); rintro e w9 ⟨rfl, hb9⟩; clear a0 a1 a2 a3 b0 b1 b2 b3; replace hA := Aw.next (by first | exact hA | exact hA.alloc _ | exact hA.draw _ | exact (hA.draw _).alloc _ | exact (hA.alloc _).draw _ | exact hA.draw1 | exact hA.draw1.alloc _ | exact (hA.alloc _).draw1) hb9; replace hB := Aw.next (by first | exact hB | exact hB.alloc _ | exact hB.draw _ | exact (hB.draw _).alloc _ | exact (hB.alloc _).draw _ | exact hB.draw1 | exact hB.draw1.alloc _ | exact (hB.alloc _).draw1) hb9; obtain ⟨a0, a1, a2, a3⟩ := hA.cells; obtain ⟨b0, b1, b2, b3⟩ := hB.cells; clear hb9))
  go_ret
  exact ⟨rfl, hA.1⟩
theorem compareBack_law (k n : Int) (u : Nat) (s : ByteArray) (k' n' : Int) (u' : Nat) (s' : ByteArray) (hc : Came n u s) (hc' : Came n' u' s') (w : World) : Calls Try.prog 5 #[V k n u s, V k' n' u' s'] w fun e w' => e = .returned (.bool true) ∧ Below w.heap.size w w' := by
  by_cases g1 : (100 : Int) < s.size
  · exact back_long1 k n u s k' n' u' s' hc hc' g1 w
  by_cases g2 : (100 : Int) < s'.size
  · exact back_long2 k n u s k' n' u' s' hc hc' g1 g2 w
  cases h : sumB k n u s k' n' u' s'
  · exact back_no k n u s k' n' u' s' hc hc' g1 g2 h w
  by_cases hk : k = 1 ∧ k' = 1
  case neg => exact back_real k n u s k' n' u' s' hc hc' g1 g2 h hk w
  obtain ⟨rfl, rfl⟩ := hk
  obtain ⟨h1, h2, _, _⟩ := sumB_yes h
  have f := check_facts h1
  have hu := f.2.2.1 (by omega)
  have hs := text_nil (f.2.2.2.1 (by omega))
  subst hu hs
  cases o1 : wholeOk n n'
  · cases o2 : wholeOk n (-n')
    · exact back_oo n n' u' s' hc.1 hc' g2 h1 h2 o1 o2 w
    · exact back_ow n n' u' s' hc.1 hc' g2 h1 h2 o1 o2 w
  · cases o2 : wholeOk n (-n')
    · exact back_wo n n' u' s' hc.1 hc' g2 h1 h2 o1 o2 w
    · exact back_ww n n' u' s' hc.1 hc' g2 h1 h2 o1 o2 w
end Go.Proofs.Ytmlcpedbpjghhaa
