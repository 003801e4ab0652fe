/-
  CompareOne: for any two values it returns true.
-/
import Derived.Test.YtmlcpedbpjghhaaCmpOneB
import Derived.Test.YtmlcpedbpjghhaaCmpOneC
import Derived.Test.YtmlcpedbpjghhaaCmpOneD
namespace Go.Proofs.Ytmlcpedbpjghhaa
open Go.RowKit

set_option maxRecDepth 100000 in
set_option maxHeartbeats 2000000 in
theorem one_long1 (k n : Int) (u : Nat) (s : ByteArray) (k' n' : Int) (u' : Nat) (s' : ByteArray) (hc : Came n u s) (hc' : Came n' u' s') (g1 : (100 : Int) < s.size) (w : World) : Calls Try.prog 7 #[V k n u s, V k' n' u' s'] w fun e w' => e = .returned (.bool true) ∧ Below w.heap.size w w' := by
  obtain ⟨hn, hu, hs⟩ := hc
  obtain ⟨hn', hu', hs'⟩ := hc'
  have S1 := Lib.hid fun w => small_v k n u s hs w
  have S2 := Lib.hid fun w => small_v k' n' u' s' hs' w
  have A1 := Lib.hid fun w => awake_ok w
  have sd1 := small_dec s
  have sd2 := small_dec s'
  unfold V at *
  rw [decide_eq_true g1] at sd1
  clear g1 sd2
  obtain ⟨hA, hB⟩ := two_aw w 24 24 k n u s k' n' u' s'
  obtain ⟨a0, a1, a2, a3⟩ := hA.cells
  obtain ⟨b0, b1, b2, b3⟩ := hB.cells
  go_enter Try.func7, Try.ntmps7
  go_wp2_with (first | (go_at_call 8; ((with_reducible refine (S1.out _).mono ?_)); rintro e w9 ⟨rfl, hb9⟩; clear a0 a1 a2 a3 b0 b1 b2 b3; replace hA := Aw.next (by first | exact hA | exact hA.alloc _ | exact hA.draw _ | exact (hA.draw _).alloc _ | exact (hA.alloc _).draw _ | exact hA.draw1 | exact hA.draw1.alloc _ | exact (hA.alloc _).draw1) hb9; replace hB := Aw.next (by first | exact hB | exact hB.alloc _ | exact hB.draw _ | exact (hB.draw _).alloc _ | exact (hB.alloc _).draw _ | exact hB.draw1 | exact hB.draw1.alloc _ | exact (hB.alloc _).draw1) hb9; obtain ⟨a0, a1, a2, a3⟩ := hA.cells; obtain ⟨b0, b1, b2, b3⟩ := hB.cells; clear hb9) | (go_at_call 8; ((with_reducible refine (S2.out _).mono ?_)); rintro e w9 ⟨rfl, hb9⟩; clear a0 a1 a2 a3 b0 b1 b2 b3; replace hA := Aw.next (by first | exact hA | exact hA.alloc _ | exact hA.draw _ | exact (hA.draw _).alloc _ | exact (hA.alloc _).draw _ | exact hA.draw1 | exact hA.draw1.alloc _ | exact (hA.alloc _).draw1) hb9; replace hB := Aw.next (by first | exact hB | exact hB.alloc _ | exact hB.draw _ | exact (hB.draw _).alloc _ | exact (hB.alloc _).draw _ | exact hB.draw1 | exact hB.draw1.alloc _ | exact (hB.alloc _).draw1) hb9; obtain ⟨a0, a1, a2, a3⟩ := hA.cells; obtain ⟨b0, b1, b2, b3⟩ := hB.cells; clear hb9) | (go_at_call 9; ((with_reducible refine (A1.out _).mono ?_)); rintro e w9 ⟨rfl, hb9⟩; clear a0 a1 a2 a3 b0 b1 b2 b3; replace hA := Aw.next (by first | exact hA | exact hA.alloc _ | exact hA.draw _ | exact (hA.draw _).alloc _ | exact (hA.alloc _).draw _ | exact hA.draw1 | exact hA.draw1.alloc _ | exact (hA.alloc _).draw1) hb9; replace hB := Aw.next (by first | exact hB | exact hB.alloc _ | exact hB.draw _ | exact (hB.draw _).alloc _ | exact (hB.alloc _).draw _ | exact hB.draw1 | exact hB.draw1.alloc _ | exact (hB.alloc _).draw1) hb9; obtain ⟨a0, a1, a2, a3⟩ := hA.cells; obtain ⟨b0, b1, b2, b3⟩ := hB.cells; clear hb9))
  go_ret
  exact ⟨rfl, hA.1⟩
set_option maxRecDepth 100000 in
set_option maxHeartbeats 2000000 in
theorem one_long2 (k n : Int) (u : Nat) (s : ByteArray) (k' n' : Int) (u' : Nat) (s' : ByteArray) (hc : Came n u s) (hc' : Came n' u' s') (g1 : ¬ (100 : Int) < s.size) (g2 : (100 : Int) < s'.size) (w : World) : Calls Try.prog 7 #[V k n u s, V k' n' u' s'] w fun e w' => e = .returned (.bool true) ∧ Below w.heap.size w w' := by
  obtain ⟨hn, hu, hs⟩ := hc
  obtain ⟨hn', hu', hs'⟩ := hc'
  have S1 := Lib.hid fun w => small_v k n u s hs w
  have S2 := Lib.hid fun w => small_v k' n' u' s' hs' w
  have A1 := Lib.hid fun w => awake_ok w
  have sd1 := small_dec s
  have sd2 := small_dec s'
  unfold V at *
  rw [decide_eq_false g1] at sd1
  rw [decide_eq_true g2] at sd2
  clear g1 g2
  obtain ⟨hA, hB⟩ := two_aw w 24 24 k n u s k' n' u' s'
  obtain ⟨a0, a1, a2, a3⟩ := hA.cells
  obtain ⟨b0, b1, b2, b3⟩ := hB.cells
  go_enter Try.func7, Try.ntmps7
  go_wp2_with (first | (go_at_call 8; ((with_reducible refine (S1.out _).mono ?_)); rintro e w9 ⟨rfl, hb9⟩; clear a0 a1 a2 a3 b0 b1 b2 b3; replace hA := Aw.next (by first | exact hA | exact hA.alloc _ | exact hA.draw _ | exact (hA.draw _).alloc _ | exact (hA.alloc _).draw _ | exact hA.draw1 | exact hA.draw1.alloc _ | exact (hA.alloc _).draw1) hb9; replace hB := Aw.next (by first | exact hB | exact hB.alloc _ | exact hB.draw _ | exact (hB.draw _).alloc _ | exact (hB.alloc _).draw _ | exact hB.draw1 | exact hB.draw1.alloc _ | exact (hB.alloc _).draw1) hb9; obtain ⟨a0, a1, a2, a3⟩ := hA.cells; obtain ⟨b0, b1, b2, b3⟩ := hB.cells; clear hb9) | (go_at_call 8; ((with_reducible refine (S2.out _).mono ?_)); rintro e w9 ⟨rfl, hb9⟩; clear a0 a1 a2 a3 b0 b1 b2 b3; replace hA := Aw.next (by first | exact hA | exact hA.alloc _ | exact hA.draw _ | exact (hA.draw _).alloc _ | exact (hA.alloc _).draw _ | exact hA.draw1 | exact hA.draw1.alloc _ | exact (hA.alloc _).draw1) hb9; replace hB := Aw.next (by first | exact hB | exact hB.alloc _ | exact hB.draw _ | exact (hB.draw _).alloc _ | exact (hB.alloc _).draw _ | exact hB.draw1 | exact hB.draw1.alloc _ | exact (hB.alloc _).draw1) hb9; obtain ⟨a0, a1, a2, a3⟩ := hA.cells; obtain ⟨b0, b1, b2, b3⟩ := hB.cells; clear hb9) | (go_at_call 9; ((with_reducible refine (A1.out _).mono ?_)); rintro e w9 ⟨rfl, hb9⟩; clear a0 a1 a2 a3 b0 b1 b2 b3; replace hA := Aw.next (by first | exact hA | exact hA.alloc _ | exact hA.draw _ | exact (hA.draw _).alloc _ | exact (hA.alloc _).draw _ | exact hA.draw1 | exact hA.draw1.alloc _ | exact (hA.alloc _).draw1) hb9; replace hB := Aw.next (by first | exact hB | exact hB.alloc _ | exact hB.draw _ | exact (hB.draw _).alloc _ | exact (hB.alloc _).draw _ | exact hB.draw1 | exact hB.draw1.alloc _ | exact (hB.alloc _).draw1) hb9; obtain ⟨a0, a1, a2, a3⟩ := hA.cells; obtain ⟨b0, b1, b2, b3⟩ := hB.cells; clear hb9))
  go_ret
  exact ⟨rfl, hA.1⟩
theorem bool_cases {P : Prop} (b : Bool) (h1 : b = true → P) (h2 : b = false → P) : P := by cases b; exact h2 rfl; exact h1 rfl
theorem compareOne_law (k n : Int) (u : Nat) (s : ByteArray) (k' n' : Int) (u' : Nat) (s' : ByteArray) (hc : Came n u s) (hc' : Came n' u' s') (w : World) : Calls Try.prog 7 #[V k n u s, V k' n' u' s'] w fun e w' => e = .returned (.bool true) ∧ Below w.heap.size w w' := by
  by_cases g1 : (100 : Int) < s.size
  · exact one_long1 k n u s k' n' u' s' hc hc' g1 w
  by_cases g2 : (100 : Int) < s'.size
  · exact one_long2 k n u s k' n' u' s' hc hc' g1 g2 w
  by_cases h : checkN k n u s = 0
  case neg => exact one_bad1 k n u s k' n' u' s' hc hc' g1 g2 h w
  by_cases h' : checkN k' n' u' s' = 0
  case neg => exact one_bad2 k n u s k' n' u' s' hc hc' g1 g2 h h' w
  have f := check_facts h
  obtain ⟨y1, y5, y6, x2, hun, hor⟩ := one_law h h'
  by_cases hU : fitsB k k' = false ∨ isNan u = true ∨ isNan u' = true
  · obtain ⟨x3, x4, x5, x6, x1⟩ := hun hU
    generalize he : (k == k' && n == n' && ((u : Int) == (u' : Int)) && s.toList == s'.toList) = B at x1
    cases hf : fitsB k k'
    · cases B
      · rw [Bool.false_and] at x1
        rw [x1] at x2 y1
        rw [x3] at y5
        rw [x4] at y6
        exact one_u1 k n u s k' n' u' s' hc hc' g1 g2 h h' x1 x2 x3 x4 x5 x6 y1 y5 y6 hf he w
      · cases hk2 : (k == 2)
        · rw [hk2] at x1
          rw [x1] at x2 y1
          rw [x3] at y5
          rw [x4] at y6
          exact one_u2 k n u s k' n' u' s' hc hc' g1 g2 h h' x1 x2 x3 x4 x5 x6 y1 y5 y6 hf he hk2 w
        · rw [hk2] at x1
          rw [x1] at x2 y1
          rw [x3] at y5
          rw [x4] at y6
          exact one_u3 k n u s k' n' u' s' hc hc' g1 g2 h h' x1 x2 x3 x4 x5 x6 y1 y5 y6 hf he hk2 w
    · have hk2 : (k == 2) = false := by
        unfold fitsB at hf
        cases hk : numB k
        · rw [hk] at hf; simp at hf; simp; omega
        · have := num_cases hk; simp; omega
      rw [hk2, Bool.and_false] at x1
      rw [x1] at x2 y1
      rw [x3] at y5
      rw [x4] at y6
      cases hx : isNan u
      · have hy : isNan u' = true := by rw [hf, hx] at hU; simpa using hU
        cases B
        · exact one_m1 k n u s k' n' u' s' hc hc' g1 g2 h h' x1 x2 x3 x4 x5 x6 y1 y5 y6 hf hx hy he w
        · exact one_m2 k n u s k' n' u' s' hc hc' g1 g2 h h' x1 x2 x3 x4 x5 x6 y1 y5 y6 hf hx hy he hk2 w
      · cases B
        · exact one_n1 k n u s k' n' u' s' hc hc' g1 g2 h h' x1 x2 x3 x4 x5 x6 y1 y5 y6 hf hx he w
        · exact one_n2 k n u s k' n' u' s' hc hc' g1 g2 h h' x1 x2 x3 x4 x5 x6 y1 y5 y6 hf hx he hk2 w
  · have hf : fitsB k k' = true := by
      cases e : fitsB k k'
      · exact absurd (.inl e) hU
      · rfl
    have hx : isNan u = false := by
      cases e : isNan u
      · rfl
      · exact absurd (.inr (.inl e)) hU
    have hy : isNan u' = false := by
      cases e : isNan u'
      · rfl
      · exact absurd (.inr (.inr e)) hU
    obtain ⟨i, hi⟩ := hor hf hx hy
    rcases Int.lt_trichotomy i 0 with g | g | g
    · have x : ∀ op b, saysB op i = b → holdsB op k n u s k' n' u' s' = b := fun op b e => (hi op).trans e
      refine one_less k n u s k' n' u' s' hc hc' g1 g2 h h' (x 1 _ ?_) (x 2 _ ?_) (x 3 _ ?_) (x 4 _ ?_) (x 5 _ ?_) (x 6 _ ?_) (y1.trans (x 1 _ ?_)) (y5.trans (x 3 _ ?_)) (y6.trans (x 4 _ ?_)) hf hx hy w <;> (unfold saysB; simp <;> omega)
    · have x : ∀ op b, saysB op i = b → holdsB op k n u s k' n' u' s' = b := fun op b e => (hi op).trans e
      refine one_same k n u s k' n' u' s' hc hc' g1 g2 h h' (x 1 _ ?_) (x 2 _ ?_) (x 3 _ ?_) (x 4 _ ?_) (x 5 _ ?_) (x 6 _ ?_) (y1.trans (x 1 _ ?_)) (y5.trans (x 3 _ ?_)) (y6.trans (x 4 _ ?_)) hf hx hy w <;> (subst g; decide)
    · have x : ∀ op b, saysB op i = b → holdsB op k n u s k' n' u' s' = b := fun op b e => (hi op).trans e
      refine one_more k n u s k' n' u' s' hc hc' g1 g2 h h' (x 1 _ ?_) (x 2 _ ?_) (x 3 _ ?_) (x 4 _ ?_) (x 5 _ ?_) (x 6 _ ?_) (y1.trans (x 1 _ ?_)) (y5.trans (x 3 _ ?_)) (y6.trans (x 4 _ ?_)) hf hx hy w <;> (unfold saysB; simp <;> omega)
end Go.Proofs.Ytmlcpedbpjghhaa
