/-
  CompareSums, walked.
-/
import Derived.Test.YtmlcpedbpjghhaaCmpL0
import Derived.Test.YtmlcpedbpjghhaaCmpA2
import Derived.Test.YtmlcpedbpjghhaaCmpS4
namespace Go.Proofs.Ytmlcpedbpjghhaa
open Go.RowKit

set_option maxRecDepth 100000 in
set_option maxHeartbeats 4000000 in
theorem compareSums_law (k n : Int) (u : Nat) (s : ByteArray) (k' n' : Int) (u' : Nat) (s' : ByteArray) (hc : Came n u s) (hc' : Came n' u' s') (w : World) : Calls Try.prog 4 #[V k n u s, V k' n' u' s'] w fun e w' => e = .returned (.bool true) ∧ Below w.heap.size w w' := by
  obtain ⟨hn, hu, hs⟩ := hc
  obtain ⟨hn', hu', hs'⟩ := hc'
  have S1 := Lib.hid fun w => small_v k n u s hs w
  have S2 := Lib.hid fun w => small_v k' n' u' s' hs' w
  have A1 := Lib.hid fun w => awake_ok w
  have sd1 := small_dec s
  have sd2 := small_dec s'
  have O1 := Lib.hid fun w => plus_ok k n u s k' n' u' s' hu hu' w
  have O2 := Lib.hid fun w => rplus_ok k n u s k' n' u' s' hu hu' hn hn' w
  have O3 := Lib.hid fun w => minus_ok k n u s k' n' u' s' hu hu' w
  have O4 := Lib.hid fun w => rminus_ok k n u s k' n' u' s' hu hu' hn hn' w
  obtain ⟨j1, m1, x1, t1, B1, e1⟩ := plus_vals k n u s k' n' u' s'
  obtain ⟨j2, m2, x2, t2, B2, e2⟩ := minus_vals k n u s k' n' u' s'
  rw [e1] at O1 O2
  rw [e2] at O3 O4
  have E1 := fun k n u k' n' u' s s' w => eql_R k n u k' n' u' s s' w
  clear hn hn' hs hs' hu hu' e1 e2
  unfold V at *
  by_cases g1 : (100 : Int) < s.size
  · rw [decide_eq_true g1] at sd1
    clear g1 sd2
    obtain ⟨hA, hB⟩ := two_aw w 24 24 k n u s k' n' u' s'
    obtain ⟨a0, a1, a2, a3⟩ := hA.cells
    obtain ⟨b0, b1, b2, b3⟩ := hB.cells
    go_enter Try.func4, Try.ntmps4
    go_wp2_with (first | (go_at_call 8; ((with_reducible refine (S1.out _).mono ?_)); rintro e w9 ⟨rfl, hb9⟩; clear a0 a1 a2 a3 b0 b1 b2 b3; replace hA := Aw.next (by first | exact hA | exact hA.alloc _ | exact hA.draw _ | exact (hA.draw _).alloc _ | exact (hA.alloc _).draw _ | exact hA.draw1 | exact hA.draw1.alloc _ | exact (hA.alloc _).draw1) hb9; replace hB := Aw.next (by first | exact hB | exact hB.alloc _ | exact hB.draw _ | exact (hB.draw _).alloc _ | exact (hB.alloc _).draw _ | exact hB.draw1 | exact hB.draw1.alloc _ | exact (hB.alloc _).draw1) hb9; obtain ⟨a0, a1, a2, a3⟩ := hA.cells; obtain ⟨b0, b1, b2, b3⟩ := hB.cells; clear hb9) | (go_at_call 8; ((with_reducible refine (S2.out _).mono ?_)); rintro e w9 ⟨rfl, hb9⟩; clear a0 a1 a2 a3 b0 b1 b2 b3; replace hA := Aw.next (by first | exact hA | exact hA.alloc _ | exact hA.draw _ | exact (hA.draw _).alloc _ | exact (hA.alloc _).draw _ | exact hA.draw1 | exact hA.draw1.alloc _ | exact (hA.alloc _).draw1) hb9; replace hB := Aw.next (by first | exact hB | exact hB.alloc _ | exact hB.draw _ | exact (hB.draw _).alloc _ | exact (hB.alloc _).draw _ | exact hB.draw1 | exact hB.draw1.alloc _ | exact (hB.alloc _).draw1) hb9; obtain ⟨a0, a1, a2, a3⟩ := hA.cells; obtain ⟨b0, b1, b2, b3⟩ := hB.cells; clear hb9) | (go_at_call 9; ((with_reducible refine (A1.out _).mono ?_)); rintro e w9 ⟨rfl, hb9⟩; clear a0 a1 a2 a3 b0 b1 b2 b3; replace hA := Aw.next (by first | exact hA | exact hA.alloc _ | exact hA.draw _ | exact (hA.draw _).alloc _ | exact (hA.alloc _).draw _ | exact hA.draw1 | exact hA.draw1.alloc _ | exact (hA.alloc _).draw1) hb9; replace hB := Aw.next (by first | exact hB | exact hB.alloc _ | exact hB.draw _ | exact (hB.draw _).alloc _ | exact (hB.alloc _).draw _ | exact hB.draw1 | exact hB.draw1.alloc _ | exact (hB.alloc _).draw1) hb9; obtain ⟨a0, a1, a2, a3⟩ := hA.cells; obtain ⟨b0, b1, b2, b3⟩ := hB.cells; clear hb9))
    go_ret
    exact ⟨rfl, hA.1⟩
  · rw [decide_eq_false g1] at sd1
    by_cases g2 : (100 : Int) < s'.size
    · rw [decide_eq_true g2] at sd2
      clear g1 g2
      obtain ⟨hA, hB⟩ := two_aw w 24 24 k n u s k' n' u' s'
      obtain ⟨a0, a1, a2, a3⟩ := hA.cells
      obtain ⟨b0, b1, b2, b3⟩ := hB.cells
      go_enter Try.func4, Try.ntmps4
      go_wp2_with (first | (go_at_call 8; ((with_reducible refine (S1.out _).mono ?_)); rintro e w9 ⟨rfl, hb9⟩; clear a0 a1 a2 a3 b0 b1 b2 b3; replace hA := Aw.next (by first | exact hA | exact hA.alloc _ | exact hA.draw _ | exact (hA.draw _).alloc _ | exact (hA.alloc _).draw _ | exact hA.draw1 | exact hA.draw1.alloc _ | exact (hA.alloc _).draw1) hb9; replace hB := Aw.next (by first | exact hB | exact hB.alloc _ | exact hB.draw _ | exact (hB.draw _).alloc _ | exact (hB.alloc _).draw _ | exact hB.draw1 | exact hB.draw1.alloc _ | exact (hB.alloc _).draw1) hb9; obtain ⟨a0, a1, a2, a3⟩ := hA.cells; obtain ⟨b0, b1, b2, b3⟩ := hB.cells; clear hb9) | (go_at_call 8; ((with_reducible refine (S2.out _).mono ?_)); rintro e w9 ⟨rfl, hb9⟩; clear a0 a1 a2 a3 b0 b1 b2 b3; replace hA := Aw.next (by first | exact hA | exact hA.alloc _ | exact hA.draw _ | exact (hA.draw _).alloc _ | exact (hA.alloc _).draw _ | exact hA.draw1 | exact hA.draw1.alloc _ | exact (hA.alloc _).draw1) hb9; replace hB := Aw.next (by first | exact hB | exact hB.alloc _ | exact hB.draw _ | exact (hB.draw _).alloc _ | exact (hB.alloc _).draw _ | exact hB.draw1 | exact hB.draw1.alloc _ | exact (hB.alloc _).draw1) hb9; obtain ⟨a0, a1, a2, a3⟩ := hA.cells; obtain ⟨b0, b1, b2, b3⟩ := hB.cells; clear hb9) | (go_at_call 9; ((with_reducible refine (A1.out _).mono ?_)); rintro e w9 ⟨rfl, hb9⟩; clear a0 a1 a2 a3 b0 b1 b2 b3; replace hA := Aw.next (by first | exact hA | exact hA.alloc _ | exact hA.draw _ | exact (hA.draw _).alloc _ | exact (hA.alloc _).draw _ | exact hA.draw1 | exact hA.draw1.alloc _ | exact (hA.alloc _).draw1) hb9; replace hB := Aw.next (by first | exact hB | exact hB.alloc _ | exact hB.draw _ | exact (hB.draw _).alloc _ | exact (hB.alloc _).draw _ | exact hB.draw1 | exact hB.draw1.alloc _ | exact (hB.alloc _).draw1) hb9; obtain ⟨a0, a1, a2, a3⟩ := hA.cells; obtain ⟨b0, b1, b2, b3⟩ := hB.cells; clear hb9))
      go_ret
      exact ⟨rfl, hA.1⟩
    · rw [decide_eq_false g2] at sd2
      clear g1 g2
      obtain ⟨hA, hB⟩ := two_aw w 24 24 k n u s k' n' u' s'
      obtain ⟨a0, a1, a2, a3⟩ := hA.cells
      obtain ⟨b0, b1, b2, b3⟩ := hB.cells
      have az := hA.2.2.1
      have bz := hB.2.2.1
      go_enter Try.func4, Try.ntmps4
      go_upto_region 4 with (first | (go_at_call 8; ((with_reducible refine (S1.out _).mono ?_)); rintro e w9 ⟨rfl, hb9⟩; clear a0 a1 a2 a3 az b0 b1 b2 b3 bz; replace hA := Aw.next (by first | exact hA | exact hA.alloc _ | exact hA.draw _ | exact (hA.draw _).alloc _ | exact (hA.alloc _).draw _ | exact hA.draw1 | exact hA.draw1.alloc _ | exact (hA.alloc _).draw1) hb9; replace hB := Aw.next (by first | exact hB | exact hB.alloc _ | exact hB.draw _ | exact (hB.draw _).alloc _ | exact (hB.alloc _).draw _ | exact hB.draw1 | exact hB.draw1.alloc _ | exact (hB.alloc _).draw1) hb9; obtain ⟨a0, a1, a2, a3⟩ := hA.cells; have az := hA.2.2.1; obtain ⟨b0, b1, b2, b3⟩ := hB.cells; have bz := hB.2.2.1; clear hb9) | (go_at_call 8; ((with_reducible refine (S2.out _).mono ?_)); rintro e w9 ⟨rfl, hb9⟩; clear a0 a1 a2 a3 az b0 b1 b2 b3 bz; replace hA := Aw.next (by first | exact hA | exact hA.alloc _ | exact hA.draw _ | exact (hA.draw _).alloc _ | exact (hA.alloc _).draw _ | exact hA.draw1 | exact hA.draw1.alloc _ | exact (hA.alloc _).draw1) hb9; replace hB := Aw.next (by first | exact hB | exact hB.alloc _ | exact hB.draw _ | exact (hB.draw _).alloc _ | exact (hB.alloc _).draw _ | exact hB.draw1 | exact hB.draw1.alloc _ | exact (hB.alloc _).draw1) hb9; obtain ⟨a0, a1, a2, a3⟩ := hA.cells; have az := hA.2.2.1; obtain ⟨b0, b1, b2, b3⟩ := hB.cells; have bz := hB.2.2.1; clear hb9) | (go_at_call 12; ((with_reducible refine (O1.out _).mono ?_)); rintro e w9 ⟨rfl, hb9⟩; clear a0 a1 a2 a3 az b0 b1 b2 b3 bz; replace hA := Aw.next (by first | exact hA | exact hA.alloc _ | exact hA.draw _ | exact (hA.draw _).alloc _ | exact (hA.alloc _).draw _ | exact hA.draw1 | exact hA.draw1.alloc _ | exact (hA.alloc _).draw1) hb9; replace hB := Aw.next (by first | exact hB | exact hB.alloc _ | exact hB.draw _ | exact (hB.draw _).alloc _ | exact (hB.alloc _).draw _ | exact hB.draw1 | exact hB.draw1.alloc _ | exact (hB.alloc _).draw1) hb9; obtain ⟨a0, a1, a2, a3⟩ := hA.cells; have az := hA.2.2.1; obtain ⟨b0, b1, b2, b3⟩ := hB.cells; have bz := hB.2.2.1; clear hb9))
      obtain ⟨W5, hW5⟩ : ∃ W5, W5 = w9.alloc (.cells #[.int .u8 j1, .int .i64 m1, .int .u64 x1, .string t1] 28) := ⟨_, rfl⟩
      rw [← hW5]
      have hC : Aw w W5 w9.heap.size j1 m1 x1 t1 := by subst hW5; exact aw_new hA _ _ _ _ _
      replace hA := (show Aw w W5 _ _ _ _ _ by subst hW5; exact hA.alloc _)
      replace hB := (show Aw w W5 _ _ _ _ _ by subst hW5; exact hB.alloc _)
      clear hW5 az bz a0 a1 a2 a3 b0 b1 b2 b3
      generalize w9.heap.size = pc at *
      clear w9
      obtain ⟨a0, a1, a2, a3⟩ := hA.cells
      obtain ⟨b0, b1, b2, b3⟩ := hB.cells
      obtain ⟨c0, c1, c2, c3⟩ := hC.cells
      have az := hA.2.2.1
      have bz := hB.2.2.1
      have cz := hC.2.2.1
      go_upto_region 5 with (first | (go_at_call 13; ((with_reducible refine (O2.out _).mono ?_)); rintro e w9 ⟨rfl, hb9⟩; clear a0 a1 a2 a3 az b0 b1 b2 b3 bz c0 c1 c2 c3 cz; replace hA := Aw.next (by first | exact hA | exact hA.alloc _ | exact hA.draw _ | exact (hA.draw _).alloc _ | exact (hA.alloc _).draw _ | exact hA.draw1 | exact hA.draw1.alloc _ | exact (hA.alloc _).draw1) hb9; replace hB := Aw.next (by first | exact hB | exact hB.alloc _ | exact hB.draw _ | exact (hB.draw _).alloc _ | exact (hB.alloc _).draw _ | exact hB.draw1 | exact hB.draw1.alloc _ | exact (hB.alloc _).draw1) hb9; replace hC := Aw.next (by first | exact hC | exact hC.alloc _ | exact hC.draw _ | exact (hC.draw _).alloc _ | exact (hC.alloc _).draw _ | exact hC.draw1 | exact hC.draw1.alloc _ | exact (hC.alloc _).draw1) hb9; obtain ⟨a0, a1, a2, a3⟩ := hA.cells; have az := hA.2.2.1; obtain ⟨b0, b1, b2, b3⟩ := hB.cells; have bz := hB.2.2.1; obtain ⟨c0, c1, c2, c3⟩ := hC.cells; have cz := hC.2.2.1; clear hb9))
      obtain ⟨W5, hW5⟩ : ∃ W5, W5 = w9.alloc (.cells #[.int .u8 j1, .int .i64 m1, .int .u64 x1, .string t1] 24) := ⟨_, rfl⟩
      rw [← hW5]
      have hD : Aw w W5 w9.heap.size j1 m1 x1 t1 := by subst hW5; exact aw_new hA _ _ _ _ _
      replace hA := (show Aw w W5 _ _ _ _ _ by subst hW5; exact hA.alloc _)
      replace hB := (show Aw w W5 _ _ _ _ _ by subst hW5; exact hB.alloc _)
      replace hC := (show Aw w W5 _ _ _ _ _ by subst hW5; exact hC.alloc _)
      clear hW5 az bz cz a0 a1 a2 a3 b0 b1 b2 b3 c0 c1 c2 c3
      generalize w9.heap.size = pd at *
      clear w9
      obtain ⟨a0, a1, a2, a3⟩ := hA.cells
      obtain ⟨b0, b1, b2, b3⟩ := hB.cells
      obtain ⟨c0, c1, c2, c3⟩ := hC.cells
      obtain ⟨d0, d1, d2, d3⟩ := hD.cells
      have az := hA.2.2.1
      have bz := hB.2.2.1
      have cz := hC.2.2.1
      have dz := hD.2.2.1
      go_upto_region 6 with (first | (go_at_call 14; ((with_reducible refine (O3.out _).mono ?_)); rintro e w9 ⟨rfl, hb9⟩; clear a0 a1 a2 a3 az b0 b1 b2 b3 bz c0 c1 c2 c3 cz d0 d1 d2 d3 dz; replace hA := Aw.next (by first | exact hA | exact hA.alloc _ | exact hA.draw _ | exact (hA.draw _).alloc _ | exact (hA.alloc _).draw _ | exact hA.draw1 | exact hA.draw1.alloc _ | exact (hA.alloc _).draw1) hb9; replace hB := Aw.next (by first | exact hB | exact hB.alloc _ | exact hB.draw _ | exact (hB.draw _).alloc _ | exact (hB.alloc _).draw _ | exact hB.draw1 | exact hB.draw1.alloc _ | exact (hB.alloc _).draw1) hb9; replace hC := Aw.next (by first | exact hC | exact hC.alloc _ | exact hC.draw _ | exact (hC.draw _).alloc _ | exact (hC.alloc _).draw _ | exact hC.draw1 | exact hC.draw1.alloc _ | exact (hC.alloc _).draw1) hb9; replace hD := Aw.next (by first | exact hD | exact hD.alloc _ | exact hD.draw _ | exact (hD.draw _).alloc _ | exact (hD.alloc _).draw _ | exact hD.draw1 | exact hD.draw1.alloc _ | exact (hD.alloc _).draw1) hb9; obtain ⟨a0, a1, a2, a3⟩ := hA.cells; have az := hA.2.2.1; obtain ⟨b0, b1, b2, b3⟩ := hB.cells; have bz := hB.2.2.1; obtain ⟨c0, c1, c2, c3⟩ := hC.cells; have cz := hC.2.2.1; obtain ⟨d0, d1, d2, d3⟩ := hD.cells; have dz := hD.2.2.1; clear hb9))
      obtain ⟨W5, hW5⟩ : ∃ W5, W5 = w9.alloc (.cells #[.int .u8 j2, .int .i64 m2, .int .u64 x2, .string t2] 28) := ⟨_, rfl⟩
      rw [← hW5]
      have hE : Aw w W5 w9.heap.size j2 m2 x2 t2 := by subst hW5; exact aw_new hA _ _ _ _ _
      replace hA := (show Aw w W5 _ _ _ _ _ by subst hW5; exact hA.alloc _)
      replace hB := (show Aw w W5 _ _ _ _ _ by subst hW5; exact hB.alloc _)
      replace hC := (show Aw w W5 _ _ _ _ _ by subst hW5; exact hC.alloc _)
      replace hD := (show Aw w W5 _ _ _ _ _ by subst hW5; exact hD.alloc _)
      clear hW5 az bz cz dz a0 a1 a2 a3 b0 b1 b2 b3 c0 c1 c2 c3 d0 d1 d2 d3
      generalize w9.heap.size = pe at *
      clear w9
      obtain ⟨a0, a1, a2, a3⟩ := hA.cells
      obtain ⟨b0, b1, b2, b3⟩ := hB.cells
      obtain ⟨c0, c1, c2, c3⟩ := hC.cells
      obtain ⟨d0, d1, d2, d3⟩ := hD.cells
      obtain ⟨e0, e1, e2, e3⟩ := hE.cells
      have az := hA.2.2.1
      have bz := hB.2.2.1
      have cz := hC.2.2.1
      have dz := hD.2.2.1
      have ez := hE.2.2.1
      go_upto_region 7 with (first | (go_at_call 15; ((with_reducible refine (O4.out _).mono ?_)); rintro e w9 ⟨rfl, hb9⟩; clear a0 a1 a2 a3 az b0 b1 b2 b3 bz c0 c1 c2 c3 cz d0 d1 d2 d3 dz e0 e1 e2 e3 ez; replace hA := Aw.next (by first | exact hA | exact hA.alloc _ | exact hA.draw _ | exact (hA.draw _).alloc _ | exact (hA.alloc _).draw _ | exact hA.draw1 | exact hA.draw1.alloc _ | exact (hA.alloc _).draw1) hb9; replace hB := Aw.next (by first | exact hB | exact hB.alloc _ | exact hB.draw _ | exact (hB.draw _).alloc _ | exact (hB.alloc _).draw _ | exact hB.draw1 | exact hB.draw1.alloc _ | exact (hB.alloc _).draw1) hb9; replace hC := Aw.next (by first | exact hC | exact hC.alloc _ | exact hC.draw _ | exact (hC.draw _).alloc _ | exact (hC.alloc _).draw _ | exact hC.draw1 | exact hC.draw1.alloc _ | exact (hC.alloc _).draw1) hb9; replace hD := Aw.next (by first | exact hD | exact hD.alloc _ | exact hD.draw _ | exact (hD.draw _).alloc _ | exact (hD.alloc _).draw _ | exact hD.draw1 | exact hD.draw1.alloc _ | exact (hD.alloc _).draw1) hb9; replace hE := Aw.next (by first | exact hE | exact hE.alloc _ | exact hE.draw _ | exact (hE.draw _).alloc _ | exact (hE.alloc _).draw _ | exact hE.draw1 | exact hE.draw1.alloc _ | exact (hE.alloc _).draw1) hb9; obtain ⟨a0, a1, a2, a3⟩ := hA.cells; have az := hA.2.2.1; obtain ⟨b0, b1, b2, b3⟩ := hB.cells; have bz := hB.2.2.1; obtain ⟨c0, c1, c2, c3⟩ := hC.cells; have cz := hC.2.2.1; obtain ⟨d0, d1, d2, d3⟩ := hD.cells; have dz := hD.2.2.1; obtain ⟨e0, e1, e2, e3⟩ := hE.cells; have ez := hE.2.2.1; clear hb9))
      obtain ⟨W5, hW5⟩ : ∃ W5, W5 = w9.alloc (.cells #[.int .u8 j2, .int .i64 m2, .int .u64 x2, .string t2] 24) := ⟨_, rfl⟩
      rw [← hW5]
      have hF : Aw w W5 w9.heap.size j2 m2 x2 t2 := by subst hW5; exact aw_new hA _ _ _ _ _
      replace hA := (show Aw w W5 _ _ _ _ _ by subst hW5; exact hA.alloc _)
      replace hB := (show Aw w W5 _ _ _ _ _ by subst hW5; exact hB.alloc _)
      replace hC := (show Aw w W5 _ _ _ _ _ by subst hW5; exact hC.alloc _)
      replace hD := (show Aw w W5 _ _ _ _ _ by subst hW5; exact hD.alloc _)
      replace hE := (show Aw w W5 _ _ _ _ _ by subst hW5; exact hE.alloc _)
      clear hW5 az bz cz dz ez a0 a1 a2 a3 b0 b1 b2 b3 c0 c1 c2 c3 d0 d1 d2 d3 e0 e1 e2 e3
      generalize w9.heap.size = pf at *
      clear w9
      obtain ⟨a0, a1, a2, a3⟩ := hA.cells
      obtain ⟨b0, b1, b2, b3⟩ := hB.cells
      obtain ⟨c0, c1, c2, c3⟩ := hC.cells
      obtain ⟨d0, d1, d2, d3⟩ := hD.cells
      obtain ⟨e0, e1, e2, e3⟩ := hE.cells
      obtain ⟨f0, f1, f2, f3⟩ := hF.cells
      have az := hA.2.2.1
      have bz := hB.2.2.1
      have cz := hC.2.2.1
      have dz := hD.2.2.1
      have ez := hE.2.2.1
      have fz := hF.2.2.1
      go_wp2_with (first | (go_at_call 9; ((with_reducible refine (A1.out _).mono ?_)); rintro e w9 ⟨rfl, hb9⟩; clear a0 a1 a2 a3 az b0 b1 b2 b3 bz c0 c1 c2 c3 cz d0 d1 d2 d3 dz e0 e1 e2 e3 ez f0 f1 f2 f3 fz; replace hA := Aw.next (by first | exact hA | exact hA.alloc _ | exact hA.draw _ | exact (hA.draw _).alloc _ | exact (hA.alloc _).draw _ | exact hA.draw1 | exact hA.draw1.alloc _ | exact (hA.alloc _).draw1) hb9; replace hB := Aw.next (by first | exact hB | exact hB.alloc _ | exact hB.draw _ | exact (hB.draw _).alloc _ | exact (hB.alloc _).draw _ | exact hB.draw1 | exact hB.draw1.alloc _ | exact (hB.alloc _).draw1) hb9; replace hC := Aw.next (by first | exact hC | exact hC.alloc _ | exact hC.draw _ | exact (hC.draw _).alloc _ | exact (hC.alloc _).draw _ | exact hC.draw1 | exact hC.draw1.alloc _ | exact (hC.alloc _).draw1) hb9; replace hD := Aw.next (by first | exact hD | exact hD.alloc _ | exact hD.draw _ | exact (hD.draw _).alloc _ | exact (hD.alloc _).draw _ | exact hD.draw1 | exact hD.draw1.alloc _ | exact (hD.alloc _).draw1) hb9; replace hE := Aw.next (by first | exact hE | exact hE.alloc _ | exact hE.draw _ | exact (hE.draw _).alloc _ | exact (hE.alloc _).draw _ | exact hE.draw1 | exact hE.draw1.alloc _ | exact (hE.alloc _).draw1) hb9; replace hF := Aw.next (by first | exact hF | exact hF.alloc _ | exact hF.draw _ | exact (hF.draw _).alloc _ | exact (hF.alloc _).draw _ | exact hF.draw1 | exact hF.draw1.alloc _ | exact (hF.alloc _).draw1) hb9; obtain ⟨a0, a1, a2, a3⟩ := hA.cells; have az := hA.2.2.1; obtain ⟨b0, b1, b2, b3⟩ := hB.cells; have bz := hB.2.2.1; obtain ⟨c0, c1, c2, c3⟩ := hC.cells; have cz := hC.2.2.1; obtain ⟨d0, d1, d2, d3⟩ := hD.cells; have dz := hD.2.2.1; obtain ⟨e0, e1, e2, e3⟩ := hE.cells; have ez := hE.2.2.1; obtain ⟨f0, f1, f2, f3⟩ := hF.cells; have fz := hF.2.2.1; clear hb9))
      go_ret
      exact ⟨rfl, hA.1⟩
end Go.Proofs.Ytmlcpedbpjghhaa
