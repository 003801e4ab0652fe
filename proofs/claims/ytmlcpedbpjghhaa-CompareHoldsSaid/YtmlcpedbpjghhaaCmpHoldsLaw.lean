/-
  CompareHolds, walked.
-/
import Derived.Test.YtmlcpedbpjghhaaCmpL0
import Derived.Test.YtmlcpedbpjghhaaCmpA2
namespace Go.Proofs.Ytmlcpedbpjghhaa
open Go.RowKit

set_option maxRecDepth 100000 in
set_option maxHeartbeats 1000000 in
theorem compareHolds_law (op : Int) (k n : Int) (u : Nat) (s : ByteArray) (k' n' : Int) (u' : Nat) (s' : ByteArray) (hc : Came n u s) (hc' : Came n' u' s') (w : World) : Calls Try.prog 3 #[.int .u8 op, V k n u s, V k' n' u' s'] w fun e w' => e = .returned (.bool true) ∧ Below w.heap.size w w' := by
  obtain ⟨hn, hu, hs⟩ := hc
  obtain ⟨hn', hu', hs'⟩ := hc'
  have S1 := Lib.hid fun w => small_v k n u s hs w
  have S2 := Lib.hid fun w => small_v k' n' u' s' hs' w
  have A1 := Lib.hid fun w => awake_ok w
  have sd1 := small_dec s
  have sd2 := small_dec s'
  have O1 := Lib.hid fun w => holds_ok op k n u s k' n' u' s' w
  have O2 := Lib.hid fun w => rholds_ok op k n u s k' n' u' s' hu hu' w
  clear hn hn' hs hs'
  generalize holdsB op k n u s k' n' u' s' = B at O1 O2
  unfold V at *
  by_cases g1 : (100 : Int) < s.size
  · rw [decide_eq_true g1] at sd1
    clear g1 sd2
    obtain ⟨hA, hB⟩ := two_aw w 24 24 k n u s k' n' u' s'
    obtain ⟨a0, a1, a2, a3⟩ := hA.cells
    obtain ⟨b0, b1, b2, b3⟩ := hB.cells
    go_enter Try.func3, Try.ntmps3
    go_wp2_with (first | (go_at_call 8; ((with_reducible refine (S1.out _).mono ?_)); rintro e w9 ⟨rfl, hb9⟩; clear a0 a1 a2 a3 b0 b1 b2 b3; replace hA := Aw.next (by first | exact hA | exact hA.alloc _ | exact hA.draw _ | exact (hA.draw _).alloc _ | exact (hA.alloc _).draw _ | exact hA.draw1 | exact hA.draw1.alloc _ | exact (hA.alloc _).draw1) hb9; replace hB := Aw.next (by first | exact hB | exact hB.alloc _ | exact hB.draw _ | exact (hB.draw _).alloc _ | exact (hB.alloc _).draw _ | exact hB.draw1 | exact hB.draw1.alloc _ | exact (hB.alloc _).draw1) hb9; obtain ⟨a0, a1, a2, a3⟩ := hA.cells; obtain ⟨b0, b1, b2, b3⟩ := hB.cells; clear hb9) | (go_at_call 8; ((with_reducible refine (S2.out _).mono ?_)); rintro e w9 ⟨rfl, hb9⟩; clear a0 a1 a2 a3 b0 b1 b2 b3; replace hA := Aw.next (by first | exact hA | exact hA.alloc _ | exact hA.draw _ | exact (hA.draw _).alloc _ | exact (hA.alloc _).draw _ | exact hA.draw1 | exact hA.draw1.alloc _ | exact (hA.alloc _).draw1) hb9; replace hB := Aw.next (by first | exact hB | exact hB.alloc _ | exact hB.draw _ | exact (hB.draw _).alloc _ | exact (hB.alloc _).draw _ | exact hB.draw1 | exact hB.draw1.alloc _ | exact (hB.alloc _).draw1) hb9; obtain ⟨a0, a1, a2, a3⟩ := hA.cells; obtain ⟨b0, b1, b2, b3⟩ := hB.cells; clear hb9) | (go_at_call 9; ((with_reducible refine (A1.out _).mono ?_)); rintro e w9 ⟨rfl, hb9⟩; clear a0 a1 a2 a3 b0 b1 b2 b3; replace hA := Aw.next (by first | exact hA | exact hA.alloc _ | exact hA.draw _ | exact (hA.draw _).alloc _ | exact (hA.alloc _).draw _ | exact hA.draw1 | exact hA.draw1.alloc _ | exact (hA.alloc _).draw1) hb9; replace hB := Aw.next (by first | exact hB | exact hB.alloc _ | exact hB.draw _ | exact (hB.draw _).alloc _ | exact (hB.alloc _).draw _ | exact hB.draw1 | exact hB.draw1.alloc _ | exact (hB.alloc _).draw1) hb9; obtain ⟨a0, a1, a2, a3⟩ := hA.cells; obtain ⟨b0, b1, b2, b3⟩ := hB.cells; clear hb9))
    go_ret
    exact ⟨rfl, hA.1⟩
  · rw [decide_eq_false g1] at sd1
    by_cases g2 : (100 : Int) < s'.size
    · rw [decide_eq_true g2] at sd2
      clear g1 g2
      obtain ⟨hA, hB⟩ := two_aw w 24 24 k n u s k' n' u' s'
      obtain ⟨a0, a1, a2, a3⟩ := hA.cells
      obtain ⟨b0, b1, b2, b3⟩ := hB.cells
      go_enter Try.func3, Try.ntmps3
      go_wp2_with (first | (go_at_call 8; ((with_reducible refine (S1.out _).mono ?_)); rintro e w9 ⟨rfl, hb9⟩; clear a0 a1 a2 a3 b0 b1 b2 b3; replace hA := Aw.next (by first | exact hA | exact hA.alloc _ | exact hA.draw _ | exact (hA.draw _).alloc _ | exact (hA.alloc _).draw _ | exact hA.draw1 | exact hA.draw1.alloc _ | exact (hA.alloc _).draw1) hb9; replace hB := Aw.next (by first | exact hB | exact hB.alloc _ | exact hB.draw _ | exact (hB.draw _).alloc _ | exact (hB.alloc _).draw _ | exact hB.draw1 | exact hB.draw1.alloc _ | exact (hB.alloc _).draw1) hb9; obtain ⟨a0, a1, a2, a3⟩ := hA.cells; obtain ⟨b0, b1, b2, b3⟩ := hB.cells; clear hb9) | (go_at_call 8; ((with_reducible refine (S2.out _).mono ?_)); rintro e w9 ⟨rfl, hb9⟩; clear a0 a1 a2 a3 b0 b1 b2 b3; replace hA := Aw.next (by first | exact hA | exact hA.alloc _ | exact hA.draw _ | exact (hA.draw _).alloc _ | exact (hA.alloc _).draw _ | exact hA.draw1 | exact hA.draw1.alloc _ | exact (hA.alloc _).draw1) hb9; replace hB := Aw.next (by first | exact hB | exact hB.alloc _ | exact hB.draw _ | exact (hB.draw _).alloc _ | exact (hB.alloc _).draw _ | exact hB.draw1 | exact hB.draw1.alloc _ | exact (hB.alloc _).draw1) hb9; obtain ⟨a0, a1, a2, a3⟩ := hA.cells; obtain ⟨b0, b1, b2, b3⟩ := hB.cells; clear hb9) | (go_at_call 9; ((with_reducible refine (A1.out _).mono ?_)); rintro e w9 ⟨rfl, hb9⟩; clear a0 a1 a2 a3 b0 b1 b2 b3; replace hA := Aw.next (by first | exact hA | exact hA.alloc _ | exact hA.draw _ | exact (hA.draw _).alloc _ | exact (hA.alloc _).draw _ | exact hA.draw1 | exact hA.draw1.alloc _ | exact (hA.alloc _).draw1) hb9; replace hB := Aw.next (by first | exact hB | exact hB.alloc _ | exact hB.draw _ | exact (hB.draw _).alloc _ | exact (hB.alloc _).draw _ | exact hB.draw1 | exact hB.draw1.alloc _ | exact (hB.alloc _).draw1) hb9; obtain ⟨a0, a1, a2, a3⟩ := hA.cells; obtain ⟨b0, b1, b2, b3⟩ := hB.cells; clear hb9))
      go_ret
      exact ⟨rfl, hA.1⟩
    · rw [decide_eq_false g2] at sd2
      clear g1 g2
      obtain ⟨hA, hB⟩ := two_aw w 24 24 k n u s k' n' u' s'
      obtain ⟨a0, a1, a2, a3⟩ := hA.cells
      obtain ⟨b0, b1, b2, b3⟩ := hB.cells
      go_enter Try.func3, Try.ntmps3
      go_wp2_with (first | (go_at_call 8; ((with_reducible refine (S1.out _).mono ?_)); rintro e w9 ⟨rfl, hb9⟩; clear a0 a1 a2 a3 b0 b1 b2 b3; replace hA := Aw.next (by first | exact hA | exact hA.alloc _ | exact hA.draw _ | exact (hA.draw _).alloc _ | exact (hA.alloc _).draw _ | exact hA.draw1 | exact hA.draw1.alloc _ | exact (hA.alloc _).draw1) hb9; replace hB := Aw.next (by first | exact hB | exact hB.alloc _ | exact hB.draw _ | exact (hB.draw _).alloc _ | exact (hB.alloc _).draw _ | exact hB.draw1 | exact hB.draw1.alloc _ | exact (hB.alloc _).draw1) hb9; obtain ⟨a0, a1, a2, a3⟩ := hA.cells; obtain ⟨b0, b1, b2, b3⟩ := hB.cells; clear hb9) | (go_at_call 8; ((with_reducible refine (S2.out _).mono ?_)); rintro e w9 ⟨rfl, hb9⟩; clear a0 a1 a2 a3 b0 b1 b2 b3; replace hA := Aw.next (by first | exact hA | exact hA.alloc _ | exact hA.draw _ | exact (hA.draw _).alloc _ | exact (hA.alloc _).draw _ | exact hA.draw1 | exact hA.draw1.alloc _ | exact (hA.alloc _).draw1) hb9; replace hB := Aw.next (by first | exact hB | exact hB.alloc _ | exact hB.draw _ | exact (hB.draw _).alloc _ | exact (hB.alloc _).draw _ | exact hB.draw1 | exact hB.draw1.alloc _ | exact (hB.alloc _).draw1) hb9; obtain ⟨a0, a1, a2, a3⟩ := hA.cells; obtain ⟨b0, b1, b2, b3⟩ := hB.cells; clear hb9) | (go_at_call 9; ((with_reducible refine (A1.out _).mono ?_)); rintro e w9 ⟨rfl, hb9⟩; clear a0 a1 a2 a3 b0 b1 b2 b3; replace hA := Aw.next (by first | exact hA | exact hA.alloc _ | exact hA.draw _ | exact (hA.draw _).alloc _ | exact (hA.alloc _).draw _ | exact hA.draw1 | exact hA.draw1.alloc _ | exact (hA.alloc _).draw1) hb9; replace hB := Aw.next (by first | exact hB | exact hB.alloc _ | exact hB.draw _ | exact (hB.draw _).alloc _ | exact (hB.alloc _).draw _ | exact hB.draw1 | exact hB.draw1.alloc _ | exact (hB.alloc _).draw1) hb9; obtain ⟨a0, a1, a2, a3⟩ := hA.cells; obtain ⟨b0, b1, b2, b3⟩ := hB.cells; clear hb9))
      go_region_held3 (fun w' => w'.cell? ⟨w.heap.size, 0, none⟩ = some (.int .u8 k) ∧ w'.cell? ⟨w.heap.size, 1, none⟩ = some (.int .i64 n) ∧ w'.cell? ⟨w.heap.size, 2, none⟩ = some (.int .u64 u) ∧ w'.cell? ⟨w.heap.size, 3, none⟩ = some (.string s) ∧ w'.cell? ⟨w.heap.size + 1, 0, none⟩ = some (.int .u8 k') ∧ w'.cell? ⟨w.heap.size + 1, 1, none⟩ = some (.int .i64 n') ∧ w'.cell? ⟨w.heap.size + 1, 2, none⟩ = some (.int .u64 u') ∧ w'.cell? ⟨w.heap.size + 1, 3, none⟩ = some (.string s')) (first | go_keep | exact ⟨a0, a1, a2, a3, b0, b1, b2, b3⟩) (first | (go_at_call 10; ((with_reducible refine (O1.out _).mono ?_)); rintro e w9 ⟨rfl, hb9⟩; clear a0 a1 a2 a3 b0 b1 b2 b3; replace hA := Aw.next (by first | exact hA | exact hA.alloc _ | exact hA.draw _ | exact (hA.draw _).alloc _ | exact (hA.alloc _).draw _ | exact hA.draw1 | exact hA.draw1.alloc _ | exact (hA.alloc _).draw1) hb9; replace hB := Aw.next (by first | exact hB | exact hB.alloc _ | exact hB.draw _ | exact (hB.draw _).alloc _ | exact (hB.alloc _).draw _ | exact hB.draw1 | exact hB.draw1.alloc _ | exact (hB.alloc _).draw1) hb9; obtain ⟨a0, a1, a2, a3⟩ := hA.cells; obtain ⟨b0, b1, b2, b3⟩ := hB.cells; clear hb9) | (go_at_call 11; ((with_reducible refine (O2.out _).mono ?_)); rintro e w9 ⟨rfl, hb9⟩; clear a0 a1 a2 a3 b0 b1 b2 b3; replace hA := Aw.next (by first | exact hA | exact hA.alloc _ | exact hA.draw _ | exact (hA.draw _).alloc _ | exact (hA.alloc _).draw _ | exact hA.draw1 | exact hA.draw1.alloc _ | exact (hA.alloc _).draw1) hb9; replace hB := Aw.next (by first | exact hB | exact hB.alloc _ | exact hB.draw _ | exact (hB.draw _).alloc _ | exact (hB.alloc _).draw _ | exact hB.draw1 | exact hB.draw1.alloc _ | exact (hB.alloc _).draw1) hb9; obtain ⟨a0, a1, a2, a3⟩ := hA.cells; obtain ⟨b0, b1, b2, b3⟩ := hB.cells; clear hb9) | (go_at_call 9; ((with_reducible refine (A1.out _).mono ?_)); rintro e w9 ⟨rfl, hb9⟩; clear a0 a1 a2 a3 b0 b1 b2 b3; replace hA := Aw.next (by first | exact hA | exact hA.alloc _ | exact hA.draw _ | exact (hA.draw _).alloc _ | exact (hA.alloc _).draw _ | exact hA.draw1 | exact hA.draw1.alloc _ | exact (hA.alloc _).draw1) hb9; replace hB := Aw.next (by first | exact hB | exact hB.alloc _ | exact hB.draw _ | exact (hB.draw _).alloc _ | exact (hB.alloc _).draw _ | exact hB.draw1 | exact hB.draw1.alloc _ | exact (hB.alloc _).draw1) hb9; obtain ⟨a0, a1, a2, a3⟩ := hA.cells; obtain ⟨b0, b1, b2, b3⟩ := hB.cells; clear hb9))
      go_wp2_with fail
      go_ret
      exact ⟨rfl, hA.1⟩
end Go.Proofs.Ytmlcpedbpjghhaa
