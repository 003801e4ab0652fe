/-
  Move of the program, walked.
-/
import Derived.Test.YtjhjojoaghohjaaDoorFltCode3
namespace Go.Proofs.YtjhjojoaghohjaaDoor
open Go.RowKit Go.Extern.Stop Go.Stop Go.Extern

/-- an error that is a fault of its own -/
def IsFlt (w : World) (e a : Int) (ev : Ending) (w' : World) : Prop := ∃ b, ev = .returned (.iface 48 (.pointer (some ⟨b, 0, none⟩))) ∧ Flt w' b e a ∧ Below w.heap.size w w'
theorem flt_new (w : World) (e a : Int) (T : TypeId) : Flt (w.alloc (.cells #[.int .i64 e, .int .i64 a] T)) w.heap.size e a := by
  refine ⟨?_, ?_⟩ <;> go_simp
theorem new_flt (e a : Int) (he : e ≠ 0) (w : World) : Calls Tryd.prog 7 #[.int .i64 e, .int .i64 a] w (IsFlt w e a) :=
  (new_some e a he w).mono fun _ _ ⟨h1, h2⟩ => ⟨_, h1, by rw [h2]; exact flt_new _ _ _ _, by rw [h2]; exact one_box _ _⟩
set_option maxHeartbeats 1000000 in
theorem move_some (b : Nat) (e a m : Int) (he : e ≠ 0) (h1 : -4611686018427387904 ≤ a + m) (h2 : a + m ≤ 4611686018427387904) (w : World) (hg : Laid w) (hF : Flt w b e a) : Calls Tryd.prog 14 #[.iface 48 (.pointer (some ⟨b, 0, none⟩)), .int .i64 m] w (IsFlt w e (a + m)) := by
  have HC := Lib.hid (code_hit 0 b e a w hg hF)
  have HA := Lib.hid fun (w1 : World) (hg1 : Laid w1) (hF1 : Flt w1 b e a) => at_hit 0 b e a w1 hg1 hF1
  have HN := Lib.hid fun w => new_flt e (a + m) he w
  simp only [wrapE] at *
  go_enter Tryd.func14, Tryd.ntmps14
  go_wp2_with (first | (go_at_call 10; refine HC.out.mono ?_; rintro ev w1 ⟨rfl, hb1⟩; have hg1 := hg.next hb1; have hF1 := hF.next hb1) | (go_at_call 11; refine (HA.out _ hg1 hF1).mono ?_; rintro ev w2 ⟨rfl, hb2⟩) | (go_at_call 7; refine (HN.out _).mono ?_; rintro ev w3 ⟨b3, rfl, hF3, hb3⟩))
  go_ret
  exact ⟨b3, rfl, hF3, (hb1.trans (hb2.mono hb1.size)).trans (hb3.mono (Nat.le_trans hb1.size hb2.size))⟩
end Go.Proofs.YtjhjojoaghohjaaDoor
