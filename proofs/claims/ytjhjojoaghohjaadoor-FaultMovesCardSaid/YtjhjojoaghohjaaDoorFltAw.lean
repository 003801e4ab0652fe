/-
  awake, walked.
-/
import Derived.Test.YtjhjojoaghohjaaDoorFltErr
import Derived.Test.YtjhjojoaghohjaaDoorFltText
namespace Go.Proofs.YtjhjojoaghohjaaDoor
open Go.RowKit Go.Extern.Stop Go.Stop Go.Extern

theorem build_F (e a : Int) (w : World) : (Instr.build 47 #[(0, .int .i64 e), (1, .int .i64 a)]).run Tryd.prog w = .ok (.agg #[.int .i64 e, .int .i64 a]) w := by kernel_rfl
theorem fUnwrap_any (b : Nat) (e a : Int) (w : World) (hF : Flt w b e a) : Calls Tryd.prog 19 #[.pointer (some ⟨b, 0, none⟩)] w fun ev w' => ev = .returned (.iface 27 (.int .i64 e)) ∧ w = w' := fUnwrap_ok b e a w hF
set_option maxRecDepth 100000 in
set_option maxHeartbeats 2000000 in
theorem awake_ok (w : World) (hg : Laid w) : Calls Tryd.prog 6 #[] w fun ev w' => ev = .returned (.bool true) ∧ Below w.heap.size w w' := by
  have HN := Lib.hid fun w => new_flt 4 3 (by decide) w
  have HF := Lib.hid fun (b : Nat) (w : World) (hg : Laid w) (hF : Flt w b 4 3) => code_hit 0 b 4 3 w hg hF
  have HM := Lib.hid fun (b : Nat) (w : World) (hg : Laid w) (hF : Flt w b 4 3) => move_some b 4 3 4 (by decide) (by decide) (by decide) w hg hF
  have HA := Lib.hid fun (b : Nat) (w : World) (hg : Laid w) (hF : Flt w b 4 7) => at_hit 0 b 4 7 w hg hF
  have HE := Lib.hid fun (w : World) (hg : Laid w) => code_errno 0 3 w hg
  have HD := Lib.hid fun (w : World) (hg : Laid w) => at_errno 0 3 w hg
  simp only [wrapE] at *
  have m2 := mkI_Errno
  have bF := build_F 3 2
  go_enter Tryd.func6, Tryd.ntmps6
  go_wp2_with (first | (go_at_call 7; ((with_reducible refine (HN.out _).mono ?_)); rintro ev w1 ⟨b1, rfl, hF1, hB⟩; replace hg := hg.next hB; have hb9 := one_box w1 (.cells #[.int .i64 3, .int .i64 2] 47); replace hg := hg.next hb9; replace hF1 := hF1.next hb9; replace hB := hB.trans (hb9.mono hB.size); clear hb9; have hG := flt_new w1 3 2 47) | (go_at_call 10; ((with_reducible refine (HF.out _ _ hg hF1).mono ?_)); rintro ev w3 ⟨rfl, hb9⟩; replace hg := hg.next hb9; replace hF1 := hF1.next hb9; replace hG := hG.next hb9; replace hB := hB.trans (hb9.mono hB.size); clear hb9) | (go_at_call 14; ((with_reducible refine (HM.out _ _ hg hF1).mono ?_)); rintro ev w4 ⟨b4, rfl, hF4, hb9⟩; replace hg := hg.next hb9; replace hG := hG.next hb9; replace hB := hB.trans (hb9.mono hB.size); clear hb9) | (go_at_call 11; ((with_reducible refine (HA.out _ _ hg hF4).mono ?_)); rintro ev w5 ⟨rfl, hb9⟩; replace hg := hg.next hb9; replace hG := hG.next hb9; replace hB := hB.trans (hb9.mono hB.size); clear hb9) | (go_at_call 7; ((with_reducible refine (new_none 3 _).mono ?_)); rintro ev w6 ⟨rfl, rfl⟩) | (go_at_call 10; ((with_reducible refine (code_nil _).mono ?_)); rintro ev w7 ⟨rfl, rfl⟩) | (go_at_call 10; ((with_reducible refine (HE.out _ hg).mono ?_)); rintro ev w8 ⟨rfl, hb9⟩; replace hg := hg.next hb9; replace hG := hG.next hb9; replace hB := hB.trans (hb9.mono hB.size); clear hb9) | (go_at_call 11; ((with_reducible refine (HD.out _ hg).mono ?_)); rintro ev w10 ⟨rfl, hb9⟩; replace hg := hg.next hb9; replace hG := hG.next hb9; replace hB := hB.trans (hb9.mono hB.size); clear hb9) | (go_at_call 18; have g1 := hG.1; ((with_reducible refine (fText3 _ _ g1).mono ?_)); rintro ev w11 ⟨rfl, hb9⟩; replace hg := hg.next hb9; replace hG := hG.next hb9; replace hB := hB.trans (hb9.mono hB.size); clear hb9) | (go_at_call 19; ((with_reducible refine (fUnwrap_any _ _ _ _ hG).mono ?_)); rintro ev w12 ⟨rfl, rfl⟩) | (go_at_call 18; ((with_reducible refine (fText_nil _).mono ?_)); rintro ev w13 ⟨rfl, rfl⟩) | (go_at_call 19; ((with_reducible refine (fUnwrap_nil _).mono ?_)); rintro ev w14 ⟨rfl, rfl⟩))
  go_ret
  exact ⟨rfl, hB⟩
end Go.Proofs.YtjhjojoaghohjaaDoor
