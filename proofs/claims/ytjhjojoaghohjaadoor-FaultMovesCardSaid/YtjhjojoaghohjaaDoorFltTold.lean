/-
  Told of an error, First, Move of nil: walked.
-/
import Derived.Test.YtjhjojoaghohjaaDoorFltMove
namespace Go.Proofs.YtjhjojoaghohjaaDoor
open Go.RowKit Go.Extern.Stop Go.Stop Go.Extern

theorem build_ref (e a : Int) (w : World) : (Instr.build 37 #[(0, .int .i64 e), (1, .int .i64 a)]).run Tryd.prog w = .ok (.agg #[.int .i64 e, .int .i64 a]) w := by kernel_rfl
theorem told_hit (b : Nat) (e a : Int) (w : World) (hg : Laid w) (hF : Flt w b e a) : Calls Tryd.prog 13 #[.iface 48 (.pointer (some ⟨b, 0, none⟩))] w fun ev w' => ev = .returned (.agg #[.int .i64 e, .int .i64 a]) ∧ Below w.heap.size w w' := by
  have HC := Lib.hid fun (w1 : World) (hg1 : Laid w1) (hF1 : Flt w1 b e a) => code_hit 0 b e a w1 hg1 hF1
  have HA := Lib.hid fun (w1 : World) (hg1 : Laid w1) (hF1 : Flt w1 b e a) => at_hit 0 b e a w1 hg1 hF1
  have hb0 := one_box w (.cells #[.int .i64 0, .int .i64 0] 37)
  have hg0 := hg.next hb0
  have hF0 := hF.next hb0
  have hR0 : Flt (w.alloc (.cells #[.int .i64 0, .int .i64 0] 37)) w.heap.size 0 0 := flt_new _ _ _ _
  have f0 : (w.alloc (.cells #[.int .i64 0, .int .i64 0] 37)).frozen? ⟨w.heap.size, 0, none⟩ = false := by go_simp
  have f1 : (w.alloc (.cells #[.int .i64 0, .int .i64 0] 37)).frozen? ⟨w.heap.size, 1, none⟩ = false := by go_simp
  have hq := build_ref e a
  simp only [wrapE] at *
  go_enter Tryd.func13, Tryd.ntmps13
  go_wp2_with (first | (go_at_call 10; refine (HC.out _ hg0 hF0).mono ?_; rintro ev w1 ⟨rfl, hb1⟩; have hg1 := hg0.next hb1; have hF1 := hF0.next hb1; have hR1 := hR0.next hb1; have k0 := (hb1.frozen (block_lt hR0.1)).trans f0; have k1 := (hb1.frozen (block_lt hR0.2)).trans f1) | (go_at_call 11; refine (HA.out _ hg1 hF1).mono ?_; rintro ev w2 ⟨rfl, hb2⟩; have hR2 := hR1.next hb2; have r0 := hR2.1; have r1 := hR2.2; have l0 := (hb2.frozen (block_lt hR1.1)).trans k0; have l1 := (hb2.frozen (block_lt hR1.2)).trans k1))
  exact bodyPost_ret (v := .agg #[.int .i64 e, .int .i64 a]) (by simp [results, Tryd.results13, go_sem, r0, r1]) rfl ⟨rfl, (((hb0.trans (hb1.mono hb0.size)).trans (hb2.mono (Nat.le_trans hb0.size hb1.size))).setCell (Nat.le_refl _) _).setCell (Nat.le_refl _) _⟩
end Go.Proofs.YtjhjojoaghohjaaDoor
