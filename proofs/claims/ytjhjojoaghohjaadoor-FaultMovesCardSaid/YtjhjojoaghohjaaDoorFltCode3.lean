/-
  Code of the program at a number alone, and at any other error: walked.
-/
import Derived.Test.YtjhjojoaghohjaaDoorFltCode2
namespace Go.Proofs.YtjhjojoaghohjaaDoor
open Go.RowKit Go.Extern.Stop Go.Stop Go.Extern

set_option maxRecDepth 100000 in
set_option maxHeartbeats 2000000 in
theorem code_errno_a (e : Int) (w : World) (hg : Laid w) : Calls Tryd.prog 10 #[wrapE 0 (.iface 27 (.int .i64 e))] w fun ev w' => ev = .returned (.int .i64 e) ∧ Below w.heap.size w w' := by
  have m1 := mkI_E
  have m2 := mkI_Errno
  have HF := Lib.hid (find_errno 0 e w hg)
  have HA := Lib.hid fun (w1 : World) (hg1 : Laid w1) (old : Value) (ta : Addr) (ht : w1.cell? ta = some old) (hf : w1.frozen? ta = false) => AsE_hit 0 e ta old w1 hg1 ht hf
  have HI := Lib.hid fun w => Is_Errno 0 e e w
  simp only [wrapE] at *
  go_enter Tryd.func10, Tryd.ntmps10
  go_wp2_with (first | (go_at_call 22; refine HF.out.mono ?_; rintro ev w1 ⟨rfl, hb⟩; have hg1 := hg.next hb) | (go_at_call 23; refine (HA.out _ (hg1.alloc _) (.int .i64 0) _ (by go_simp) (by go_simp)).mono ?_; rintro ev w' ⟨rfl, v1, hb2, hc, hf1, rfl⟩) | (go_at_call 9; refine (HI.out _).mono ?_; rintro ev w3 ⟨rfl, hb3⟩; have hs : (v1.setCell ⟨w1.heap.size, 0, none⟩ (.int .i64 e)).cell? ⟨w1.heap.size, 0, none⟩ = some (.int .i64 e) := (by go_simp); have h9 := (hb3.cell (block_lt hs)).trans hs))
  go_ret
  have hB := (hb.trans ((one_box w1 (.cells #[.int .i64 0] 27)).mono hb.size)).trans (hb2.mono (by have := hb.size; simp; omega))
  have hC := hB.setCell (p := ⟨w1.heap.size, 0, none⟩) hb.size (.int .i64 e)
  exact ⟨rfl, hC.trans (hb3.mono hC.size)⟩
set_option maxRecDepth 100000 in
set_option maxHeartbeats 2000000 in
theorem code_errno_b (d : Nat) (e : Int) (w : World) (hg : Laid w) : Calls Tryd.prog 10 #[wrapE (d + 1) (.iface 27 (.int .i64 e))] w fun ev w' => ev = .returned (.int .i64 e) ∧ Below w.heap.size w w' := by
  have m1 := mkI_E
  have m2 := mkI_Errno
  have HF := Lib.hid (find_errno (d + 1) e w hg)
  have HA := Lib.hid fun (w1 : World) (hg1 : Laid w1) (old : Value) (ta : Addr) (ht : w1.cell? ta = some old) (hf : w1.frozen? ta = false) => AsE_hit (d + 1) e ta old w1 hg1 ht hf
  have HI := Lib.hid fun w => Is_Errno (d + 1) e e w
  simp only [wrapE] at *
  go_enter Tryd.func10, Tryd.ntmps10
  go_wp2_with (first | (go_at_call 22; refine HF.out.mono ?_; rintro ev w1 ⟨rfl, hb⟩; have hg1 := hg.next hb) | (go_at_call 23; refine (HA.out _ (hg1.alloc _) (.int .i64 0) _ (by go_simp) (by go_simp)).mono ?_; rintro ev w' ⟨rfl, v1, hb2, hc, hf1, rfl⟩) | (go_at_call 9; refine (HI.out _).mono ?_; rintro ev w3 ⟨rfl, hb3⟩; have hs : (v1.setCell ⟨w1.heap.size, 0, none⟩ (.int .i64 e)).cell? ⟨w1.heap.size, 0, none⟩ = some (.int .i64 e) := (by go_simp); have h9 := (hb3.cell (block_lt hs)).trans hs))
  go_ret
  have hB := (hb.trans ((one_box w1 (.cells #[.int .i64 0] 27)).mono hb.size)).trans (hb2.mono (by have := hb.size; simp; omega))
  have hC := hB.setCell (p := ⟨w1.heap.size, 0, none⟩) hb.size (.int .i64 e)
  exact ⟨rfl, hC.trans (hb3.mono hC.size)⟩
theorem code_errno (d : Nat) (e : Int) (w : World) (hg : Laid w) : Calls Tryd.prog 10 #[wrapE d (.iface 27 (.int .i64 e))] w fun ev w' => ev = .returned (.int .i64 e) ∧ Below w.heap.size w w' := by
  cases d with
  | zero => exact code_errno_a e w hg
  | succ d => exact code_errno_b d e w hg
set_option maxRecDepth 100000 in
set_option maxHeartbeats 2000000 in
theorem code_odd_a (e : Addr) (w : World) (hg : Laid w) : Calls Tryd.prog 10 #[wrapE 0 (.iface 51 (.pointer (some e)))] w fun ev w' => ev = .returned (.int .i64 2) ∧ Below w.heap.size w w' := by
  have m1 := mkI_E
  have HF := Lib.hid (find_odd 0 e w hg)
  have HA := Lib.hid fun (w1 : World) (hg1 : Laid w1) (old : Value) (ta : Addr) (ht : w1.cell? ta = some old) (hf : w1.frozen? ta = false) => AsE_odd 0 e ta old w1 hg1 ht hf
  simp only [wrapE] at *
  go_enter Tryd.func10, Tryd.ntmps10
  go_wp2_with (first | (go_at_call 22; refine HF.out.mono ?_; rintro ev w1 ⟨rfl, hb⟩; have hg1 := hg.next hb) | (go_at_call 23; refine (HA.out _ (hg1.alloc _) (.int .i64 0) _ (by go_simp) (by go_simp)).mono ?_; rintro ev w' ⟨rfl, hb2⟩))
  go_ret
  have hB := (hb.trans ((one_box w1 (.cells #[.int .i64 0] 27)).mono hb.size)).trans (hb2.mono (by have := hb.size; simp; omega))
  exact ⟨rfl, hB⟩
set_option maxRecDepth 100000 in
set_option maxHeartbeats 2000000 in
theorem code_odd_b (d : Nat) (e : Addr) (w : World) (hg : Laid w) : Calls Tryd.prog 10 #[wrapE (d + 1) (.iface 51 (.pointer (some e)))] w fun ev w' => ev = .returned (.int .i64 2) ∧ Below w.heap.size w w' := by
  have m1 := mkI_E
  have HF := Lib.hid (find_odd (d + 1) e w hg)
  have HA := Lib.hid fun (w1 : World) (hg1 : Laid w1) (old : Value) (ta : Addr) (ht : w1.cell? ta = some old) (hf : w1.frozen? ta = false) => AsE_odd (d + 1) e ta old w1 hg1 ht hf
  simp only [wrapE] at *
  go_enter Tryd.func10, Tryd.ntmps10
  go_wp2_with (first | (go_at_call 22; refine HF.out.mono ?_; rintro ev w1 ⟨rfl, hb⟩; have hg1 := hg.next hb) | (go_at_call 23; refine (HA.out _ (hg1.alloc _) (.int .i64 0) _ (by go_simp) (by go_simp)).mono ?_; rintro ev w' ⟨rfl, hb2⟩))
  go_ret
  have hB := (hb.trans ((one_box w1 (.cells #[.int .i64 0] 27)).mono hb.size)).trans (hb2.mono (by have := hb.size; simp; omega))
  exact ⟨rfl, hB⟩
theorem code_odd (d : Nat) (e : Addr) (w : World) (hg : Laid w) : Calls Tryd.prog 10 #[wrapE d (.iface 51 (.pointer (some e)))] w fun ev w' => ev = .returned (.int .i64 2) ∧ Below w.heap.size w w' := by
  cases d with
  | zero => exact code_odd_a e w hg
  | succ d => exact code_odd_b d e w hg
end Go.Proofs.YtjhjojoaghohjaaDoor
