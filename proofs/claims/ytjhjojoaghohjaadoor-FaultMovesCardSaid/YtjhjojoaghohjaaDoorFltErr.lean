/-
  First, Move and Told at no error; First at two faults; the document's New, Move and First: walked.
-/
import Derived.Test.YtjhjojoaghohjaaDoorFltTold
namespace Go.Proofs.YtjhjojoaghohjaaDoor
open Go.RowKit Go.Extern.Stop Go.Stop Go.Extern

theorem told_nil (w : World) : Calls Tryd.prog 13 #[.nilIface] w fun ev w' => ev = .returned (.agg #[.int .i64 0, .int .i64 0]) ∧ Below w.heap.size w w' := by
  have hb0 := one_box w (.cells #[.int .i64 0, .int .i64 0] 37)
  have hR0 : Flt (w.alloc (.cells #[.int .i64 0, .int .i64 0] 37)) w.heap.size 0 0 := flt_new _ _ _ _
  have f0 : (w.alloc (.cells #[.int .i64 0, .int .i64 0] 37)).frozen? ⟨w.heap.size, 0, none⟩ = false := by go_simp
  have f1 : (w.alloc (.cells #[.int .i64 0, .int .i64 0] 37)).frozen? ⟨w.heap.size, 1, none⟩ = false := by go_simp
  have hq := build_ref 0 0
  go_enter Tryd.func13, Tryd.ntmps13
  go_wp2_with (first | (go_at_call 10; refine (code_nil _).mono ?_; rintro ev w1 ⟨rfl, rfl⟩) | (go_at_call 11; refine (at_nil _).mono ?_; rintro ev w2 ⟨rfl, hb2⟩; have hR2 := hR0.next hb2; have r0 := hR2.1; have r1 := hR2.2; have l0 := (hb2.frozen (block_lt hR0.1)).trans f0; have l1 := (hb2.frozen (block_lt hR0.2)).trans f1))
  exact bodyPost_ret (v := .agg #[.int .i64 0, .int .i64 0]) (by simp [results, Tryd.results13, go_sem, r0, r1]) rfl ⟨rfl, ((hb0.trans (hb2.mono hb0.size)).setCell (Nat.le_refl _) _).setCell (Nat.le_refl _) _⟩
theorem move_nil (m : Int) (w : World) : Calls Tryd.prog 14 #[.nilIface, .int .i64 m] w fun ev w' => ev = .returned .nilIface ∧ Below w.heap.size w w' := by
  go_enter Tryd.func14, Tryd.ntmps14
  go_wp2_with (first | (go_at_call 10; refine (code_nil _).mono ?_; rintro ev w1 ⟨rfl, rfl⟩) | (go_at_call 11; refine (at_nil _).mono ?_; rintro ev w2 ⟨rfl, hb2⟩) | (go_at_call 7; refine (new_none _ _).mono ?_; rintro ev w3 ⟨rfl, rfl⟩))
  go_ret
  exact ⟨rfl, hb2⟩
theorem first_nil (v : Value) (w : World) : Calls Tryd.prog 16 #[.nilIface, v] w fun ev w' => ev = .returned v ∧ w = w' := by
  go_enter Tryd.func16, Tryd.ntmps16
  go_wp2
  go_ret
  exact ⟨rfl, rfl⟩
theorem first_one (p : Addr) (w : World) : Calls Tryd.prog 16 #[.iface 48 (.pointer (some p)), .nilIface] w fun ev w' => ev = .returned (.iface 48 (.pointer (some p))) ∧ w = w' := by
  go_enter Tryd.func16, Tryd.ntmps16
  go_wp2
  go_ret
  exact ⟨rfl, rfl⟩
/-- the first of two faults -/
def fst2 (b c : Nat) (x y : Int) : Nat := if y < x then c else b
set_option maxHeartbeats 1000000 in
theorem first_two (b c : Nat) (e a f x : Int) (w : World) (hg : Laid w) (hF : Flt w b e a) (hG : Flt w c f x) : Calls Tryd.prog 16 #[.iface 48 (.pointer (some ⟨b, 0, none⟩)), .iface 48 (.pointer (some ⟨c, 0, none⟩))] w fun ev w' => ev = .returned (.iface 48 (.pointer (some ⟨fst2 b c a x, 0, none⟩))) ∧ Below w.heap.size w w' := by
  have HC := Lib.hid (at_hit 0 c f x w hg hG)
  have HA := Lib.hid fun (w1 : World) (hg1 : Laid w1) (hF1 : Flt w1 b e a) => at_hit 0 b e a w1 hg1 hF1
  simp only [wrapE] at *
  have hd : fst2 b c a x = if x < a then c else b := rfl
  by_cases h : x < a
  · rw [if_pos h] at hd
    rw [hd]
    clear hd
    go_enter Tryd.func16, Tryd.ntmps16
    go_wp2_with (first | (go_at_call 11; with_reducible refine HC.out.mono ?_; rintro ev w1 ⟨rfl, hb1⟩; have hg1 := hg.next hb1; have hF1 := hF.next hb1) | (go_at_call 11; refine (HA.out _ hg1 hF1).mono ?_; rintro ev w2 ⟨rfl, hb2⟩))
    go_ret
    exact ⟨rfl, hb1.trans (hb2.mono hb1.size)⟩
  · rw [if_neg h] at hd
    rw [hd]
    clear hd
    go_enter Tryd.func16, Tryd.ntmps16
    go_wp2_with (first | (go_at_call 11; with_reducible refine HC.out.mono ?_; rintro ev w1 ⟨rfl, hb1⟩; have hg1 := hg.next hb1; have hF1 := hF.next hb1) | (go_at_call 11; refine (HA.out _ hg1 hF1).mono ?_; rintro ev w2 ⟨rfl, hb2⟩))
    go_ret
    exact ⟨rfl, hb1.trans (hb2.mono hb1.size)⟩
/-! ### the document -/
theorem build_ref0 (w : World) : (Instr.build 37 #[]).run Tryd.prog w = .ok (.agg #[.int .i64 0, .int .i64 0]) w := by kernel_rfl
theorem rNew_zero (a : Int) (w : World) : Calls Tryd.prog 12 #[.int .i64 0, .int .i64 a] w fun ev w' => ev = .returned (.agg #[.int .i64 0, .int .i64 0]) ∧ Below w.heap.size w w' := by
  have hq := build_ref0
  go_enter Tryd.func12, Tryd.ntmps12
  go_wp2
  exact bodyPost_ret (v := .agg #[.int .i64 0, .int .i64 0]) (by simp [results, Tryd.results12, go_sem]) rfl ⟨rfl, one_box _ _⟩
theorem rNew_some (e a : Int) (he : e ≠ 0) (w : World) : Calls Tryd.prog 12 #[.int .i64 e, .int .i64 a] w fun ev w' => ev = .returned (.agg #[.int .i64 e, .int .i64 a]) ∧ Below w.heap.size w w' := by
  have hq := build_ref e a
  have h1 : (e == 0) = false := by simpa using he
  clear he
  go_enter Tryd.func12, Tryd.ntmps12
  go_wp2
  exact bodyPost_ret (v := .agg #[.int .i64 e, .int .i64 a]) (by simp [results, Tryd.results12, go_sem]) rfl ⟨rfl, one_box _ _⟩
theorem rMove_zero (a m : Int) (w : World) : Calls Tryd.prog 15 #[.agg #[.int .i64 0, .int .i64 a], .int .i64 m] w fun ev w' => ev = .returned (.agg #[.int .i64 0, .int .i64 a]) ∧ Below w.heap.size w w' := by
  go_enter Tryd.func15, Tryd.ntmps15
  go_wp2
  exact bodyPost_ret (v := .agg #[.int .i64 0, .int .i64 a]) (by simp [results, Tryd.results15, go_sem]) rfl ⟨rfl, (one_box _ _).alloc (by simp) _⟩
theorem rMove_some (e a m : Int) (he : e ≠ 0) (h1 : -4611686018427387904 ≤ a + m) (h2 : a + m ≤ 4611686018427387904) (w : World) : Calls Tryd.prog 15 #[.agg #[.int .i64 e, .int .i64 a], .int .i64 m] w fun ev w' => ev = .returned (.agg #[.int .i64 e, .int .i64 (a + m)]) ∧ Below w.heap.size w w' := by
  have hq := build_ref e (a + m)
  have h1 : (e == 0) = false := by simpa using he
  clear he
  go_enter Tryd.func15, Tryd.ntmps15
  go_wp2
  exact bodyPost_ret (v := .agg #[.int .i64 e, .int .i64 (a + m)]) (by simp [results, Tryd.results15, go_sem]) rfl ⟨rfl, (one_box _ _).alloc (by simp) _⟩
theorem rFirst_nil (a f x : Int) (w : World) : Calls Tryd.prog 17 #[.agg #[.int .i64 0, .int .i64 a], .agg #[.int .i64 f, .int .i64 x]] w fun ev w' => ev = .returned (.agg #[.int .i64 f, .int .i64 x]) ∧ Below w.heap.size w w' := by
  go_enter Tryd.func17, Tryd.ntmps17
  go_wp2
  exact bodyPost_ret (v := .agg #[.int .i64 f, .int .i64 x]) (by simp [results, Tryd.results17, go_sem]) rfl ⟨rfl, ((one_box _ _).alloc (by simp) _).alloc (by simp; omega) _⟩
theorem rFirst_one (e a x : Int) (he : e ≠ 0) (w : World) : Calls Tryd.prog 17 #[.agg #[.int .i64 e, .int .i64 a], .agg #[.int .i64 0, .int .i64 x]] w fun ev w' => ev = .returned (.agg #[.int .i64 e, .int .i64 a]) ∧ Below w.heap.size w w' := by
  have h1 : (e == 0) = false := by simpa using he
  clear he
  go_enter Tryd.func17, Tryd.ntmps17
  go_wp2
  exact bodyPost_ret (v := .agg #[.int .i64 e, .int .i64 a]) (by simp [results, Tryd.results17, go_sem]) rfl ⟨rfl, ((one_box _ _).alloc (by simp) _).alloc (by simp; omega) _⟩
theorem rFirst_two (e a f x : Int) (he : e ≠ 0) (hf : f ≠ 0) (w : World) : Calls Tryd.prog 17 #[.agg #[.int .i64 e, .int .i64 a], .agg #[.int .i64 f, .int .i64 x]] w fun ev w' => ev = .returned (if x < a then .agg #[.int .i64 f, .int .i64 x] else .agg #[.int .i64 e, .int .i64 a]) ∧ Below w.heap.size w w' := by
  have h1 : (e == 0) = false := by simpa using he
  have h2 : (f == 0) = false := by simpa using hf
  clear he hf
  by_cases h : x < a
  · rw [if_pos h]
    go_enter Tryd.func17, Tryd.ntmps17
    go_wp2
    exact bodyPost_ret (v := .agg #[.int .i64 f, .int .i64 x]) (by simp [results, Tryd.results17, go_sem]) rfl ⟨rfl, ((one_box _ _).alloc (by simp) _).alloc (by simp; omega) _⟩
  · rw [if_neg h]
    have h : a ≤ x := by omega
    go_enter Tryd.func17, Tryd.ntmps17
    go_wp2
    exact bodyPost_ret (v := .agg #[.int .i64 e, .int .i64 a]) (by simp [results, Tryd.results17, go_sem]) rfl ⟨rfl, ((one_box _ _).alloc (by simp) _).alloc (by simp; omega) _⟩
end Go.Proofs.YtjhjojoaghohjaaDoor
