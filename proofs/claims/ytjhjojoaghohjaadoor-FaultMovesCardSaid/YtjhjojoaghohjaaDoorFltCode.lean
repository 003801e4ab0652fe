/-
  find, At and Code of the program, walked.
-/
import Derived.Test.YtjhjojoaghohjaaDoorFltAs3
import Derived.Deep.RegionWith
namespace Go.Proofs.YtjhjojoaghohjaaDoor
open Go.RowKit Go.Extern.Stop Go.Stop Go.Extern

/-- the variable errors.errorType, as it is laid -/
def Laid (w : World) : Prop := w.cell? ⟨0, 0, none⟩ = some (.iface 62 (.agg #[hd 25]))
theorem Laid.next {w W : World} (h : Laid w) (hb : Below w.heap.size w W) : Laid W := (hb.cell (block_lt h)).trans h
theorem Laid.alloc {w : World} (h : Laid w) (o : Obj) : Laid (w.alloc o) := h.next (one_box _ _)
/-- a fault lies in a block -/
def Flt (w : World) (b : Nat) (e at' : Int) : Prop := w.cell? ⟨b, 0, none⟩ = some (.int .i64 e) ∧ w.cell? ⟨b, 1, none⟩ = some (.int .i64 at')
theorem Flt.next {w W : World} {b : Nat} {e a : Int} (h : Flt w b e a) (hb : Below w.heap.size w W) : Flt W b e a := ⟨(hb.cell (block_lt h.1)).trans h.1, (hb.cell (block_lt h.2)).trans h.2⟩
theorem mkI_F (p : Addr) (w : World) : (Instr.makeInterface 71 (.pointer (some p))).run Tryd.prog w = .ok (.iface 71 (.pointer (some p))) w := by kernel_rfl
theorem mkI_E (p : Addr) (w : World) : (Instr.makeInterface 60 (.pointer (some p))).run Tryd.prog w = .ok (.iface 60 (.pointer (some p))) w := by kernel_rfl
theorem mkI_Errno (e : Int) (w : World) : (Instr.makeInterface 27 (.int .i64 e)).run Tryd.prog w = .ok (.iface 27 (.int .i64 e)) w := by kernel_rfl
set_option maxHeartbeats 1000000 in
theorem find_hit (d : Nat) (e : Addr) (w : World) (hg : Laid w) : Calls Tryd.prog 22 #[wrapE d (.iface 48 (.pointer (some e)))] w fun ev w' => ev = .returned (.pointer (some e)) ∧ Below w.heap.size w w' := by
  have m := mkI_F
  have HA := Lib.hid (AsF_hit d e ⟨w.heap.size, 0, none⟩ (.pointer none) (w.alloc (.cells #[.pointer none] 48)) (hg.alloc _) (by go_simp) (by go_simp))
  generalize wrapE d (.iface 48 (.pointer (some e))) = x at *
  go_enter Tryd.func22, Tryd.ntmps22
  go_wp2_with (go_at_call 23; refine HA.out.mono ?_; rintro ev w' ⟨rfl, v1, hb, hc, hf1, rfl⟩)
  go_ret
  exact ⟨rfl, ((one_box _ _).trans (hb.mono (by simp))).setCell (Nat.le_refl _) _⟩
set_option maxHeartbeats 1000000 in
theorem find_errno (d : Nat) (e : Int) (w : World) (hg : Laid w) : Calls Tryd.prog 22 #[wrapE d (.iface 27 (.int .i64 e))] w fun ev w' => ev = .returned (.pointer none) ∧ Below w.heap.size w w' := by
  have m := mkI_F
  have HA := Lib.hid (AsF_errno d e ⟨w.heap.size, 0, none⟩ (.pointer none) (w.alloc (.cells #[.pointer none] 48)) (hg.alloc _) (by go_simp) (by go_simp))
  generalize wrapE d (.iface 27 (.int .i64 e)) = x at *
  go_enter Tryd.func22, Tryd.ntmps22
  go_wp2_with (go_at_call 23; refine HA.out.mono ?_; rintro ev w' ⟨rfl, hb⟩)
  go_ret
  exact ⟨rfl, (one_box _ _).trans (hb.mono (by simp))⟩
set_option maxHeartbeats 1000000 in
theorem find_odd (d : Nat) (e : Addr) (w : World) (hg : Laid w) : Calls Tryd.prog 22 #[wrapE d (.iface 51 (.pointer (some e)))] w fun ev w' => ev = .returned (.pointer none) ∧ Below w.heap.size w w' := by
  have m := mkI_F
  have HA := Lib.hid (AsF_odd d e ⟨w.heap.size, 0, none⟩ (.pointer none) (w.alloc (.cells #[.pointer none] 48)) (hg.alloc _) (by go_simp) (by go_simp))
  generalize wrapE d (.iface 51 (.pointer (some e))) = x at *
  go_enter Tryd.func22, Tryd.ntmps22
  go_wp2_with (go_at_call 23; refine HA.out.mono ?_; rintro ev w' ⟨rfl, hb⟩)
  go_ret
  exact ⟨rfl, (one_box _ _).trans (hb.mono (by simp))⟩
theorem As_nil (t : Value) (w : World) : Calls Tryd.prog 23 #[.nilIface, t] w fun e w' => e = .returned (.bool false) ∧ w = w' := by
  go_enter Tryd.func23, Tryd.ntmps23
  go_wp2
  go_ret
  exact ⟨rfl, rfl⟩
theorem find_nil (w : World) : Calls Tryd.prog 22 #[.nilIface] w fun ev w' => ev = .returned (.pointer none) ∧ Below w.heap.size w w' := by
  have m := mkI_F
  go_enter Tryd.func22, Tryd.ntmps22
  go_wp2_with (go_at_call 23; refine (As_nil _ _).mono ?_; rintro ev w' ⟨rfl, rfl⟩)
  go_ret
  exact ⟨rfl, one_box _ _⟩
set_option maxHeartbeats 1000000 in
theorem at_hit (d b : Nat) (e a : Int) (w : World) (hg : Laid w) (hF : Flt w b e a) : Calls Tryd.prog 11 #[wrapE d (.iface 48 (.pointer (some ⟨b, 0, none⟩)))] w fun ev w' => ev = .returned (.int .i64 a) ∧ Below w.heap.size w w' := by
  have HF := Lib.hid (find_hit d ⟨b, 0, none⟩ w hg)
  generalize wrapE d (.iface 48 (.pointer (some ⟨b, 0, none⟩))) = x at *
  go_enter Tryd.func11, Tryd.ntmps11
  go_wp2_with (go_at_call 22; refine HF.out.mono ?_; rintro ev w1 ⟨rfl, hb⟩; have h1 := (hF.next hb).2)
  go_ret
  exact ⟨rfl, hb⟩
end Go.Proofs.YtjhjojoaghohjaaDoor
