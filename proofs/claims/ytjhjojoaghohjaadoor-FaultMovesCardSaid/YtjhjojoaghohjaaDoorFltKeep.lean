/-
  What a walk keeps from call to call: what lay before, the laid variable, the boxes of the input, faults.
-/
import Derived.Test.YtjhjojoaghohjaaDoorFltAw
import Derived.Deep.QuietTactic
import Derived.BigQuiet
import Derived.StillTailTactics
import Derived.Deep.RegionWith
import Derived.Deep.RegionHeld3
import Derived.Deep.DeepCutAuto
import Derived.Laws.Unary
import Derived.Laws.StructEq
namespace Go.Proofs.YtjhjojoaghohjaaDoor
open Go.RowKit Go.Extern.Stop Go.Stop Go.Extern

/-- what lay in w lies in W -/
def Blw (w W : World) : Prop := Below w.heap.size w W
theorem Blw.next {w W V : World} (h : Blw w W) (hb : Below W.heap.size W V) : Blw w V := Below.trans h (hb.mono (Below.size h))
theorem Blw.draw {w W : World} (h : Blw w W) (m : Nat) : Blw w (W.drewN m) := ⟨h.os, h.tape, h.output, h.size, h.block⟩
theorem Blw.draw1 {w W : World} (h : Blw w W) : Blw w W.drew := ⟨h.os, h.tape, h.output, h.size, h.block⟩
theorem Blw.alloc {w W : World} (h : Blw w W) (o : Obj) : Blw w (W.alloc o) := h.next (one_box _ _)
theorem Laid.draw {W : World} (h : Laid W) (m : Nat) : Laid (W.drewN m) := h
theorem Laid.draw1 {W : World} (h : Laid W) : Laid W.drew := h
theorem Flt.draw {W : World} {b : Nat} {e a : Int} (h : Flt W b e a) (m : Nat) : Flt (W.drewN m) b e a := h
theorem Flt.draw1 {W : World} {b : Nat} {e a : Int} (h : Flt W b e a) : Flt W.drew b e a := h
theorem Flt.alloc {W : World} {b : Nat} {e a : Int} (h : Flt W b e a) (o : Obj) : Flt (W.alloc o) b e a := h.next (one_box _ _)
/-- a box of two bytes -/
def By2 (w : World) (b : Nat) (e a : Int) : Prop := w.cell? ⟨b, 0, none⟩ = some (.int .u8 e) ∧ w.cell? ⟨b, 1, none⟩ = some (.int .u8 a)
theorem By2.next {w W : World} {b : Nat} {e a : Int} (h : By2 w b e a) (hb : Below w.heap.size w W) : By2 W b e a := ⟨(hb.cell (block_lt h.1)).trans h.1, (hb.cell (block_lt h.2)).trans h.2⟩
theorem By2.draw {W : World} {b : Nat} {e a : Int} (h : By2 W b e a) (m : Nat) : By2 (W.drewN m) b e a := h
theorem By2.draw1 {W : World} {b : Nat} {e a : Int} (h : By2 W b e a) : By2 W.drew b e a := h
theorem By2.alloc {W : World} {b : Nat} {e a : Int} (h : By2 W b e a) (o : Obj) : By2 (W.alloc o) b e a := h.next (one_box _ _)
theorem by2_new (w : World) (e a : Int) (T : TypeId) : By2 (w.alloc (.cells #[.int .u8 e, .int .u8 a] T)) w.heap.size e a := by
  refine ⟨?_, ?_⟩ <;> go_simp
/-- a block of two numbers of its own, that may be written -/
def Own2 (w : World) (b : Nat) (e a : Int) : Prop := Flt w b e a ∧ w.frozen? ⟨b, 0, none⟩ = false ∧ w.frozen? ⟨b, 1, none⟩ = false
theorem Own2.next {w W : World} {b : Nat} {e a : Int} (h : Own2 w b e a) (hb : Below w.heap.size w W) : Own2 W b e a := ⟨h.1.next hb, (hb.frozen (block_lt h.1.1)).trans h.2.1, (hb.frozen (block_lt h.1.2)).trans h.2.2⟩
theorem Own2.draw {W : World} {b : Nat} {e a : Int} (h : Own2 W b e a) (m : Nat) : Own2 (W.drewN m) b e a := h
theorem Own2.draw1 {W : World} {b : Nat} {e a : Int} (h : Own2 W b e a) : Own2 W.drew b e a := h
theorem Own2.alloc {W : World} {b : Nat} {e a : Int} (h : Own2 W b e a) (o : Obj) : Own2 (W.alloc o) b e a := h.next (one_box _ _)
theorem own2_new (w : World) (e a : Int) (T : TypeId) : Own2 (w.alloc (.cells #[.int .i64 e, .int .i64 a] T)) w.heap.size e a := by
  refine ⟨flt_new _ _ _ _, ?_, ?_⟩ <;> go_simp
end Go.Proofs.YtjhjojoaghohjaaDoor
