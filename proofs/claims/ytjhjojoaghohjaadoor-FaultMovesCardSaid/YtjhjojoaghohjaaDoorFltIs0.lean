/-
  Closed facts for errors.Is at a number.
-/
import Derived.Test.YtjhjojoaghohjaaDoorFltCode
namespace Go.Proofs.YtjhjojoaghohjaaDoor
open Go.RowKit Go.Extern.Stop Go.Stop Go.Extern

theorem comp_Errno (w : World) : ((ReflectliteType.method fun t => (fun a => Value.bool a.comparable) <$> typeInfo t) #[.agg #[.pointer (some ⟨1, 27, none⟩)]]).run Tryd.prog w = .ok (.bool true) w := by kernel_rfl
theorem comp1 (w : World) : ((ReflectliteType.method fun t => do Rtype.noPackHeld "Comparable" t; pure (.bool (← typeInfo t).comparable)) #[.agg #[.pointer (some ⟨1, 27, none⟩)]]).run Tryd.prog w = .ok (.bool true) w := by kernel_rfl
theorem comp2 (w : World) : ((ReflectliteType.method fun t => do Rtype.noPackHeld "Comparable" t; (fun a => Value.bool a.comparable) <$> typeInfo t) #[.agg #[.pointer (some ⟨1, 27, none⟩)]]).run Tryd.prog w = .ok (.bool true) w := by kernel_rfl
theorem eq_outer (v : Value) (f : Int) (w : World) : (binOp .eql 25 (.iface 30 v) (.iface 27 (.int .i64 f))).run Tryd.prog w = .ok (.bool false) w := run_eql_iface_types (P := Tryd.prog) 30 27 v (.int .i64 f) Tryd.underlying25 (by decide) w
theorem eq_pF (v : Value) (f : Int) (w : World) : (binOp .eql 25 (.iface 48 v) (.iface 27 (.int .i64 f))).run Tryd.prog w = .ok (.bool false) w := run_eql_iface_types (P := Tryd.prog) 48 27 v (.int .i64 f) Tryd.underlying25 (by decide) w
theorem eq_Errno (e f : Int) (w : World) : (binOp .eql 25 (.iface 27 (.int .i64 e)) (.iface 27 (.int .i64 f))).run Tryd.prog w = .ok (.bool (e == f)) w := by kernel_rfl
end Go.Proofs.YtjhjojoaghohjaaDoor
