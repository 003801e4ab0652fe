/-
  Closed facts on the model's entries for internal/reflectlite, at this program's types.
-/
import Derived.Test.YtjhjojoaghohjaaDoorRows
import Derived.WalkKit
import Derived.LaidEql
import Derived.Stop.Asserts
import Derived.RowKitTokens
namespace Go.Proofs.YtjhjojoaghohjaaDoor
open Go.RowKit Go.Extern.Stop Go.Stop Go.Extern

/-- a type's handle, and reflectlite's type of it -/
def hd (t : Nat) : Value := .pointer (some ⟨1, t, none⟩)
theorem methodKind (h : Value) (w : World) : (Go.method 218 62 (.agg #[h]) "Kind").run Tryd.prog w = .ok (45, h) w := by kernel_rfl
theorem methodElem (h : Value) (w : World) : (Go.method 218 62 (.agg #[h]) "Elem").run Tryd.prog w = .ok (54, .agg #[h]) w := by kernel_rfl
theorem methodImplements (h : Value) (w : World) : (Go.method 218 62 (.agg #[h]) "Implements").run Tryd.prog w = .ok (55, .agg #[h]) w := by kernel_rfl
theorem methodAssignableTo (h : Value) (w : World) : (Go.method 218 62 (.agg #[h]) "AssignableTo").run Tryd.prog w = .ok (52, .agg #[h]) w := by kernel_rfl
theorem methodComparable (h : Value) (w : World) : (Go.method 218 62 (.agg #[h]) "Comparable").run Tryd.prog w = .ok (53, .agg #[h]) w := by kernel_rfl
theorem methodOuter (v : Value) (w : World) : (Go.method 218 30 (.agg #[v]) "Unwrap").run Tryd.prog w = .ok (49, .agg #[v]) w := by kernel_rfl
theorem methodPtr (v : Value) (w : World) : (Go.method 218 48 v "Unwrap").run Tryd.prog w = .ok (19, v) w := by kernel_rfl

/-! ### the targets: **Fault, *Errno -/
theorem valueOf_F (t : Addr) (w : World) : (ReflectliteValue.unpack (.iface 71 (.pointer (some t)))).run Tryd.prog w
    = .ok (.agg #[.pointer (some ⟨1, 71, none⟩), .pointer (some ⟨w.heap.size, 0, none⟩), .int .u64 150]) (w.alloc (.cells #[.pointer (some t)] 71)) := by kernel_rfl
theorem valueOf_E (t : Addr) (w : World) : (ReflectliteValue.unpack (.iface 60 (.pointer (some t)))).run Tryd.prog w
    = .ok (.agg #[.pointer (some ⟨1, 60, none⟩), .pointer (some ⟨w.heap.size, 0, none⟩), .int .u64 150]) (w.alloc (.cells #[.pointer (some t)] 60)) := by kernel_rfl
theorem type_F (a : Addr) (w : World) : (ReflectliteValue.methodAny (ReflectliteValue.valueError "reflectlite.Value.Type" 0) (fun t _ _ _ => ReflectliteType.toType t) #[.agg #[.pointer (some ⟨1, 71, none⟩), .pointer (some a), .int .u64 150]]).run Tryd.prog w
    = .ok (.iface 62 (.agg #[.pointer (some ⟨1, 71, none⟩)])) w := by kernel_rfl
theorem type_E (a : Addr) (w : World) : (ReflectliteValue.methodAny (ReflectliteValue.valueError "reflectlite.Value.Type" 0) (fun t _ _ _ => ReflectliteType.toType t) #[.agg #[.pointer (some ⟨1, 60, none⟩), .pointer (some a), .int .u64 150]]).run Tryd.prog w
    = .ok (.iface 62 (.agg #[.pointer (some ⟨1, 60, none⟩)])) w := by kernel_rfl
theorem kind_ppF (w : World) : ((ReflectliteType.abiMethod fun t => (fun a : Nat => Value.int IntKind.u8 (a : Int)) <$> Rtype.kind t) #[.pointer (some ⟨1, 71, none⟩)]).run Tryd.prog w = .ok (.int .u8 22) w := by kernel_rfl
theorem kind_pE (w : World) : ((ReflectliteType.abiMethod fun t => (fun a : Nat => Value.int IntKind.u8 (a : Int)) <$> Rtype.kind t) #[.pointer (some ⟨1, 60, none⟩)]).run Tryd.prog w = .ok (.int .u8 22) w := by kernel_rfl
theorem kind_pF (w : World) : ((ReflectliteType.abiMethod fun t => (fun a : Nat => Value.int IntKind.u8 (a : Int)) <$> Rtype.kind t) #[.pointer (some ⟨1, 48, none⟩)]).run Tryd.prog w = .ok (.int .u8 22) w := by kernel_rfl
theorem kind_Errno (w : World) : ((ReflectliteType.abiMethod fun t => (fun a : Nat => Value.int IntKind.u8 (a : Int)) <$> Rtype.kind t) #[.pointer (some ⟨1, 27, none⟩)]).run Tryd.prog w = .ok (.int .u8 2) w := by kernel_rfl
theorem elem_ppF (w : World) : (ReflectliteType.method ReflectliteType.elem #[.agg #[.pointer (some ⟨1, 71, none⟩)]]).run Tryd.prog w = .ok (.iface 62 (.agg #[.pointer (some ⟨1, 48, none⟩)])) w := by kernel_rfl
theorem elem_pE (w : World) : (ReflectliteType.method ReflectliteType.elem #[.agg #[.pointer (some ⟨1, 60, none⟩)]]).run Tryd.prog w = .ok (.iface 62 (.agg #[.pointer (some ⟨1, 27, none⟩)])) w := by kernel_rfl
theorem impl_pF (w : World) : (ReflectliteType.relation "Implements" ReflectliteType.implements_ #[.agg #[.pointer (some ⟨1, 48, none⟩)], .iface 62 (.agg #[.pointer (some ⟨1, 25, none⟩)])]).run Tryd.prog w = .ok (.bool true) w := by kernel_rfl
theorem impl_Errno (w : World) : (ReflectliteType.relation "Implements" ReflectliteType.implements_ #[.agg #[.pointer (some ⟨1, 27, none⟩)], .iface 62 (.agg #[.pointer (some ⟨1, 25, none⟩)])]).run Tryd.prog w = .ok (.bool true) w := by kernel_rfl

/-! ### what errors are -/
theorem typeOf_pF (v : Value) (w : World) : (ReflectliteType.typeOf #[.iface 48 v]).run Tryd.prog w = .ok (.iface 62 (.agg #[.pointer (some ⟨1, 48, none⟩)])) w := by kernel_rfl
theorem typeOf_Errno (v : Value) (w : World) : (ReflectliteType.typeOf #[.iface 27 v]).run Tryd.prog w = .ok (.iface 62 (.agg #[.pointer (some ⟨1, 27, none⟩)])) w := by kernel_rfl
theorem typeOf_outer (v : Value) (w : World) : (ReflectliteType.typeOf #[.iface 30 v]).run Tryd.prog w = .ok (.iface 62 (.agg #[.pointer (some ⟨1, 30, none⟩)])) w := by kernel_rfl
theorem typeOf_pES (v : Value) (w : World) : (ReflectliteType.typeOf #[.iface 51 v]).run Tryd.prog w = .ok (.iface 62 (.agg #[.pointer (some ⟨1, 51, none⟩)])) w := by kernel_rfl
theorem asg_pF_pF (w : World) : (ReflectliteType.relation "AssignableTo" ReflectliteType.assignableTo #[.agg #[.pointer (some ⟨1, 48, none⟩)], .iface 62 (.agg #[.pointer (some ⟨1, 48, none⟩)])]).run Tryd.prog w = .ok (.bool true) w := by kernel_rfl
theorem asg_Errno_pF (w : World) : (ReflectliteType.relation "AssignableTo" ReflectliteType.assignableTo #[.agg #[.pointer (some ⟨1, 27, none⟩)], .iface 62 (.agg #[.pointer (some ⟨1, 48, none⟩)])]).run Tryd.prog w = .ok (.bool false) w := by kernel_rfl
theorem asg_outer_pF (w : World) : (ReflectliteType.relation "AssignableTo" ReflectliteType.assignableTo #[.agg #[.pointer (some ⟨1, 30, none⟩)], .iface 62 (.agg #[.pointer (some ⟨1, 48, none⟩)])]).run Tryd.prog w = .ok (.bool false) w := by kernel_rfl
theorem asg_pES_pF (w : World) : (ReflectliteType.relation "AssignableTo" ReflectliteType.assignableTo #[.agg #[.pointer (some ⟨1, 51, none⟩)], .iface 62 (.agg #[.pointer (some ⟨1, 48, none⟩)])]).run Tryd.prog w = .ok (.bool false) w := by kernel_rfl
theorem asg_Errno_E (w : World) : (ReflectliteType.relation "AssignableTo" ReflectliteType.assignableTo #[.agg #[.pointer (some ⟨1, 27, none⟩)], .iface 62 (.agg #[.pointer (some ⟨1, 27, none⟩)])]).run Tryd.prog w = .ok (.bool true) w := by kernel_rfl
theorem asg_outer_E (w : World) : (ReflectliteType.relation "AssignableTo" ReflectliteType.assignableTo #[.agg #[.pointer (some ⟨1, 30, none⟩)], .iface 62 (.agg #[.pointer (some ⟨1, 27, none⟩)])]).run Tryd.prog w = .ok (.bool false) w := by kernel_rfl
theorem asg_pES_E (w : World) : (ReflectliteType.relation "AssignableTo" ReflectliteType.assignableTo #[.agg #[.pointer (some ⟨1, 51, none⟩)], .iface 62 (.agg #[.pointer (some ⟨1, 27, none⟩)])]).run Tryd.prog w = .ok (.bool false) w := by kernel_rfl
theorem valueOf_pF (e : Addr) (w : World) : (ReflectliteValue.unpack (.iface 48 (.pointer (some e)))).run Tryd.prog w
    = .ok (.agg #[.pointer (some ⟨1, 48, none⟩), .pointer (some ⟨w.heap.size, 0, none⟩), .int .u64 150]) (w.alloc (.cells #[.pointer (some e)] 48)) := by kernel_rfl
theorem valueOf_Errno (e : Int) (w : World) : (ReflectliteValue.unpack (.iface 27 (.int .i64 e))).run Tryd.prog w
    = .ok (.agg #[.pointer (some ⟨1, 27, none⟩), .pointer (some ⟨w.heap.size, 0, none⟩), .int .u64 130]) (w.alloc (.cells #[.int .i64 e] 27)) := by kernel_rfl
/-! ### their method sets -/
theorem noAs (T : TypeId) (hT : T = 48 ∨ T = 27 ∨ T = 30 ∨ T = 51) (v : Value) (x : TypeId) (w : World) : (Instr.typeAssert (.iface T v) x 86 true).run Tryd.prog w = .ok (.tuple #[.nilIface, .bool false]) w := by
  rcases hT with rfl | rfl | rfl | rfl
  · exact run_typeAssert_lacksB Tryd.underlying86 (by kernel_rfl) (by kernel_rfl) v x w
  · exact run_typeAssert_lacksB Tryd.underlying86 (by kernel_rfl) (by kernel_rfl) v x w
  · exact run_typeAssert_lacksB Tryd.underlying86 (by kernel_rfl) (by kernel_rfl) v x w
  · exact run_typeAssert_lacksB Tryd.underlying86 (by kernel_rfl) (by kernel_rfl) v x w
theorem noIs (T : TypeId) (hT : T = 48 ∨ T = 27 ∨ T = 30 ∨ T = 51) (v : Value) (x : TypeId) (w : World) : (Instr.typeAssert (.iface T v) x 64 true).run Tryd.prog w = .ok (.tuple #[.nilIface, .bool false]) w := by
  rcases hT with rfl | rfl | rfl | rfl
  · exact run_typeAssert_lacksB Tryd.underlying64 (by kernel_rfl) (by kernel_rfl) v x w
  · exact run_typeAssert_lacksB Tryd.underlying64 (by kernel_rfl) (by kernel_rfl) v x w
  · exact run_typeAssert_lacksB Tryd.underlying64 (by kernel_rfl) (by kernel_rfl) v x w
  · exact run_typeAssert_lacksB Tryd.underlying64 (by kernel_rfl) (by kernel_rfl) v x w
theorem noUns (T : TypeId) (hT : T = 27 ∨ T = 51) (v : Value) (x : TypeId) (w : World) : (Instr.typeAssert (.iface T v) x 68 true).run Tryd.prog w = .ok (.tuple #[.nilIface, .bool false]) w := by
  rcases hT with rfl | rfl
  · exact run_typeAssert_lacksB Tryd.underlying68 (by kernel_rfl) (by kernel_rfl) v x w
  · exact run_typeAssert_lacksB Tryd.underlying68 (by kernel_rfl) (by kernel_rfl) v x w
theorem noUn (T : TypeId) (hT : T = 27 ∨ T = 51) (v : Value) (x : TypeId) (w : World) : (Instr.typeAssert (.iface T v) x 67 true).run Tryd.prog w = .ok (.tuple #[.nilIface, .bool false]) w := by
  rcases hT with rfl | rfl
  · exact run_typeAssert_lacksB Tryd.underlying67 (by kernel_rfl) (by kernel_rfl) v x w
  · exact run_typeAssert_lacksB Tryd.underlying67 (by kernel_rfl) (by kernel_rfl) v x w
theorem hasUn_outer (v : Value) (x : TypeId) (w : World) : (Instr.typeAssert (.iface 30 v) x 67 true).run Tryd.prog w = .ok (.tuple #[.iface 30 v, .bool true]) w := run_typeAssert_hasB Tryd.underlying67 (by kernel_rfl) v x w
theorem hasUn_pF (v : Value) (x : TypeId) (w : World) : (Instr.typeAssert (.iface 48 v) x 67 true).run Tryd.prog w = .ok (.tuple #[.iface 48 v, .bool true]) w := run_typeAssert_hasB Tryd.underlying67 (by kernel_rfl) v x w
end Go.Proofs.YtjhjojoaghohjaaDoor
