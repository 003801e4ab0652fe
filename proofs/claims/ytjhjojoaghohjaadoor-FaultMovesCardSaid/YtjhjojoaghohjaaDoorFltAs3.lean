/-
  errors.As over an error that is wrapped several times, walked.
-/
import Derived.Test.YtjhjojoaghohjaaDoorFltAs2
namespace Go.Proofs.YtjhjojoaghohjaaDoor
open Go.RowKit Go.Extern.Stop Go.Stop Go.Extern

set_option maxRecDepth 100000 in
set_option maxHeartbeats 4000000 in
theorem AsF_hit_a (e : Addr) (ta : Addr) (old : Value) (w : World) (hg : w.cell? ⟨0, 0, none⟩ = some (.iface 62 (.agg #[hd 25]))) (ht : w.cell? ta = some old) (hf : w.frozen? ta = false) :
    Calls Tryd.prog 23 #[wrapE 0 (.iface 48 (.pointer (some e))), .iface 71 (.pointer (some ta))] w fun ev w' => ev = .returned (.bool true) ∧ ∃ v1, Below w.heap.size w v1 ∧ v1.cell? ta = some old ∧ v1.frozen? ta = false ∧ w' = v1.setCell ta (.pointer (some e)) := by
  have h25 := @run_callFunc_extern Tryd.prog 25 _ (fun args => ReflectliteValue.unpack (args.getD 0 (.tuple #[]))) Tryd.func25 (by kernel_rfl) (by kernel_rfl) (by kernel_rfl) (by kernel_rfl)
  have h26 := @run_callFunc_extern Tryd.prog 26 _ (ReflectliteValue.methodAny (ReflectliteValue.valueError "reflectlite.Value.Type" 0) (fun t _ _ _ => ReflectliteType.toType t)) Tryd.func26 (by kernel_rfl) (by kernel_rfl) (by kernel_rfl) (by kernel_rfl)
  have h27 := @run_callFunc_extern Tryd.prog 27 _ (ReflectliteValue.method (ReflectliteValue.valueError "reflectlite.Value.IsNil" 0) ReflectliteValue.isNil) Tryd.func27 (by kernel_rfl) (by kernel_rfl) (by kernel_rfl) (by kernel_rfl)
  have h45 := @run_callFunc_extern Tryd.prog 45 _ (ReflectliteType.abiMethod fun t => do pure (.int .u8 (← Rtype.kind t))) Tryd.func45 (by kernel_rfl) (by kernel_rfl) (by kernel_rfl) (by kernel_rfl)
  have h54 := @run_callFunc_extern Tryd.prog 54 _ (ReflectliteType.method ReflectliteType.elem) Tryd.func54 (by kernel_rfl) (by kernel_rfl) (by kernel_rfl) (by kernel_rfl)
  have h55 := @run_callFunc_extern Tryd.prog 55 _ (ReflectliteType.relation "Implements" ReflectliteType.implements_) Tryd.func55 (by kernel_rfl) (by kernel_rfl) (by kernel_rfl) (by kernel_rfl)
  have v1 := valueOf_F
  have t1 := type_F
  have mK := methodKind
  have mE := methodElem
  have mI := methodImplements
  have k1 := kind_ppF
  have k2 := kind_pF
  have e1 := elem_ppF
  have i1 := impl_pF
  have hB2 : Below w.heap.size w ((w.alloc (.cells #[.pointer (some ta)] 71)).alloc (.cells #[hd 71, .pointer (some ⟨w.heap.size, 0, none⟩), .int .u64 150] 75)) := (one_box _ _).trans ((one_box _ _).mono (by simp))
  have n1 := isNil_F ⟨w.heap.size, 0, none⟩ ta ((w.alloc (.cells #[.pointer (some ta)] 71)).alloc (.cells #[hd 71, .pointer (some ⟨w.heap.size, 0, none⟩), .int .u64 150] 75)) (by go_simp)
  have g2 := (hB2.cell (block_lt hg)).trans hg
  have t2 := (hB2.cell (block_lt ht)).trans ht
  have f2 := (hB2.frozen (block_lt ht)).trans hf
  have p2 : (((w.alloc (.cells #[.pointer (some ta)] 71)).alloc (.cells #[hd 71, .pointer (some ⟨w.heap.size, 0, none⟩), .int .u64 150] 75))).cell? ⟨w.heap.size, 0, none⟩ = some (.pointer (some ta)) := by go_simp
  have HA := Lib.hid (asF_hit 0 e ⟨w.heap.size, 0, none⟩ ta old (.iface 71 (.pointer (some ta))) _ p2 t2 f2)
  clear p2 t2 f2
  unfold hd at *
  simp only [wrapE] at *
  go_enter Tryd.func23, Tryd.ntmps23
  go_wp2_with (go_at_call 28; refine HA.out.mono ?_; rintro ev w' ⟨rfl, v1, hb, hc, hf1, rfl⟩)
  go_ret
  exact ⟨rfl, v1, hB2.trans (hb.mono hB2.size), hc, hf1, rfl⟩
set_option maxRecDepth 100000 in
set_option maxHeartbeats 4000000 in
theorem AsF_hit_b (d : Nat) (e : Addr) (ta : Addr) (old : Value) (w : World) (hg : w.cell? ⟨0, 0, none⟩ = some (.iface 62 (.agg #[hd 25]))) (ht : w.cell? ta = some old) (hf : w.frozen? ta = false) :
    Calls Tryd.prog 23 #[wrapE (d + 1) (.iface 48 (.pointer (some e))), .iface 71 (.pointer (some ta))] w fun ev w' => ev = .returned (.bool true) ∧ ∃ v1, Below w.heap.size w v1 ∧ v1.cell? ta = some old ∧ v1.frozen? ta = false ∧ w' = v1.setCell ta (.pointer (some e)) := by
  have h25 := @run_callFunc_extern Tryd.prog 25 _ (fun args => ReflectliteValue.unpack (args.getD 0 (.tuple #[]))) Tryd.func25 (by kernel_rfl) (by kernel_rfl) (by kernel_rfl) (by kernel_rfl)
  have h26 := @run_callFunc_extern Tryd.prog 26 _ (ReflectliteValue.methodAny (ReflectliteValue.valueError "reflectlite.Value.Type" 0) (fun t _ _ _ => ReflectliteType.toType t)) Tryd.func26 (by kernel_rfl) (by kernel_rfl) (by kernel_rfl) (by kernel_rfl)
  have h27 := @run_callFunc_extern Tryd.prog 27 _ (ReflectliteValue.method (ReflectliteValue.valueError "reflectlite.Value.IsNil" 0) ReflectliteValue.isNil) Tryd.func27 (by kernel_rfl) (by kernel_rfl) (by kernel_rfl) (by kernel_rfl)
  have h45 := @run_callFunc_extern Tryd.prog 45 _ (ReflectliteType.abiMethod fun t => do pure (.int .u8 (← Rtype.kind t))) Tryd.func45 (by kernel_rfl) (by kernel_rfl) (by kernel_rfl) (by kernel_rfl)
  have h54 := @run_callFunc_extern Tryd.prog 54 _ (ReflectliteType.method ReflectliteType.elem) Tryd.func54 (by kernel_rfl) (by kernel_rfl) (by kernel_rfl) (by kernel_rfl)
  have h55 := @run_callFunc_extern Tryd.prog 55 _ (ReflectliteType.relation "Implements" ReflectliteType.implements_) Tryd.func55 (by kernel_rfl) (by kernel_rfl) (by kernel_rfl) (by kernel_rfl)
  have v1 := valueOf_F
  have t1 := type_F
  have mK := methodKind
  have mE := methodElem
  have mI := methodImplements
  have k1 := kind_ppF
  have k2 := kind_pF
  have e1 := elem_ppF
  have i1 := impl_pF
  have hB2 : Below w.heap.size w ((w.alloc (.cells #[.pointer (some ta)] 71)).alloc (.cells #[hd 71, .pointer (some ⟨w.heap.size, 0, none⟩), .int .u64 150] 75)) := (one_box _ _).trans ((one_box _ _).mono (by simp))
  have n1 := isNil_F ⟨w.heap.size, 0, none⟩ ta ((w.alloc (.cells #[.pointer (some ta)] 71)).alloc (.cells #[hd 71, .pointer (some ⟨w.heap.size, 0, none⟩), .int .u64 150] 75)) (by go_simp)
  have g2 := (hB2.cell (block_lt hg)).trans hg
  have t2 := (hB2.cell (block_lt ht)).trans ht
  have f2 := (hB2.frozen (block_lt ht)).trans hf
  have p2 : (((w.alloc (.cells #[.pointer (some ta)] 71)).alloc (.cells #[hd 71, .pointer (some ⟨w.heap.size, 0, none⟩), .int .u64 150] 75))).cell? ⟨w.heap.size, 0, none⟩ = some (.pointer (some ta)) := by go_simp
  have HA := Lib.hid (asF_hit (d + 1) e ⟨w.heap.size, 0, none⟩ ta old (.iface 71 (.pointer (some ta))) _ p2 t2 f2)
  clear p2 t2 f2
  unfold hd at *
  simp only [wrapE] at *
  go_enter Tryd.func23, Tryd.ntmps23
  go_wp2_with (go_at_call 28; refine HA.out.mono ?_; rintro ev w' ⟨rfl, v1, hb, hc, hf1, rfl⟩)
  go_ret
  exact ⟨rfl, v1, hB2.trans (hb.mono hB2.size), hc, hf1, rfl⟩
theorem AsF_hit (d : Nat) (e : Addr) (ta : Addr) (old : Value) (w : World) (hg : w.cell? ⟨0, 0, none⟩ = some (.iface 62 (.agg #[hd 25]))) (ht : w.cell? ta = some old) (hf : w.frozen? ta = false) :
    Calls Tryd.prog 23 #[wrapE d (.iface 48 (.pointer (some e))), .iface 71 (.pointer (some ta))] w fun ev w' => ev = .returned (.bool true) ∧ ∃ v1, Below w.heap.size w v1 ∧ v1.cell? ta = some old ∧ v1.frozen? ta = false ∧ w' = v1.setCell ta (.pointer (some e)) := by
  cases d with
  | zero => exact AsF_hit_a e ta old w hg ht hf
  | succ d => exact AsF_hit_b d e ta old w hg ht hf
set_option maxRecDepth 100000 in
set_option maxHeartbeats 4000000 in
theorem AsF_errno_a (e : Int) (ta : Addr) (old : Value) (w : World) (hg : w.cell? ⟨0, 0, none⟩ = some (.iface 62 (.agg #[hd 25]))) (ht : w.cell? ta = some old) (hf : w.frozen? ta = false) :
    Calls Tryd.prog 23 #[wrapE 0 (.iface 27 (.int .i64 e)), .iface 71 (.pointer (some ta))] w fun ev w' => ev = .returned (.bool false) ∧ Below w.heap.size w w' := by
  have h25 := @run_callFunc_extern Tryd.prog 25 _ (fun args => ReflectliteValue.unpack (args.getD 0 (.tuple #[]))) Tryd.func25 (by kernel_rfl) (by kernel_rfl) (by kernel_rfl) (by kernel_rfl)
  have h26 := @run_callFunc_extern Tryd.prog 26 _ (ReflectliteValue.methodAny (ReflectliteValue.valueError "reflectlite.Value.Type" 0) (fun t _ _ _ => ReflectliteType.toType t)) Tryd.func26 (by kernel_rfl) (by kernel_rfl) (by kernel_rfl) (by kernel_rfl)
  have h27 := @run_callFunc_extern Tryd.prog 27 _ (ReflectliteValue.method (ReflectliteValue.valueError "reflectlite.Value.IsNil" 0) ReflectliteValue.isNil) Tryd.func27 (by kernel_rfl) (by kernel_rfl) (by kernel_rfl) (by kernel_rfl)
  have h45 := @run_callFunc_extern Tryd.prog 45 _ (ReflectliteType.abiMethod fun t => do pure (.int .u8 (← Rtype.kind t))) Tryd.func45 (by kernel_rfl) (by kernel_rfl) (by kernel_rfl) (by kernel_rfl)
  have h54 := @run_callFunc_extern Tryd.prog 54 _ (ReflectliteType.method ReflectliteType.elem) Tryd.func54 (by kernel_rfl) (by kernel_rfl) (by kernel_rfl) (by kernel_rfl)
  have h55 := @run_callFunc_extern Tryd.prog 55 _ (ReflectliteType.relation "Implements" ReflectliteType.implements_) Tryd.func55 (by kernel_rfl) (by kernel_rfl) (by kernel_rfl) (by kernel_rfl)
  have v1 := valueOf_F
  have t1 := type_F
  have mK := methodKind
  have mE := methodElem
  have mI := methodImplements
  have k1 := kind_ppF
  have k2 := kind_pF
  have e1 := elem_ppF
  have i1 := impl_pF
  have hB2 : Below w.heap.size w ((w.alloc (.cells #[.pointer (some ta)] 71)).alloc (.cells #[hd 71, .pointer (some ⟨w.heap.size, 0, none⟩), .int .u64 150] 75)) := (one_box _ _).trans ((one_box _ _).mono (by simp))
  have n1 := isNil_F ⟨w.heap.size, 0, none⟩ ta ((w.alloc (.cells #[.pointer (some ta)] 71)).alloc (.cells #[hd 71, .pointer (some ⟨w.heap.size, 0, none⟩), .int .u64 150] 75)) (by go_simp)
  have g2 := (hB2.cell (block_lt hg)).trans hg
  have t2 := (hB2.cell (block_lt ht)).trans ht
  have f2 := (hB2.frozen (block_lt ht)).trans hf
  have p2 : (((w.alloc (.cells #[.pointer (some ta)] 71)).alloc (.cells #[hd 71, .pointer (some ⟨w.heap.size, 0, none⟩), .int .u64 150] 75))).cell? ⟨w.heap.size, 0, none⟩ = some (.pointer (some ta)) := by go_simp
  have HA := Lib.hid (asF_errno 0 e ⟨w.heap.size, 0, none⟩ ta old (.iface 71 (.pointer (some ta))) _ p2 t2 f2)
  clear p2 t2 f2
  unfold hd at *
  simp only [wrapE] at *
  go_enter Tryd.func23, Tryd.ntmps23
  go_wp2_with (go_at_call 28; refine HA.out.mono ?_; rintro ev w' ⟨rfl, hb⟩)
  go_ret
  exact ⟨rfl, hB2.trans (hb.mono hB2.size)⟩
set_option maxRecDepth 100000 in
set_option maxHeartbeats 4000000 in
theorem AsF_errno_b (d : Nat) (e : Int) (ta : Addr) (old : Value) (w : World) (hg : w.cell? ⟨0, 0, none⟩ = some (.iface 62 (.agg #[hd 25]))) (ht : w.cell? ta = some old) (hf : w.frozen? ta = false) :
    Calls Tryd.prog 23 #[wrapE (d + 1) (.iface 27 (.int .i64 e)), .iface 71 (.pointer (some ta))] w fun ev w' => ev = .returned (.bool false) ∧ Below w.heap.size w w' := by
  have h25 := @run_callFunc_extern Tryd.prog 25 _ (fun args => ReflectliteValue.unpack (args.getD 0 (.tuple #[]))) Tryd.func25 (by kernel_rfl) (by kernel_rfl) (by kernel_rfl) (by kernel_rfl)
  have h26 := @run_callFunc_extern Tryd.prog 26 _ (ReflectliteValue.methodAny (ReflectliteValue.valueError "reflectlite.Value.Type" 0) (fun t _ _ _ => ReflectliteType.toType t)) Tryd.func26 (by kernel_rfl) (by kernel_rfl) (by kernel_rfl) (by kernel_rfl)
  have h27 := @run_callFunc_extern Tryd.prog 27 _ (ReflectliteValue.method (ReflectliteValue.valueError "reflectlite.Value.IsNil" 0) ReflectliteValue.isNil) Tryd.func27 (by kernel_rfl) (by kernel_rfl) (by kernel_rfl) (by kernel_rfl)
  have h45 := @run_callFunc_extern Tryd.prog 45 _ (ReflectliteType.abiMethod fun t => do pure (.int .u8 (← Rtype.kind t))) Tryd.func45 (by kernel_rfl) (by kernel_rfl) (by kernel_rfl) (by kernel_rfl)
  have h54 := @run_callFunc_extern Tryd.prog 54 _ (ReflectliteType.method ReflectliteType.elem) Tryd.func54 (by kernel_rfl) (by kernel_rfl) (by kernel_rfl) (by kernel_rfl)
  have h55 := @run_callFunc_extern Tryd.prog 55 _ (ReflectliteType.relation "Implements" ReflectliteType.implements_) Tryd.func55 (by kernel_rfl) (by kernel_rfl) (by kernel_rfl) (by kernel_rfl)
  have v1 := valueOf_F
  have t1 := type_F
  have mK := methodKind
  have mE := methodElem
  have mI := methodImplements
  have k1 := kind_ppF
  have k2 := kind_pF
  have e1 := elem_ppF
  have i1 := impl_pF
  have hB2 : Below w.heap.size w ((w.alloc (.cells #[.pointer (some ta)] 71)).alloc (.cells #[hd 71, .pointer (some ⟨w.heap.size, 0, none⟩), .int .u64 150] 75)) := (one_box _ _).trans ((one_box _ _).mono (by simp))
  have n1 := isNil_F ⟨w.heap.size, 0, none⟩ ta ((w.alloc (.cells #[.pointer (some ta)] 71)).alloc (.cells #[hd 71, .pointer (some ⟨w.heap.size, 0, none⟩), .int .u64 150] 75)) (by go_simp)
  have g2 := (hB2.cell (block_lt hg)).trans hg
  have t2 := (hB2.cell (block_lt ht)).trans ht
  have f2 := (hB2.frozen (block_lt ht)).trans hf
  have p2 : (((w.alloc (.cells #[.pointer (some ta)] 71)).alloc (.cells #[hd 71, .pointer (some ⟨w.heap.size, 0, none⟩), .int .u64 150] 75))).cell? ⟨w.heap.size, 0, none⟩ = some (.pointer (some ta)) := by go_simp
  have HA := Lib.hid (asF_errno (d + 1) e ⟨w.heap.size, 0, none⟩ ta old (.iface 71 (.pointer (some ta))) _ p2 t2 f2)
  clear p2 t2 f2
  unfold hd at *
  simp only [wrapE] at *
  go_enter Tryd.func23, Tryd.ntmps23
  go_wp2_with (go_at_call 28; refine HA.out.mono ?_; rintro ev w' ⟨rfl, hb⟩)
  go_ret
  exact ⟨rfl, hB2.trans (hb.mono hB2.size)⟩
theorem AsF_errno (d : Nat) (e : Int) (ta : Addr) (old : Value) (w : World) (hg : w.cell? ⟨0, 0, none⟩ = some (.iface 62 (.agg #[hd 25]))) (ht : w.cell? ta = some old) (hf : w.frozen? ta = false) :
    Calls Tryd.prog 23 #[wrapE d (.iface 27 (.int .i64 e)), .iface 71 (.pointer (some ta))] w fun ev w' => ev = .returned (.bool false) ∧ Below w.heap.size w w' := by
  cases d with
  | zero => exact AsF_errno_a e ta old w hg ht hf
  | succ d => exact AsF_errno_b d e ta old w hg ht hf
set_option maxRecDepth 100000 in
set_option maxHeartbeats 4000000 in
theorem AsF_odd_a (e : Addr) (ta : Addr) (old : Value) (w : World) (hg : w.cell? ⟨0, 0, none⟩ = some (.iface 62 (.agg #[hd 25]))) (ht : w.cell? ta = some old) (hf : w.frozen? ta = false) :
    Calls Tryd.prog 23 #[wrapE 0 (.iface 51 (.pointer (some e))), .iface 71 (.pointer (some ta))] w fun ev w' => ev = .returned (.bool false) ∧ Below w.heap.size w w' := by
  have h25 := @run_callFunc_extern Tryd.prog 25 _ (fun args => ReflectliteValue.unpack (args.getD 0 (.tuple #[]))) Tryd.func25 (by kernel_rfl) (by kernel_rfl) (by kernel_rfl) (by kernel_rfl)
  have h26 := @run_callFunc_extern Tryd.prog 26 _ (ReflectliteValue.methodAny (ReflectliteValue.valueError "reflectlite.Value.Type" 0) (fun t _ _ _ => ReflectliteType.toType t)) Tryd.func26 (by kernel_rfl) (by kernel_rfl) (by kernel_rfl) (by kernel_rfl)
  have h27 := @run_callFunc_extern Tryd.prog 27 _ (ReflectliteValue.method (ReflectliteValue.valueError "reflectlite.Value.IsNil" 0) ReflectliteValue.isNil) Tryd.func27 (by kernel_rfl) (by kernel_rfl) (by kernel_rfl) (by kernel_rfl)
  have h45 := @run_callFunc_extern Tryd.prog 45 _ (ReflectliteType.abiMethod fun t => do pure (.int .u8 (← Rtype.kind t))) Tryd.func45 (by kernel_rfl) (by kernel_rfl) (by kernel_rfl) (by kernel_rfl)
  have h54 := @run_callFunc_extern Tryd.prog 54 _ (ReflectliteType.method ReflectliteType.elem) Tryd.func54 (by kernel_rfl) (by kernel_rfl) (by kernel_rfl) (by kernel_rfl)
  have h55 := @run_callFunc_extern Tryd.prog 55 _ (ReflectliteType.relation "Implements" ReflectliteType.implements_) Tryd.func55 (by kernel_rfl) (by kernel_rfl) (by kernel_rfl) (by kernel_rfl)
  have v1 := valueOf_F
  have t1 := type_F
  have mK := methodKind
  have mE := methodElem
  have mI := methodImplements
  have k1 := kind_ppF
  have k2 := kind_pF
  have e1 := elem_ppF
  have i1 := impl_pF
  have hB2 : Below w.heap.size w ((w.alloc (.cells #[.pointer (some ta)] 71)).alloc (.cells #[hd 71, .pointer (some ⟨w.heap.size, 0, none⟩), .int .u64 150] 75)) := (one_box _ _).trans ((one_box _ _).mono (by simp))
  have n1 := isNil_F ⟨w.heap.size, 0, none⟩ ta ((w.alloc (.cells #[.pointer (some ta)] 71)).alloc (.cells #[hd 71, .pointer (some ⟨w.heap.size, 0, none⟩), .int .u64 150] 75)) (by go_simp)
  have g2 := (hB2.cell (block_lt hg)).trans hg
  have t2 := (hB2.cell (block_lt ht)).trans ht
  have f2 := (hB2.frozen (block_lt ht)).trans hf
  have p2 : (((w.alloc (.cells #[.pointer (some ta)] 71)).alloc (.cells #[hd 71, .pointer (some ⟨w.heap.size, 0, none⟩), .int .u64 150] 75))).cell? ⟨w.heap.size, 0, none⟩ = some (.pointer (some ta)) := by go_simp
  have HA := Lib.hid (asF_odd 0 e ⟨w.heap.size, 0, none⟩ ta old (.iface 71 (.pointer (some ta))) _ p2 t2 f2)
  clear p2 t2 f2
  unfold hd at *
  simp only [wrapE] at *
  go_enter Tryd.func23, Tryd.ntmps23
  go_wp2_with (go_at_call 28; refine HA.out.mono ?_; rintro ev w' ⟨rfl, hb⟩)
  go_ret
  exact ⟨rfl, hB2.trans (hb.mono hB2.size)⟩
set_option maxRecDepth 100000 in
set_option maxHeartbeats 4000000 in
theorem AsF_odd_b (d : Nat) (e : Addr) (ta : Addr) (old : Value) (w : World) (hg : w.cell? ⟨0, 0, none⟩ = some (.iface 62 (.agg #[hd 25]))) (ht : w.cell? ta = some old) (hf : w.frozen? ta = false) :
    Calls Tryd.prog 23 #[wrapE (d + 1) (.iface 51 (.pointer (some e))), .iface 71 (.pointer (some ta))] w fun ev w' => ev = .returned (.bool false) ∧ Below w.heap.size w w' := by
  have h25 := @run_callFunc_extern Tryd.prog 25 _ (fun args => ReflectliteValue.unpack (args.getD 0 (.tuple #[]))) Tryd.func25 (by kernel_rfl) (by kernel_rfl) (by kernel_rfl) (by kernel_rfl)
  have h26 := @run_callFunc_extern Tryd.prog 26 _ (ReflectliteValue.methodAny (ReflectliteValue.valueError "reflectlite.Value.Type" 0) (fun t _ _ _ => ReflectliteType.toType t)) Tryd.func26 (by kernel_rfl) (by kernel_rfl) (by kernel_rfl) (by kernel_rfl)
  have h27 := @run_callFunc_extern Tryd.prog 27 _ (ReflectliteValue.method (ReflectliteValue.valueError "reflectlite.Value.IsNil" 0) ReflectliteValue.isNil) Tryd.func27 (by kernel_rfl) (by kernel_rfl) (by kernel_rfl) (by kernel_rfl)
  have h45 := @run_callFunc_extern Tryd.prog 45 _ (ReflectliteType.abiMethod fun t => do pure (.int .u8 (← Rtype.kind t))) Tryd.func45 (by kernel_rfl) (by kernel_rfl) (by kernel_rfl) (by kernel_rfl)
  have h54 := @run_callFunc_extern Tryd.prog 54 _ (ReflectliteType.method ReflectliteType.elem) Tryd.func54 (by kernel_rfl) (by kernel_rfl) (by kernel_rfl) (by kernel_rfl)
  have h55 := @run_callFunc_extern Tryd.prog 55 _ (ReflectliteType.relation "Implements" ReflectliteType.implements_) Tryd.func55 (by kernel_rfl) (by kernel_rfl) (by kernel_rfl) (by kernel_rfl)
  have v1 := valueOf_F
  have t1 := type_F
  have mK := methodKind
  have mE := methodElem
  have mI := methodImplements
  have k1 := kind_ppF
  have k2 := kind_pF
  have e1 := elem_ppF
  have i1 := impl_pF
  have hB2 : Below w.heap.size w ((w.alloc (.cells #[.pointer (some ta)] 71)).alloc (.cells #[hd 71, .pointer (some ⟨w.heap.size, 0, none⟩), .int .u64 150] 75)) := (one_box _ _).trans ((one_box _ _).mono (by simp))
  have n1 := isNil_F ⟨w.heap.size, 0, none⟩ ta ((w.alloc (.cells #[.pointer (some ta)] 71)).alloc (.cells #[hd 71, .pointer (some ⟨w.heap.size, 0, none⟩), .int .u64 150] 75)) (by go_simp)
  have g2 := (hB2.cell (block_lt hg)).trans hg
  have t2 := (hB2.cell (block_lt ht)).trans ht
  have f2 := (hB2.frozen (block_lt ht)).trans hf
  have p2 : (((w.alloc (.cells #[.pointer (some ta)] 71)).alloc (.cells #[hd 71, .pointer (some ⟨w.heap.size, 0, none⟩), .int .u64 150] 75))).cell? ⟨w.heap.size, 0, none⟩ = some (.pointer (some ta)) := by go_simp
  have HA := Lib.hid (asF_odd (d + 1) e ⟨w.heap.size, 0, none⟩ ta old (.iface 71 (.pointer (some ta))) _ p2 t2 f2)
  clear p2 t2 f2
  unfold hd at *
  simp only [wrapE] at *
  go_enter Tryd.func23, Tryd.ntmps23
  go_wp2_with (go_at_call 28; refine HA.out.mono ?_; rintro ev w' ⟨rfl, hb⟩)
  go_ret
  exact ⟨rfl, hB2.trans (hb.mono hB2.size)⟩
theorem AsF_odd (d : Nat) (e : Addr) (ta : Addr) (old : Value) (w : World) (hg : w.cell? ⟨0, 0, none⟩ = some (.iface 62 (.agg #[hd 25]))) (ht : w.cell? ta = some old) (hf : w.frozen? ta = false) :
    Calls Tryd.prog 23 #[wrapE d (.iface 51 (.pointer (some e))), .iface 71 (.pointer (some ta))] w fun ev w' => ev = .returned (.bool false) ∧ Below w.heap.size w w' := by
  cases d with
  | zero => exact AsF_odd_a e ta old w hg ht hf
  | succ d => exact AsF_odd_b d e ta old w hg ht hf
set_option maxRecDepth 100000 in
set_option maxHeartbeats 4000000 in
theorem AsE_hit_a (e : Int) (ta : Addr) (old : Value) (w : World) (hg : w.cell? ⟨0, 0, none⟩ = some (.iface 62 (.agg #[hd 25]))) (ht : w.cell? ta = some old) (hf : w.frozen? ta = false) :
    Calls Tryd.prog 23 #[wrapE 0 (.iface 27 (.int .i64 e)), .iface 60 (.pointer (some ta))] w fun ev w' => ev = .returned (.bool true) ∧ ∃ v1, Below w.heap.size w v1 ∧ v1.cell? ta = some old ∧ v1.frozen? ta = false ∧ w' = v1.setCell ta (.int .i64 e) := by
  have h25 := @run_callFunc_extern Tryd.prog 25 _ (fun args => ReflectliteValue.unpack (args.getD 0 (.tuple #[]))) Tryd.func25 (by kernel_rfl) (by kernel_rfl) (by kernel_rfl) (by kernel_rfl)
  have h26 := @run_callFunc_extern Tryd.prog 26 _ (ReflectliteValue.methodAny (ReflectliteValue.valueError "reflectlite.Value.Type" 0) (fun t _ _ _ => ReflectliteType.toType t)) Tryd.func26 (by kernel_rfl) (by kernel_rfl) (by kernel_rfl) (by kernel_rfl)
  have h27 := @run_callFunc_extern Tryd.prog 27 _ (ReflectliteValue.method (ReflectliteValue.valueError "reflectlite.Value.IsNil" 0) ReflectliteValue.isNil) Tryd.func27 (by kernel_rfl) (by kernel_rfl) (by kernel_rfl) (by kernel_rfl)
  have h45 := @run_callFunc_extern Tryd.prog 45 _ (ReflectliteType.abiMethod fun t => do pure (.int .u8 (← Rtype.kind t))) Tryd.func45 (by kernel_rfl) (by kernel_rfl) (by kernel_rfl) (by kernel_rfl)
  have h54 := @run_callFunc_extern Tryd.prog 54 _ (ReflectliteType.method ReflectliteType.elem) Tryd.func54 (by kernel_rfl) (by kernel_rfl) (by kernel_rfl) (by kernel_rfl)
  have h55 := @run_callFunc_extern Tryd.prog 55 _ (ReflectliteType.relation "Implements" ReflectliteType.implements_) Tryd.func55 (by kernel_rfl) (by kernel_rfl) (by kernel_rfl) (by kernel_rfl)
  have v1 := valueOf_E
  have t1 := type_E
  have mK := methodKind
  have mE := methodElem
  have mI := methodImplements
  have k1 := kind_pE
  have k2 := kind_Errno
  have e1 := elem_pE
  have i1 := impl_Errno
  have hB2 : Below w.heap.size w ((w.alloc (.cells #[.pointer (some ta)] 60)).alloc (.cells #[hd 60, .pointer (some ⟨w.heap.size, 0, none⟩), .int .u64 150] 75)) := (one_box _ _).trans ((one_box _ _).mono (by simp))
  have n1 := isNil_E ⟨w.heap.size, 0, none⟩ ta ((w.alloc (.cells #[.pointer (some ta)] 60)).alloc (.cells #[hd 60, .pointer (some ⟨w.heap.size, 0, none⟩), .int .u64 150] 75)) (by go_simp)
  have g2 := (hB2.cell (block_lt hg)).trans hg
  have t2 := (hB2.cell (block_lt ht)).trans ht
  have f2 := (hB2.frozen (block_lt ht)).trans hf
  have p2 : (((w.alloc (.cells #[.pointer (some ta)] 60)).alloc (.cells #[hd 60, .pointer (some ⟨w.heap.size, 0, none⟩), .int .u64 150] 75))).cell? ⟨w.heap.size, 0, none⟩ = some (.pointer (some ta)) := by go_simp
  have HA := Lib.hid (asE_hit 0 e ⟨w.heap.size, 0, none⟩ ta old (.iface 60 (.pointer (some ta))) _ p2 t2 f2)
  clear p2 t2 f2
  unfold hd at *
  simp only [wrapE] at *
  go_enter Tryd.func23, Tryd.ntmps23
  go_wp2_with (go_at_call 28; refine HA.out.mono ?_; rintro ev w' ⟨rfl, v1, hb, hc, hf1, rfl⟩)
  go_ret
  exact ⟨rfl, v1, hB2.trans (hb.mono hB2.size), hc, hf1, rfl⟩
set_option maxRecDepth 100000 in
set_option maxHeartbeats 4000000 in
theorem AsE_hit_b (d : Nat) (e : Int) (ta : Addr) (old : Value) (w : World) (hg : w.cell? ⟨0, 0, none⟩ = some (.iface 62 (.agg #[hd 25]))) (ht : w.cell? ta = some old) (hf : w.frozen? ta = false) :
    Calls Tryd.prog 23 #[wrapE (d + 1) (.iface 27 (.int .i64 e)), .iface 60 (.pointer (some ta))] w fun ev w' => ev = .returned (.bool true) ∧ ∃ v1, Below w.heap.size w v1 ∧ v1.cell? ta = some old ∧ v1.frozen? ta = false ∧ w' = v1.setCell ta (.int .i64 e) := by
  have h25 := @run_callFunc_extern Tryd.prog 25 _ (fun args => ReflectliteValue.unpack (args.getD 0 (.tuple #[]))) Tryd.func25 (by kernel_rfl) (by kernel_rfl) (by kernel_rfl) (by kernel_rfl)
  have h26 := @run_callFunc_extern Tryd.prog 26 _ (ReflectliteValue.methodAny (ReflectliteValue.valueError "reflectlite.Value.Type" 0) (fun t _ _ _ => ReflectliteType.toType t)) Tryd.func26 (by kernel_rfl) (by kernel_rfl) (by kernel_rfl) (by kernel_rfl)
  have h27 := @run_callFunc_extern Tryd.prog 27 _ (ReflectliteValue.method (ReflectliteValue.valueError "reflectlite.Value.IsNil" 0) ReflectliteValue.isNil) Tryd.func27 (by kernel_rfl) (by kernel_rfl) (by kernel_rfl) (by kernel_rfl)
  have h45 := @run_callFunc_extern Tryd.prog 45 _ (ReflectliteType.abiMethod fun t => do pure (.int .u8 (← Rtype.kind t))) Tryd.func45 (by kernel_rfl) (by kernel_rfl) (by kernel_rfl) (by kernel_rfl)
  have h54 := @run_callFunc_extern Tryd.prog 54 _ (ReflectliteType.method ReflectliteType.elem) Tryd.func54 (by kernel_rfl) (by kernel_rfl) (by kernel_rfl) (by kernel_rfl)
  have h55 := @run_callFunc_extern Tryd.prog 55 _ (ReflectliteType.relation "Implements" ReflectliteType.implements_) Tryd.func55 (by kernel_rfl) (by kernel_rfl) (by kernel_rfl) (by kernel_rfl)
  have v1 := valueOf_E
  have t1 := type_E
  have mK := methodKind
  have mE := methodElem
  have mI := methodImplements
  have k1 := kind_pE
  have k2 := kind_Errno
  have e1 := elem_pE
  have i1 := impl_Errno
  have hB2 : Below w.heap.size w ((w.alloc (.cells #[.pointer (some ta)] 60)).alloc (.cells #[hd 60, .pointer (some ⟨w.heap.size, 0, none⟩), .int .u64 150] 75)) := (one_box _ _).trans ((one_box _ _).mono (by simp))
  have n1 := isNil_E ⟨w.heap.size, 0, none⟩ ta ((w.alloc (.cells #[.pointer (some ta)] 60)).alloc (.cells #[hd 60, .pointer (some ⟨w.heap.size, 0, none⟩), .int .u64 150] 75)) (by go_simp)
  have g2 := (hB2.cell (block_lt hg)).trans hg
  have t2 := (hB2.cell (block_lt ht)).trans ht
  have f2 := (hB2.frozen (block_lt ht)).trans hf
  have p2 : (((w.alloc (.cells #[.pointer (some ta)] 60)).alloc (.cells #[hd 60, .pointer (some ⟨w.heap.size, 0, none⟩), .int .u64 150] 75))).cell? ⟨w.heap.size, 0, none⟩ = some (.pointer (some ta)) := by go_simp
  have HA := Lib.hid (asE_hit (d + 1) e ⟨w.heap.size, 0, none⟩ ta old (.iface 60 (.pointer (some ta))) _ p2 t2 f2)
  clear p2 t2 f2
  unfold hd at *
  simp only [wrapE] at *
  go_enter Tryd.func23, Tryd.ntmps23
  go_wp2_with (go_at_call 28; refine HA.out.mono ?_; rintro ev w' ⟨rfl, v1, hb, hc, hf1, rfl⟩)
  go_ret
  exact ⟨rfl, v1, hB2.trans (hb.mono hB2.size), hc, hf1, rfl⟩
theorem AsE_hit (d : Nat) (e : Int) (ta : Addr) (old : Value) (w : World) (hg : w.cell? ⟨0, 0, none⟩ = some (.iface 62 (.agg #[hd 25]))) (ht : w.cell? ta = some old) (hf : w.frozen? ta = false) :
    Calls Tryd.prog 23 #[wrapE d (.iface 27 (.int .i64 e)), .iface 60 (.pointer (some ta))] w fun ev w' => ev = .returned (.bool true) ∧ ∃ v1, Below w.heap.size w v1 ∧ v1.cell? ta = some old ∧ v1.frozen? ta = false ∧ w' = v1.setCell ta (.int .i64 e) := by
  cases d with
  | zero => exact AsE_hit_a e ta old w hg ht hf
  | succ d => exact AsE_hit_b d e ta old w hg ht hf
set_option maxRecDepth 100000 in
set_option maxHeartbeats 4000000 in
theorem AsE_odd_a (e : Addr) (ta : Addr) (old : Value) (w : World) (hg : w.cell? ⟨0, 0, none⟩ = some (.iface 62 (.agg #[hd 25]))) (ht : w.cell? ta = some old) (hf : w.frozen? ta = false) :
    Calls Tryd.prog 23 #[wrapE 0 (.iface 51 (.pointer (some e))), .iface 60 (.pointer (some ta))] w fun ev w' => ev = .returned (.bool false) ∧ Below w.heap.size w w' := by
  have h25 := @run_callFunc_extern Tryd.prog 25 _ (fun args => ReflectliteValue.unpack (args.getD 0 (.tuple #[]))) Tryd.func25 (by kernel_rfl) (by kernel_rfl) (by kernel_rfl) (by kernel_rfl)
  have h26 := @run_callFunc_extern Tryd.prog 26 _ (ReflectliteValue.methodAny (ReflectliteValue.valueError "reflectlite.Value.Type" 0) (fun t _ _ _ => ReflectliteType.toType t)) Tryd.func26 (by kernel_rfl) (by kernel_rfl) (by kernel_rfl) (by kernel_rfl)
  have h27 := @run_callFunc_extern Tryd.prog 27 _ (ReflectliteValue.method (ReflectliteValue.valueError "reflectlite.Value.IsNil" 0) ReflectliteValue.isNil) Tryd.func27 (by kernel_rfl) (by kernel_rfl) (by kernel_rfl) (by kernel_rfl)
  have h45 := @run_callFunc_extern Tryd.prog 45 _ (ReflectliteType.abiMethod fun t => do pure (.int .u8 (← Rtype.kind t))) Tryd.func45 (by kernel_rfl) (by kernel_rfl) (by kernel_rfl) (by kernel_rfl)
  have h54 := @run_callFunc_extern Tryd.prog 54 _ (ReflectliteType.method ReflectliteType.elem) Tryd.func54 (by kernel_rfl) (by kernel_rfl) (by kernel_rfl) (by kernel_rfl)
  have h55 := @run_callFunc_extern Tryd.prog 55 _ (ReflectliteType.relation "Implements" ReflectliteType.implements_) Tryd.func55 (by kernel_rfl) (by kernel_rfl) (by kernel_rfl) (by kernel_rfl)
  have v1 := valueOf_E
  have t1 := type_E
  have mK := methodKind
  have mE := methodElem
  have mI := methodImplements
  have k1 := kind_pE
  have k2 := kind_Errno
  have e1 := elem_pE
  have i1 := impl_Errno
  have hB2 : Below w.heap.size w ((w.alloc (.cells #[.pointer (some ta)] 60)).alloc (.cells #[hd 60, .pointer (some ⟨w.heap.size, 0, none⟩), .int .u64 150] 75)) := (one_box _ _).trans ((one_box _ _).mono (by simp))
  have n1 := isNil_E ⟨w.heap.size, 0, none⟩ ta ((w.alloc (.cells #[.pointer (some ta)] 60)).alloc (.cells #[hd 60, .pointer (some ⟨w.heap.size, 0, none⟩), .int .u64 150] 75)) (by go_simp)
  have g2 := (hB2.cell (block_lt hg)).trans hg
  have t2 := (hB2.cell (block_lt ht)).trans ht
  have f2 := (hB2.frozen (block_lt ht)).trans hf
  have p2 : (((w.alloc (.cells #[.pointer (some ta)] 60)).alloc (.cells #[hd 60, .pointer (some ⟨w.heap.size, 0, none⟩), .int .u64 150] 75))).cell? ⟨w.heap.size, 0, none⟩ = some (.pointer (some ta)) := by go_simp
  have HA := Lib.hid (asE_odd 0 e ⟨w.heap.size, 0, none⟩ ta old (.iface 60 (.pointer (some ta))) _ p2 t2 f2)
  clear p2 t2 f2
  unfold hd at *
  simp only [wrapE] at *
  go_enter Tryd.func23, Tryd.ntmps23
  go_wp2_with (go_at_call 28; refine HA.out.mono ?_; rintro ev w' ⟨rfl, hb⟩)
  go_ret
  exact ⟨rfl, hB2.trans (hb.mono hB2.size)⟩
set_option maxRecDepth 100000 in
set_option maxHeartbeats 4000000 in
theorem AsE_odd_b (d : Nat) (e : Addr) (ta : Addr) (old : Value) (w : World) (hg : w.cell? ⟨0, 0, none⟩ = some (.iface 62 (.agg #[hd 25]))) (ht : w.cell? ta = some old) (hf : w.frozen? ta = false) :
    Calls Tryd.prog 23 #[wrapE (d + 1) (.iface 51 (.pointer (some e))), .iface 60 (.pointer (some ta))] w fun ev w' => ev = .returned (.bool false) ∧ Below w.heap.size w w' := by
  have h25 := @run_callFunc_extern Tryd.prog 25 _ (fun args => ReflectliteValue.unpack (args.getD 0 (.tuple #[]))) Tryd.func25 (by kernel_rfl) (by kernel_rfl) (by kernel_rfl) (by kernel_rfl)
  have h26 := @run_callFunc_extern Tryd.prog 26 _ (ReflectliteValue.methodAny (ReflectliteValue.valueError "reflectlite.Value.Type" 0) (fun t _ _ _ => ReflectliteType.toType t)) Tryd.func26 (by kernel_rfl) (by kernel_rfl) (by kernel_rfl) (by kernel_rfl)
  have h27 := @run_callFunc_extern Tryd.prog 27 _ (ReflectliteValue.method (ReflectliteValue.valueError "reflectlite.Value.IsNil" 0) ReflectliteValue.isNil) Tryd.func27 (by kernel_rfl) (by kernel_rfl) (by kernel_rfl) (by kernel_rfl)
  have h45 := @run_callFunc_extern Tryd.prog 45 _ (ReflectliteType.abiMethod fun t => do pure (.int .u8 (← Rtype.kind t))) Tryd.func45 (by kernel_rfl) (by kernel_rfl) (by kernel_rfl) (by kernel_rfl)
  have h54 := @run_callFunc_extern Tryd.prog 54 _ (ReflectliteType.method ReflectliteType.elem) Tryd.func54 (by kernel_rfl) (by kernel_rfl) (by kernel_rfl) (by kernel_rfl)
  have h55 := @run_callFunc_extern Tryd.prog 55 _ (ReflectliteType.relation "Implements" ReflectliteType.implements_) Tryd.func55 (by kernel_rfl) (by kernel_rfl) (by kernel_rfl) (by kernel_rfl)
  have v1 := valueOf_E
  have t1 := type_E
  have mK := methodKind
  have mE := methodElem
  have mI := methodImplements
  have k1 := kind_pE
  have k2 := kind_Errno
  have e1 := elem_pE
  have i1 := impl_Errno
  have hB2 : Below w.heap.size w ((w.alloc (.cells #[.pointer (some ta)] 60)).alloc (.cells #[hd 60, .pointer (some ⟨w.heap.size, 0, none⟩), .int .u64 150] 75)) := (one_box _ _).trans ((one_box _ _).mono (by simp))
  have n1 := isNil_E ⟨w.heap.size, 0, none⟩ ta ((w.alloc (.cells #[.pointer (some ta)] 60)).alloc (.cells #[hd 60, .pointer (some ⟨w.heap.size, 0, none⟩), .int .u64 150] 75)) (by go_simp)
  have g2 := (hB2.cell (block_lt hg)).trans hg
  have t2 := (hB2.cell (block_lt ht)).trans ht
  have f2 := (hB2.frozen (block_lt ht)).trans hf
  have p2 : (((w.alloc (.cells #[.pointer (some ta)] 60)).alloc (.cells #[hd 60, .pointer (some ⟨w.heap.size, 0, none⟩), .int .u64 150] 75))).cell? ⟨w.heap.size, 0, none⟩ = some (.pointer (some ta)) := by go_simp
  have HA := Lib.hid (asE_odd (d + 1) e ⟨w.heap.size, 0, none⟩ ta old (.iface 60 (.pointer (some ta))) _ p2 t2 f2)
  clear p2 t2 f2
  unfold hd at *
  simp only [wrapE] at *
  go_enter Tryd.func23, Tryd.ntmps23
  go_wp2_with (go_at_call 28; refine HA.out.mono ?_; rintro ev w' ⟨rfl, hb⟩)
  go_ret
  exact ⟨rfl, hB2.trans (hb.mono hB2.size)⟩
theorem AsE_odd (d : Nat) (e : Addr) (ta : Addr) (old : Value) (w : World) (hg : w.cell? ⟨0, 0, none⟩ = some (.iface 62 (.agg #[hd 25]))) (ht : w.cell? ta = some old) (hf : w.frozen? ta = false) :
    Calls Tryd.prog 23 #[wrapE d (.iface 51 (.pointer (some e))), .iface 60 (.pointer (some ta))] w fun ev w' => ev = .returned (.bool false) ∧ Below w.heap.size w w' := by
  cases d with
  | zero => exact AsE_odd_a e ta old w hg ht hf
  | succ d => exact AsE_odd_b d e ta old w hg ht hf
end Go.Proofs.YtjhjojoaghohjaaDoor
