/-
  errors.Is; Code and At of the program at each make of error; New: walked.
-/
import Derived.Test.YtjhjojoaghohjaaDoorFltIs
namespace Go.Proofs.YtjhjojoaghohjaaDoor
open Go.RowKit Go.Extern.Stop Go.Stop Go.Extern

set_option maxRecDepth 100000 in
set_option maxHeartbeats 2000000 in
theorem Is_Errno_a (e f : Int) (w : World) : Calls Tryd.prog 9 #[wrapE 0 (.iface 27 (.int .i64 e)), .iface 27 (.int .i64 f)] w fun ev w' => ev = .returned (.bool (e == f)) ∧ Below w.heap.size w w' := by
  have h20 := @run_callFunc_extern Tryd.prog 20 _ ReflectliteType.typeOf Tryd.func20 (by kernel_rfl) (by kernel_rfl) (by kernel_rfl) (by kernel_rfl)
  have h53 := @run_callFunc_extern Tryd.prog 53 _ (ReflectliteType.method fun t => do Rtype.noPackHeld "Comparable" t; pure (.bool (← typeInfo t).comparable)) Tryd.func53 (by kernel_rfl) (by kernel_rfl) (by kernel_rfl) (by kernel_rfl)
  have t1 := typeOf_Errno
  have c1 := comp1
  have c2 := comp2
  have mC := methodComparable
  have HI := Lib.hid (is_Errno 0 e f w)
  generalize (e == f) = B at *
  simp only [wrapE] at *
  go_enter Tryd.func9, Tryd.ntmps9
  go_wp2_with (go_at_call 21; refine HI.out.mono ?_; rintro ev w' ⟨rfl, hb⟩)
  go_ret
  exact ⟨rfl, hb⟩
set_option maxRecDepth 100000 in
set_option maxHeartbeats 2000000 in
theorem Is_Errno_b (d : Nat) (e f : Int) (w : World) : Calls Tryd.prog 9 #[wrapE (d + 1) (.iface 27 (.int .i64 e)), .iface 27 (.int .i64 f)] w fun ev w' => ev = .returned (.bool (e == f)) ∧ Below w.heap.size w w' := by
  have h20 := @run_callFunc_extern Tryd.prog 20 _ ReflectliteType.typeOf Tryd.func20 (by kernel_rfl) (by kernel_rfl) (by kernel_rfl) (by kernel_rfl)
  have h53 := @run_callFunc_extern Tryd.prog 53 _ (ReflectliteType.method fun t => do Rtype.noPackHeld "Comparable" t; pure (.bool (← typeInfo t).comparable)) Tryd.func53 (by kernel_rfl) (by kernel_rfl) (by kernel_rfl) (by kernel_rfl)
  have t1 := typeOf_Errno
  have c1 := comp1
  have c2 := comp2
  have mC := methodComparable
  have HI := Lib.hid (is_Errno (d + 1) e f w)
  generalize (e == f) = B at *
  simp only [wrapE] at *
  go_enter Tryd.func9, Tryd.ntmps9
  go_wp2_with (go_at_call 21; refine HI.out.mono ?_; rintro ev w' ⟨rfl, hb⟩)
  go_ret
  exact ⟨rfl, hb⟩
theorem Is_Errno (d : Nat) (e f : Int) (w : World) : Calls Tryd.prog 9 #[wrapE d (.iface 27 (.int .i64 e)), .iface 27 (.int .i64 f)] w fun ev w' => ev = .returned (.bool (e == f)) ∧ Below w.heap.size w w' := by
  cases d with
  | zero => exact Is_Errno_a e f w
  | succ d => exact Is_Errno_b d e f w
set_option maxRecDepth 100000 in
set_option maxHeartbeats 2000000 in
theorem Is_pF_a (b : Nat) (e a f : Int) (w : World) (hF : Flt w b e a) : Calls Tryd.prog 9 #[wrapE 0 (.iface 48 (.pointer (some ⟨b, 0, none⟩))), .iface 27 (.int .i64 f)] w fun ev w' => ev = .returned (.bool (e == f)) ∧ Below w.heap.size w w' := by
  have h20 := @run_callFunc_extern Tryd.prog 20 _ ReflectliteType.typeOf Tryd.func20 (by kernel_rfl) (by kernel_rfl) (by kernel_rfl) (by kernel_rfl)
  have h53 := @run_callFunc_extern Tryd.prog 53 _ (ReflectliteType.method fun t => do Rtype.noPackHeld "Comparable" t; pure (.bool (← typeInfo t).comparable)) Tryd.func53 (by kernel_rfl) (by kernel_rfl) (by kernel_rfl) (by kernel_rfl)
  have t1 := typeOf_Errno
  have c1 := comp1
  have c2 := comp2
  have mC := methodComparable
  have HI := Lib.hid (is_pF 0 b e a f w hF)
  generalize (e == f) = B at *
  simp only [wrapE] at *
  go_enter Tryd.func9, Tryd.ntmps9
  go_wp2_with (go_at_call 21; refine HI.out.mono ?_; rintro ev w' ⟨rfl, hb⟩)
  go_ret
  exact ⟨rfl, hb⟩
set_option maxRecDepth 100000 in
set_option maxHeartbeats 2000000 in
theorem Is_pF_b (d : Nat) (b : Nat) (e a f : Int) (w : World) (hF : Flt w b e a) : Calls Tryd.prog 9 #[wrapE (d + 1) (.iface 48 (.pointer (some ⟨b, 0, none⟩))), .iface 27 (.int .i64 f)] w fun ev w' => ev = .returned (.bool (e == f)) ∧ Below w.heap.size w w' := by
  have h20 := @run_callFunc_extern Tryd.prog 20 _ ReflectliteType.typeOf Tryd.func20 (by kernel_rfl) (by kernel_rfl) (by kernel_rfl) (by kernel_rfl)
  have h53 := @run_callFunc_extern Tryd.prog 53 _ (ReflectliteType.method fun t => do Rtype.noPackHeld "Comparable" t; pure (.bool (← typeInfo t).comparable)) Tryd.func53 (by kernel_rfl) (by kernel_rfl) (by kernel_rfl) (by kernel_rfl)
  have t1 := typeOf_Errno
  have c1 := comp1
  have c2 := comp2
  have mC := methodComparable
  have HI := Lib.hid (is_pF (d + 1) b e a f w hF)
  generalize (e == f) = B at *
  simp only [wrapE] at *
  go_enter Tryd.func9, Tryd.ntmps9
  go_wp2_with (go_at_call 21; refine HI.out.mono ?_; rintro ev w' ⟨rfl, hb⟩)
  go_ret
  exact ⟨rfl, hb⟩
theorem Is_pF (d : Nat) (b : Nat) (e a f : Int) (w : World) (hF : Flt w b e a) : Calls Tryd.prog 9 #[wrapE d (.iface 48 (.pointer (some ⟨b, 0, none⟩))), .iface 27 (.int .i64 f)] w fun ev w' => ev = .returned (.bool (e == f)) ∧ Below w.heap.size w w' := by
  cases d with
  | zero => exact Is_pF_a b e a f w hF
  | succ d => exact Is_pF_b d b e a f w hF
set_option maxRecDepth 100000 in
set_option maxHeartbeats 2000000 in
theorem at_errno (d : Nat) (e : Int) (w : World) (hg : Laid w) : Calls Tryd.prog 11 #[wrapE d (.iface 27 (.int .i64 e))] w fun ev w' => ev = .returned (.int .i64 0) ∧ Below w.heap.size w w' := by
  have HF := Lib.hid (find_errno d e w hg)
  generalize wrapE d (.iface 27 (.int .i64 e)) = x at *
  go_enter Tryd.func11, Tryd.ntmps11
  go_wp2_with (go_at_call 22; refine HF.out.mono ?_; rintro ev w1 ⟨rfl, hb⟩)
  go_ret
  exact ⟨rfl, hb⟩
set_option maxRecDepth 100000 in
set_option maxHeartbeats 2000000 in
theorem at_odd (d : Nat) (e : Addr) (w : World) (hg : Laid w) : Calls Tryd.prog 11 #[wrapE d (.iface 51 (.pointer (some e)))] w fun ev w' => ev = .returned (.int .i64 0) ∧ Below w.heap.size w w' := by
  have HF := Lib.hid (find_odd d e w hg)
  generalize wrapE d (.iface 51 (.pointer (some e))) = x at *
  go_enter Tryd.func11, Tryd.ntmps11
  go_wp2_with (go_at_call 22; refine HF.out.mono ?_; rintro ev w1 ⟨rfl, hb⟩)
  go_ret
  exact ⟨rfl, hb⟩
theorem at_nil (w : World) : Calls Tryd.prog 11 #[.nilIface] w fun ev w' => ev = .returned (.int .i64 0) ∧ Below w.heap.size w w' := by
  go_enter Tryd.func11, Tryd.ntmps11
  go_wp2_with (go_at_call 22; refine (find_nil _).mono ?_; rintro ev w1 ⟨rfl, hb⟩)
  go_ret
  exact ⟨rfl, hb⟩
theorem code_nil (w : World) : Calls Tryd.prog 10 #[.nilIface] w fun ev w' => ev = .returned (.int .i64 0) ∧ w = w' := by
  go_enter Tryd.func10, Tryd.ntmps10
  go_wp2
  go_ret
  exact ⟨rfl, rfl⟩
set_option maxRecDepth 100000 in
set_option maxHeartbeats 2000000 in
theorem code_hit_a (b : Nat) (e a : Int) (w : World) (hg : Laid w) (hF : Flt w b e a) : Calls Tryd.prog 10 #[wrapE 0 (.iface 48 (.pointer (some ⟨b, 0, none⟩)))] w fun ev w' => ev = .returned (.int .i64 e) ∧ Below w.heap.size w w' := by
  have HF := Lib.hid (find_hit 0 ⟨b, 0, none⟩ w hg)
  simp only [wrapE] at *
  go_enter Tryd.func10, Tryd.ntmps10
  go_wp2_with (first | (go_at_call 22; refine HF.out.mono ?_; rintro ev w1 ⟨rfl, hb⟩; have h1 := (hF.next hb).1))
  go_ret
  exact ⟨rfl, hb⟩
set_option maxRecDepth 100000 in
set_option maxHeartbeats 2000000 in
theorem code_hit_b (d : Nat) (b : Nat) (e a : Int) (w : World) (hg : Laid w) (hF : Flt w b e a) : Calls Tryd.prog 10 #[wrapE (d + 1) (.iface 48 (.pointer (some ⟨b, 0, none⟩)))] w fun ev w' => ev = .returned (.int .i64 e) ∧ Below w.heap.size w w' := by
  have HF := Lib.hid (find_hit (d + 1) ⟨b, 0, none⟩ w hg)
  simp only [wrapE] at *
  go_enter Tryd.func10, Tryd.ntmps10
  go_wp2_with (first | (go_at_call 22; refine HF.out.mono ?_; rintro ev w1 ⟨rfl, hb⟩; have h1 := (hF.next hb).1))
  go_ret
  exact ⟨rfl, hb⟩
theorem code_hit (d b : Nat) (e a : Int) (w : World) (hg : Laid w) (hF : Flt w b e a) : Calls Tryd.prog 10 #[wrapE d (.iface 48 (.pointer (some ⟨b, 0, none⟩)))] w fun ev w' => ev = .returned (.int .i64 e) ∧ Below w.heap.size w w' := by
  cases d with
  | zero => exact code_hit_a b e a w hg hF
  | succ d => exact code_hit_b d b e a w hg hF
set_option maxHeartbeats 1000000 in
theorem new_some (e a : Int) (he : e ≠ 0) (w : World) : Calls Tryd.prog 7 #[.int .i64 e, .int .i64 a] w fun ev w' => ev = .returned (.iface 48 (.pointer (some ⟨w.heap.size, 0, none⟩))) ∧ w' = w.alloc (.cells #[.int .i64 e, .int .i64 a] 47) := by
  have h1 : (e == 0) = false := by simpa using he
  clear he
  go_enter Tryd.func7, Tryd.ntmps7
  go_wp2
  go_ret
  exact ⟨rfl, rfl⟩
theorem new_none (a : Int) (w : World) : Calls Tryd.prog 7 #[.int .i64 0, .int .i64 a] w fun ev w' => ev = .returned .nilIface ∧ w' = w := by
  go_enter Tryd.func7, Tryd.ntmps7
  go_wp2
  go_ret
  exact ⟨rfl, rfl⟩
end Go.Proofs.YtjhjojoaghohjaaDoor
