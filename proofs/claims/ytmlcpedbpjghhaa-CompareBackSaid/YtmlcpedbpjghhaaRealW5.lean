/-
  Whole, Versus, OfInt of the program, walked.
-/
import Derived.Test.YtmlcpedbpjghhaaRealW4
import Derived.Test.YtmlcpedbpjghhaaRealKeyLaw
import Derived.Outline
import Derived.Laws.Unary
namespace Go.Proofs.Ytmlcpedbpjghhaa
open Go.RowKit

theorem order_ge (a b : Nat) (hb : isNan b = false) : (FloatKind.f64.format.order a b == some .gt || FloatKind.f64.format.order a b == some .eq) = (!isNan a && decide (key b ≤ key a)) := by
  show (Ieee.double.order a b == some .gt || Ieee.double.order a b == some .eq) = _
  cases ha : isNan a
  · rw [order_key ha hb]
    rcases Int.lt_trichotomy (key a) (key b) with h | h | h
    · rw [Int.compare_eq_lt.2 h]; simp; omega
    · rw [Int.compare_eq_eq.2 h]; simp; omega
    · rw [Int.compare_eq_gt.2 h]; simp; omega
  · rw [order_nan (.inl ha)]; rfl
theorem order_le (a b : Nat) (hb : isNan b = false) : (FloatKind.f64.format.order a b == some .lt || FloatKind.f64.format.order a b == some .eq) = (!isNan a && decide (key a ≤ key b)) := by
  show (Ieee.double.order a b == some .lt || Ieee.double.order a b == some .eq) = _
  cases ha : isNan a
  · rw [order_key ha hb]
    rcases Int.lt_trichotomy (key a) (key b) with h | h | h
    · rw [Int.compare_eq_lt.2 h]; simp; omega
    · rw [Int.compare_eq_eq.2 h]; simp; omega
    · rw [Int.compare_eq_gt.2 h]; simp; omega
  · rw [order_nan (.inl ha)]; rfl
theorem order_gt (a b : Nat) (ha : isNan a = false) (hb : isNan b = false) : (FloatKind.f64.format.order a b == some .gt) = decide (key b < key a) := by
  show (Ieee.double.order a b == some .gt) = _
  rw [order_key ha hb]
  rcases Int.lt_trichotomy (key a) (key b) with h | h | h
  · rw [Int.compare_eq_lt.2 h]; simp; omega
  · rw [Int.compare_eq_eq.2 h]; simp; omega
  · rw [Int.compare_eq_gt.2 h]; simp; omega
theorem order_ne (a b : Nat) (ha : isNan a = false) (hb : isNan b = false) : (FloatKind.f64.format.order a b != some .eq) = decide (key a ≠ key b) := by
  show (Ieee.double.order a b != some .eq) = _
  rw [bne, order_eq ha hb]
  simp

theorem within_ok (u : Nat) (w : World) : Calls Try.prog 65 #[.float .f64 u] w fun e w' => e = .returned (.bool (withinB u)) ∧ w = w' := by
  have h1 := order_ge u 14109777632551763968 (by decide)
  have h2 := order_le u 4886405595696988160 (by decide)
  rw [lim_keys.2] at h1
  rw [lim_keys.1] at h2
  have H : Hid (withinB u = (!isNan u && decide (-lim ≤ key u) && decide (key u ≤ lim))) := Lib.hid rfl
  cases hn : isNan u
  all_goals
    rw [hn] at h1 h2 H
    go_enter Try.func65, Try.ntmps65
    go_wp2_with fail
    all_goals go_ret
    all_goals refine ⟨ret_bool ?_, rfl⟩
    all_goals rw [H.out]
    all_goals simp_all
    try omega

theorem run_trunc {u : Nat} (h : rung u < infR) (w : World) : (callFunc 89 #[.float .f64 u]).run Try.prog w = .ok (.value (.float .f64 (truncN u))) w := by
  have he := trunc_eq h
  obtain ⟨m, e, h1, _, _⟩ := read_few h
  have h2 : FloatKind.f64.decode u = .number (sgn u) m (-1074 + (e : Int)) := h1
  rw [h1] at he
  have h3 : (callFunc 89 #[.float .f64 u]).run Try.prog w = (Extern.MathFloor.toIntegral "math.archTrunc" .zero #[.float .f64 u] >>= fun v => pure (.value v)).run Try.prog w := by kernel_rfl
  have h4 : Extern.MathFloor.toIntegral "math.archTrunc" .zero #[.float .f64 u] = Extern.MathFloor.toIntegral.match_1 (fun _ => Sem Value) (FloatKind.f64.decode u) _ _ := rfl
  rw [h2] at h4
  rw [h3, h4, ← he]
  rfl
theorem run_floor {u : Nat} (h : rung u < infR) (w : World) : (callFunc 77 #[.float .f64 u]).run Try.prog w = .ok (.value (.float .f64 (floorN u))) w := by
  have he := floor_eq h
  obtain ⟨m, e, h1, _, _⟩ := read_few h
  have h2 : FloatKind.f64.decode u = .number (sgn u) m (-1074 + (e : Int)) := h1
  rw [h1] at he
  have h3 : (callFunc 77 #[.float .f64 u]).run Try.prog w = (Extern.MathFloor.toIntegral "math.archFloor" .down #[.float .f64 u] >>= fun v => pure (.value v)).run Try.prog w := by kernel_rfl
  have h4 : Extern.MathFloor.toIntegral "math.archFloor" .down #[.float .f64 u] = Extern.MathFloor.toIntegral.match_1 (fun _ => Sem Value) (FloatKind.f64.decode u) _ _ := rfl
  rw [h2] at h4
  rw [h3, h4, ← he]
  rfl
theorem trunc_ok (u : Nat) (h : rung u < infR) (w : World) : Calls Try.prog 87 #[.float .f64 u] w fun e w' => e = .returned (.float .f64 (truncN u)) ∧ w = w' := by
  have hr := run_trunc h
  clear h
  go_enter Try.func87, Try.ntmps87
  go_wp2_with fail
  go_ret
  exact ⟨rfl, rfl⟩
theorem floor_ok (u : Nat) (h : rung u < infR) (w : World) : Calls Try.prog 66 #[.float .f64 u] w fun e w' => e = .returned (.float .f64 (floorN u)) ∧ w = w' := by
  have hr := run_floor h
  clear h
  go_enter Try.func66, Try.ntmps66
  go_wp2_with fail
  go_ret
  exact ⟨rfl, rfl⟩
theorem run_int {u : Nat} (h : rung u < infR) {z : Int} (hz : (if sgn u then -((magv (rung u) / unit : Nat) : Int) else ((magv (rung u) / unit : Nat) : Int)) = z) (h1 : -(2 ^ 62) ≤ z) (h2 : z ≤ 2 ^ 62) (w : World) :
    (convert 69 3 (.float .f64 u)).run Try.prog w = .ok (.int .i64 z) w := by
  refine run_convert_float_int w _ _ .f64 .i64 u z (by rfl) (by rfl) ?_
  unfold floatToIntVal
  have := toInt_eq h
  rw [hz] at this
  show (match (Ieee.double.read u).toInt .zero with | some n => if IntKind.i64.min ≤ n ∧ n ≤ IntKind.i64.max then some n else none | none => none) = some z
  rw [this]
  have a : IntKind.i64.min = -9223372036854775808 := rfl
  have b : IntKind.i64.max = 9223372036854775807 := rfl
  simp only [a, b]
  rw [if_pos (by omega)]

theorem ofInt_ok (n : Int) (w : World) : Calls Try.prog 54 #[.int .i64 n] w fun e w' => e = .returned (.int .u64 (ofIntN n)) ∧ w = w' := by
  have h := run_to (ofIntN n)
  have h1 : floatOfInt .f64 n = ofIntN n := ofInt_eq n
  go_enter Try.func54, Try.ntmps54
  go_wp2_with fail
  go_ret
  exact ⟨rfl, rfl⟩
end Go.Proofs.Ytmlcpedbpjghhaa
