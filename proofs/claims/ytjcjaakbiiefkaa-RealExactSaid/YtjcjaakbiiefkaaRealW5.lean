/-
  Whole, Versus, OfInt of the program, walked.
-/
import Derived.Test.YtjcjaakbiiefkaaRealW4
import Derived.Test.YtjcjaakbiiefkaaRealKeyLaw
import Derived.Outline
import Derived.Laws.Unary
namespace Go.Proofs.Ytjcjaakbiiefkaa
open Go.RowKit

theorem order_ge (a b : Nat) (hb : isNan b = false) : (FloatKind.f64.format.order a b == some .gt || FloatKind.f64.format.order a b == some .eq) = (!isNan a && decide (key b ≤ key a)) := by
  show (Ieee.double.order a b == some .gt || Ieee.double.order a b == some .eq) = _
  cases ha : isNan a
  · rw [order_key ha hb]
    rcases Int.lt_trichotomy (key a) (key b) with h | h | h
    · rw [Int.compare_eq_lt.2 h]; simp; omega
    · rw [Int.compare_eq_eq.2 h]; simp; omega
    · rw [Int.compare_eq_gt.2 h]; simp; omega
  · rw [order_nan (.inl ha)]; rfl
theorem order_le (a b : Nat) (hb : isNan b = false) : (FloatKind.f64.format.order a b == some .lt || FloatKind.f64.format.order a b == some .eq) = (!isNan a && decide (key a ≤ key b)) := by
  show (Ieee.double.order a b == some .lt || Ieee.double.order a b == some .eq) = _
  cases ha : isNan a
  · rw [order_key ha hb]
    rcases Int.lt_trichotomy (key a) (key b) with h | h | h
    · rw [Int.compare_eq_lt.2 h]; simp; omega
    · rw [Int.compare_eq_eq.2 h]; simp; omega
    · rw [Int.compare_eq_gt.2 h]; simp; omega
  · rw [order_nan (.inl ha)]; rfl
theorem order_gt (a b : Nat) (ha : isNan a = false) (hb : isNan b = false) : (FloatKind.f64.format.order a b == some .gt) = decide (key b < key a) := by
  show (Ieee.double.order a b == some .gt) = _
  rw [order_key ha hb]
  rcases Int.lt_trichotomy (key a) (key b) with h | h | h
  · rw [Int.compare_eq_lt.2 h]; simp; omega
  · rw [Int.compare_eq_eq.2 h]; simp; omega
  · rw [Int.compare_eq_gt.2 h]; simp; omega
theorem order_ne (a b : Nat) (ha : isNan a = false) (hb : isNan b = false) : (FloatKind.f64.format.order a b != some .eq) = decide (key a ≠ key b) := by
  show (Ieee.double.order a b != some .eq) = _
  rw [bne, order_eq ha hb]
  simp

theorem within_ok (u : Nat) (w : World) : Calls Try.prog 39 #[.float .f64 u] w fun e w' => e = .returned (.bool (withinB u)) ∧ w = w' := by
  have h1 := order_ge u 14109777632551763968 (by decide)
  have h2 := order_le u 4886405595696988160 (by decide)
  rw [lim_keys.2] at h1
  rw [lim_keys.1] at h2
  have H : Hid (withinB u = (!isNan u && decide (-lim ≤ key u) && decide (key u ≤ lim))) := Lib.hid rfl
  cases hn : isNan u
  all_goals
    rw [hn] at h1 h2 H
    go_enter Try.func39, Try.ntmps39
    go_wp2_with fail
    all_goals go_ret
    all_goals refine ⟨ret_bool ?_, rfl⟩
    all_goals rw [H.out]
    all_goals simp_all
    try omega

theorem run_trunc {u : Nat} (h : rung u < infR) (w : World) : (callFunc 45 #[.float .f64 u]).run Try.prog w = .ok (.value (.float .f64 (truncN u))) w := by
  have he := trunc_eq h
  obtain ⟨m, e, h1, _, _⟩ := read_few h
  have h2 : FloatKind.f64.decode u = .number (sgn u) m (-1074 + (e : Int)) := h1
  rw [h1] at he
  have h3 : (callFunc 45 #[.float .f64 u]).run Try.prog w = (Extern.MathFloor.toIntegral "math.archTrunc" .zero #[.float .f64 u] >>= fun v => pure (.value v)).run Try.prog w := by kernel_rfl
  have h4 : Extern.MathFloor.toIntegral "math.archTrunc" .zero #[.float .f64 u] = Extern.MathFloor.toIntegral.match_1 (fun _ => Sem Value) (FloatKind.f64.decode u) _ _ := rfl
  rw [h2] at h4
  rw [h3, h4, ← he]
  rfl
theorem run_floor {u : Nat} (h : rung u < infR) (w : World) : (callFunc 47 #[.float .f64 u]).run Try.prog w = .ok (.value (.float .f64 (floorN u))) w := by
  have he := floor_eq h
  obtain ⟨m, e, h1, _, _⟩ := read_few h
  have h2 : FloatKind.f64.decode u = .number (sgn u) m (-1074 + (e : Int)) := h1
  rw [h1] at he
  have h3 : (callFunc 47 #[.float .f64 u]).run Try.prog w = (Extern.MathFloor.toIntegral "math.archFloor" .down #[.float .f64 u] >>= fun v => pure (.value v)).run Try.prog w := by kernel_rfl
  have h4 : Extern.MathFloor.toIntegral "math.archFloor" .down #[.float .f64 u] = Extern.MathFloor.toIntegral.match_1 (fun _ => Sem Value) (FloatKind.f64.decode u) _ _ := rfl
  rw [h2] at h4
  rw [h3, h4, ← he]
  rfl
theorem trunc_ok (u : Nat) (h : rung u < infR) (w : World) : Calls Try.prog 40 #[.float .f64 u] w fun e w' => e = .returned (.float .f64 (truncN u)) ∧ w = w' := by
  have hr := run_trunc h
  clear h
  go_enter Try.func40, Try.ntmps40
  go_wp2_with fail
  go_ret
  exact ⟨rfl, rfl⟩
theorem floor_ok (u : Nat) (h : rung u < infR) (w : World) : Calls Try.prog 41 #[.float .f64 u] w fun e w' => e = .returned (.float .f64 (floorN u)) ∧ w = w' := by
  have hr := run_floor h
  clear h
  go_enter Try.func41, Try.ntmps41
  go_wp2_with fail
  go_ret
  exact ⟨rfl, rfl⟩
theorem run_int {u : Nat} (h : rung u < infR) {z : Int} (hz : (if sgn u then -((magv (rung u) / unit : Nat) : Int) else ((magv (rung u) / unit : Nat) : Int)) = z) (h1 : -(2 ^ 62) ≤ z) (h2 : z ≤ 2 ^ 62) (w : World) :
    (convert 36 3 (.float .f64 u)).run Try.prog w = .ok (.int .i64 z) w := by
  refine run_convert_float_int w _ _ .f64 .i64 u z (by rfl) (by rfl) ?_
  unfold floatToIntVal
  have := toInt_eq h
  rw [hz] at this
  show (match (Ieee.double.read u).toInt .zero with | some n => if IntKind.i64.min ≤ n ∧ n ≤ IntKind.i64.max then some n else none | none => none) = some z
  rw [this]
  have a : IntKind.i64.min = -9223372036854775808 := rfl
  have b : IntKind.i64.max = 9223372036854775807 := rfl
  simp only [a, b]
  rw [if_pos (by omega)]

theorem whole_yes (u : Nat) (h : isWhole u = true) (w : World) : Calls Try.prog 24 #[.int .u64 u] w fun e w' => e = .returned (.tuple #[.int .i64 (key u / (unit : Int)), .bool true]) ∧ w = w' := by
  have hw : withinB u = true := by unfold isWhole at h; simp only [Bool.and_eq_true] at h; exact h.1
  have hm : magv (rung u) % unit = 0 := by unfold isWhole at h; simp only [Bool.and_eq_true, decide_eq_true_eq] at h; exact h.2
  have hf := (within_small hw).2.1
  have hb := floor_int hw
  have hi := run_int hf (whole_int h) hb.2.1 hb.2.2
  have ho : (FloatKind.f64.format.order u (truncN u) != some .eq) = false := by
    rw [order_ne _ _ (within_small hw).2.2 (trunc_nan hw).1]
    simp only [ne_eq, decide_eq_false_iff_not, Classical.not_not]
    exact (key_trunc hw).2 hm
  have Hf := Lib.hid hf
  clear hf hm hb h
  go_enter Try.func24, Try.ntmps24
  go_wp2_with (first | (go_at_call 30; refine (of_ok _ _).mono ?_; rintro e w' ⟨rfl, rfl⟩) | (go_at_call 39; refine (within_ok _ _).mono ?_; rintro e w' ⟨rfl, rfl⟩) | (go_at_call 40; refine (trunc_ok _ Hf.out _).mono ?_; rintro e w' ⟨rfl, rfl⟩))
  go_ret2
  exact ⟨rfl, rfl⟩
theorem whole_no (u : Nat) (h : isWhole u = false) (w : World) : Calls Try.prog 24 #[.int .u64 u] w fun e w' => e = .returned (.tuple #[.int .i64 0, .bool false]) ∧ w = w' := by
  cases hw : withinB u
  · clear h
    go_enter Try.func24, Try.ntmps24
    go_wp2_with (first | (go_at_call 30; refine (of_ok _ _).mono ?_; rintro e w' ⟨rfl, rfl⟩) | (go_at_call 39; refine (within_ok _ _).mono ?_; rintro e w' ⟨rfl, rfl⟩))
    go_ret2
    exact ⟨rfl, rfl⟩
  · have hm : magv (rung u) % unit ≠ 0 := by unfold isWhole at h; rw [hw] at h; simpa using h
    have hf := (within_small hw).2.1
    have ho : (FloatKind.f64.format.order u (truncN u) != some .eq) = true := by
      rw [order_ne _ _ (within_small hw).2.2 (trunc_nan hw).1]
      simp only [ne_eq, decide_eq_true_eq]
      exact fun e => hm ((key_trunc hw).1 e)
    have Hf := Lib.hid hf
    clear hf hm h
    go_enter Try.func24, Try.ntmps24
    go_wp2_with (first | (go_at_call 30; refine (of_ok _ _).mono ?_; rintro e w' ⟨rfl, rfl⟩) | (go_at_call 39; refine (within_ok _ _).mono ?_; rintro e w' ⟨rfl, rfl⟩) | (go_at_call 40; refine (trunc_ok _ Hf.out _).mono ?_; rintro e w' ⟨rfl, rfl⟩))
    go_ret2
    exact ⟨rfl, rfl⟩
theorem ofInt_ok (n : Int) (w : World) : Calls Try.prog 28 #[.int .i64 n] w fun e w' => e = .returned (.int .u64 (ofIntN n)) ∧ w = w' := by
  have h := run_to (ofIntN n)
  have h1 : floatOfInt .f64 n = ofIntN n := ofInt_eq n
  go_enter Try.func28, Try.ntmps28
  go_wp2_with fail
  go_ret
  exact ⟨rfl, rfl⟩
end Go.Proofs.Ytjcjaakbiiefkaa
