/-
  Kind of the program; sums of it; what is infinite less itself.
-/
import Derived.Test.YtmlcpedbpjghhaaRealW3
namespace Go.Proofs.Ytmlcpedbpjghhaa
open Go.RowKit

/-- the bits that a run draws where the language fixes none -/
def nanAt (w : World) (x y : Nat) : Nat := Question.cut (.nanBits .f64 x y) (w.tape w.drawn (.nanBits .f64 x y))
theorem nanAt_nan (w : World) (x y : Nat) : isNan (nanAt w x y) = true := by
  unfold isNan rung
  rw [decide_eq_true_eq]
  unfold nanAt
  simp only [Question.cut]
  generalize w.tape w.drawn (Question.nanBits FloatKind.f64 x y) = t
  have h1 : t / 2 % (2 ^ 52 - 1) < 2 ^ 52 - 1 := Nat.mod_lt _ (by omega)
  generalize t / 2 % (2 ^ 52 - 1) = c at *
  have h2 : t % 2 < 2 := Nat.mod_lt _ (by omega)
  generalize t % 2 = d at *
  rw [show (d * 2 ^ 63 + 9218868437227405312 + 1 + c) % 2 ^ 63 = 9218868437227405312 + 1 + c by omega]
  omega
theorem nanAt_lt (w : World) (x y : Nat) : nanAt w x y < 18446744073709551616 := by
  unfold nanAt
  simp only [Question.cut]
  omega
theorem run_sub_none {x y : Nat} (h : Ieee.double.sub x y = none) (t : TypeId) (w : World) : (binOp .sub t (.float .f64 x) (.float .f64 y)).run Try.prog w = .ok (.float .f64 (nanAt w x y)) w.drew := by
  have h' : FloatKind.f64.format.sub x y = none := h
  simp [binOp, Op.floatArith, h', Question.forced, nanAt]
theorem run_add_none {x y : Nat} (h : Ieee.double.add x y = none) (t : TypeId) (w : World) : (binOp .add t (.float .f64 x) (.float .f64 y)).run Try.prog w = .ok (.float .f64 (nanAt w x y)) w.drew := by
  have h' : FloatKind.f64.format.add x y = none := h
  simp [binOp, Op.floatArith, h', Question.forced, nanAt]
theorem run_sub_some {x y r : Nat} (h : Ieee.double.sub x y = some r) (t : TypeId) (w : World) : (binOp .sub t (.float .f64 x) (.float .f64 y)).run Try.prog w = .ok (.float .f64 r) w := run_float_arith w .sub t .f64 x y r h
theorem run_add_some {x y r : Nat} (h : Ieee.double.add x y = some r) (t : TypeId) (w : World) : (binOp .add t (.float .f64 x) (.float .f64 y)).run Try.prog w = .ok (.float .f64 r) w := run_float_arith w .add t .f64 x y r h

theorem equal_self (u : Nat) : (FloatKind.f64.format.order u u != some .eq) = isNan u := by
  have := order_equal u u
  show (Ieee.double.order u u != some .eq) = _
  rw [bne, this]
  unfold equalB
  simp
theorem equal_zero {u : Nat} (h : isNan u = false) : (FloatKind.f64.format.order u 0 == some .eq) = zeroB u := by
  show (Ieee.double.order u 0 == some .eq) = _
  rw [order_equal]
  unfold equalB zeroB
  rw [h, Bool.eq_iff_iff]
  simp only [show isNan 0 = false by rfl, Bool.not_false, Bool.true_and, decide_eq_true_eq]
  have k0 : key 0 = 0 := by decide
  rw [k0]
  have := magv_eq_zero (r := rung u)
  unfold key
  split <;> omega
theorem tiny_bits (u : Nat) (hu : u < 18446744073709551616) : (bits .and .u64 ((u : Int) / 4503599627370496) 2047 == 0) = decide (expN u = 0) := by
  have e : bits .and .u64 ((u / 4503599627370496 : Nat) : Int) ((2047 : Nat) : Int) = ((u / 4503599627370496 &&& 2047 : Nat) : Int) := u64_and_nat _ _ (by omega) (by omega)
  rw [show ((u : Int) / 4503599627370496) = ((u / 4503599627370496 : Nat) : Int) by omega, show (2047 : Int) = ((2047 : Nat) : Int) by rfl, e, nat_mask11, Bool.eq_iff_iff]
  unfold expN
  simp only [beq_iff_eq, decide_eq_true_eq]
  omega

theorem kind_fin (u : Nat) (hu : u < 18446744073709551616) (hf : rung u < infR) (w : World) : Calls Try.prog 19 #[.int .u64 u] w fun e w' => e = .returned (.int .u8 (kindN u)) ∧ w = w' := by
  have hn : isNan u = false := by unfold infR at hf; unfold isNan; simp; omega
  have h1 : (FloatKind.f64.format.order u u != some .eq) = false := by rw [equal_self, hn]
  have h2 := equal_zero hn
  have h3 := tiny_bits u hu
  have h4 := fun t w => run_sub_some (sub_self_zero hf) t w
  have h5 : (FloatKind.f64.format.order 0 0 != some .eq) = false := by decide +kernel
  go_enter Try.func19, Try.ntmps19
  go_wp2_with (go_at_call 44; refine (of_ok _ _).mono ?_; rintro e w' ⟨rfl, rfl⟩)
  all_goals go_ret
  all_goals refine ⟨ret_int ?_, rfl⟩
  · have h : zeroB u = true := by assumption
    unfold zeroB at h
    simp only [decide_eq_true_eq] at h
    rcases kind_cases u with ⟨hx, _⟩ | hk
    · rw [hn] at hx; cases hx
    · unfold infR at hk; omega
  · have h : zeroB u = false := by assumption
    have h6 : expN u = 0 := by assumption
    unfold zeroB at h
    simp only [decide_eq_false_iff_not] at h
    unfold expN at h6
    have : rung u < 4503599627370496 := by unfold rung; unfold infR rung at hf; omega
    rcases kind_cases u with ⟨hx, _⟩ | hk
    · rw [hn] at hx; cases hx
    · unfold infR at hk; omega
  · have h : zeroB u = false := by assumption
    have h6 : ¬ expN u = 0 := by assumption
    unfold zeroB at h
    simp only [decide_eq_false_iff_not] at h
    unfold expN at h6
    have : 4503599627370496 ≤ rung u := by unfold rung; omega
    rcases kind_cases u with ⟨hx, _⟩ | hk
    · rw [hn] at hx; cases hx
    · unfold infR at hk hf; omega
theorem kind_nan_ok (u : Nat) (hn : isNan u = true) (w : World) : Calls Try.prog 19 #[.int .u64 u] w fun e w' => e = .returned (.int .u8 5) ∧ w = w' := by
  have h1 : (FloatKind.f64.format.order u u != some .eq) = true := by rw [equal_self, hn]
  go_enter Try.func19, Try.ntmps19
  go_wp2_with (go_at_call 44; refine (of_ok _ _).mono ?_; rintro e w' ⟨rfl, rfl⟩)
  go_ret
  exact ⟨rfl, rfl⟩
theorem kind_inf (u : Nat) (hi : rung u = infR) (w : World) : Calls Try.prog 19 #[.int .u64 u] w fun e w' => e = .returned (.int .u8 4) ∧ w.drew = w' := by
  have hn : isNan u = false := by unfold infR at hi; unfold isNan; simp; omega
  have h1 : (FloatKind.f64.format.order u u != some .eq) = false := by rw [equal_self, hn]
  have h4 := fun t w => run_sub_none (sub_self_none (u := u) (by omega)) t w
  have h5 : ∀ w, (FloatKind.f64.format.order (nanAt w u u) 0 != some .eq) = true := fun w => by
    have := order_equal (nanAt w u u) 0
    show (Ieee.double.order (nanAt w u u) 0 != some .eq) = _
    rw [bne, this]
    unfold equalB
    rw [nanAt_nan]; rfl
  clear hi
  go_enter Try.func19, Try.ntmps19
  go_wp2_with (go_at_call 44; refine (of_ok _ _).mono ?_; rintro e w' ⟨rfl, rfl⟩)
  go_ret
  exact ⟨rfl, rfl⟩

theorem kind_any (u : Nat) (hu : u < 18446744073709551616) (w : World) : Calls Try.prog 19 #[.int .u64 u] w fun e w' => e = .returned (.int .u8 (kindN u)) ∧ ∃ n, w' = w.drewN n := by
  rcases kind_cases u with ⟨h, hk⟩ | ⟨h, _, hk⟩ | ⟨_, h, _⟩ | ⟨_, h, _⟩ | ⟨h, _⟩
  · exact (kind_nan_ok u h w).mono fun _ _ ⟨a, b⟩ => ⟨by rw [a, hk]; rfl, 0, by rw [← b]; rfl⟩
  · exact (kind_inf u h w).mono fun _ _ ⟨a, b⟩ => ⟨by rw [a, hk]; rfl, 1, by rw [← b]; rfl⟩
  · exact (kind_fin u hu h w).mono fun _ _ ⟨a, b⟩ => ⟨a, 0, by rw [← b]; rfl⟩
  · exact (kind_fin u hu (by unfold infR; omega) w).mono fun _ _ ⟨a, b⟩ => ⟨a, 0, by rw [← b]; rfl⟩
  · exact (kind_fin u hu (by unfold infR; omega) w).mono fun _ _ ⟨a, b⟩ => ⟨a, 0, by rw [← b]; rfl⟩

theorem bits_ok (u : Nat) (w : World) : Calls Try.prog 53 #[.float .f64 u] w fun e w' => e = .returned (.int .u64 (cleanN u)) ∧ w = w' := by
  have h := run_to u
  go_enter Try.func53, Try.ntmps53
  go_wp2_with (go_at_call 43; refine (clean_ok _ _).mono ?_; rintro e w' ⟨rfl, rfl⟩)
  go_ret
  exact ⟨rfl, rfl⟩
theorem add_some_ok (a b r : Nat) (h : Ieee.double.add a b = some r) (w : World) : Calls Try.prog 34 #[.int .u64 a, .int .u64 b] w fun e w' => e = .returned (.int .u64 (cleanN r)) ∧ w = w' := by
  have hr := run_add_some h
  clear h
  go_enter Try.func34, Try.ntmps34
  go_wp2_with (first | (go_at_call 44; refine (of_ok _ _).mono ?_; rintro e w' ⟨rfl, rfl⟩) | (go_at_call 53; refine (bits_ok _ _).mono ?_; rintro e w' ⟨rfl, rfl⟩))
  go_ret
  exact ⟨rfl, rfl⟩
theorem add_none_ok (a b : Nat) (h : Ieee.double.add a b = none) (w : World) : Calls Try.prog 34 #[.int .u64 a, .int .u64 b] w fun e w' => e = .returned (.int .u64 cleanU) ∧ w.drew = w' := by
  have hr := run_add_none h
  clear h
  go_enter Try.func34, Try.ntmps34
  go_wp2_with (first | (go_at_call 44; refine (of_ok _ _).mono ?_; rintro e w' ⟨rfl, rfl⟩) | (go_at_call 53; refine (bits_ok _ _).mono ?_; rintro e w' ⟨rfl, rfl⟩))
  go_ret
  exact ⟨ret_int (by unfold cleanN; rw [nanAt_nan]; rfl), rfl⟩
theorem add_any (a b : Nat) (ha : a < 18446744073709551616) (hb : b < 18446744073709551616) (w : World) : Calls Try.prog 34 #[.int .u64 a, .int .u64 b] w fun e w' => e = .returned (.int .u64 (sumN a b)) ∧ ∃ n, w' = w.drewN n := by
  rcases add_eq (a := a) (b := b) ha hb with ⟨h, hs⟩ | ⟨r, h, hs, hn, _⟩
  · exact (add_none_ok a b h w).mono fun _ _ ⟨a, b⟩ => ⟨by rw [a, hs], 1, by rw [← b]; rfl⟩
  · exact (add_some_ok a b r h w).mono fun _ _ ⟨a, b⟩ => ⟨by rw [a, hs]; unfold cleanN; rw [hn]; rfl, 0, by rw [← b]; rfl⟩
end Go.Proofs.Ytmlcpedbpjghhaa
