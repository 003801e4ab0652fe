/-
  What a double is, clean, ranked: both sides walked.
-/
import Derived.Test.YtmlcpedbpjghhaaRealW1
import Derived.Test.YtmlcpedbpjghhaaRealAddLaw
import Derived.Outline
namespace Go.Proofs.Ytmlcpedbpjghhaa
open Go.RowKit

theorem ret_bool {a b : Bool} (h : a = b) : Ending.returned (.bool a) = .returned (.bool b) := by rw [h]
def signB (u : Nat) : Bool := decide (9223372036854775808 ≤ u)

theorem exp_ok (u : Nat) (hu : u < 18446744073709551616) (w : World) : Calls Try.prog 75 #[.int .u64 u] w fun e w' => e = .returned (.int .i64 (expN u)) ∧ w = w' := by
  go_enter Try.func75, Try.ntmps75
  go_wp2_with fail
  go_ret
  exact ⟨rfl, rfl⟩
theorem frac_ok (u : Nat) (hu : u < 18446744073709551616) (w : World) : Calls Try.prog 76 #[.int .u64 u] w fun e w' => e = .returned (.int .u64 (fracN u)) ∧ w = w' := by
  go_enter Try.func76, Try.ntmps76
  go_wp2_with fail
  go_ret
  exact ⟨rfl, rfl⟩
theorem sign_ok (u : Nat) (hu : u < 18446744073709551616) (w : World) : Calls Try.prog 59 #[.int .u64 u] w fun e w' => e = .returned (.bool (signB u)) ∧ w = w' := by
  go_enter Try.func59, Try.ntmps59
  go_wp2_with fail
  go_ret
  exact ⟨ret_bool (by unfold signB; congr 1; exact propext (by omega)), rfl⟩

theorem ret_int {k : IntKind} {a b : Int} (h : a = b) : Ending.returned (.int k a) = .returned (.int k b) := by rw [h]
def kindN (u : Nat) : Nat := if expN u = 2047 then (if fracN u = 0 then 4 else 5) else if expN u = 0 then (if fracN u = 0 then 1 else 2) else 3

theorem refKind_ok (u : Nat) (hu : u < 18446744073709551616) (w : World) : Calls Try.prog 55 #[.int .u64 u] w fun e w' => e = .returned (.int .u8 (kindN u)) ∧ w = w' := by
  go_enter Try.func55, Try.ntmps55
  go_wp2_with (first | (go_at_call 75; refine (exp_ok _ hu _).mono ?_; rintro e w' ⟨rfl, rfl⟩) | (go_at_call 76; refine (frac_ok _ hu _).mono ?_; rintro e w' ⟨rfl, rfl⟩))
  all_goals
    go_ret
    refine ⟨ret_int ?_, rfl⟩
    simp only [bne_iff_ne, ne_eq, bne_eq_false_iff_eq, beq_iff_eq, beq_eq_false_iff_ne] at *
    unfold kindN
    (repeat' split) <;> omega

/-- the rung's place, plainly -/
theorem kind_nan {u : Nat} : kindN u = 5 ↔ isNan u = true := by
  unfold kindN expN fracN isNan rung
  simp only [decide_eq_true_eq]
  constructor
  · intro h
    split at h <;> (try split at h) <;> (first | omega | (exfalso; revert h; split <;> omega))
  · intro h
    rw [if_pos (by omega), if_neg (by omega)]
theorem kind_cases (u : Nat) : (isNan u = true ∧ kindN u = 5) ∨ (rung u = infR ∧ isNan u = false ∧ kindN u = 4) ∨ (4503599627370496 ≤ rung u ∧ rung u < infR ∧ isNan u = false ∧ kindN u = 3) ∨
    (0 < rung u ∧ rung u < 4503599627370496 ∧ isNan u = false ∧ kindN u = 2) ∨ (rung u = 0 ∧ isNan u = false ∧ kindN u = 1) := by
  unfold kindN expN fracN isNan rung infR
  simp only [decide_eq_true_eq, decide_eq_false_iff_not]
  by_cases h1 : u / 4503599627370496 % 2048 = 2047
  · rw [if_pos h1]
    by_cases h2 : u % 4503599627370496 = 0
    · rw [if_pos h2]; omega
    · rw [if_neg h2]; omega
  · rw [if_neg h1]
    by_cases h3 : u / 4503599627370496 % 2048 = 0
    · rw [if_pos h3]
      by_cases h2 : u % 4503599627370496 = 0
      · rw [if_pos h2]; omega
      · rw [if_neg h2]; omega
    · rw [if_neg h3]; omega

def cleanN (u : Nat) : Nat := if isNan u then cleanU else u
def rankN (u : Nat) : Nat := if sgn (cleanN u) then 18446744073709551615 - cleanN u else cleanN u + 9223372036854775808
def negN (u : Nat) : Nat := if isNan u then cleanU else if sgn u then u - 9223372036854775808 else u + 9223372036854775808

theorem cleanN_lt {u : Nat} (hu : u < 18446744073709551616) : cleanN u < 18446744073709551616 := by
  unfold cleanN cleanU; split <;> omega
theorem beq_nan (u : Nat) : (((kindN u : Nat) : Int) == 5) = isNan u := by
  rw [Bool.eq_iff_iff, ← kind_nan]
  simp only [beq_iff_eq]
  omega

theorem refClean_ok (u : Nat) (hu : u < 18446744073709551616) (w : World) : Calls Try.prog 48 #[.int .u64 u] w fun e w' => e = .returned (.int .u64 (cleanN u)) ∧ w = w' := by
  have hb := beq_nan u
  go_enter Try.func48, Try.ntmps48
  go_wp2_with (go_at_call 55; refine (refKind_ok _ hu _).mono ?_; rintro e w' ⟨rfl, rfl⟩)
  all_goals
    go_ret
    refine ⟨ret_int ?_, rfl⟩
    unfold cleanN
    simp_all
    try rfl
theorem signB_sgn {u : Nat} (hu : u < 18446744073709551616) : signB u = sgn u := by
  unfold signB sgn
  rw [Bool.eq_iff_iff]
  simp only [decide_eq_true_eq, beq_iff_eq]
  omega
theorem wrap_u (x : Int) : IntKind.u64.wrap x = x % 18446744073709551616 := by simp [IntKind.wrap, IntKind.bits, IntKind.signed]

theorem xor_full {x : Nat} (h : x < 2 ^ 64) : (2 ^ 64 - 1) ^^^ x = 2 ^ 64 - (x + 1) := by
  apply Nat.eq_of_testBit_eq
  intro i
  rw [Nat.testBit_xor, Nat.testBit_two_pow_sub_succ h, Nat.testBit_two_pow_sub_one]
  by_cases hi : i < 64
  · simp [hi]
  · have : x.testBit i = false := Nat.testBit_lt_two_pow (Nat.lt_of_lt_of_le h (Nat.pow_le_pow_right (by omega) (by omega)))
    simp [hi, this]
theorem run_not {x : Nat} (h : x < 18446744073709551616) (w : World) : (Op.unary .xor (.int .u64 (x : Int))).run Try.prog w = .ok (.int .u64 ((18446744073709551615 - x : Nat) : Int)) w := by
  have e : bits .xor .u64 ((18446744073709551615 : Nat) : Int) (x : Int) = ((18446744073709551615 - x : Nat) : Int) := by
    rw [u64_xor_nat _ _ (by omega) h]
    have := xor_full (x := x) (by omega)
    rw [show (18446744073709551615 : Nat) = 2 ^ 64 - 1 by rfl, this]
    omega
  show Sem.run Try.prog (Op.intBits .xor .u64 ((18446744073709551615 : Nat) : Int) (x : Int)) w = _
  rw [← e]
  rfl

theorem refRank_ok (u : Nat) (hu : u < 18446744073709551616) (w : World) : Calls Try.prog 73 #[.int .u64 u] w fun e w' => e = .returned (.int .u64 (rankN u)) ∧ w = w' := by
  have hc := cleanN_lt hu
  have hs := signB_sgn hc
  have hs' := Lib.hid hs
  have hx := run_not hc
  go_enter Try.func73, Try.ntmps73
  go_wp2_with (first | (go_at_call 48; refine (refClean_ok _ hu _).mono ?_; rintro e w' ⟨rfl, rfl⟩) | (go_at_call 59; refine (sign_ok _ hc _).mono ?_; rintro e w' ⟨rfl, rfl⟩))
  all_goals go_ret
  all_goals refine ⟨ret_int ?_, rfl⟩
  · have h : sgn (cleanN u) = true := by assumption
    unfold rankN
    rw [if_pos h]
  · have h : sgn (cleanN u) = false := by assumption
    rw [← hs'.out] at h
    unfold signB at h
    simp only [decide_eq_false_iff_not] at h
    unfold rankN
    rw [← hs'.out, if_neg (by unfold signB; simpa using h), wrap_u]
    omega
theorem refNeg_ok (u : Nat) (hu : u < 18446744073709551616) (w : World) : Calls Try.prog 41 #[.int .u64 u] w fun e w' => e = .returned (.int .u64 (negN u)) ∧ w = w' := by
  have hb := beq_nan u
  go_enter Try.func41, Try.ntmps41
  go_wp2_with (go_at_call 55; refine (refKind_ok _ hu _).mono ?_; rintro e w' ⟨rfl, rfl⟩)
  all_goals go_ret
  all_goals refine ⟨ret_int ?_, rfl⟩
  · have h : isNan u = true := by assumption
    unfold negN
    rw [if_pos h]; rfl
  · have h : isNan u = false := by assumption
    unfold negN
    rw [h, if_neg (by simp), wrap_u]
    have := signB_sgn hu
    unfold signB at this
    rw [← this]
    by_cases h9 : 9223372036854775808 ≤ u
    · rw [if_pos (by simpa using h9)]; omega
    · rw [if_neg (by simpa using h9)]; omega

def zeroB (u : Nat) : Bool := decide (rung u = 0)
theorem beq_zero (u : Nat) : (((kindN u : Nat) : Int) == 1) = zeroB u := by
  rw [Bool.eq_iff_iff]
  unfold zeroB
  simp only [beq_iff_eq, decide_eq_true_eq]
  rcases kind_cases u with h | h | h | h | h <;> (have := h; unfold infR at this; unfold isNan at this; simp at this; omega)

theorem equalB_eq {a b : Nat} (ha : a < 18446744073709551616) (hb : b < 18446744073709551616) : equalB a b = (!isNan a && !isNan b && (((a : Int) == b) || (zeroB a && zeroB b))) := by
  unfold equalB
  cases na : isNan a
  · cases nb : isNan b
    · simp only [Bool.not_false, Bool.true_and]
      rw [Bool.eq_iff_iff]
      simp only [decide_eq_true_eq, Bool.or_eq_true, beq_iff_eq, Bool.and_eq_true, zeroB]
      constructor
      · intro h
        have hm : magv (rung a) = magv (rung b) := by
          unfold key at h; split at h <;> split at h <;> omega
        have hr := magv_inj hm
        by_cases h0 : rung a = 0
        · right; omega
        · left
          have hp : magv (rung a) ≠ 0 := fun e => h0 (magv_eq_zero.1 e)
          have hs : sgn a = sgn b := by
            unfold key at h
            rw [← hr] at h
            cases sa : sgn a <;> cases sb : sgn b <;> simp [sa, sb] at h ⊢ <;> omega
          have := wd_ext (by omega) (by omega) hs hr
          omega
      · rintro (h | ⟨h1, h2⟩)
        · obtain rfl : a = b := by omega
          rfl
        · unfold key
          rw [h1, h2, magv_zero]
          split <;> split <;> rfl
    · simp
  · simp
end Go.Proofs.Ytmlcpedbpjghhaa
