/-
  Equal, Less of the document; Kind, Clean, Rank, Neg of the program.
-/
import Derived.Test.YtmlcpedbpjghhaaRealW2
import Derived.Laws.FloatArith
import Derived.Laws.NewFold
namespace Go.Proofs.Ytmlcpedbpjghhaa
open Go.RowKit

theorem refEqual_ok (a b : Nat) (ha : a < 18446744073709551616) (hb : b < 18446744073709551616) (w : World) : Calls Try.prog 51 #[.int .u64 a, .int .u64 b] w fun e w' => e = .returned (.bool (equalB a b)) ∧ w = w' := by
  have e1 := beq_nan a
  have e2 := beq_nan b
  have e3 := beq_zero a
  have e4 := beq_zero b
  have e5 := Lib.hid (equalB_eq ha hb)
  go_enter Try.func51, Try.ntmps51
  go_wp2_with (go_at_call 55; refine (refKind_ok _ (by assumption) _).mono ?_; rintro e w' ⟨rfl, rfl⟩)
  all_goals go_ret
  all_goals refine ⟨ret_bool ?_, rfl⟩
  all_goals rw [e5.out]
  all_goals simp_all
theorem sgn_cleanN {u : Nat} (h : isNan u = false) : cleanN u = u := by unfold cleanN; rw [h]; simp
theorem rank_less {a b : Nat} (ha : a < 18446744073709551616) (hb : b < 18446744073709551616) (na : isNan a = false) (nb : isNan b = false) (he : equalB a b = false) : decide (((rankN a : Nat) : Int) < (rankN b : Nat)) = lessB a b := by
  unfold lessB
  rw [na, nb]
  simp only [Bool.not_false, Bool.true_and]
  have he' : key a ≠ key b := by
    intro h
    unfold equalB at he
    rw [na, nb] at he
    simp [h] at he
  rw [Bool.eq_iff_iff]
  simp only [decide_eq_true_eq]
  unfold rankN
  rw [sgn_cleanN na, sgn_cleanN nb]
  have wa := wd_self (u := a) (by omega)
  have wb := wd_self (u := b) (by omega)
  have ra := rung_lt a
  have rb := rung_lt b
  unfold wd at wa wb
  have hm : ∀ x y, rung x < rung y → magv (rung x) < magv (rung y) := fun _ _ h => magv_lt h
  have h1 := hm a b
  have h2 := hm b a
  have h3 : rung a = rung b → magv (rung a) = magv (rung b) := fun h => by rw [h]
  have h4 : rung a = 0 → magv (rung a) = 0 := fun h => by rw [h, magv_zero]
  have h5 : rung b = 0 → magv (rung b) = 0 := fun h => by rw [h, magv_zero]
  have h6 : magv (rung a) = 0 → rung a = 0 := fun h => magv_eq_zero.1 h
  have h7 : magv (rung b) = 0 → rung b = 0 := fun h => magv_eq_zero.1 h
  unfold key at he' ⊢
  generalize magv (rung a) = A at *
  generalize magv (rung b) = B at *
  cases sa : sgn a <;> cases sb : sgn b <;> simp only [sa, sb, Bool.false_eq_true, if_true, if_false] at * <;> omega

theorem refLess_ok (a b : Nat) (ha : a < 18446744073709551616) (hb : b < 18446744073709551616) (w : World) : Calls Try.prog 50 #[.int .u64 a, .int .u64 b] w fun e w' => e = .returned (.bool (lessB a b)) ∧ w = w' := by
  have e1 := beq_nan a
  have e2 := beq_nan b
  have e5 := Lib.hid (rank_less ha hb)
  go_enter Try.func50, Try.ntmps50
  go_wp2_with (first | (go_at_call 55; refine (refKind_ok _ (by assumption) _).mono ?_; rintro e w' ⟨rfl, rfl⟩) | (go_at_call 51; refine (refEqual_ok _ _ ha hb _).mono ?_; rintro e w' ⟨rfl, rfl⟩) | (go_at_call 73; refine (refRank_ok _ (by assumption) _).mono ?_; rintro e w' ⟨rfl, rfl⟩))
  all_goals go_ret
  all_goals refine ⟨ret_bool ?_, rfl⟩
  · have h : isNan a = true := by assumption
    simp [lessB, h]
  · have h : isNan b = true := by assumption
    simp [lessB, h]
  · have h : equalB a b = true := by assumption
    unfold equalB at h
    simp only [Bool.and_eq_true, decide_eq_true_eq] at h
    simp [lessB, h]
  · have h1 : ¬ isNan a = true := by assumption
    have h2 : ¬ isNan b = true := by assumption
    have h3 : equalB a b = false := by assumption
    rw [← e5.out (by simpa using h1) (by simpa using h2) h3]
    simp

theorem clean_ok (u : Nat) (w : World) : Calls Try.prog 43 #[.int .u64 u] w fun e w' => e = .returned (.int .u64 (cleanN u)) ∧ w = w' := by
  have h : (FloatKind.f64.format.order u u != some .eq) = isNan u := by
    have := order_equal u u
    show (Ieee.double.order u u != some .eq) = _
    rw [bne, this]
    unfold equalB
    simp
  go_enter Try.func43, Try.ntmps43
  go_wp2_with (go_at_call 44; refine (of_ok _ _).mono ?_; rintro e w' ⟨rfl, rfl⟩)
  all_goals
    go_ret
    refine ⟨ret_int ?_, rfl⟩
    unfold cleanN
    simp_all
    try rfl

theorem u64_and_top (x : Nat) (hx : x < 18446744073709551616) : (bits .and .u64 (x : Int) 9223372036854775808 != 0) = sgn x := by
  have e : bits .and .u64 (x : Int) ((9223372036854775808 : Nat) : Int) = ((x &&& 9223372036854775808 : Nat) : Int) := u64_and_nat _ _ hx (by omega)
  have f := nat_bit 63 x
  rw [show (2 : Nat) ^ 63 = 9223372036854775808 by rfl] at f
  rw [show (9223372036854775808 : Int) = ((9223372036854775808 : Nat) : Int) by rfl, e, f]
  unfold sgn
  rw [show (2 : Nat) ^ 63 = 9223372036854775808 by rfl, Bool.eq_iff_iff]
  simp only [bne_iff_ne, beq_iff_eq]
  omega
theorem u64_or_top (x : Nat) (hx : x < 9223372036854775808) : bits .or .u64 (x : Int) 9223372036854775808 = ((x + 9223372036854775808 : Nat) : Int) := by
  have e : bits .or .u64 (x : Int) ((9223372036854775808 : Nat) : Int) = ((x ||| 9223372036854775808 : Nat) : Int) := u64_or_nat _ _ (by omega) (by omega)
  rw [show (9223372036854775808 : Int) = ((9223372036854775808 : Nat) : Int) by rfl, e, Nat.or_comm, nat_join 63 _ _ (by rfl) hx, Nat.add_comm]
def turnN (u : Nat) : Nat := if sgn u then u - 9223372036854775808 else u + 9223372036854775808
theorem turnN_lt {u : Nat} (hu : u < 18446744073709551616) : turnN u < 18446744073709551616 := by
  unfold turnN sgn; split <;> simp_all <;> omega
theorem rung_turn {u : Nat} (hu : u < 18446744073709551616) : rung (turnN u) = rung u := by
  unfold turnN sgn rung; split <;> simp_all <;> omega
theorem sgn_turn {u : Nat} (hu : u < 18446744073709551616) : sgn (turnN u) = !sgn u := by
  unfold turnN
  cases h : sgn u <;> unfold sgn at h ⊢ <;> simp_all <;> omega
theorem xor_top (x : Nat) (hx : x < 18446744073709551616) : x ^^^ 9223372036854775808 = turnN x := by
  have hb : ∀ i, (9223372036854775808 : Nat).testBit i = decide (63 = i) := fun i => by
    rw [show (9223372036854775808 : Nat) = 2 ^ 63 by rfl, Nat.testBit_two_pow]
  apply Nat.eq_of_testBit_eq
  intro i
  rw [Nat.testBit_xor, hb]
  have hlo : ∀ y, y < 9223372036854775808 → y.testBit 63 = false := fun y hy => Nat.testBit_lt_two_pow (by omega)
  have go : ∀ y, y < 9223372036854775808 → (y + 9223372036854775808).testBit i = (if i = 63 then true else y.testBit i) := fun y hy => by
    rw [Nat.add_comm, show (9223372036854775808 : Nat) = 2 ^ 63 by rfl]
    by_cases h : i = 63
    · rw [if_pos h, h, Nat.testBit_two_pow_add_eq, hlo y hy]; rfl
    · rw [if_neg h]
      by_cases h' : i < 63
      · rw [Nat.testBit_two_pow_add_gt h']
      · have a : y.testBit i = false := Nat.testBit_lt_two_pow (Nat.lt_of_lt_of_le hy (Nat.pow_le_pow_right (n := 2) (i := 63) (by omega) (by omega)))
        have b : (2 ^ 63 + y).testBit i = false := Nat.testBit_lt_two_pow (Nat.lt_of_lt_of_le (m := 2 ^ 64) (by omega) (Nat.pow_le_pow_right (by omega) (by omega)))
        rw [a, b]
  unfold turnN
  by_cases hs : sgn x = true
  · rw [if_pos hs]
    obtain ⟨y, rfl⟩ : ∃ y, x = y + 9223372036854775808 := ⟨x - 9223372036854775808, by unfold sgn at hs; simp at hs; omega⟩
    rw [Nat.add_sub_cancel, go y (by omega)]
    by_cases h : i = 63
    · subst h; rw [hlo y (by omega)]; rfl
    · have : ¬ 63 = i := fun e => h e.symm
      simp [h, this]
  · have hx' : x < 9223372036854775808 := by unfold sgn at hs; simp at hs; omega
    rw [if_neg hs, go x hx']
    by_cases h : i = 63
    · subst h; rw [hlo x hx']; rfl
    · have : ¬ 63 = i := fun e => h e.symm
      simp [h, this]
theorem u64_xor_top (x : Nat) (hx : x < 18446744073709551616) : bits .xor .u64 (x : Int) 9223372036854775808 = ((turnN x : Nat) : Int) := by
  have e : bits .xor .u64 (x : Int) ((9223372036854775808 : Nat) : Int) = ((x ^^^ 9223372036854775808 : Nat) : Int) := u64_xor_nat _ _ hx (by omega)
  rw [show (9223372036854775808 : Int) = ((9223372036854775808 : Nat) : Int) by rfl, e, xor_top x hx]
theorem nan_turn {u : Nat} (hu : u < 18446744073709551616) : isNan (turnN u) = isNan u := by unfold isNan; rw [rung_turn hu]
theorem neg_turn {u : Nat} (hu : u < 18446744073709551616) : cleanN (turnN u) = negN u := by
  unfold cleanN negN; rw [nan_turn hu]; rfl

theorem neg_ok (u : Nat) (hu : u < 18446744073709551616) (w : World) : Calls Try.prog 40 #[.int .u64 u] w fun e w' => e = .returned (.int .u64 (negN u)) ∧ w = w' := by
  have hx := u64_xor_top u hu
  go_enter Try.func40, Try.ntmps40
  go_wp2_with (go_at_call 43; refine (clean_ok _ _).mono ?_; rintro e w' ⟨rfl, rfl⟩)
  go_ret
  exact ⟨ret_int (by rw [neg_turn hu]), rfl⟩

theorem rank_ok (u : Nat) (hu : u < 18446744073709551616) (w : World) : Calls Try.prog 70 #[.int .u64 u] w fun e w' => e = .returned (.int .u64 (rankN u)) ∧ w = w' := by
  have hc := cleanN_lt hu
  have hs := u64_and_top _ hc
  have hx := run_not hc
  by_cases h : sgn (cleanN u) = true
  · go_enter Try.func70, Try.ntmps70
    go_wp2_with (go_at_call 43; refine (clean_ok _ _).mono ?_; rintro e w' ⟨rfl, rfl⟩)
    go_ret
    exact ⟨ret_int (by unfold rankN; rw [if_pos h]), rfl⟩
  · have ho := u64_or_top (cleanN u) (by unfold sgn at h; simp at h; omega)
    have h' : sgn (cleanN u) = false := by simpa using h
    go_enter Try.func70, Try.ntmps70
    go_wp2_with (go_at_call 43; refine (clean_ok _ _).mono ?_; rintro e w' ⟨rfl, rfl⟩)
    go_ret
    exact ⟨ret_int (by unfold rankN; rw [if_neg h]; exact (Int.natCast_add _ _).symm), rfl⟩
end Go.Proofs.Ytmlcpedbpjghhaa
