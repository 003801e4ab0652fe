/-
  Whole numbers in the document: plain laws on its loops.
-/
import Derived.Test.YtmlcpedbpjghhaaRealKeyLaw
import Derived.Test.YtmlcpedbpjghhaaRealRoundLaw
namespace Go.Proofs.Ytmlcpedbpjghhaa

theorem uE_pow (e : Nat) (h : e = 1075) : 2 ^ (e - 1) = unit := by
  have hu := uE_eq
  unfold unit; rw [show e - 1 = uE by omega]
theorem unit_pow {e : Nat} (h : e < 1075) : unit = 2 ^ (e - 1) * 2 ^ (uE - (e - 1)) := by
  have hu := uE_eq
  unfold unit
  rw [← Nat.pow_add, show e - 1 + (uE - (e - 1)) = uE by omega]
theorem pow_unit {e : Nat} (h : 1075 ≤ e) : 2 ^ (e - 1) = unit * 2 ^ (e - 1075) := by
  have hu := uE_eq
  unfold unit
  rw [← Nat.pow_add, show uE + (e - 1075) = e - 1 by omega]

/-- what holds of m, e: they are the double's number -/
def Is (u m e : Nat) : Prop := m * 2 ^ (e - 1) = magv (rung u) ∧ 1 ≤ e
theorem is_start (u : Nat) : Is u (mantN u) (scaleN u) := ⟨(mag_eq u).symm, scale_pos u⟩
theorem is_half {u m e : Nat} (h : Is u m e) (h1 : m % 2 = 0) : Is u (m / 2) (e + 1) := by
  refine ⟨?_, by omega⟩
  rw [← h.1, show e + 1 - 1 = (e - 1) + 1 by have := h.2; omega, Nat.pow_succ, Nat.mul_comm _ 2, ← Nat.mul_assoc]
  congr 1; omega
theorem is_twice {u m e : Nat} (h : Is u m e) (h1 : 1 < e) : Is u (m * 2) (e - 1) := by
  refine ⟨?_, by omega⟩
  rw [← h.1, pow_pred h1, Nat.mul_assoc]

theorem whole_of {u : Nat} (hf : rung u < infR) : isWhole u = (decide (magv (rung u) ≤ 2 ^ 62 * unit) && decide (magv (rung u) % unit = 0)) := by
  unfold isWhole withinB
  have hn : isNan u = false := by unfold isNan; unfold infR at hf; simp; omega
  have hk := key_abs u
  rw [hn]
  simp only [Bool.not_false, Bool.true_and]
  congr 1
  unfold lim
  rw [Bool.eq_iff_iff]
  simp only [Bool.and_eq_true, decide_eq_true_eq]
  omega
/-- odd, below one: not whole -/
theorem not_whole {u m e : Nat} (hf : rung u < infR) (h : Is u m e) (h1 : m % 2 = 1) (h2 : e < 1075) : isWhole u = false := by
  rw [whole_of hf]
  have : magv (rung u) % unit ≠ 0 := by
    intro hz
    rw [← h.1, unit_pow h2] at hz
    rw [Nat.mul_comm m, Nat.mul_mod_mul_left] at hz
    have hp := Nat.two_pow_pos (e - 1)
    rcases Nat.mul_eq_zero.1 hz with hz | hz
    · omega
    · have hu := uE_eq
      obtain ⟨k, hk⟩ : ∃ k, uE - (e - 1) = k + 1 := ⟨uE - (e - 1) - 1, by omega⟩
      rw [hk, Nat.pow_succ] at hz
      have := Nat.dvd_of_mod_eq_zero hz
      obtain ⟨c, hc⟩ := this
      rw [hc, Nat.mul_comm (2 ^ k) 2, Nat.mul_assoc, Nat.mul_mod_right] at h1
      omega
  simp [this]
theorem too_great {u m e : Nat} (hf : rung u < infR) (h : Is u m e) (h0 : 2 ^ 62 < m) (h2 : 1075 ≤ e) : isWhole u = false := by
  rw [whole_of hf]
  have : 2 ^ 62 * unit < magv (rung u) := by
    rw [← h.1, pow_unit h2]
    have a : m * unit ≤ m * (unit * 2 ^ (e - 1075)) := Nat.mul_le_mul_left _ (Nat.le_mul_of_pos_right _ (Nat.two_pow_pos _))
    have b : 2 ^ 62 * unit < m * unit := Nat.mul_lt_mul_of_pos_right h0 unit_pos
    omega
  rw [decide_eq_false (by omega)]; rfl
theorem is_whole {u m e : Nat} (hf : rung u < infR) (h : Is u m e) (h0 : m ≤ 2 ^ 62) (h2 : m = 0 ∨ e = 1075) : isWhole u = true ∧ magv (rung u) / unit = m ∧ magv (rung u) % unit = 0 := by
  have hA : magv (rung u) = m * unit := by
    rw [← h.1]
    rcases h2 with rfl | h2
    · simp
    · rw [uE_pow e h2]
  have h3 : magv (rung u) % unit = 0 := by rw [hA, Nat.mul_mod_left]
  refine ⟨?_, ?_, h3⟩
  · rw [whole_of hf, h3, decide_eq_true (by rw [hA]; exact Nat.mul_le_mul_right _ h0)]; rfl
  · rw [hA, Nat.mul_div_cancel _ unit_pos]
theorem whole_val {u m : Nat} (h : isWhole u = true ∧ magv (rung u) / unit = m ∧ magv (rung u) % unit = 0) : wholeN u = if sgn u then -(m : Int) else m := by
  unfold wholeN
  rw [h.1, if_pos rfl, key_div, h.2.1, h.2.2]
  simp
theorem not_within {u : Nat} (h : ¬ rung u < infR) : isWhole u = false := by
  unfold isWhole
  cases hw : withinB u
  · rfl
  · exact absurd (within_small hw).2.1 h
theorem exp_inf (u : Nat) : (expN u = 2047) ↔ ¬ rung u < infR := by
  have := rung_lt u
  unfold infR
  rw [exp_rung]
  omega

/-- what holds in the document's 'against': m the floor at e; more: whether anything is below -/
def Ag (u m e : Nat) (more : Bool) : Prop := m * 2 ^ (e - 1) ≤ magv (rung u) ∧ magv (rung u) < (m + 1) * 2 ^ (e - 1) ∧ (more = decide (m * 2 ^ (e - 1) ≠ magv (rung u))) ∧ 1 ≤ e
theorem ag_start {u m e : Nat} (h : Is u m e) : Ag u m e false := by
  have hp := Nat.two_pow_pos (e - 1)
  refine ⟨Nat.le_of_eq h.1, ?_, by simp [h.1], h.2⟩
  rw [← h.1]; exact Nat.mul_lt_mul_of_pos_right (by omega) hp
theorem ag_step {u m e : Nat} {more : Bool} (h : Ag u m e more) : Ag u (m / 2) (e + 1) (more || decide (m % 2 = 1)) := by
  obtain ⟨h1, h2, h3, h4⟩ := h
  have e1 : 2 ^ (e + 1 - 1) = 2 * 2 ^ (e - 1) := by rw [show e + 1 - 1 = (e - 1) + 1 by omega, Nat.pow_succ, Nat.mul_comm]
  unfold Ag
  rw [e1]
  generalize 2 ^ (e - 1) = X at *
  generalize magv (rung u) = A at *
  obtain ⟨q, hq | hq⟩ : ∃ q, m = 2 * q ∨ m = 2 * q + 1 := ⟨m / 2, by omega⟩
  · have hm : m / 2 = q := by omega
    have ea : q * (2 * X) = m * X := by rw [hq, Nat.mul_comm 2 q, Nat.mul_assoc]
    have eb : (q + 1) * (2 * X) = m * X + 2 * X := by rw [Nat.add_mul, ea]; omega
    have ec : (m + 1) * X = m * X + X := by rw [Nat.add_mul]; omega
    rw [hm, ea, eb]
    refine ⟨h1, by omega, ?_, by omega⟩
    rw [decide_eq_false (p := m % 2 = 1) (by omega), Bool.or_false, h3]
  · have hm : m / 2 = q := by omega
    have ea : m * X = q * (2 * X) + X := by rw [hq, Nat.add_mul, Nat.mul_comm 2 q, Nat.mul_assoc]; omega
    have ec : (m + 1) * X = q * (2 * X) + X + X := by rw [Nat.add_mul, ea]; omega
    have eb : (q + 1) * (2 * X) = q * (2 * X) + X + X := by rw [Nat.add_mul]; omega
    have hX : 0 < X := by
      rcases Nat.eq_zero_or_pos X with h | h
      · subst h; simp at h2
      · exact h
    rw [hm, eb]
    refine ⟨by omega, by omega, ?_, by omega⟩
    rw [decide_eq_true (p := m % 2 = 1) (by omega), Bool.or_true, decide_eq_true]
    omega

theorem cmp_eq {a b : Int} (h : a = b) : cmpI a b = 0 := by unfold cmpI; rw [if_neg (by omega), if_pos h]
theorem cmp_lt {a b : Int} (h : a < b) : cmpI a b = -1 := by unfold cmpI; rw [if_pos h]
theorem cmp_gt {a b : Int} (h : b < a) : cmpI a b = 1 := by unfold cmpI; rw [if_neg (by omega), if_neg (by omega)]
/-- at the end: m the floor, or far beyond -/
theorem ag_end {u m e n : Nat} {more : Bool} (h : Ag u m e more) (hn : n ≤ 2 ^ 62) (h1 : e = 1075 ∨ (m = 0 ∧ more = false) ∨ (1075 < e ∧ 2 ^ 62 < m)) :
    cmpI ((n : Int) * (unit : Int)) (magv (rung u) : Nat) = if n < m ∨ (n = m ∧ more = true) then -1 else if n = m then 0 else 1 := by
  obtain ⟨h2, h3, h4, h5⟩ := h
  have hp := unit_pos
  rcases h1 with h1 | ⟨rfl, rfl⟩ | ⟨h1, h6⟩
  · rw [uE_pow e h1] at h2 h3 h4
    rw [Nat.add_mul, Nat.one_mul] at h3
    generalize magv (rung u) = A at *
    rcases Nat.lt_trichotomy n m with hl | hl | hl
    · rw [if_pos (.inl hl)]
      have : (n + 1) * unit ≤ m * unit := Nat.mul_le_mul_right _ hl
      rw [Nat.add_mul, Nat.one_mul] at this
      exact cmp_lt (by rw [← Int.natCast_mul]; omega)
    · subst hl
      by_cases hm : more = true
      · rw [if_pos (.inr ⟨rfl, hm⟩)]
        rw [hm] at h4
        have := of_decide_eq_true h4.symm
        exact cmp_lt (by rw [← Int.natCast_mul]; omega)
      · rw [if_neg (by rintro (h | h); · omega
                       · exact hm h.2), if_pos rfl]
        have hm' : more = false := by simpa using hm
        rw [hm'] at h4
        have := of_decide_eq_false h4.symm
        exact cmp_eq (by rw [← Int.natCast_mul]; omega)
    · rw [if_neg (by rintro (h | h) <;> omega), if_neg (by omega)]
      have : (m + 1) * unit ≤ n * unit := Nat.mul_le_mul_right _ hl
      rw [Nat.add_mul, Nat.one_mul] at this
      exact cmp_gt (by rw [← Int.natCast_mul]; omega)
  · have hA := of_decide_eq_false h4.symm
    rw [Nat.zero_mul] at hA
    rw [show magv (rung u) = 0 by omega]
    rw [if_neg (by rintro (h | h); · omega
                   · cases h.2)]
    by_cases h0 : n = 0
    · rw [if_pos h0, h0]; exact cmp_eq (by simp)
    · rw [if_neg h0]
      have : 0 < n * unit := Nat.mul_pos (by omega) hp
      exact cmp_gt (by rw [← Int.natCast_mul]; omega)
  · rw [if_pos (.inl (by omega))]
    rw [pow_unit (by omega)] at h2
    have a : m * unit ≤ m * (unit * 2 ^ (e - 1075)) := Nat.mul_le_mul_left _ (Nat.le_mul_of_pos_right _ (Nat.two_pow_pos _))
    have b : (n + 1) * unit ≤ m * unit := Nat.mul_le_mul_right _ (by omega)
    rw [Nat.add_mul, Nat.one_mul] at b
    exact cmp_lt (by rw [← Int.natCast_mul]; omega)

theorem down1_pow {M X : Nat} (h : M ≤ 2 * X) : down1 M ≤ X := by
  by_cases he : M % 2 = 0
  · unfold down1; rw [he]; omega
  · unfold down1
    rcases Nat.mod_two_eq_zero_or_one (M / 2) with h1 | h1 <;> rw [h1] <;> omega
/-- the loop of the document's OfInt -/
def Of (S M E : Nat) : Prop := Stk M (8 * S) (E - 1) ∧ (8 * S = M * 2 ^ (E - 1) ∨ 2 ^ 54 ≤ M) ∧ ∃ j, E = 1078 + j ∧ M ≤ 2 ^ (63 - j) ∧ j ≤ 3
theorem of_start (n E : Nat) (h : n ≤ 2 ^ 63) (hE : E = 1078) : Of (n * unit) n E := by
  have hu := uE_eq
  have e : 8 * (n * unit) = n * 2 ^ (E - 1) := by
    have h8 : 2 ^ (uE + 3) = 8 * unit := by
      unfold unit
      rw [Nat.pow_add, show (2 : Nat) ^ 3 = 8 by rfl, Nat.mul_comm]
    rw [show E - 1 = uE + 3 by omega, h8, Nat.mul_left_comm]
  exact ⟨.inl e, .inl e, 0, hE, by simpa using h, by omega⟩
theorem Of.step {S M E : Nat} (h : Of S M E) (h1 : 2 ^ 61 ≤ M) : Of S (down1 M) (E + 1) ∧ down1 M < M := by
  obtain ⟨h2, _, j, hE, hM, hj⟩ := h
  have hg := down1_ge (m := M)
  have hlt := down1_lt (m := M) (by omega)
  have hj2 : j ≤ 2 := by
    rcases Nat.lt_or_eq_of_le hj with h | h
    · omega
    · subst h; exfalso; omega
  refine ⟨⟨?_, .inr (by omega), j + 1, by omega, ?_, by omega⟩, hlt⟩
  · rw [show E + 1 - 1 = E - 1 + 1 by omega]; exact h2.down
  · refine down1_pow ?_
    rw [← Nat.pow_succ', show (63 - (j + 1)).succ = 63 - j by omega]; exact hM
theorem Of.good {S M E : Nat} (h : Of S M E) (h1 : M < 2 ^ 61) : Good M E S := by
  obtain ⟨h2, h3, j, hE, _, hj⟩ := h
  exact ⟨by omega, by omega, by omega, h2, h3⟩
end Go.Proofs.Ytmlcpedbpjghhaa
