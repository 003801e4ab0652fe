/-
  The document's sum: plain laws.
-/
import Derived.Test.YtmlcpedbpjghhaaRealSumLaw
namespace Go.Proofs.Ytmlcpedbpjghhaa

def expN (u : Nat) : Nat := u / 4503599627370496 % 2048
def fracN (u : Nat) : Nat := u % 4503599627370496
def scaleN (u : Nat) : Nat := max 1 (expN u)
def mantN (u : Nat) : Nat := if expN u = 0 then fracN u else 4503599627370496 + fracN u
def downN (m : Nat) : Nat → Nat
  | 0 => m
  | k + 1 => down1 (downN m k)

theorem down1_small {m : Nat} (h : m ≤ 1) : down1 m = m := by
  rcases (show m = 0 ∨ m = 1 by omega) with rfl | rfl <;> rfl
theorem down1_le {m : Nat} : down1 m ≤ m := by
  unfold down1
  rcases Nat.mod_two_eq_zero_or_one (m / 2) with h | h <;> rw [h] <;> omega
theorem down1_lt {m : Nat} (h : 2 ≤ m) : down1 m < m := by
  unfold down1
  rcases Nat.mod_two_eq_zero_or_one (m / 2) with h1 | h1 <;> rw [h1] <;> omega
theorem down1_ge {m : Nat} : m / 2 ≤ down1 m ∧ down1 m ≤ m / 2 + 1 := by
  unfold down1
  rcases Nat.mod_two_eq_zero_or_one (m / 2) with h1 | h1 <;> rw [h1] <;> omega
theorem downN_le (m k : Nat) : downN m k ≤ m := by
  induction k with
  | zero => exact Nat.le_refl _
  | succ k ih => exact Nat.le_trans down1_le ih
theorem downN_small {m k : Nat} (h : downN m k ≤ 1) (j : Nat) : downN m (k + j) = downN m k := by
  induction j with
  | zero => rfl
  | succ j ih =>
    show down1 (downN m (k + j)) = _
    rw [ih, down1_small h]
theorem downN_stk (m k : Nat) : Stk (downN m k) m k := by
  induction k with
  | zero => exact .inl (by simp [downN])
  | succ k ih => exact ih.down
theorem down1_even (m : Nat) : down1 (2 * m) = m := by
  unfold down1; rw [show 2 * m % 2 = 0 by omega]; omega
theorem downN_exact {m k : Nat} (h : k ≤ 3) : 8 * m = downN (8 * m) k * 2 ^ k := by
  have h1 : downN (8 * m) 1 = 4 * m := by show down1 (8 * m) = _; rw [show 8 * m = 2 * (4 * m) by omega, down1_even]
  have h2 : downN (8 * m) 2 = 2 * m := by show down1 (downN (8 * m) 1) = _; rw [h1, show 4 * m = 2 * (2 * m) by omega, down1_even]
  have h3 : downN (8 * m) 3 = m := by show down1 (downN (8 * m) 2) = _; rw [h2, down1_even]
  rcases (show k = 0 ∨ k = 1 ∨ k = 2 ∨ k = 3 by omega) with rfl | rfl | rfl | rfl
  · simp [downN]
  · rw [h1]; omega
  · rw [h2]; omega
  · rw [h3]; omega

theorem exp_rung (u : Nat) : expN u = rung u / 2 ^ 52 := by unfold expN rung; omega
theorem frac_rung (u : Nat) : fracN u = rung u % 2 ^ 52 := by unfold fracN rung; omega
theorem mag_eq (u : Nat) : magv (rung u) = mantN u * 2 ^ (scaleN u - 1) := by
  unfold magv mantN scaleN
  rw [exp_rung, frac_rung]
  by_cases h : rung u < 2 ^ 52
  · rw [if_pos h, if_pos (by omega), show max 1 (rung u / 2 ^ 52) - 1 = 0 by omega]
    omega
  · rw [if_neg h, if_neg (by omega), show max 1 (rung u / 2 ^ 52) = rung u / 2 ^ 52 by omega]
theorem mant_lt (u : Nat) : mantN u < 2 ^ 53 := by unfold mantN fracN; split <;> omega
theorem scale_pos (u : Nat) : 1 ≤ scaleN u := by unfold scaleN; omega
theorem mant_ge {u : Nat} (h : 1 < scaleN u) : 2 ^ 52 ≤ mantN u := by unfold scaleN at h; unfold mantN; split <;> omega
theorem scale_lt (u : Nat) : scaleN u ≤ 2047 := by unfold scaleN expN; omega

/-- what the document's 'round' may be handed for S least units -/
def Good (m e S : Nat) : Prop := m < 2 ^ 62 ∧ 1 ≤ e ∧ e ≤ 5000 ∧ Stk m (8 * S) (e - 1) ∧ (8 * S = m * 2 ^ (e - 1) ∨ 2 ^ 54 ≤ m)

section
variable {p q : Nat}

theorem stk_exact {m n d : Nat} (h : Stk m n d) (hne : ¬ n = m * 2 ^ d) : m % 2 = 1 ∧ (m - 1) * 2 ^ d < n ∧ n < (m + 1) * 2 ^ d := by
  rcases h with h | h
  · exact absurd h hne
  · exact h

/-- the lesser one, moved down: exactly, or far below -/
theorem low_cases (p q : Nat) (hs : scaleN q ≤ scaleN p) : 8 * mantN q = downN (8 * mantN q) (scaleN p - scaleN q) * 2 ^ (scaleN p - scaleN q) ∨
    (4 ≤ scaleN p - scaleN q ∧ 2 ^ 52 ≤ mantN p ∧ downN (8 * mantN q) (scaleN p - scaleN q) ≤ 2 ^ 52 + 1) := by
  by_cases he : 8 * mantN q = downN (8 * mantN q) (scaleN p - scaleN q) * 2 ^ (scaleN p - scaleN q)
  · exact .inl he
  · right
    have h4 : 4 ≤ scaleN p - scaleN q := by
      by_cases h : scaleN p - scaleN q ≤ 3
      · exact absurd (downN_exact h) he
      · omega
    have h1 := scale_pos q
    refine ⟨h4, mant_ge (by omega), ?_⟩
    obtain ⟨_, h2, _⟩ := stk_exact (downN_stk (8 * mantN q) (scaleN p - scaleN q)) he
    have h3 : (downN (8 * mantN q) (scaleN p - scaleN q) - 1) * 2 ^ 4 ≤ (downN (8 * mantN q) (scaleN p - scaleN q) - 1) * 2 ^ (scaleN p - scaleN q) :=
      Nat.mul_le_mul_left _ (Nat.pow_le_pow_right (by omega) h4)
    have h5 := mant_lt q
    omega

theorem up_eq (hs : scaleN q ≤ scaleN p) : 2 ^ (scaleN p - scaleN q) * 2 ^ (scaleN q - 1) = 2 ^ (scaleN p - 1) := by
  have := scale_pos q
  rw [← Nat.pow_add]; congr 1; omega

theorem good_add (hs : scaleN q ≤ scaleN p) : Good (8 * mantN p + downN (8 * mantN q) (scaleN p - scaleN q)) (scaleN p) (magv (rung p) + magv (rung q)) := by
  have h1 := mant_lt p
  have h2 := mant_lt q
  have h3 := downN_le (8 * mantN q) (scaleN p - scaleN q)
  have hst := (downN_stk (8 * mantN q) (scaleN p - scaleN q)).add (4 * mantN p)
  have hsc := hst.scale (scaleN q - 1)
  have hq := scale_pos q
  have hup := up_eq hs
  have e0 : scaleN p - scaleN q + (scaleN q - 1) = scaleN p - 1 := by omega
  have e1 : (2 * (4 * mantN p) * 2 ^ (scaleN p - scaleN q) + 8 * mantN q) * 2 ^ (scaleN q - 1) = 8 * (magv (rung p) + magv (rung q)) := by
    rw [mag_eq p, mag_eq q, Nat.add_mul, Nat.mul_assoc, hup, Nat.mul_add]
    simp only [Nat.mul_assoc]
    omega
  rw [e0, e1, show 2 * (4 * mantN p) = 8 * mantN p by omega] at hsc
  refine ⟨by omega, scale_pos p, by have := scale_lt p; omega, hsc, ?_⟩
  rcases low_cases p q hs with h | ⟨h4, h5, h6⟩
  · left
    rw [← e1, Nat.add_mul, h, Nat.add_mul, Nat.mul_assoc, Nat.mul_assoc (downN _ _), hup, ← h]
    simp only [Nat.mul_assoc]
    omega
  · right; omega

theorem good_sub (hs : scaleN q ≤ scaleN p) (hlt : downN (8 * mantN q) (scaleN p - scaleN q) < 8 * mantN p) : magv (rung q) < magv (rung p) ∧
    Good (8 * mantN p - downN (8 * mantN q) (scaleN p - scaleN q)) (scaleN p) (magv (rung p) - magv (rung q)) := by
  have h1 := mant_lt p
  have hst0 := downN_stk (8 * mantN q) (scaleN p - scaleN q)
  have hst := hst0.sub (4 * mantN p) (by omega)
  have hltn := hst0.lt (c := 4 * mantN p) (by omega)
  have hsc := hst.2.scale (scaleN q - 1)
  have hq := scale_pos q
  have hup := up_eq hs
  have e0 : scaleN p - scaleN q + (scaleN q - 1) = scaleN p - 1 := by omega
  have e2 : 2 * (4 * mantN p) * 2 ^ (scaleN p - scaleN q) * 2 ^ (scaleN q - 1) = 8 * magv (rung p) := by
    rw [mag_eq p, Nat.mul_assoc, hup, ← Nat.mul_assoc 8]; congr 1; omega
  have e3 : 8 * mantN q * 2 ^ (scaleN q - 1) = 8 * magv (rung q) := by
    rw [mag_eq q, Nat.mul_assoc]
  have e1 : (2 * (4 * mantN p) * 2 ^ (scaleN p - scaleN q) - 8 * mantN q) * 2 ^ (scaleN q - 1) = 8 * (magv (rung p) - magv (rung q)) := by
    rw [Nat.sub_mul, e2, e3, Nat.mul_sub]
  have hl : magv (rung q) < magv (rung p) := by
    have := Nat.mul_lt_mul_of_pos_right hltn (Nat.two_pow_pos (scaleN q - 1))
    rw [e2, e3] at this
    omega
  rw [e0, e1, show 2 * (4 * mantN p) = 8 * mantN p by omega] at hsc
  refine ⟨hl, by omega, scale_pos p, by have := scale_lt p; omega, hsc, ?_⟩
  rcases low_cases p q hs with h | ⟨h4, h5, h6⟩
  · left
    rw [Nat.mul_sub, ← e2, ← e3, h, Nat.sub_mul, Nat.mul_assoc, hup, Nat.mul_assoc (downN _ _), hup, ← h]
    congr 2
    omega
  · right; omega

/-- less than the lesser one: of one scale -/
theorem good_back (hs : scaleN q ≤ scaleN p) (hlt : 8 * mantN p < downN (8 * mantN q) (scaleN p - scaleN q)) : magv (rung p) < magv (rung q) ∧
    Good (downN (8 * mantN q) (scaleN p - scaleN q) - 8 * mantN p) (scaleN p) (magv (rung q) - magv (rung p)) := by
  have h2 := mant_lt q
  have hd : scaleN p - scaleN q = 0 := by
    by_cases h : scaleN p - scaleN q = 0
    · exact h
    · exfalso
      have hq := scale_pos q
      have h5 := mant_ge (u := p) (by omega)
      rcases low_cases p q hs with h6 | ⟨_, _, h6⟩
      · have : downN (8 * mantN q) (scaleN p - scaleN q) * 2 ^ 1 ≤ downN (8 * mantN q) (scaleN p - scaleN q) * 2 ^ (scaleN p - scaleN q) := Nat.mul_le_mul_left _ (Nat.pow_le_pow_right (by omega) (by omega))
        omega
      · omega
  have he : scaleN p = scaleN q := by omega
  rw [hd] at hlt ⊢
  have hz : downN (8 * mantN q) 0 = 8 * mantN q := rfl
  rw [hz] at hlt ⊢
  have hp := Nat.two_pow_pos (scaleN q - 1)
  have hl : magv (rung p) < magv (rung q) := by
    rw [mag_eq p, mag_eq q, he]
    exact Nat.mul_lt_mul_of_pos_right (by omega) hp
  have e : 8 * (magv (rung q) - magv (rung p)) = (8 * mantN q - 8 * mantN p) * 2 ^ (scaleN p - 1) := by
    rw [mag_eq p, mag_eq q, he, Nat.sub_mul, Nat.mul_sub, Nat.mul_assoc, Nat.mul_assoc]
  exact ⟨hl, by omega, scale_pos p, by have := scale_lt p; omega, .inl e, .inl e⟩

theorem same_zero (hs : scaleN q ≤ scaleN p) (he : 8 * mantN p = downN (8 * mantN q) (scaleN p - scaleN q)) : magv (rung p) = magv (rung q) := by
  have hst := downN_stk (8 * mantN q) (scaleN p - scaleN q)
  have hx : 8 * mantN q = 8 * mantN p * 2 ^ (scaleN p - scaleN q) := by
    rcases hst with h | ⟨h, _⟩
    · rw [← he] at h; exact h
    · omega
  have hup := up_eq hs
  have : 8 * magv (rung p) = 8 * magv (rung q) := by
    rw [mag_eq p, mag_eq q, ← hup, ← Nat.mul_assoc 8 (mantN q), hx]
    simp only [Nat.mul_assoc]
  omega
end

theorem wd_congr {s t : Bool} {q r : Nat} (h : s = t) (k : q = r) : wd s q = wd t r := by rw [h, k]

/-- the sum's word, by the magnitudes -/
theorem sum_same {a b : Nat} (ha : rung a < infR) (hb : rung b < infR) (hs : sgn a = sgn b) : sumN a b = wd (sgn a) (rne (magv (rung a) + magv (rung b))) := by
  have na : isNan a = false := by unfold isNan; unfold infR at ha; simp; omega
  have nb : isNan b = false := by unfold isNan; unfold infR at hb; simp; omega
  unfold sumN
  rw [na, nb, if_neg (by simp), if_neg (by omega), if_neg (by omega)]
  unfold sumS key
  rw [← hs]
  cases h : sgn a
  · simp only [Bool.false_eq_true, if_false, Bool.false_and]
    refine wd_congr ?_ (congrArg rne (by omega))
    split
    · rfl
    · simp; omega
  · simp only [if_true, Bool.and_self]
    refine wd_congr ?_ (congrArg rne (by omega))
    split
    · rfl
    · simp; omega
theorem sum_more {a b : Nat} (ha : rung a < infR) (hb : rung b < infR) (hs : sgn a ≠ sgn b) (hl : magv (rung b) < magv (rung a)) : sumN a b = wd (sgn a) (rne (magv (rung a) - magv (rung b))) := by
  have na : isNan a = false := by unfold isNan; unfold infR at ha; simp; omega
  have nb : isNan b = false := by unfold isNan; unfold infR at hb; simp; omega
  unfold sumN
  rw [na, nb, if_neg (by simp), if_neg (by omega), if_neg (by omega)]
  unfold sumS key
  cases h : sgn a <;> cases k : sgn b <;> simp only [h, k, ne_eq, not_true, Bool.false_eq_true, if_true, if_false] at hs ⊢
  · rw [if_neg (by omega)]
    exact wd_congr (by simp; omega) (congrArg rne (by omega))
  · rw [if_neg (by omega)]
    exact wd_congr (by simp; omega) (congrArg rne (by omega))
theorem sum_none {a b : Nat} (ha : rung a < infR) (hb : rung b < infR) (hs : sgn a ≠ sgn b) (hl : magv (rung a) = magv (rung b)) : sumN a b = 0 := by
  have na : isNan a = false := by unfold isNan; unfold infR at ha; simp; omega
  have nb : isNan b = false := by unfold isNan; unfold infR at hb; simp; omega
  unfold sumN
  rw [na, nb, if_neg (by simp), if_neg (by omega), if_neg (by omega)]
  have hk : key a + key b = 0 := by
    unfold key
    cases h : sgn a <;> cases k : sgn b <;> simp only [h, k, ne_eq, not_true, Bool.false_eq_true, if_true, if_false] at hs ⊢ <;> omega
  unfold sumS
  rw [hk, if_pos rfl]
  have : (sgn a && sgn b) = false := by cases h : sgn a <;> cases k : sgn b <;> simp_all
  rw [this, Int.natAbs_zero, rne_zero]
  rfl
theorem sum_comm {a b : Nat} (ha : rung a < infR) (hb : rung b < infR) : sumN a b = sumN b a := by
  have na : isNan a = false := by unfold isNan; unfold infR at ha; simp; omega
  have nb : isNan b = false := by unfold isNan; unfold infR at hb; simp; omega
  unfold sumN
  have hx : ¬ rung a = infR := by omega
  have hy : ¬ rung b = infR := by omega
  simp only [na, nb, hx, hy, Bool.or_false, Bool.false_eq_true, if_false]
  unfold sumS
  rw [Int.add_comm, Bool.and_comm]
end Go.Proofs.Ytmlcpedbpjghhaa
