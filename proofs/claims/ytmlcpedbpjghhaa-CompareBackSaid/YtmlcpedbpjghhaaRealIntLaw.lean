/-
  Whole numbers and doubles: plain laws.
-/
import Derived.Test.YtmlcpedbpjghhaaRealSumLaw
namespace Go.Proofs.Ytmlcpedbpjghhaa

/-- one, in least units -/
def uE : Nat := 1074
theorem uE_eq : uE = 1074 := rfl
def unit : Nat := 2 ^ uE
theorem unit_pos : 0 < unit := Nat.two_pow_pos uE

/-- what has few digits is a rung's magnitude -/
theorem repr {q j : Nat} (hq : q ≤ 2 ^ 53) (hj : j ≤ 1900) : ∃ r, r ≤ infR ∧ magv r = q * 2 ^ j := by
  have main : ∀ q j, 0 < q → q < 2 ^ 53 → j ≤ 1901 → ∃ r, r ≤ infR ∧ magv r = q * 2 ^ j := by
    intro q j h0 hq hj
    have hl : q.log2 < 53 := (Nat.log2_lt (by omega)).2 hq
    have h1 := log2_le (n := q) (by omega)
    have h2 := log2_gt (n := q)
    generalize q.log2 = l at *
    by_cases hs : l + j < 52
    · have hlt : q * 2 ^ j < 2 ^ 52 := by
        have a : q * 2 ^ j < 2 ^ (l + 1) * 2 ^ j := Nat.mul_lt_mul_of_pos_right h2 (Nat.two_pow_pos j)
        rw [← Nat.pow_add] at a
        exact Nat.lt_of_lt_of_le a (Nat.pow_le_pow_right (by omega) (by omega))
      refine ⟨q * 2 ^ j, by unfold infR; omega, ?_⟩
      unfold magv
      rw [if_pos hlt]
    · obtain ⟨Q, hQ⟩ : ∃ Q, Q = q * 2 ^ (52 - l) := ⟨_, rfl⟩
      have hQ1 : 2 ^ 52 ≤ Q := by
        rw [hQ]
        have a : 2 ^ l * 2 ^ (52 - l) ≤ q * 2 ^ (52 - l) := Nat.mul_le_mul_right _ h1
        rw [← Nat.pow_add, show l + (52 - l) = 52 by omega] at a
        exact a
      have hQ2 : Q < 2 ^ 53 := by
        rw [hQ]
        have a : q * 2 ^ (52 - l) < 2 ^ (l + 1) * 2 ^ (52 - l) := Nat.mul_lt_mul_of_pos_right h2 (Nat.two_pow_pos _)
        rw [← Nat.pow_add, show l + 1 + (52 - l) = 53 by omega] at a
        exact a
      have he : q * 2 ^ j = Q * 2 ^ (l + j - 52) := by
        rw [hQ, Nat.mul_assoc, ← Nat.pow_add, show 52 - l + (l + j - 52) = j by omega]
      have hk : l + j - 52 ≤ 1901 := by omega
      rw [he]
      generalize l + j - 52 = k at *
      refine ⟨(k + 1) * 2 ^ 52 + (Q - 2 ^ 52), by unfold infR; omega, ?_⟩
      unfold magv
      rw [if_neg (by omega), show ((k + 1) * 2 ^ 52 + (Q - 2 ^ 52)) % 2 ^ 52 = Q - 2 ^ 52 by omega, show ((k + 1) * 2 ^ 52 + (Q - 2 ^ 52)) / 2 ^ 52 = k + 1 by omega, Nat.add_sub_cancel, show 2 ^ 52 + (Q - 2 ^ 52) = Q by omega]
  by_cases h0 : q = 0
  · exact ⟨0, Nat.zero_le _, by rw [h0, Nat.zero_mul, magv_zero]⟩
  · by_cases h1 : q = 2 ^ 53
    · obtain ⟨r, hr, hm⟩ := main (2 ^ 52) (j + 1) (by omega) (by omega) (by omega)
      refine ⟨r, hr, ?_⟩
      rw [hm, h1, Nat.pow_succ 2 j, show (2 : Nat) ^ 53 = 2 ^ 52 * 2 by rfl, Nat.mul_assoc, Nat.mul_comm 2]
    · exact main q j (by omega) (by omega) (by omega)

theorem rne_repr {q j : Nat} (hq : q ≤ 2 ^ 53) (hj : j ≤ 1900) : magv (rne (q * 2 ^ j)) = q * 2 ^ j ∧ rne (q * 2 ^ j) ≤ infR := by
  obtain ⟨r, hr, hm⟩ := repr hq hj
  rw [← hm, rne_magv hr]
  exact ⟨rfl, hr⟩

theorem cut_zero (s : Bool) (m k : Nat) : Ieee.Toward.zero.cut s m k = m / 2 ^ k := by
  unfold Ieee.Toward.cut
  simp only [Nat.one_shiftLeft, Bool.toNat_false, Nat.add_zero]
  by_cases h : k ≤ m.log2 + 2
  · rw [Nat.min_eq_left h]
  · rw [Nat.min_eq_right (by omega)]
    have a : m < 2 ^ (m.log2 + 2) := Nat.lt_of_lt_of_le log2_gt (Nat.pow_le_pow_right (by omega) (by omega))
    have b : m < 2 ^ k := Nat.lt_of_lt_of_le a (Nat.pow_le_pow_right (by omega) (by omega))
    rw [Nat.div_eq_of_lt a, Nat.div_eq_of_lt b]
theorem cut_down (s : Bool) (m k : Nat) : Ieee.Toward.down.cut s m k = m / 2 ^ k + (if s = true ∧ m % 2 ^ k ≠ 0 then 1 else 0) := by
  unfold Ieee.Toward.cut
  simp only [Nat.one_shiftLeft]
  by_cases h : k ≤ m.log2 + 2
  · rw [Nat.min_eq_left h]
    cases s <;> by_cases h0 : m % 2 ^ k = 0 <;> simp [h0]
  · rw [Nat.min_eq_right (by omega)]
    have a : m < 2 ^ (m.log2 + 2) := Nat.lt_of_lt_of_le log2_gt (Nat.pow_le_pow_right (by omega) (by omega))
    have b : m < 2 ^ k := Nat.lt_of_lt_of_le a (Nat.pow_le_pow_right (by omega) (by omega))
    rw [Nat.div_eq_of_lt a, Nat.div_eq_of_lt b, Nat.mod_eq_of_lt a, Nat.mod_eq_of_lt b]
    cases s <;> by_cases h0 : m = 0 <;> simp [h0]

/-- a finite word's number, with few digits -/
theorem read_few {u : Nat} (h : rung u < infR) : ∃ m e : Nat, Ieee.double.read u = .number (sgn u) m (-1074 + (e : Int)) ∧ m * 2 ^ e = magv (rung u) ∧ m < 2 ^ 53 := by
  rw [read_eq]
  by_cases h1 : rung u < 2 ^ 52
  · rw [if_pos h1]
    exact ⟨rung u, 0, by simp, by simp [magv, h1], by omega⟩
  · rw [if_neg h1, if_pos (show rung u < 2047 * 2 ^ 52 from h)]
    exact ⟨_, _, rfl, by unfold magv; rw [if_neg h1], by omega⟩

/-- a number's whole part, cut to zero, and downwards, in size -/
theorem whole_cut (s : Bool) (m e : Nat) : Ieee.Toward.zero.cut s (m <<< (-1074 + (e : Int)).toNat) (-(-1074 + (e : Int))).toNat = m * 2 ^ e / unit := by
  have hu := uE_eq
  rw [cut_zero, Nat.shiftLeft_eq]
  unfold unit
  rcases Nat.le_total uE e with h | h
  · rw [show (-1074 + (e : Int)).toNat = e - uE by omega, show (-(-1074 + (e : Int))).toNat = 0 by omega, Nat.pow_zero, Nat.div_one]
    rw [show m * 2 ^ e = m * 2 ^ (e - uE) * 2 ^ uE by rw [Nat.mul_assoc, ← Nat.pow_add, Nat.sub_add_cancel h], Nat.mul_div_cancel _ (Nat.two_pow_pos _)]
  · rw [show (-1074 + (e : Int)).toNat = 0 by omega, show (-(-1074 + (e : Int))).toNat = uE - e by omega, Nat.pow_zero, Nat.mul_one]
    rw [show uE = uE - e + e by omega, Nat.pow_add, Nat.add_sub_cancel, Nat.mul_div_mul_right _ _ (Nat.two_pow_pos e)]
theorem floor_cut (s : Bool) (m e : Nat) : Ieee.Toward.down.cut s (m <<< (-1074 + (e : Int)).toNat) (-(-1074 + (e : Int))).toNat = m * 2 ^ e / unit + (if s = true ∧ m * 2 ^ e % unit ≠ 0 then 1 else 0) := by
  have hu := uE_eq
  have hz := whole_cut s m e
  rw [cut_zero] at hz
  rw [cut_down, hz]
  congr 2
  have : (m <<< (-1074 + (e : Int)).toNat % 2 ^ (-(-1074 + (e : Int))).toNat = 0) ↔ (m * 2 ^ e % unit = 0) := by
    rw [Nat.shiftLeft_eq]
    unfold unit
    rcases Nat.le_total uE e with h | h
    · rw [show (-1074 + (e : Int)).toNat = e - uE by omega, show (-(-1074 + (e : Int))).toNat = 0 by omega, Nat.pow_zero, Nat.mod_one]
      rw [show m * 2 ^ e = m * 2 ^ (e - uE) * 2 ^ uE by rw [Nat.mul_assoc, ← Nat.pow_add, Nat.sub_add_cancel h], Nat.mul_mod_left]
    · rw [show (-1074 + (e : Int)).toNat = 0 by omega, show (-(-1074 + (e : Int))).toNat = uE - e by omega, Nat.pow_zero, Nat.mul_one]
      rw [show uE = uE - e + e by omega, Nat.pow_add, Nat.add_sub_cancel, Nat.mul_mod_mul_right]
      have := Nat.two_pow_pos e
      constructor
      · intro h; rw [h, Nat.zero_mul]
      · intro h
        rcases Nat.mul_eq_zero.1 h with h | h
        · exact h
        · omega
  simp only [ne_eq, this]

/-- a number's bits, made whole -/
def truncN (u : Nat) : Nat := wd (sgn u) (rne (magv (rung u) / unit * unit))
def floorN (u : Nat) : Nat := wd (sgn u) (rne ((magv (rung u) / unit + (if sgn u = true ∧ magv (rung u) % unit ≠ 0 then 1 else 0)) * unit))

theorem whole_write (s : Bool) (q : Nat) : Ieee.double.write (.number s q 0) = wd s (rne (q * unit)) := by
  have hu := uE_eq
  have := nearest_eq s q uE
  simp only [Ieee.Format.write]
  rw [show (0 : Int) = -1074 + (uE : Int) by omega, this]
  rfl
theorem trunc_eq {u : Nat} (h : rung u < infR) : Ieee.double.write ((Ieee.double.read u).integral .zero) = truncN u := by
  obtain ⟨m, e, h1, h2, _⟩ := read_few h
  rw [h1]
  simp only [Ieee.Datum.integral]
  rw [whole_cut _ _ _, h2, whole_write]
  rfl
theorem floor_eq {u : Nat} (h : rung u < infR) : Ieee.double.write ((Ieee.double.read u).integral .down) = floorN u := by
  obtain ⟨m, e, h1, h2, _⟩ := read_few h
  rw [h1]
  simp only [Ieee.Datum.integral]
  rw [floor_cut _ _ _, h2, whole_write]
  rfl
theorem toInt_eq {u : Nat} (h : rung u < infR) : (Ieee.double.read u).toInt .zero = some (if sgn u then -((magv (rung u) / unit : Nat) : Int) else (magv (rung u) / unit : Nat)) := by
  obtain ⟨m, e, h1, h2, _⟩ := read_few h
  rw [h1]
  simp only [Ieee.Datum.toInt, Ieee.Datum.integral]
  rw [whole_cut _ _ _, h2]
  simp [Ieee.signed, Nat.shiftLeft_eq]

/-- whole, and at most 2^63 -/
theorem rung_small {u : Nat} (h : magv (rung u) ≤ 2 ^ 63 * unit) : rung u < infR := by
  by_cases h1 : rung u < infR
  · exact h1
  · exfalso
    have h2 : magv infR ≤ magv (rung u) := by
      rcases Nat.lt_or_eq_of_le (Nat.le_of_not_lt h1) with h3 | h3
      · exact Nat.le_of_lt (magv_lt h3)
      · rw [h3]; exact Nat.le_refl _
    have h3 : 2 ^ 63 * unit < magv infR := by decide +kernel
    omega
/-- the whole part of what is a double is one -/
theorem few_whole {u : Nat} (h : rung u < infR) (hb : magv (rung u) ≤ 2 ^ 63 * unit) {q : Nat} (hq : q = magv (rung u) / unit ∨ (q = magv (rung u) / unit + 1 ∧ magv (rung u) % unit ≠ 0)) : magv (rne (q * unit)) = q * unit ∧ rne (q * unit) ≤ infR := by
  obtain ⟨m, e, h1, h2, h3⟩ := read_few h
  rw [← h2] at hb hq
  have hu := uE_eq
  rcases Nat.le_total uE e with he | he
  · have hd : m * 2 ^ e = m * 2 ^ (e - uE) * unit := by
      unfold unit
      rw [Nat.mul_assoc, ← Nat.pow_add, Nat.sub_add_cancel he]
    rcases hq with hq | ⟨_, hq⟩
    · rw [hd, Nat.mul_div_cancel _ unit_pos] at hq
      rw [hq, ← hd]
      by_cases hj : e ≤ 1900
      · exact rne_repr (by omega) hj
      · by_cases h0 : m = 0
        · rw [h0, Nat.zero_mul]
          exact rne_repr (q := 0) (j := 0) (by omega) (by omega)
        · exfalso
          have a : 1 * 2 ^ (64 + uE) ≤ m * 2 ^ e := Nat.mul_le_mul (by omega) (Nat.pow_le_pow_right (by omega) (by omega))
          rw [Nat.pow_add] at a
          have := Nat.two_pow_pos uE
          unfold unit at hb
          omega
    · rw [hd, Nat.mul_mod_left] at hq
      exact absurd rfl hq
  · have hle : m * 2 ^ e / unit ≤ m / 2 ^ (uE - e) := by
      unfold unit
      rw [show uE = uE - e + e by omega, Nat.pow_add, Nat.add_sub_cancel, Nat.mul_div_mul_right _ _ (Nat.two_pow_pos e)]
      exact Nat.le_refl _
    have hl : m / 2 ^ (uE - e) ≤ m := Nat.div_le_self ..
    exact rne_repr (by omega) (by omega)
end Go.Proofs.Ytmlcpedbpjghhaa
