/-
  Whole parts by keys; how a whole number stands to a double.
-/
import Derived.Test.YtmlcpedbpjghhaaRealIntLaw
namespace Go.Proofs.Ytmlcpedbpjghhaa

/-- the greatest whole number, in least units -/
def lim : Int := 2 ^ 62 * (unit : Int)
def withinB (u : Nat) : Bool := !isNan u && decide (-lim ≤ key u) && decide (key u ≤ lim)
/-- how numbers stand to each other -/
def cmpI (a b : Int) : Int := if a < b then -1 else if a = b then 0 else 1

theorem key_abs (u : Nat) : (key u).natAbs = magv (rung u) := by unfold key; split <;> omega
theorem within_small {u : Nat} (h : withinB u = true) : magv (rung u) ≤ 2 ^ 62 * unit ∧ rung u < infR ∧ isNan u = false := by
  unfold withinB at h
  simp only [Bool.and_eq_true, Bool.not_eq_true', decide_eq_true_eq] at h
  have hk := key_abs u
  have h1 : magv (rung u) ≤ 2 ^ 62 * unit := by
    have h2 := h.1.2
    have h3 := h.2
    unfold lim at h2 h3
    omega
  exact ⟨h1, rung_small (by omega), h.1.1⟩

theorem key_trunc {u : Nat} (h : withinB u = true) : (key u = key (truncN u)) ↔ magv (rung u) % unit = 0 := by
  obtain ⟨h1, h2, _⟩ := within_small h
  obtain ⟨h4, h5⟩ := few_whole h2 (by omega) (.inl rfl)
  unfold truncN
  rw [key_wd _ (by unfold infR at h5; omega), h4]
  have hd := Nat.div_add_mod (magv (rung u)) unit
  rw [Nat.mul_comm] at hd
  unfold key
  generalize magv (rung u) / unit * unit = Q at *
  generalize magv (rung u) % unit = R at *
  split <;> omega
theorem trunc_nan {u : Nat} (h : withinB u = true) : isNan (truncN u) = false ∧ rung (truncN u) ≤ infR := by
  obtain ⟨h1, h2, _⟩ := within_small h
  obtain ⟨h4, h5⟩ := few_whole h2 (by omega) (.inl rfl)
  unfold truncN isNan
  rw [rung_wd _ (by unfold infR at h5; omega)]
  unfold infR at *
  exact ⟨by simp; omega, h5⟩

theorem neg_div {A : Nat} : (-(A : Int)) / (unit : Int) = -((A / unit + (if A % unit ≠ 0 then 1 else 0) : Nat) : Int) := by
  have hp : (0 : Int) < unit := by exact_mod_cast unit_pos
  have hd := Nat.div_add_mod A unit
  have hm := Nat.mod_lt A unit_pos
  have e : (A : Int) = (unit : Int) * ((A / unit : Nat) : Int) + ((A % unit : Nat) : Int) := by exact_mod_cast hd.symm
  rw [e]
  generalize A / unit = q at *
  generalize A % unit = r at *
  by_cases h : r = 0
  · subst h
    rw [if_neg (by omega)]
    simp only [Nat.add_zero, Int.natCast_zero, Int.add_zero]
    rw [← Int.mul_neg, Int.mul_ediv_cancel_left _ (by omega)]
  · rw [if_pos h]
    have : -((unit : Int) * (q : Int) + (r : Int)) = ((unit : Int) - r) + (-(((q + 1 : Nat) : Int))) * (unit : Int) := by
      rw [Int.natCast_add, Int.neg_mul, Int.add_mul, Int.mul_comm (unit : Int)]; omega
    rw [this, Int.add_mul_ediv_right _ _ (by omega), Int.ediv_eq_zero_of_lt (by omega) (by omega), Int.zero_add]
theorem key_div (u : Nat) : key u / (unit : Int) = if sgn u then -((magv (rung u) / unit + (if magv (rung u) % unit ≠ 0 then 1 else 0) : Nat) : Int) else ((magv (rung u) / unit : Nat) : Int) := by
  unfold key
  split
  · exact neg_div
  · exact (Int.natCast_ediv _ _).symm

theorem key_floor {u : Nat} (h : withinB u = true) : key (floorN u) = key u / (unit : Int) * (unit : Int) ∧ isNan (floorN u) = false ∧ rung (floorN u) ≤ infR := by
  obtain ⟨h1, h2, _⟩ := within_small h
  have hq : ∀ c, (c = if sgn u = true ∧ magv (rung u) % unit ≠ 0 then 1 else 0) → magv (rne ((magv (rung u) / unit + c) * unit)) = (magv (rung u) / unit + c) * unit ∧ rne ((magv (rung u) / unit + c) * unit) ≤ infR := by
    intro c hc
    refine few_whole h2 (by omega) ?_
    split at hc
    · rename_i hh; exact .inr ⟨by rw [hc], hh.2⟩
    · exact .inl (by rw [hc]; rfl)
  obtain ⟨h4, h5⟩ := hq _ rfl
  have h6 : rung (floorN u) ≤ infR := by
    unfold floorN
    rw [rung_wd _ (by unfold infR at h5; omega)]
    exact h5
  refine ⟨?_, ?_, h6⟩
  · unfold floorN
    rw [key_wd _ (by unfold infR at h5; omega), h4, key_div]
    cases hs : sgn u
    · simp
    · simp [Int.neg_mul]
  · unfold isNan; unfold infR at h6; simp; omega

theorem lim_keys : key 4886405595696988160 = lim ∧ key 14109777632551763968 = -lim := by
  unfold lim
  exact ⟨by decide +kernel, by decide +kernel⟩

theorem floor_int {u : Nat} (h : withinB u = true) : (if sgn (floorN u) then -((magv (rung (floorN u)) / unit : Nat) : Int) else ((magv (rung (floorN u)) / unit : Nat) : Int)) = key u / (unit : Int) ∧ -(2 ^ 62) ≤ key u / (unit : Int) ∧ key u / (unit : Int) ≤ 2 ^ 62 := by
  have hp : (0 : Int) < unit := by exact_mod_cast unit_pos
  obtain ⟨hk, _, hr⟩ := key_floor h
  refine ⟨?_, ?_, ?_⟩
  · have : key (floorN u) / (unit : Int) = key u / (unit : Int) := by rw [hk, Int.mul_ediv_cancel _ (by omega)]
    rw [← this, key_div]
    have hm : magv (rung (floorN u)) % unit = 0 := by
      have := key_abs (floorN u)
      rw [hk, Int.natAbs_mul, Int.natAbs_natCast] at this
      rw [← this, Nat.mul_mod_left]
    rw [hm]; simp
  · unfold withinB lim at h
    simp only [Bool.and_eq_true, decide_eq_true_eq] at h
    refine Int.le_ediv_of_mul_le hp ?_
    have := h.1.2
    rw [Int.neg_mul]; exact this
  · unfold withinB lim at h
    simp only [Bool.and_eq_true, decide_eq_true_eq] at h
    refine Int.ediv_le_of_le_mul hp ?_
    exact h.2

/-- what is told of a whole number and a double, by the double's floor -/
theorem versus_floor (n : Int) (u : Nat) : cmpI (n * (unit : Int)) (key u) = if n < key u / (unit : Int) then -1 else if n = key u / (unit : Int) ∧ key u / (unit : Int) * (unit : Int) < key u then -1 else if key u / (unit : Int) < n then 1 else 0 := by
  have hp : (0 : Int) < unit := by exact_mod_cast unit_pos
  have h1 := Int.ediv_mul_le (key u) (show (unit : Int) ≠ 0 by omega)
  have h2 := Int.lt_ediv_add_one_mul_self (key u) hp
  rw [Int.add_mul, Int.one_mul] at h2
  generalize key u / (unit : Int) = F at *
  generalize key u = K at *
  unfold cmpI
  rcases Int.lt_trichotomy n F with h | h | h
  · have : n * (unit : Int) < F * (unit : Int) := Int.mul_lt_mul_of_pos_right h hp
    rw [if_pos (by omega), if_pos h]
  · subst h
    rw [if_neg (Int.lt_irrefl n)]
    by_cases hk : n * (unit : Int) < K
    · rw [if_pos hk, if_pos ⟨rfl, hk⟩]
    · rw [if_neg hk, if_pos (by omega), if_neg (fun x => hk x.2), if_neg (Int.lt_irrefl n)]
  · have h3 : (F + 1) * (unit : Int) ≤ n * (unit : Int) := Int.mul_le_mul_of_nonneg_right (by omega) (by omega)
    rw [Int.add_mul, Int.one_mul] at h3
    rw [if_neg (by omega), if_neg (by omega), if_neg (by omega), if_neg (fun x => by omega), if_pos h]

def mayN (n : Int) (u : Nat) : Bool := !isNan u && decide (-(2 ^ 62) ≤ n) && decide (n ≤ 2 ^ 62)
def versN (n : Int) (u : Nat) : Int := if mayN n u then cmpI (n * (unit : Int)) (key u) else 0
def ofIntN (n : Int) : Nat := wd (decide (n < 0)) (rne (n.natAbs * unit))
def isWhole (u : Nat) : Bool := withinB u && decide (magv (rung u) % unit = 0)
def wholeN (u : Nat) : Int := if isWhole u then key u / (unit : Int) else 0

theorem ofInt_eq (n : Int) : Ieee.double.nearest (decide (n < 0)) n.natAbs 0 = ofIntN n := by
  have := whole_write (decide (n < 0)) n.natAbs
  simp only [Ieee.Format.write] at this
  exact this
theorem whole_int {u : Nat} (h : isWhole u = true) : (if sgn u then -((magv (rung u) / unit : Nat) : Int) else ((magv (rung u) / unit : Nat) : Int)) = key u / (unit : Int) := by
  unfold isWhole at h
  simp only [Bool.and_eq_true, decide_eq_true_eq] at h
  rw [key_div, h.2]; simp
theorem far_pos {n : Int} {u : Nat} (h : withinB u = false) (hm : mayN n u = true) : cmpI (n * (unit : Int)) (key u) = if 0 < key u then -1 else 1 := by
  have hp : (0 : Int) < unit := by exact_mod_cast unit_pos
  unfold mayN at hm
  simp only [Bool.and_eq_true, Bool.not_eq_true', decide_eq_true_eq] at hm
  have hw : ¬ (-lim ≤ key u ∧ key u ≤ lim) := by
    rintro ⟨h1, h2⟩
    unfold withinB at h
    rw [hm.1.1, decide_eq_true h1, decide_eq_true h2] at h
    cases h
  have h1 : n * (unit : Int) ≤ 2 ^ 62 * (unit : Int) := Int.mul_le_mul_of_nonneg_right hm.2 (by omega)
  have h2 : -(2 ^ 62) * (unit : Int) ≤ n * (unit : Int) := Int.mul_le_mul_of_nonneg_right hm.1.2 (by omega)
  rw [Int.neg_mul] at h2
  have hl : (0 : Int) < lim := by unfold lim; exact Int.mul_pos (by omega) hp
  change n * (unit : Int) ≤ lim at h1
  change -lim ≤ _ at h2
  unfold cmpI
  by_cases hk : 0 < key u
  · rw [if_pos hk, if_pos (by omega)]
  · rw [if_neg hk, if_neg (by omega), if_neg (by omega)]
end Go.Proofs.Ytmlcpedbpjghhaa
