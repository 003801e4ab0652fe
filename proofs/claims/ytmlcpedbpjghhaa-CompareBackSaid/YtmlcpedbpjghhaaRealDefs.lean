/-
  Doubles as rungs: plain laws on Ieee.double.
-/
import Ieee.Arith
namespace Go.Proofs.Ytmlcpedbpjghhaa

/-- the magnitude of a rung, in units of the least place -/
def magv (r : Nat) : Nat := if r < 2 ^ 52 then r else (2 ^ 52 + r % 2 ^ 52) * 2 ^ (r / 2 ^ 52 - 1)

theorem magv_succ (r : Nat) : magv r < magv (r + 1) := by
  unfold magv
  by_cases h1 : r + 1 < 2 ^ 52
  · rw [if_pos (by omega), if_pos h1]; omega
  · rw [if_neg h1]
    by_cases h2 : r < 2 ^ 52
    · have : r + 1 = 2 ^ 52 := by omega
      rw [if_pos h2, this]
      simp; omega
    · rw [if_neg h2]
      by_cases h3 : (r + 1) % 2 ^ 52 = 0
      · have hq : (r + 1) / 2 ^ 52 = r / 2 ^ 52 + 1 := by omega
        have hm : r % 2 ^ 52 = 2 ^ 52 - 1 := by omega
        have hp : 1 ≤ r / 2 ^ 52 := by omega
        have hw : 2 ^ (r / 2 ^ 52 + 1 - 1) = 2 ^ (r / 2 ^ 52 - 1) * 2 := by
          rw [show r / 2 ^ 52 + 1 - 1 = (r / 2 ^ 52 - 1) + 1 by omega]; exact Nat.pow_succ ..
        rw [h3, hq, hm, hw]
        have := Nat.two_pow_pos (r / 2 ^ 52 - 1)
        generalize 2 ^ (r / 2 ^ 52 - 1) = X at *
        omega
      · have hq : (r + 1) / 2 ^ 52 = r / 2 ^ 52 := by omega
        have hm : (r + 1) % 2 ^ 52 = r % 2 ^ 52 + 1 := by omega
        rw [hq, hm]
        have := Nat.two_pow_pos (r / 2 ^ 52 - 1)
        exact Nat.mul_lt_mul_of_pos_right (by omega) this

theorem magv_lt {a b : Nat} (h : a < b) : magv a < magv b := by
  induction b with
  | zero => omega
  | succ b ih =>
    rcases Nat.lt_or_ge a b with h1 | h1
    · exact Nat.lt_trans (ih h1) (magv_succ b)
    · obtain rfl : a = b := by omega
      exact magv_succ a

theorem magv_inj {a b : Nat} (h : magv a = magv b) : a = b := by
  rcases Nat.lt_trichotomy a b with h1 | h1 | h1
  · have := magv_lt h1; omega
  · exact h1
  · have := magv_lt h1; omega

/-- the rung and the sign of a word -/
def rung (u : Nat) : Nat := u % 2 ^ 63
def sgn (u : Nat) : Bool := u / 2 ^ 63 % 2 == 1
/-- the number that a word stands for, in units of the least place; an infinity as the number behind the greatest -/
def key (u : Nat) : Int := if sgn u then -(magv (rung u) : Int) else magv (rung u)
def isNan (u : Nat) : Bool := decide (2047 * 2 ^ 52 < rung u)

theorem read_eq (u : Nat) : Ieee.double.read u =
    if rung u < 2 ^ 52 then .number (sgn u) (rung u) (-1074)
    else if rung u < 2047 * 2 ^ 52 then .number (sgn u) (2 ^ 52 + rung u % 2 ^ 52) (-1074 + (rung u / 2 ^ 52 - 1 : Nat))
    else if rung u = 2047 * 2 ^ 52 then .infinity (sgn u) else .nan (sgn u) (rung u - 2047 * 2 ^ 52) := rfl

theorem nan_iff (u : Nat) : (Ieee.double.read u).isNaN = isNan u := by
  rw [read_eq]
  unfold isNan
  split
  · simp [Ieee.Datum.isNaN]; omega
  · split
    · simp [Ieee.Datum.isNaN]; omega
    · split
      · simp [Ieee.Datum.isNaN]; omega
      · simp [Ieee.Datum.isNaN]; omega

/-- a finite word's number -/
theorem read_fin {u : Nat} (h : rung u < 2047 * 2 ^ 52) : ∃ m e : Nat, Ieee.double.read u = .number (sgn u) m (-1074 + (e : Int)) ∧ m * 2 ^ e = magv (rung u) := by
  rw [read_eq]
  by_cases h1 : rung u < 2 ^ 52
  · rw [if_pos h1]
    exact ⟨rung u, 0, by simp, by simp [magv, h1]⟩
  · rw [if_neg h1, if_pos h]
    exact ⟨_, _, rfl, by unfold magv; rw [if_neg h1]⟩
theorem read_inf {u : Nat} (h : rung u = 2047 * 2 ^ 52) : Ieee.double.read u = .infinity (sgn u) := by
  rw [read_eq, if_neg (by omega), if_neg (by omega), if_pos h]

theorem cmp_mul (x y : Int) (k : Nat) (hk : 0 < k) : compare (x * k) (y * k) = compare x y := by
  rcases Int.lt_trichotomy x y with h | h | h
  · rw [Int.compare_eq_lt.2 h, Int.compare_eq_lt.2 (Int.mul_lt_mul_of_pos_right h (by omega))]
  · subst h; simp
  · rw [Int.compare_eq_gt.2 h, Int.compare_eq_gt.2 (Int.mul_lt_mul_of_pos_right h (by omega))]

theorem signed_eq (s : Bool) (m k : Nat) : Ieee.signed s m k = (if s then -1 else 1) * ((m * 2 ^ k : Nat) : Int) := by
  unfold Ieee.signed
  cases s <;> simp [Nat.shiftLeft_eq]

theorem scale_key (s : Bool) (m e b : Nat) (h : b ≤ e) : Ieee.signed s m ((-1074 + (e : Int)) - (-1074 + (b : Int))).toNat * ((2 ^ b : Nat) : Int) = (if s then -1 else 1) * ((m * 2 ^ e : Nat) : Int) := by
  rw [signed_eq, show ((-1074 + (e : Int)) - (-1074 + (b : Int))).toNat = e - b by omega, Int.mul_assoc, ← Int.natCast_mul, Nat.mul_assoc, ← Nat.pow_add, Nat.sub_add_cancel h]

theorem key_sgn (u : Nat) : key u = (if sgn u then -1 else 1) * ((magv (rung u) : Nat) : Int) := by
  unfold key; split <;> omega

theorem order_fin {a b : Nat} (ha : rung a < 2047 * 2 ^ 52) (hb : rung b < 2047 * 2 ^ 52) : Ieee.double.order a b = some (compare (key a) (key b)) := by
  obtain ⟨m, e, h1, h2⟩ := read_fin ha
  obtain ⟨n, f, h3, h4⟩ := read_fin hb
  unfold Ieee.Format.order
  rw [h1, h3]
  simp only [Ieee.Datum.order]
  obtain ⟨c, hc, hce, hcf⟩ : ∃ c : Nat, min (-1074 + (e : Int)) (-1074 + (f : Int)) = -1074 + (c : Int) ∧ c ≤ e ∧ c ≤ f := by
    rcases Nat.le_total e f with h | h
    · exact ⟨e, by omega, Nat.le_refl _, h⟩
    · exact ⟨f, by omega, h, Nat.le_refl _⟩
  rw [hc, ← cmp_mul _ _ (2 ^ c) (Nat.two_pow_pos c), scale_key _ _ _ _ hce, scale_key _ _ _ _ hcf, h2, h4, key_sgn, key_sgn]

theorem order_key {a b : Nat} (ha : isNan a = false) (hb : isNan b = false) : Ieee.double.order a b = some (compare (key a) (key b)) := by
  simp only [isNan, decide_eq_false_iff_not, Nat.not_lt] at ha hb
  rcases Nat.lt_or_eq_of_le ha with ha | ha
  · rcases Nat.lt_or_eq_of_le hb with hb | hb
    · exact order_fin ha hb
    · obtain ⟨m, e, h1, h2⟩ := read_fin ha
      unfold Ieee.Format.order
      rw [h1, read_inf hb]
      simp only [Ieee.Datum.order]
      have hm := magv_lt (show rung a < rung b by omega)
      cases hs : sgn b with
      | true =>
        have : key b < key a := by simp only [key, hs, if_true]; split <;> omega
        simp [Int.compare_eq_gt.2 this]
      | false =>
        have : key a < key b := by simp only [key, hs, Bool.false_eq_true, if_false]; split <;> omega
        simp [Int.compare_eq_lt.2 this]
  · rcases Nat.lt_or_eq_of_le hb with hb | hb
    · obtain ⟨m, e, h1, h2⟩ := read_fin hb
      unfold Ieee.Format.order
      rw [h1, read_inf ha]
      simp only [Ieee.Datum.order]
      have hm := magv_lt (show rung b < rung a by omega)
      cases hs : sgn a with
      | true =>
        have : key a < key b := by simp only [key, hs, if_true]; split <;> omega
        simp [Int.compare_eq_lt.2 this]
      | false =>
        have : key b < key a := by simp only [key, hs, Bool.false_eq_true, if_false]; split <;> omega
        simp [Int.compare_eq_gt.2 this]
    · unfold Ieee.Format.order
      rw [read_inf ha, read_inf hb]
      simp only [Ieee.Datum.order]
      have hr : rung a = rung b := by omega
      have hp : 0 < magv (rung b) := Nat.lt_of_le_of_lt (Nat.zero_le _) (magv_lt (show 0 < rung b by omega))
      simp only [key, hr]
      cases sgn a <;> cases sgn b
      · simp
      · rw [Int.compare_eq_gt.2 (by simp; omega)]; rfl
      · rw [Int.compare_eq_lt.2 (by simp; omega)]; rfl
      · simp

end Go.Proofs.Ytmlcpedbpjghhaa
