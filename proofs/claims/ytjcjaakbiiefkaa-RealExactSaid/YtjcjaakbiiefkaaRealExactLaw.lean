/-
  Whole numbers against doubles: plain laws of the program's own.
-/
import Derived.Test.YtjcjaakbiiefkaaRealSumsLaw
import Derived.Test.YtjcjaakbiiefkaaRealW12
namespace Go.Proofs.Ytjcjaakbiiefkaa

theorem valN_fix {u : Nat} (h : isNan u = false) : valN (key u) = key u := by
  have hr := rung_le h
  unfold valN
  rw [key_abs, rne_magv (by unfold infR at hr; omega)]
  have hp : (0 : Int) ≤ magv (rung u) := by omega
  unfold key
  cases sgn u
  · simp only [Bool.false_eq_true, if_false]; rw [if_neg (by omega)]
  · simp only [if_true]
    by_cases h0 : -(magv (rung u) : Int) < 0
    · rw [if_pos h0]
    · rw [if_neg h0]; omega
theorem unit_eq : 2 ^ uE = unit := by delta unit; exact rfl
theorem natAbs_unit (n : Int) : (n * (unit : Int)).natAbs = n.natAbs * unit := by rw [Int.natAbs_mul, Int.natAbs_natCast]
theorem ofInt_key (n : Int) : key (ofIntN n) = valN (n * (unit : Int)) := by
  unfold ofIntN
  rw [← natAbs_unit]
  refine valN_key fun h => ?_
  have hm := mul_unit (n := n)
  by_cases h1 : n < 0
  · rw [decide_eq_true h1, decide_eq_true (hm.2 h1)]
  · rw [decide_eq_false h1, decide_eq_false]
    have : 0 ≤ n * (unit : Int) := Int.mul_nonneg (by omega) (by omega)
    omega
theorem ofInt_nan (n : Int) : isNan (ofIntN n) = false := by
  unfold ofIntN isNan
  rw [rung_wd _ (rne_lt _)]
  have := rne_le (n.natAbs * unit)
  simp; omega
theorem ofInt_lt (n : Int) : ofIntN n < 18446744073709551616 := by
  have := wd_lt (decide (n < 0)) (rne_lt (n.natAbs * unit))
  unfold ofIntN; omega
theorem ofInt_fin {n : Int} (h : n.natAbs ≤ 2 ^ 62) : rung (ofIntN n) < infR := by
  have hu := uE_eq
  unfold ofIntN
  rw [rung_wd _ (rne_lt _)]
  have h1 : rne (n.natAbs * unit) ≤ rne (2 ^ 62 * unit) := rne_mono (Nat.mul_le_mul_right _ h)
  have h2 := rne_repr (q := 1) (j := 62 + uE) (by omega) (by omega)
  rw [Nat.one_mul, Nat.pow_add, unit_eq] at h2
  have h3 : 2 ^ 63 * unit < magv infR := by decide +kernel
  have h4 : rne (2 ^ 62 * unit) < infR := by
    rcases Nat.lt_or_eq_of_le h2.2 with h | h
    · exact h
    · exfalso
      have h5 := h2.1
      rw [h] at h5
      have := unit_pos
      omega
  omega
theorem ofInt_exact {n : Int} (h : n.natAbs ≤ 2 ^ 53) : key (ofIntN n) = n * (unit : Int) := by
  have hu := uE_eq
  rw [ofInt_key]
  unfold valN
  rw [natAbs_unit]
  have h2 := (rne_repr (q := n.natAbs) (j := uE) h (by omega)).1
  rw [unit_eq] at h2
  clear hu
  rw [h2]
  have hm := natAbs_unit n
  split <;> omega

/-- a double that is a whole number -/
theorem whole_is {n : Int} {u : Nat} (hn : isNan u = false) (h : n.natAbs ≤ 2 ^ 62) (hk : n * (unit : Int) = key u) : isWhole u = true ∧ wholeN u = n := by
  have hp : (0 : Int) < unit := by exact_mod_cast unit_pos
  have hw : isWhole u = true := by
    unfold isWhole withinB
    rw [hn]
    have h1 := key_abs u
    rw [← hk, natAbs_unit] at h1
    have h2 : n.natAbs * unit ≤ 2 ^ 62 * unit := Nat.mul_le_mul_right _ h
    rw [decide_eq_true (p := magv (rung u) % unit = 0) (by rw [← h1, Nat.mul_mod_left])]
    have h3 := key_abs u
    unfold lim
    rw [decide_eq_true (by omega), decide_eq_true (by omega)]
    rfl
  refine ⟨hw, ?_⟩
  unfold wholeN
  rw [hw, if_pos rfl, ← hk, Int.mul_ediv_cancel _ (by omega)]
theorem is_of_whole {n : Int} {u : Nat} (h : isWhole u = true) (hw : wholeN u = n) : n * (unit : Int) = key u := by
  have hp : (0 : Int) < unit := by exact_mod_cast unit_pos
  unfold wholeN at hw
  rw [h, if_pos rfl] at hw
  unfold isWhole at h
  simp only [Bool.and_eq_true, decide_eq_true_eq] at h
  have ha := key_abs u
  have hd : (unit : Int) ∣ key u := Int.natAbs_dvd_natAbs.1 (by rw [Int.natAbs_natCast, ha]; exact Nat.dvd_of_mod_eq_zero h.2)
  rw [← hw]
  exact Int.ediv_mul_cancel hd

theorem cmp_mono {a b c : Int} (h : a ≤ b) : cmpI a c ≤ cmpI b c := by
  unfold cmpI
  split <;> split <;> (try split) <;> (try split) <;> omega
theorem cmp_zero {a b : Int} : cmpI a b = 0 ↔ a = b := by
  unfold cmpI
  split
  · omega
  · split <;> omega
theorem cmp_less {a b : Int} : cmpI a b < 0 ↔ a < b := by
  unfold cmpI
  split
  · omega
  · split <;> omega

/-- what the law asks of two whole numbers and a double -/
structure Asks (a b : Int) (u : Nat) (x y : Int) : Prop where
  lo : -1 ≤ x
  hi : y ≤ 1
  le : x ≤ y
  zero : x = 0 → isWhole u = true ∧ wholeN u = a
  none : x ≠ 0 → isWhole u = true → wholeN u ≠ a
  down : x < 0 → lessB (ofIntN a) u = true ∨ (lessB (ofIntN a) u = false ∧ equalB (ofIntN a) u = true)
  up : 0 < x → lessB (ofIntN a) u = false
theorem asks {a b : Int} {u : Nat} (hn : isNan u = false) (h1 : -4611686018427387904 ≤ a) (h2 : a ≤ b) (h3 : b ≤ 4611686018427387904) : Asks a b u (versN a u) (versN b u) := by
  have hp : (0 : Int) < unit := by exact_mod_cast unit_pos
  have ma : mayN a u = true := by unfold mayN; rw [hn, decide_eq_true (by omega), decide_eq_true (by omega)]; rfl
  have mb : mayN b u = true := by unfold mayN; rw [hn, decide_eq_true (by omega), decide_eq_true (by omega)]; rfl
  rw [vers_yes ma, vers_yes mb]
  have hab : a * (unit : Int) ≤ b * (unit : Int) := Int.mul_le_mul_of_nonneg_right h2 (by omega)
  have hf := ofInt_nan a
  refine ⟨(cmp_bound _ _).1, (cmp_bound _ _).2, cmp_mono hab, fun h => whole_is hn (by omega) (cmp_zero.1 h), fun h hw he => h (cmp_zero.2 (is_of_whole hw he)), fun h => ?_, fun h => ?_⟩
  · have h4 := cmp_less.1 h
    have h5 := valN_mono (Int.le_of_lt h4)
    rw [valN_fix hn, ← ofInt_key] at h5
    unfold lessB equalB
    rw [hf, hn]
    simp only [Bool.not_false, Bool.true_and]
    rcases Int.lt_or_eq_of_le h5 with h6 | h6
    · exact .inl (decide_eq_true h6)
    · exact .inr ⟨decide_eq_false (by omega), decide_eq_true h6⟩
  · have h4 : key u ≤ a * (unit : Int) := by
      by_cases h5 : a * (unit : Int) < key u
      · have := cmp_less.2 h5; omega
      · omega
    have h5 := valN_mono h4
    rw [valN_fix hn, ← ofInt_key] at h5
    exact less_key h5
theorem ofInt_order {a b : Int} (h : a ≤ b) : lessB (ofIntN b) (ofIntN a) = false := by
  refine less_key ?_
  rw [ofInt_key, ofInt_key]
  exact valN_mono (Int.mul_le_mul_of_nonneg_right h (by omega))
theorem ofInt_back {a : Int} (h : a.natAbs ≤ 2 ^ 53) : isWhole (ofIntN a) = true ∧ wholeN (ofIntN a) = a := whole_is (ofInt_nan a) (by omega) (ofInt_exact h).symm
theorem may_num {a : Int} {u : Nat} (h1 : -4611686018427387904 ≤ a) (h2 : a ≤ 4611686018427387904) : mayN a u = !isNan u := by
  unfold mayN; rw [decide_eq_true (by omega), decide_eq_true (by omega)]; simp
end Go.Proofs.Ytjcjaakbiiefkaa
