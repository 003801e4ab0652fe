/-
  Order, signs, ranks: plain laws.
-/
import Derived.Test.YtmlcpedbpjghhaaRealW4
namespace Go.Proofs.Ytmlcpedbpjghhaa

theorem cleanU_nan : isNan cleanU = true := by decide
theorem negN_lt {u : Nat} (hu : u < 18446744073709551616) : negN u < 18446744073709551616 := by
  rw [← neg_turn hu]; exact cleanN_lt (turnN_lt hu)
theorem negN_nan {u : Nat} (hu : u < 18446744073709551616) : isNan (negN u) = isNan u := by
  rw [← neg_turn hu]
  unfold cleanN
  rw [nan_turn hu]
  cases h : isNan u
  · rw [if_neg (by simp), nan_turn hu, h]
  · rw [if_pos rfl, cleanU_nan]
theorem negN_turn {u : Nat} (hu : u < 18446744073709551616) (h : isNan u = false) : negN u = turnN u := by
  rw [← neg_turn hu]
  unfold cleanN
  rw [nan_turn hu, h, if_neg (by simp)]
theorem key_turn {u : Nat} (hu : u < 18446744073709551616) : key (turnN u) = -key u := by
  unfold key
  rw [sgn_turn hu, rung_turn hu]
  cases sgn u <;> simp
theorem key_negN {u : Nat} (hu : u < 18446744073709551616) (h : isNan u = false) : key (negN u) = -key u := by
  rw [negN_turn hu h, key_turn hu]
theorem less_negN {a b : Nat} (ha : a < 18446744073709551616) (hb : b < 18446744073709551616) : lessB (negN b) (negN a) = lessB a b := by
  unfold lessB
  rw [negN_nan ha, negN_nan hb]
  cases na : isNan a
  · cases nb : isNan b
    · rw [key_negN ha na, key_negN hb nb]
      simp only [Bool.not_false, Bool.true_and]
      rw [Bool.eq_iff_iff]
      simp only [decide_eq_true_eq]
      omega
    · simp
  · simp
theorem turn_turn {u : Nat} (hu : u < 18446744073709551616) : turnN (turnN u) = u :=
  wd_ext (turnN_lt (turnN_lt hu)) (by omega) (by rw [sgn_turn (turnN_lt hu), sgn_turn hu, Bool.not_not]) (by rw [rung_turn (turnN_lt hu), rung_turn hu])
theorem neg_negN {u : Nat} (hu : u < 18446744073709551616) : negN (negN u) = cleanN u := by
  cases h : isNan u
  · rw [negN_turn hu h, negN_turn (turnN_lt hu) (by rw [nan_turn hu, h]), turn_turn hu, sgn_cleanN h]
  · have h1 : negN u = cleanU := by unfold negN; rw [h]; rfl
    rw [h1]
    unfold cleanN
    rw [h]
    unfold negN
    rw [cleanU_nan]; rfl
theorem clean_clean (u : Nat) : cleanN (cleanN u) = cleanN u := by
  unfold cleanN
  cases h : isNan u
  · simp [h]
  · simp [cleanU_nan]
theorem rank_inj {a b : Nat} (ha : a < 18446744073709551616) (hb : b < 18446744073709551616) : rankN a = rankN b ↔ cleanN a = cleanN b := by
  have h1 := cleanN_lt ha
  have h2 := cleanN_lt hb
  unfold rankN
  generalize cleanN a = x at *
  generalize cleanN b = y at *
  unfold sgn
  by_cases hx : x / 2 ^ 63 % 2 = 1
  · rw [if_pos (by simpa using hx)]
    by_cases hy : y / 2 ^ 63 % 2 = 1
    · rw [if_pos (by simpa using hy)]; omega
    · rw [if_neg (by simpa using hy)]; omega
  · rw [if_neg (by simpa using hx)]
    by_cases hy : y / 2 ^ 63 % 2 = 1
    · rw [if_pos (by simpa using hy)]; omega
    · rw [if_neg (by simpa using hy)]; omega
theorem rank_beq {a b : Nat} (ha : a < 18446744073709551616) (hb : b < 18446744073709551616) : (((rankN a : Nat) : Int) == ((rankN b : Nat) : Int)) = (((cleanN a : Nat) : Int) == ((cleanN b : Nat) : Int)) := by
  have := rank_inj ha hb
  rw [Bool.eq_iff_iff]
  simp only [beq_iff_eq]
  omega
theorem rank_lt {a b : Nat} (ha : a < 18446744073709551616) (hb : b < 18446744073709551616) (h : lessB a b = true) : decide (rankN b ≤ rankN a) = false := by
  have hn : isNan a = false ∧ isNan b = false ∧ equalB a b = false := by
    unfold lessB at h
    simp only [Bool.and_eq_true, Bool.not_eq_true', decide_eq_true_eq] at h
    refine ⟨h.1.1, h.1.2, ?_⟩
    unfold equalB
    rw [decide_eq_false (by omega)]; simp
  have := rank_less ha hb hn.1 hn.2.1 hn.2.2
  rw [h] at this
  simp only [decide_eq_true_eq] at this
  exact decide_eq_false (by omega)

/-- how two doubles stand -/
theorem stands (a b : Nat) : (lessB a b = true ∧ lessB b a = false ∧ equalB a b = false ∧ equalB b a = false ∧ isNan a = false ∧ isNan b = false) ∨
    (lessB a b = false ∧ lessB b a = true ∧ equalB a b = false ∧ equalB b a = false ∧ isNan a = false ∧ isNan b = false) ∨
    (lessB a b = false ∧ lessB b a = false ∧ equalB a b = true ∧ equalB b a = true ∧ isNan a = false ∧ isNan b = false) ∨
    (lessB a b = false ∧ lessB b a = false ∧ equalB a b = false ∧ equalB b a = false ∧ (isNan a = true ∨ (isNan a = false ∧ isNan b = true))) := by
  unfold lessB equalB
  cases na : isNan a
  · cases nb : isNan b
    · rcases Int.lt_trichotomy (key a) (key b) with h | h | h
      · left
        rw [decide_eq_true h, decide_eq_false (p := key b < key a) (by omega), decide_eq_false (p := key a = key b) (by omega), decide_eq_false (p := key b = key a) (by omega)]
        simp
      · right; right; left
        rw [decide_eq_false (p := key a < key b) (by omega), decide_eq_false (p := key b < key a) (by omega), decide_eq_true (p := key a = key b) h, decide_eq_true (p := key b = key a) h.symm]
        simp
      · right; left
        rw [decide_eq_false (p := key a < key b) (by omega), decide_eq_true h, decide_eq_false (p := key a = key b) (by omega), decide_eq_false (p := key b = key a) (by omega)]
        simp
    · right; right; right; simp
  · right; right; right; simp
end Go.Proofs.Ytmlcpedbpjghhaa
