/-
  Sums of doubles: plain laws.
-/
import Derived.Test.YtmlcpedbpjghhaaRealOrderLaw
import Derived.Test.YtmlcpedbpjghhaaRealKeyLaw
import Derived.Test.YtmlcpedbpjghhaaRealW9
namespace Go.Proofs.Ytmlcpedbpjghhaa

theorem magv_mono {a b : Nat} (h : a ≤ b) : magv a ≤ magv b := by
  rcases Nat.lt_or_eq_of_le h with h | h
  · exact Nat.le_of_lt (magv_lt h)
  · rw [h]; exact Nat.le_refl _
theorem rung_le {u : Nat} (h : isNan u = false) : rung u ≤ infR := by
  unfold isNan at h; simp at h; unfold infR; omega
theorem fin_nan {u : Nat} (h : rung u < infR) : isNan u = false := by
  unfold isNan; unfold infR at h; simp; omega

theorem sum_lt {a b : Nat} (ha : a < 18446744073709551616) (hb : b < 18446744073709551616) : sumN a b < 18446744073709551616 := by
  rcases add_eq (a := a) (b := b) ha hb with ⟨_, h⟩ | ⟨r, _, h, _, hr⟩
  · rw [h]; unfold cleanU; omega
  · rw [h]; exact hr
theorem sum_clean {a b : Nat} (ha : a < 18446744073709551616) (hb : b < 18446744073709551616) : cleanN (sumN a b) = sumN a b := by
  rcases add_eq (a := a) (b := b) ha hb with ⟨_, h⟩ | ⟨r, _, h, hn, _⟩
  · rw [h]; rfl
  · rw [h]; unfold cleanN; rw [hn]; rfl
theorem sum_swap {a b : Nat} (ha : a < 18446744073709551616) (hb : b < 18446744073709551616) : sumN b a = sumN a b := by
  cases na : isNan a
  · cases nb : isNan b
    · rcases Nat.lt_or_eq_of_le (rung_le na) with fa | ia
      · rcases Nat.lt_or_eq_of_le (rung_le nb) with fb | ib
        · exact (sum_comm fa fb).symm
        · unfold sumN
          simp only [na, nb, Bool.or_false, Bool.false_eq_true, if_false]
          rw [if_pos ib, if_neg (by omega), if_neg (by omega), if_pos ib]
      · rcases Nat.lt_or_eq_of_le (rung_le nb) with fb | ib
        · unfold sumN
          simp only [na, nb, Bool.or_false, Bool.false_eq_true, if_false]
          rw [if_neg (by omega), if_pos ia, if_pos ia, if_neg (by omega)]
        · unfold sumN
          simp only [na, nb, Bool.or_false, Bool.false_eq_true, if_false]
          rw [if_pos ib, if_pos ia, if_pos ia, if_pos ib]
          by_cases hs : sgn a = sgn b
          · rw [if_pos hs, if_pos hs.symm]
            exact wd_ext (by omega) (by omega) hs.symm (ib.trans ia.symm)
          · rw [if_neg hs, if_neg (fun h => hs h.symm)]
    · rw [show sumN b a = cleanU by unfold sumN; rw [if_pos (by simp [nb])], show sumN a b = cleanU by unfold sumN; rw [if_pos (by simp [nb])]]
  · rw [show sumN b a = cleanU by unfold sumN; rw [if_pos (by simp [na])], show sumN a b = cleanU by unfold sumN; rw [if_pos (by simp [na])]]

/-- a number and a zero -/
theorem sum_zero {a z : Nat} (ha : a < 18446744073709551616) (hz : rung z = 0) (h : sgn z = true ∨ rung a ≠ 0) : sumN a z = cleanN a := by
  have hk : key z = 0 := by unfold key; rw [hz, magv_zero]; split <;> rfl
  have nz : isNan z = false := by unfold isNan; rw [hz]; decide
  unfold cleanN
  cases na : isNan a
  · rw [if_neg (by simp)]
    unfold sumN
    simp only [na, nz, Bool.or_false, Bool.false_eq_true, if_false]
    have hzi : ¬ rung z = infR := by rw [hz]; decide
    rcases Nat.lt_or_eq_of_le (rung_le na) with fa | ia
    · rw [if_neg (by omega), if_neg hzi, hk, Int.add_zero, key_abs, rne_magv (by unfold infR at fa; omega)]
      refine (wd_congr ?_ rfl).trans (wd_self (by omega))
      unfold sumS
      rw [hk, Int.add_zero]
      by_cases h0 : rung a = 0
      · have hka : key a = 0 := by unfold key; rw [h0, magv_zero]; split <;> rfl
        rw [if_pos hka]
        rcases h with h | h
        · rw [h, Bool.and_true]
        · exact absurd h0 h
      · have hm : magv (rung a) ≠ 0 := fun e => h0 (magv_eq_zero.1 e)
        have hka : key a ≠ 0 := by unfold key; split <;> omega
        rw [if_neg hka]
        unfold key
        cases sgn a <;> simp <;> omega
    · rw [if_pos ia, if_neg hzi]
  · rw [if_pos rfl]
    unfold sumN
    rw [if_pos (by simp [na])]

theorem sum_self {a : Nat} (ha : a < 18446744073709551616) (fa : rung a < infR) : sumN a (negN a) = 0 := by
  have na := fin_nan fa
  rw [negN_turn ha na]
  exact sum_none fa (by rw [rung_turn ha]; exact fa) (by rw [sgn_turn ha]; cases sgn a <;> simp) (by rw [rung_turn ha])

/-- a finite sum -/
theorem sum_fin {a b : Nat} (fa : rung a < infR) (fb : rung b < infR) : sumN a b = wd (sumS a b) (rne (key a + key b).natAbs) := by
  unfold sumN
  simp only [fin_nan fa, fin_nan fb, Bool.or_false, Bool.false_eq_true, if_false]
  rw [if_neg (by omega), if_neg (by omega)]
theorem rne_lt (n : Nat) : rne n < 2 ^ 63 := by have := rne_le n; omega
theorem rung_inf {a : Nat} (ha : a < 18446744073709551616) (h : rung a = infR) : a = wd (sgn a) infR := by
  rw [← h]; exact (wd_self (by omega)).symm

/-- turned signs -/
theorem sum_neg {a b : Nat} (ha : a < 18446744073709551616) (hb : b < 18446744073709551616) :
    (zeroB (sumN a b) = false → sumN (negN a) (negN b) = negN (sumN a b)) ∧ (zeroB (sumN a b) = true → zeroB (sumN (negN a) (negN b)) = true) := by
  cases na : isNan a
  · cases nb : isNan b
    · rw [negN_turn ha na, negN_turn hb nb]
      rcases Nat.lt_or_eq_of_le (rung_le na) with fa | ia
      · rcases Nat.lt_or_eq_of_le (rung_le nb) with fb | ib
        · have e1 := sum_fin fa fb
          have e2 := sum_fin (a := turnN a) (b := turnN b) (by rw [rung_turn ha]; exact fa) (by rw [rung_turn hb]; exact fb)
          rw [key_turn ha, key_turn hb, show (-key a + -key b).natAbs = (key a + key b).natAbs by omega] at e2
          have hr := rne_lt (key a + key b).natAbs
          refine ⟨fun hz => ?_, fun hz => ?_⟩
          · have hlt := sum_lt ha hb
            have hnn : isNan (sumN a b) = false := by
              rw [e1]; unfold isNan; rw [rung_wd _ hr]; have := rne_le (key a + key b).natAbs; simp; omega
            rw [negN_turn hlt hnn]
            refine wd_ext (by rw [e2]; have := wd_lt (sumS (turnN a) (turnN b)) hr; omega) (by have := turnN_lt hlt; omega) ?_ ?_
            · rw [sgn_turn hlt, e1, e2, sgn_wd _ hr, sgn_wd _ hr]
              have ht : key a + key b ≠ 0 := by
                intro h
                rw [e1] at hz
                unfold zeroB at hz
                rw [rung_wd _ hr, h, Int.natAbs_zero, rne_zero] at hz
                simp at hz
              unfold sumS
              rw [key_turn ha, key_turn hb, if_neg (by omega), if_neg ht, ← decide_not]
              congr 1
              exact propext (by omega)
            · rw [rung_turn hlt, e1, e2, rung_wd _ hr, rung_wd _ hr]
          · rw [e1] at hz
            rw [e2]
            unfold zeroB at *
            rw [rung_wd _ hr] at hz ⊢
            exact hz
        · have e1 : sumN a b = b := sum_inf3 na nb (by omega) ib
          have e2 : sumN (turnN a) (turnN b) = turnN b := sum_inf3 (by rw [nan_turn ha, na]) (by rw [nan_turn hb, nb]) (by rw [rung_turn ha]; omega) (by rw [rung_turn hb]; exact ib)
          rw [e1, e2, negN_turn hb nb]
          exact ⟨fun _ => rfl, fun h => by unfold zeroB at *; rw [rung_turn hb]; exact h⟩
      · by_cases hc : rung b = infR → sgn a = sgn b
        · have e1 : sumN a b = a := sum_inf na nb ia hc
          have e2 : sumN (turnN a) (turnN b) = turnN a := sum_inf (by rw [nan_turn ha, na]) (by rw [nan_turn hb, nb]) (by rw [rung_turn ha]; exact ia) (fun h => by rw [rung_turn hb] at h; rw [sgn_turn ha, sgn_turn hb, hc h])
          rw [e1, e2, negN_turn ha na]
          exact ⟨fun _ => rfl, fun h => by unfold zeroB at *; rw [rung_turn ha]; exact h⟩
        · have hib : rung b = infR := Classical.byContradiction fun h => hc fun h' => absurd h' h
          have hsg : sgn a ≠ sgn b := fun h => hc fun _ => h
          have e1 : sumN a b = cleanU := sum_inf2 na nb ia hib hsg
          have e2 : sumN (turnN a) (turnN b) = cleanU := sum_inf2 (by rw [nan_turn ha, na]) (by rw [nan_turn hb, nb]) (by rw [rung_turn ha]; exact ia) (by rw [rung_turn hb]; exact hib) (by rw [sgn_turn ha, sgn_turn hb]; intro h; exact hsg (by cases h1 : sgn a <;> cases h2 : sgn b <;> simp_all))
          rw [e1, e2]
          exact ⟨fun _ => by unfold negN; rw [cleanU_nan]; rfl, fun h => by revert h; decide⟩
    · have e1 : sumN a b = cleanU := sum_nan (.inr nb)
      have e2 : sumN (negN a) (negN b) = cleanU := sum_nan (.inr (by rw [negN_nan hb, nb]))
      rw [e1, e2]
      exact ⟨fun _ => by unfold negN; rw [cleanU_nan]; rfl, fun h => by revert h; decide⟩
  · have e1 : sumN a b = cleanU := sum_nan (.inl na)
    have e2 : sumN (negN a) (negN b) = cleanU := sum_nan (.inl (by rw [negN_nan ha, na]))
    rw [e1, e2]
    exact ⟨fun _ => by unfold negN; rw [cleanU_nan]; rfl, fun h => by revert h; decide⟩

/-- a number of least units, rounded -/
def valN (t : Int) : Int := if t < 0 then -(magv (rne t.natAbs) : Int) else magv (rne t.natAbs)
theorem valN_mono {s t : Int} (h : s ≤ t) : valN s ≤ valN t := by
  unfold valN
  by_cases hs : s < 0
  · rw [if_pos hs]
    by_cases ht : t < 0
    · rw [if_pos ht]
      have := magv_mono (rne_mono (show t.natAbs ≤ s.natAbs by omega))
      omega
    · rw [if_neg ht]; omega
  · rw [if_neg hs, if_neg (by omega)]
    have := magv_mono (rne_mono (show s.natAbs ≤ t.natAbs by omega))
    omega
theorem valN_key {s : Bool} {t : Int} (h : t ≠ 0 → s = decide (t < 0)) : key (wd s (rne t.natAbs)) = valN t := by
  rw [key_wd _ (rne_lt _)]
  unfold valN
  by_cases h0 : t = 0
  · subst h0
    rw [Int.natAbs_zero, rne_zero, magv_zero]
    cases s <;> rfl
  · rw [h h0]
    by_cases hn : t < 0
    · rw [decide_eq_true hn, if_pos rfl, if_pos hn]
    · rw [decide_eq_false hn, if_neg (by simp), if_neg hn]
theorem sum_key {a b : Nat} (fa : rung a < infR) (fb : rung b < infR) : key (sumN a b) = valN (key a + key b) := by
  rw [sum_fin fa fb]
  refine valN_key fun h => ?_
  unfold sumS; rw [if_neg h]
theorem valN_le (t : Int) : -(magv infR : Int) ≤ valN t ∧ valN t ≤ magv infR := by
  have := magv_mono (rne_le t.natAbs)
  unfold valN
  change magv (rne t.natAbs) ≤ magv infR at this
  split <;> omega
theorem key_le {u : Nat} (h : isNan u = false) : -(magv infR : Int) ≤ key u ∧ key u ≤ magv infR := by
  have := magv_mono (rung_le h)
  unfold key
  split <;> omega
theorem key_inf {u : Nat} (h : rung u = infR) : key u = if sgn u then -(magv infR : Int) else magv infR := by unfold key; rw [h]
theorem sum_one {a b : Nat} (na : isNan a = false) (nb : isNan b = false) (h : rung b = infR) (hb : b < 18446744073709551616) (ha : a < 18446744073709551616) : sumN a b = b ∨ sumN a b = cleanU := by
  rcases Nat.lt_or_eq_of_le (rung_le na) with fa | ia
  · exact .inl (sum_inf3 na nb (by omega) h)
  · by_cases hs : sgn a = sgn b
    · left
      rw [sum_inf na nb ia (fun _ => hs)]
      exact wd_ext (by omega) (by omega) hs (ia.trans h.symm)
    · exact .inr (sum_inf2 na nb ia h hs)
theorem less_nan {a b : Nat} (h : isNan a = true ∨ isNan b = true) : lessB a b = false := by
  unfold lessB
  rcases h with h | h <;> simp [h]
theorem less_key {a b : Nat} (h : key b ≤ key a) : lessB a b = false := by
  unfold lessB
  rw [decide_eq_false (by omega), Bool.and_false]

/-- what is added to two stays in order, or comes to the same -/
theorem sum_order {a b c : Nat} (ha : a < 18446744073709551616) (hb : b < 18446744073709551616) (hc : c < 18446744073709551616) (h : lessB a b = true) : lessB (sumN b c) (sumN a c) = false := by
  unfold lessB at h
  simp only [Bool.and_eq_true, Bool.not_eq_true', decide_eq_true_eq] at h
  obtain ⟨⟨na, nb⟩, hk⟩ := h
  cases nc : isNan c
  · rcases Nat.lt_or_eq_of_le (rung_le nc) with fc | ic
    · rcases Nat.lt_or_eq_of_le (rung_le na) with fa | ia
      · rcases Nat.lt_or_eq_of_le (rung_le nb) with fb | ib
        · refine less_key ?_
          rw [sum_key fa fc, sum_key fb fc]
          exact valN_mono (by omega)
        · have e : sumN b c = b := sum_inf nb nc ib (fun h => by omega)
          refine less_key ?_
          rw [e, sum_key fa fc]
          have h1 := valN_le (key a + key c)
          have h2 := key_inf ib
          have h3 := key_le na
          cases hs : sgn b
          · rw [hs, if_neg (by simp)] at h2; omega
          · rw [hs, if_pos rfl] at h2; omega
      · have e : sumN a c = a := sum_inf na nc ia (fun h => by omega)
        refine less_key ?_
        rw [e]
        have h2 := key_inf ia
        have h3 := key_le nb
        have h5 : key a = -(magv infR : Int) := by
          cases hs : sgn a
          · rw [hs, if_neg (by simp)] at h2; omega
          · rw [hs, if_pos rfl] at h2; exact h2
        rcases Nat.lt_or_eq_of_le (rung_le nb) with fb | ib
        · rw [sum_key fb fc]
          have h1 := valN_le (key b + key c)
          omega
        · rw [sum_inf nb nc ib (fun h => by omega)]; omega
    · rcases sum_one na nc ic hc ha with h1 | h1
      · rcases sum_one nb nc ic hc hb with h2 | h2
        · rw [h1, h2]; exact less_key (Int.le_refl _)
        · rw [h2]; exact less_nan (.inl cleanU_nan)
      · rw [h1]; exact less_nan (.inr cleanU_nan)
  · rw [sum_nan (.inr nc)]; exact less_nan (.inl cleanU_nan)
end Go.Proofs.Ytmlcpedbpjghhaa
