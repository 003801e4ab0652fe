/-
  The sum of two doubles as a plain function of their words.
-/
import Derived.Test.YtmlcpedbpjghhaaRealRnd
namespace Go.Proofs.Ytmlcpedbpjghhaa

/-- the word of a sign and a rung -/
def wd (s : Bool) (r : Nat) : Nat := if s then 2 ^ 63 + r else r
def infR : Nat := 2047 * 2 ^ 52
/-- the clean one -/
def cleanU : Nat := 2047 * 2 ^ 52 + 2 ^ 51

theorem wd_eq (s : Bool) (r : Nat) : Ieee.double.word s r = wd s r := rfl
theorem rung_wd {r : Nat} (s : Bool) (h : r < 2 ^ 63) : rung (wd s r) = r := by
  unfold rung wd; cases s <;> simp <;> omega
theorem sgn_wd {r : Nat} (s : Bool) (h : r < 2 ^ 63) : sgn (wd s r) = s := by
  unfold sgn wd; cases s <;> simp <;> omega
theorem wd_lt {r : Nat} (s : Bool) (h : r < 2 ^ 63) : wd s r < 2 ^ 64 := by
  unfold wd; cases s <;> simp <;> omega
theorem wd_self {u : Nat} (h : u < 2 ^ 64) : wd (sgn u) (rung u) = u := by
  unfold wd sgn rung
  by_cases h1 : u / 2 ^ 63 % 2 = 1
  · rw [if_pos (by simp [h1])]; omega
  · rw [if_neg (by simp [h1])]; omega
theorem rung_lt (u : Nat) : rung u < 2 ^ 63 := Nat.mod_lt _ (by decide)
theorem wd_inj {s t : Bool} {q r : Nat} (hq : q < 2 ^ 63) (hr : r < 2 ^ 63) (h : wd s q = wd t r) : s = t ∧ q = r :=
  ⟨by rw [← sgn_wd s hq, h, sgn_wd t hr], by rw [← rung_wd s hq, h, rung_wd t hr]⟩
theorem wd_ext {a b : Nat} (ha : a < 2 ^ 64) (hb : b < 2 ^ 64) (h1 : sgn a = sgn b) (h2 : rung a = rung b) : a = b := by
  rw [← wd_self ha, ← wd_self hb, h1, h2]

theorem key_wd {r : Nat} (s : Bool) (h : r < 2 ^ 63) : key (wd s r) = if s then -(magv r : Int) else magv r := by
  unfold key; rw [sgn_wd s h, rung_wd s h]
theorem magv_zero : magv 0 = 0 := by unfold magv; simp
theorem magv_eq_zero {r : Nat} : magv r = 0 ↔ r = 0 := by
  refine ⟨fun h => ?_, fun h => by rw [h, magv_zero]⟩
  rw [← magv_zero] at h
  exact magv_inj h

/-- the sum's sign where neither is infinite -/
def sumS (a b : Nat) : Bool := if key a + key b = 0 then sgn a && sgn b else decide (key a + key b < 0)
def sumN (a b : Nat) : Nat :=
  if isNan a || isNan b then cleanU
  else if rung a = infR then (if rung b = infR then (if sgn a = sgn b then a else cleanU) else a)
  else if rung b = infR then b
  else wd (sumS a b) (rne (key a + key b).natAbs)

theorem natAbs_mul_pow (x : Int) (c : Nat) : (x * ((2 ^ c : Nat) : Int)).natAbs = x.natAbs * 2 ^ c := by
  rw [Int.natAbs_mul, Int.natAbs_natCast]

theorem add_fin {a b : Nat} (ha : rung a < infR) (hb : rung b < infR) : Ieee.double.add a b = some (wd (sumS a b) (rne (key a + key b).natAbs)) := by
  obtain ⟨m, e, h1, h2⟩ := read_fin ha
  obtain ⟨n, f, h3, h4⟩ := read_fin hb
  unfold Ieee.Format.add
  rw [h1, h3]
  obtain ⟨c, hc, hce, hcf⟩ : ∃ c : Nat, min (-1074 + (e : Int)) (-1074 + (f : Int)) = -1074 + (c : Int) ∧ c ≤ e ∧ c ≤ f := by
    rcases Nat.le_total e f with h | h
    · exact ⟨e, by omega, Nat.le_refl _, h⟩
    · exact ⟨f, by omega, h, Nat.le_refl _⟩
  simp only [Ieee.Datum.sum, hc, Option.map_some, Ieee.Format.write, nearest_eq, wd_eq]
  have hp : (0 : Int) < ((2 ^ c : Nat) : Int) := by exact_mod_cast Nat.two_pow_pos c
  have k1 : key a + key b = (Ieee.signed (sgn a) m ((-1074 + (e : Int)) - (-1074 + (c : Int))).toNat + Ieee.signed (sgn b) n ((-1074 + (f : Int)) - (-1074 + (c : Int))).toNat) * ((2 ^ c : Nat) : Int) := by
    rw [Int.add_mul, scale_key _ _ _ _ hce, scale_key _ _ _ _ hcf, h2, h4, key_sgn, key_sgn]
  generalize Ieee.signed (sgn a) m ((-1074 + (e : Int)) - (-1074 + (c : Int))).toNat + Ieee.signed (sgn b) n ((-1074 + (f : Int)) - (-1074 + (c : Int))).toNat = x at *
  unfold sumS
  rw [k1, natAbs_mul_pow]
  congr 2
  by_cases hx : x = 0
  · subst hx; simp
  · have : x * ((2 ^ c : Nat) : Int) ≠ 0 := by
      intro h
      rcases Int.mul_eq_zero.1 h with h | h
      · exact hx h
      · omega
    rw [if_neg hx, if_neg this]
    congr 1
    have : (x * ((2 ^ c : Nat) : Int) < 0) ↔ x < 0 := by
      constructor
      · intro h
        by_cases h' : x < 0
        · exact h'
        · have := Int.mul_nonneg (Int.not_lt.1 h') (Int.le_of_lt hp); omega
      · intro h
        exact Int.mul_neg_of_neg_of_pos h hp
    exact propext this.symm

theorem read_nan {u : Nat} (h : isNan u = true) : ∃ s t, Ieee.double.read u = .nan s t := by
  rw [← nan_iff] at h
  cases hd : Ieee.double.read u <;> simp_all [Ieee.Datum.isNaN]

theorem add_nan {a b : Nat} (h : isNan a = true ∨ isNan b = true) : Ieee.double.add a b = none := by
  unfold Ieee.Format.add
  rcases h with h | h
  · obtain ⟨s, t, hd⟩ := read_nan h
    rw [hd]
    cases Ieee.double.read b <;> rfl
  · obtain ⟨s, t, hd⟩ := read_nan h
    rw [hd]
    cases Ieee.double.read a <;> rfl

/-- what the model adds: a word, or none -/
theorem add_eq {a b : Nat} (ha : a < 2 ^ 64) (hb : b < 2 ^ 64) : Ieee.double.add a b = none ∧ sumN a b = cleanU ∨ ∃ r, Ieee.double.add a b = some r ∧ sumN a b = r ∧ isNan r = false ∧ r < 2 ^ 64 := by
  by_cases hn : isNan a = true ∨ isNan b = true
  · left
    refine ⟨add_nan hn, ?_⟩
    unfold sumN
    rw [if_pos (by rcases hn with h | h <;> simp [h])]
  · have na : isNan a = false := by cases h : isNan a <;> simp_all
    have nb : isNan b = false := by cases h : isNan b <;> simp_all
    have ia : rung a ≤ infR := by unfold isNan at na; simpa [infR] using na
    have ib : rung b ≤ infR := by unfold isNan at nb; simpa [infR] using nb
    have hn' : ¬ (isNan a || isNan b) = true := by simp [na, nb]
    unfold sumN
    rw [if_neg hn']
    rcases Nat.lt_or_eq_of_le ia with ia | ia
    · rw [if_neg (by omega)]
      rcases Nat.lt_or_eq_of_le ib with ib | ib
      · rw [if_neg (by omega)]
        right
        have hr := rne_le (key a + key b).natAbs
        refine ⟨_, add_fin ia ib, rfl, ?_, wd_lt _ (by omega)⟩
        unfold isNan
        rw [rung_wd _ (by omega)]
        simpa using hr
      · rw [if_pos ib]
        right
        refine ⟨b, ?_, rfl, nb, hb⟩
        obtain ⟨m, e, h1, _⟩ := read_fin (u := a) ia
        unfold Ieee.Format.add
        rw [h1, read_inf ib]
        show some (Ieee.double.word (sgn b) Ieee.double.infRung) = _
        rw [show Ieee.double.infRung = rung b from ib.symm, wd_eq, wd_self hb]
    · rw [if_pos ia]
      have ra := read_inf ia
      rcases Nat.lt_or_eq_of_le ib with ib | ib
      · rw [if_neg (by omega)]
        right
        refine ⟨a, ?_, rfl, na, ha⟩
        obtain ⟨m, e, h1, _⟩ := read_fin (u := b) ib
        unfold Ieee.Format.add
        rw [h1, ra]
        show some (Ieee.double.word (sgn a) Ieee.double.infRung) = _
        rw [show Ieee.double.infRung = rung a from ia.symm, wd_eq, wd_self ha]
      · rw [if_pos ib]
        have rb := read_inf ib
        unfold Ieee.Format.add
        rw [ra, rb]
        by_cases hs : sgn a = sgn b
        · right
          rw [if_pos hs]
          refine ⟨a, ?_, rfl, na, ha⟩
          simp only [Ieee.Datum.sum, hs, if_true, Option.map_some]
          show some (Ieee.double.word (sgn b) Ieee.double.infRung) = _
          rw [show Ieee.double.infRung = rung a from ia.symm, wd_eq, ← hs, wd_self ha]
        · left
          rw [if_neg hs]
          simp [Ieee.Datum.sum, hs]

/-- f - f: none just of what is not finite -/
theorem sub_self_none {u : Nat} (h : ¬ rung u < infR) : Ieee.double.sub u u = none := by
  unfold Ieee.Format.sub
  by_cases hn : isNan u = true
  · obtain ⟨s, t, hd⟩ := read_nan hn
    rw [hd]; rfl
  · have : rung u = infR := by
      unfold isNan at hn; simp [infR] at *; omega
    rw [read_inf this]
    cases sgn u <;> rfl
theorem sub_self_zero {u : Nat} (h : rung u < infR) : Ieee.double.sub u u = some 0 := by
  unfold Ieee.Format.sub
  obtain ⟨m, e, h1, h2⟩ := read_fin h
  rw [h1]
  simp only [Ieee.Datum.opposite, Ieee.Datum.sum, Option.map_some, Ieee.Format.write]
  have : Ieee.signed (sgn u) m ((-1074 + (e : Int)) - min (-1074 + (e : Int)) (-1074 + (e : Int))).toNat + Ieee.signed (!sgn u) m ((-1074 + (e : Int)) - min (-1074 + (e : Int)) (-1074 + (e : Int))).toNat = 0 := by
    unfold Ieee.signed
    cases sgn u <;> simp <;> omega
  rw [this]
  simp [Ieee.Format.nearest]
  cases sgn u <;> rfl
end Go.Proofs.Ytmlcpedbpjghhaa
