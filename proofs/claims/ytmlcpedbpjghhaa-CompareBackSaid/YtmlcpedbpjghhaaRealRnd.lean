/-
  Rounding to the nearest, ties to even, as a plain function on numbers of the least units; sticky numbers.
-/
import Derived.Test.YtmlcpedbpjghhaaRealDefs
namespace Go.Proofs.Ytmlcpedbpjghhaa

/-- n / 2^k, rounded to the nearest, ties to even -/
def rnd (n k : Nat) : Nat := n / 2 ^ k + (if 2 ^ k < 2 * (n % 2 ^ k) ∨ (2 ^ k = 2 * (n % 2 ^ k) ∧ n / 2 ^ k % 2 = 1) then 1 else 0)
/-- the rung nearest to n least units -/
def rne (n : Nat) : Nat := min ((n.log2 - 52) * 2 ^ 52 + rnd n (n.log2 - 52)) (2047 * 2 ^ 52)

theorem rnd_of (n k q t : Nat) (h : n = q * 2 ^ k + t) (ht : t < 2 ^ k) : rnd n k = q + (if 2 ^ k < 2 * t ∨ (2 ^ k = 2 * t ∧ q % 2 = 1) then 1 else 0) := by
  have hp := Nat.two_pow_pos k
  have h1 : n / 2 ^ k = q := by
    rw [h, Nat.add_comm, Nat.add_mul_div_right _ _ hp, Nat.div_eq_of_lt ht, Nat.zero_add]
  have h2 : n % 2 ^ k = t := by
    rw [h, Nat.add_comm, Nat.add_mul_mod_self_right, Nat.mod_eq_of_lt ht]
  unfold rnd
  rw [h1, h2]

theorem rnd_split (n k : Nat) : ∃ q t, n = q * 2 ^ k + t ∧ t < 2 ^ k := by
  refine ⟨n / 2 ^ k, n % 2 ^ k, ?_, Nat.mod_lt _ (Nat.two_pow_pos k)⟩
  rw [Nat.mul_comm]; exact (Nat.div_add_mod n (2 ^ k)).symm

theorem rnd_zero (n : Nat) : rnd n 0 = n := by
  rw [rnd_of n 0 n 0 (by simp) (by simp)]; simp

theorem rnd_scale (n k j : Nat) : rnd (n * 2 ^ j) (k + j) = rnd n k := by
  obtain ⟨q, t, h, ht⟩ := rnd_split n k
  have hp := Nat.two_pow_pos j
  have e : 2 ^ (k + j) = 2 ^ k * 2 ^ j := Nat.pow_add ..
  rw [rnd_of n k q t h ht, rnd_of (n * 2 ^ j) (k + j) q (t * 2 ^ j) (by rw [h, e, Nat.add_mul, Nat.mul_assoc]) (by rw [e]; exact Nat.mul_lt_mul_of_pos_right ht hp)]
  have h1 : (2 ^ (k + j) < 2 * (t * 2 ^ j)) ↔ (2 ^ k < 2 * t) := by
    rw [e, ← Nat.mul_assoc]; exact Nat.mul_lt_mul_right hp
  have h2 : (2 ^ (k + j) = 2 * (t * 2 ^ j)) ↔ (2 ^ k = 2 * t) := by
    rw [e, ← Nat.mul_assoc]; exact Nat.mul_left_inj (by omega)
  simp only [h1, h2]

theorem rnd_exact (n j : Nat) : rnd (n * 2 ^ j) j = n := by
  have := rnd_scale n 0 j
  rw [Nat.zero_add] at this
  rw [this, rnd_zero]

theorem rnd_mono {m n : Nat} (k : Nat) (h : m ≤ n) : rnd m k ≤ rnd n k := by
  obtain ⟨q, t, h1, ht⟩ := rnd_split m k
  obtain ⟨r, s, h2, hs⟩ := rnd_split n k
  rw [rnd_of m k q t h1 ht, rnd_of n k r s h2 hs]
  generalize 2 ^ k = X at *
  rcases Nat.lt_trichotomy q r with hq | hq | hq
  · split <;> split <;> omega
  · subst hq
    split <;> split <;> omega
  · have : (r + 1) * X ≤ q * X := Nat.mul_le_mul_right _ hq
    rw [Nat.add_mul] at this
    omega

theorem log2_of {n k : Nat} (h1 : 2 ^ k ≤ n) (h2 : n < 2 ^ (k + 1)) : n.log2 = k := by
  have hn : n ≠ 0 := by have := Nat.two_pow_pos k; omega
  have a : k ≤ n.log2 := (Nat.le_log2 hn).2 h1
  have b : n.log2 < k + 1 := (Nat.log2_lt hn).2 h2
  omega

theorem log2_le {n : Nat} (h : n ≠ 0) : 2 ^ n.log2 ≤ n := Nat.log2_self_le h
theorem log2_gt {n : Nat} : n < 2 ^ (n.log2 + 1) := Nat.lt_log2_self

theorem log2_mul {m : Nat} (e : Nat) (h : m ≠ 0) : (m * 2 ^ e).log2 = m.log2 + e := by
  refine log2_of ?_ ?_
  · rw [Nat.pow_add]; exact Nat.mul_le_mul_right _ (log2_le h)
  · rw [show m.log2 + e + 1 = (m.log2 + 1) + e by omega, Nat.pow_add]
    exact Nat.mul_lt_mul_of_pos_right log2_gt (Nat.two_pow_pos e)

/-- the binade that a number lies in -/
def Lies (n E : Nat) : Prop := (E = 0 ∧ n < 2 ^ 53) ∨ (2 ^ (52 + E) ≤ n ∧ n < 2 ^ (53 + E))

theorem lies_log {n E : Nat} (h : Lies n E) : n.log2 - 52 = E := by
  rcases h with ⟨rfl, h⟩ | ⟨h1, h2⟩
  · by_cases hn : n = 0
    · subst hn; simp
    · have := (Nat.log2_lt hn).2 h; omega
  · rw [log2_of h1 (by rw [show 52 + E + 1 = 53 + E by omega]; exact h2)]; omega

theorem log_lies (n : Nat) : Lies n (n.log2 - 52) := by
  by_cases h : n.log2 ≤ 52
  · refine .inl ⟨by omega, ?_⟩
    exact Nat.lt_of_lt_of_le log2_gt (Nat.pow_le_pow_right (by omega) (by omega))
  · have hn : n ≠ 0 := by rintro rfl; simp at h
    refine .inr ⟨?_, ?_⟩
    · rw [show 52 + (n.log2 - 52) = n.log2 by omega]; exact log2_le hn
    · rw [show 53 + (n.log2 - 52) = n.log2 + 1 by omega]; exact log2_gt

theorem rne_of {n E : Nat} (h : Lies n E) : rne n = min (E * 2 ^ 52 + rnd n E) (2047 * 2 ^ 52) := by
  unfold rne; rw [lies_log h]

theorem rne_zero : rne 0 = 0 := by
  rw [rne_of (E := 0) (.inl ⟨rfl, by omega⟩), rnd_zero]; rfl

theorem rne_le (n : Nat) : rne n ≤ 2047 * 2 ^ 52 := Nat.min_le_right ..

/-- what is a rung's magnitude is not rounded -/
theorem rne_magv {r : Nat} (h : r ≤ 2047 * 2 ^ 52) : rne (magv r) = r := by
  unfold magv
  by_cases h1 : r < 2 ^ 52
  · rw [if_pos h1, rne_of (E := 0) (.inl ⟨rfl, by omega⟩), rnd_zero]; omega
  · rw [if_neg h1]
    have hf : r % 2 ^ 52 < 2 ^ 52 := Nat.mod_lt _ (by decide)
    have hr : r = r / 2 ^ 52 * 2 ^ 52 + r % 2 ^ 52 := by omega
    have hq : 1 ≤ r / 2 ^ 52 := by omega
    generalize r % 2 ^ 52 = f at *
    generalize r / 2 ^ 52 = q at *
    rw [rne_of (E := q - 1) (.inr ⟨?_, ?_⟩), rnd_exact]
    · omega
    · rw [Nat.pow_add]; exact Nat.mul_le_mul_right _ (by omega)
    · rw [Nat.pow_add]; exact Nat.mul_lt_mul_of_pos_right (by omega) (Nat.two_pow_pos _)

theorem rne_mono {m n : Nat} (h : m ≤ n) : rne m ≤ rne n := by
  have hm := log_lies m
  have hn := log_lies n
  rw [rne_of hm, rne_of hn]
  generalize m.log2 - 52 = E at *
  generalize n.log2 - 52 = F at *
  refine Nat.le_min.2 ⟨Nat.le_trans (Nat.min_le_left ..) ?_, Nat.min_le_right ..⟩
  rcases Nat.lt_trichotomy E F with hE | hE | hE
  · have h1 : rnd m E ≤ 2 ^ 53 := by
      have : m ≤ 2 ^ 53 * 2 ^ E := by
        rw [← Nat.pow_add]
        rcases hm with ⟨rfl, h⟩ | ⟨_, h⟩ <;> omega
      have := rnd_mono E this
      rwa [rnd_exact] at this
    have h2 : 2 ^ 52 ≤ rnd n F := by
      have : 2 ^ 52 * 2 ^ F ≤ n := by
        rw [← Nat.pow_add]
        rcases hn with ⟨rfl, h⟩ | ⟨h, _⟩ <;> omega
      have := rnd_mono F this
      rwa [rnd_exact] at this
    omega
  · subst hE
    have := rnd_mono E h
    omega
  · exfalso
    have : n < m := by
      refine Nat.lt_of_lt_of_le (m := 2 ^ (53 + F)) ?_ ?_
      · rcases hn with ⟨rfl, h⟩ | ⟨_, h⟩ <;> simpa using h
      · rcases hm with ⟨rfl, h⟩ | ⟨h, _⟩
        · omega
        · exact Nat.le_trans (Nat.pow_le_pow_right (by omega) (by omega)) h
    omega

/-- m stands for n / 2^d: exactly, or odd, for all that lies beside it -/
def Stk (m n d : Nat) : Prop := n = m * 2 ^ d ∨ (m % 2 = 1 ∧ (m - 1) * 2 ^ d < n ∧ n < (m + 1) * 2 ^ d)
/-- the same, moved up once -/
def Stk2 (m n d : Nat) : Prop := m % 4 = 2 ∧ (m - 2) * 2 ^ d < n ∧ n < (m + 2) * 2 ^ d

theorem Stk.exact (m d : Nat) : Stk m (m * 2 ^ d) d := .inl rfl

theorem Stk.scale {m n d : Nat} (b : Nat) (h : Stk m n d) : Stk m (n * 2 ^ b) (d + b) := by
  have hp := Nat.two_pow_pos b
  rcases h with h | ⟨h1, h2, h3⟩
  · exact .inl (by rw [h, Nat.pow_add, Nat.mul_assoc])
  · refine .inr ⟨h1, ?_, ?_⟩
    · rw [Nat.pow_add, ← Nat.mul_assoc]; exact Nat.mul_lt_mul_of_pos_right h2 hp
    · rw [Nat.pow_add, ← Nat.mul_assoc]; exact Nat.mul_lt_mul_of_pos_right h3 hp

/-- one step of the document's 'down' -/
def down1 (m : Nat) : Nat := m / 2 + m % 2 - m / 2 % 2 * (m % 2)

theorem Stk.down {m n d : Nat} (h : Stk m n d) : Stk (down1 m) n (d + 1) := by
  have e : 2 ^ (d + 1) = 2 * 2 ^ d := by rw [Nat.pow_succ, Nat.mul_comm]
  unfold Stk
  rw [e]
  have hX := Nat.two_pow_pos d
  unfold Stk at h
  generalize 2 ^ d = X at *
  obtain ⟨q, hq | hq⟩ : ∃ q, m = 2 * q ∨ m = 2 * q + 1 := ⟨m / 2, by omega⟩
  · have hd : down1 m = q := by unfold down1; rw [show m % 2 = 0 by omega]; omega
    left
    rw [hd]
    rcases h with h | ⟨h1, _⟩
    · rw [h, hq, Nat.mul_comm 2 q, Nat.mul_assoc]
    · omega
  · have hlo : 2 * (q * X) < n := by
      rcases h with h | ⟨_, h, _⟩
      · rw [h, hq, Nat.add_mul, Nat.mul_assoc]; omega
      · rw [hq, Nat.add_sub_cancel, Nat.mul_assoc] at h; exact h
    have hhi : n < 2 * (q * X) + 2 * X := by
      rcases h with h | ⟨_, _, h⟩
      · rw [h, hq, Nat.add_mul, Nat.mul_assoc]; omega
      · rw [hq, Nat.add_mul, Nat.add_mul, Nat.mul_assoc] at h; omega
    right
    rcases Nat.mod_two_eq_zero_or_one q with h0 | h0
    · have hd : down1 m = q + 1 := by
        unfold down1; rw [show m % 2 = 1 by omega, show m / 2 = q by omega, h0]; omega
      rw [hd, Nat.add_sub_cancel, Nat.add_mul, Nat.add_mul, Nat.mul_left_comm q 2 X]
      omega
    · have hd : down1 m = q := by
        unfold down1; rw [show m % 2 = 1 by omega, show m / 2 = q by omega, h0]; omega
      obtain ⟨p, rfl⟩ : ∃ p, q = p + 1 := ⟨q - 1, by omega⟩
      rw [hd, Nat.add_sub_cancel, Nat.add_mul, Nat.mul_left_comm p 2 X, Nat.add_mul, Nat.mul_left_comm p 2 X]
      rw [Nat.add_mul] at hlo hhi
      omega

theorem Stk.add {m n d : Nat} (c : Nat) (h : Stk m n d) : Stk (2 * c + m) (2 * c * 2 ^ d + n) d := by
  unfold Stk at *
  generalize 2 ^ d = X at *
  rcases h with h | ⟨h1, h2, h3⟩
  · left; rw [Nat.add_mul, h]
  · right
    rw [show 2 * c + m - 1 = 2 * c + (m - 1) by omega, Nat.add_assoc, Nat.add_mul, Nat.add_mul (2 * c)]
    omega

/-- from what is even -/
theorem Stk.sub {m n d : Nat} (c : Nat) (h : Stk m n d) (hm : m ≤ 2 * c) : n ≤ 2 * c * 2 ^ d ∧ Stk (2 * c - m) (2 * c * 2 ^ d - n) d := by
  unfold Stk at *
  generalize 2 ^ d = X at *
  rcases h with h | ⟨h1, h2, h3⟩
  · have := Nat.mul_le_mul_right X hm
    refine ⟨by omega, .inl ?_⟩
    rw [Nat.sub_mul, h]
  · obtain ⟨p, rfl⟩ : ∃ p, m = p + 1 := ⟨m - 1, by omega⟩
    obtain ⟨r, hr⟩ : ∃ r, 2 * c = p + 1 + 1 + r := ⟨2 * c - (p + 2), by omega⟩
    have hpar : (p + 1 + 1 + r) % 2 = 0 := by omega
    rw [hr]
    rw [Nat.add_sub_cancel] at h2
    have e : (p + 1 + 1 + r) * X = (p + 1 + 1) * X + r * X := Nat.add_mul ..
    refine ⟨by omega, .inr ⟨by omega, ?_, ?_⟩⟩
    · rw [show p + 1 + 1 + r - (p + 1) - 1 = r by omega]; omega
    · rw [show p + 1 + 1 + r - (p + 1) + 1 = r + 1 + 1 by omega]
      have e1 : (p + 1 + 1) * X = p * X + X + X := by rw [Nat.add_mul, Nat.add_mul]; omega
      have e2 : (r + 1 + 1) * X = r * X + X + X := by rw [Nat.add_mul, Nat.add_mul]; omega
      omega

/-- to what is even, from what is not -/
theorem Stk.sub' {m n d : Nat} (c : Nat) (h : Stk m n d) (hm : 2 * c ≤ m) : 2 * c * 2 ^ d ≤ n ∧ Stk (m - 2 * c) (n - 2 * c * 2 ^ d) d := by
  unfold Stk at *
  generalize 2 ^ d = X at *
  rcases h with h | ⟨h1, h2, h3⟩
  · have := Nat.mul_le_mul_right X hm
    refine ⟨by omega, .inl ?_⟩
    rw [Nat.sub_mul, h]
  · obtain ⟨r, hr⟩ : ∃ r, m = 2 * c + r + 1 := ⟨m - 2 * c - 1, by omega⟩
    subst hr
    rw [Nat.add_sub_cancel] at h2
    have e : (2 * c + r) * X = 2 * c * X + r * X := Nat.add_mul ..
    have e1 : (2 * c + r + 1 + 1) * X = 2 * c * X + r * X + X + X := by rw [Nat.add_mul, Nat.add_mul, Nat.add_mul]; omega
    refine ⟨by omega, .inr ⟨by omega, ?_, ?_⟩⟩
    · rw [show 2 * c + r + 1 - 2 * c - 1 = r by omega]; omega
    · rw [show 2 * c + r + 1 - 2 * c + 1 = r + 1 + 1 by omega]
      have e2 : (r + 1 + 1) * X = r * X + X + X := by rw [Nat.add_mul, Nat.add_mul]; omega
      omega

theorem pow3 (d : Nat) : 2 ^ (d + 3) = 8 * 2 ^ d := by rw [Nat.pow_add, Nat.mul_comm]

theorem rnd_near {m n d a : Nat} (ha : a = 1 ∨ a = 2) (hm : m % (2 * a) = a) (h1 : (m - a) * 2 ^ d < n) (h2 : n < (m + a) * 2 ^ d) : rnd m 3 = rnd n (d + 3) := by
  obtain ⟨q, r, hr, hr8⟩ : ∃ q r, m = 8 * q + r ∧ r < 8 := ⟨m / 8, m % 8, by omega, by omega⟩
  have hra : a ≤ r ∧ r + a ≤ 8 ∧ r ≠ 4 ∧ (r < 4 → r + a ≤ 4) ∧ (4 < r → 4 + a ≤ r) := by
    rcases ha with rfl | rfl <;> omega
  have e1 : (m - a) * 2 ^ d = q * (8 * 2 ^ d) + (r - a) * 2 ^ d := by
    rw [show m - a = 8 * q + (r - a) by omega, Nat.add_mul, Nat.mul_comm 8 q, Nat.mul_assoc]
  have e2 : (m + a) * 2 ^ d = q * (8 * 2 ^ d) + (r + a) * 2 ^ d := by
    rw [show m + a = 8 * q + (r + a) by omega, Nat.add_mul, Nat.mul_comm 8 q, Nat.mul_assoc]
  rw [e1] at h1
  rw [e2] at h2
  have hX := Nat.two_pow_pos d
  have h8 : (r + a) * 2 ^ d ≤ 8 * 2 ^ d := Nat.mul_le_mul_right _ hra.2.1
  have hq : n = q * (8 * 2 ^ d) + (n - q * (8 * 2 ^ d)) := by omega
  rw [rnd_of m 3 q r (by omega) (by omega), rnd_of n (d + 3) q (n - q * (8 * 2 ^ d)) (by rw [pow3 d]; exact hq) (by rw [pow3 d]; omega), pow3 d]
  by_cases h4 : r < 4
  · have h5 : (r + a) * 2 ^ d ≤ 4 * 2 ^ d := Nat.mul_le_mul_right _ (hra.2.2.2.1 h4)
    rw [if_neg (by omega), if_neg (by omega)]
  · have h5 : 4 * 2 ^ d ≤ (r - a) * 2 ^ d := Nat.mul_le_mul_right _ (by omega)
    rw [if_pos (by omega), if_pos (by omega)]

theorem rnd_stk {m n d : Nat} (h : Stk m n d) : rnd m 3 = rnd n (d + 3) := by
  rcases h with h | ⟨h1, h2, h3⟩
  · rw [h, Nat.add_comm d 3, rnd_scale]
  · exact rnd_near (.inl rfl) h1 h2 h3
theorem rnd_stk2 {m n d : Nat} (h : Stk2 m n d) : rnd m 3 = rnd n (d + 3) := rnd_near (.inr rfl) h.1 h.2.1 h.2.2

theorem Stk.lt {m n d c : Nat} (h : Stk m n d) (hc : m < 2 * c) : n < 2 * c * 2 ^ d := by
  have := h.sub c (by omega)
  unfold Stk at h
  have hX := Nat.two_pow_pos d
  generalize 2 ^ d = X at *
  rcases h with h | ⟨h1, h2, h3⟩
  · rw [h]; exact Nat.mul_lt_mul_of_pos_right hc hX
  · exact Nat.lt_of_lt_of_le h3 (Nat.mul_le_mul_right _ (by omega))
theorem Stk.le {m n d c : Nat} (h : Stk m n d) (hc : 2 * c ≤ m) : 2 * c * 2 ^ d ≤ n := (h.sub' c hc).1

/-- what the document's 'round' leaves at its end, once m lies in [2^55, 2^56), or e is 1 -/
def fin8 (m e : Nat) : Nat := min ((e - 1) * 2 ^ 52 + rnd m 3) (2047 * 2 ^ 52)

/-- m sticky for 8 S at e - 1, and in order -/
theorem fin8_rne {m S e : Nat} (h : Stk m (8 * S) (e - 1) ∨ Stk2 m (8 * S) (e - 1)) (h1 : m < 2 ^ 56) (h2 : 2 ^ 55 ≤ m ∨ e = 1) (h0 : 1 ≤ e) (h3 : m % 4 = 2 → Stk m (8 * S) (e - 1) ∨ 2 ^ 55 + 2 ≤ m ∧ m + 2 ≤ 2 ^ 56) :
    fin8 m e = rne S := by
  obtain ⟨E, rfl⟩ : ∃ E, e = E + 1 := ⟨e - 1, by omega⟩
  rw [Nat.add_sub_cancel] at *
  have hr : rnd m 3 = rnd S E := by
    have : rnd m 3 = rnd (8 * S) (E + 3) := by
      rcases h with h | h
      · exact rnd_stk h
      · exact rnd_stk2 h
    rw [this, Nat.mul_comm, show (8 : Nat) = 2 ^ 3 by rfl, rnd_scale]
  have hX := Nat.two_pow_pos E
  have hb : (8 * S < 8 * 2 ^ 53 * 2 ^ E) ∧ (2 ^ 55 ≤ m → 8 * 2 ^ 52 * 2 ^ E ≤ 8 * S) := by
    have go : Stk m (8 * S) E → (8 * S < 8 * 2 ^ 53 * 2 ^ E) ∧ (2 ^ 55 ≤ m → 8 * 2 ^ 52 * 2 ^ E ≤ 8 * S) := fun h => by
      have a := h.lt (c := 2 ^ 55) (by omega)
      refine ⟨by simpa using a, fun hm => ?_⟩
      have b := h.le (c := 2 ^ 54) (by omega)
      simpa using b
    rcases h with h | h
    · exact go h
    · rcases h3 h.1 with h3 | ⟨h3, h4⟩
      · exact go h3
      · have a : (m + 2) * 2 ^ E ≤ 2 ^ 56 * 2 ^ E := Nat.mul_le_mul_right _ h4
        have b : 2 ^ 55 * 2 ^ E ≤ (m - 2) * 2 ^ E := Nat.mul_le_mul_right _ (by omega)
        have := h.2.1
        have := h.2.2
        refine ⟨?_, fun _ => ?_⟩ <;> omega
  have hl : Lies S E := by
    rcases h2 with h2 | h2
    · right
      have := hb.2 h2
      have := hb.1
      rw [Nat.pow_add, Nat.pow_add]
      omega
    · obtain rfl : E = 0 := by omega
      left
      have := hb.1
      simp at this
      omega
  unfold fin8
  rw [Nat.add_sub_cancel, hr, rne_of hl]

theorem cut_eq (s : Bool) (n k : Nat) (h : k ≤ n.log2 + 2) : Ieee.Toward.even.cut s n k = rnd n k := by
  unfold Ieee.Toward.cut
  rw [Nat.min_eq_left h, Nat.one_shiftLeft]
  unfold rnd
  simp only []
  congr 1
  by_cases h1 : 2 ^ k < 2 * (n % 2 ^ k)
  · simp [h1]
  · by_cases h2 : 2 ^ k = 2 * (n % 2 ^ k)
    · by_cases h3 : n / 2 ^ k % 2 = 1
      · simp [h3, ← h2]
      · simp [h3, ← h2]
    · simp [h1, h2]

theorem nearest_eq (s : Bool) (m e : Nat) : Ieee.double.nearest s m (-1074 + (e : Int)) = Ieee.double.word s (rne (m * 2 ^ e)) := by
  unfold Ieee.Format.nearest
  by_cases hm : m = 0
  · subst hm; rw [if_pos rfl, Nat.zero_mul, rne_zero]
  · rw [if_neg hm]
    have hlp : Ieee.double.leastPlace = -1074 := rfl
    have hfb : Ieee.double.fractionBits = 52 := rfl
    have hbin : Ieee.double.binade = 2 ^ 52 := rfl
    have hinf : Ieee.double.infRung = 2047 * 2 ^ 52 := rfl
    rw [hlp, hfb, hbin, hinf]
    have hl := log2_mul e hm
    obtain ⟨E, hE⟩ : ∃ E, E = (m * 2 ^ e).log2 - 52 := ⟨_, rfl⟩
    have hlast : max (-1074 + (e : Int) + (m.log2 : Nat) - ((52 : Nat) : Int)) (-1074) = -1074 + (E : Int) := by omega
    simp only [hlast]
    unfold rne
    rw [← hE]
    rw [show ((-1074 + (E : Int)) - -1074).toNat = E by omega]
    have h1 : (-1074 + (e : Int) - (-1074 + (E : Int))).toNat = e - E := by omega
    have h2 : (-1074 + (E : Int) - (-1074 + (e : Int))).toNat = E - e := by omega
    have hk : Ieee.Toward.even.cut s (m <<< (e - E)) (E - e) = rnd (m * 2 ^ e) E := by
      rw [Nat.shiftLeft_eq]
      rcases Nat.le_total E e with h | h
      · rw [show E - e = 0 by omega, cut_eq _ _ _ (Nat.zero_le _), rnd_zero]
        have := rnd_exact (m * 2 ^ (e - E)) E
        rw [Nat.mul_assoc, ← Nat.pow_add, Nat.sub_add_cancel h] at this
        rw [this]
      · rw [show e - E = 0 by omega, Nat.pow_zero, Nat.mul_one, cut_eq _ _ _ (by omega)]
        have := rnd_scale m (E - e) e
        rw [Nat.sub_add_cancel h] at this
        rw [this]
    rw [h1, h2, hk]
end Go.Proofs.Ytmlcpedbpjghhaa
