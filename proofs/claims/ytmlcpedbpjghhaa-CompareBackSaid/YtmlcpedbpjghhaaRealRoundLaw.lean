/-
  The document's 'round': plain laws on its loops.
-/
import Derived.Test.YtmlcpedbpjghhaaRealAddLaw
namespace Go.Proofs.Ytmlcpedbpjghhaa

theorem pow_pred {e : Nat} (h : 1 < e) : 2 ^ (e - 1) = 2 * 2 ^ (e - 1 - 1) := by
  rw [show e - 1 = (e - 1 - 1) + 1 by omega, Nat.pow_succ, Nat.add_sub_cancel, Nat.mul_comm]

/-- behind a round of the first loop -/
theorem up_step {m e S : Nat} (h1 : 2 ^ 56 ≤ m) (h2 : m < 2 ^ 62) (h3 : 1 ≤ e) (h : Stk m (8 * S) (e - 1)) : Stk (down1 m) (8 * S) (e + 1 - 1) ∧ 2 ^ 54 ≤ down1 m ∧ down1 m < 2 ^ 62 ∧ down1 m + e + 1 ≤ m + e := by
  have hd := h.down
  have hg := down1_ge (m := m)
  have hl := down1_lt (m := m) (by omega)
  refine ⟨?_, by omega, by omega, by omega⟩
  rw [show e + 1 - 1 = e - 1 + 1 by omega]
  exact hd

/-- what holds at the second loop's head -/
def Mid (m e S : Nat) : Prop := m < 2 ^ 56 ∧ 1 ≤ e ∧ ((Stk m (8 * S) (e - 1) ∧ (8 * S = m * 2 ^ (e - 1) ∨ 2 ^ 54 ≤ m)) ∨ (Stk2 m (8 * S) (e - 1) ∧ 2 ^ 55 + 2 ≤ m ∧ m + 2 ≤ 2 ^ 56))
theorem mid_step {m e S : Nat} (h : Mid m e S) (h1 : m < 2 ^ 55) (h2 : 1 < e) : Mid (2 * m) (e - 1) S := by
  obtain ⟨h3, h4, h5⟩ := h
  refine ⟨by omega, by omega, ?_⟩
  rcases h5 with ⟨h5, h6⟩ | ⟨_, h5, _⟩
  · have hp := pow_pred h2
    by_cases he : 8 * S = m * 2 ^ (e - 1)
    · have : 8 * S = 2 * m * 2 ^ (e - 1 - 1) := by
        rw [he, hp, Nat.mul_comm 2 m, Nat.mul_assoc]
      exact .inl ⟨.inl this, .inl this⟩
    · obtain ⟨h7, h8, h9⟩ := stk_exact h5 he
      have h6' : 2 ^ 54 ≤ m := by
        rcases h6 with h | h
        · exact absurd h he
        · exact h
      rw [hp] at h8 h9
      have a : (2 * m - 2) * 2 ^ (e - 1 - 1) = (m - 1) * (2 * 2 ^ (e - 1 - 1)) := by
        rw [show 2 * m - 2 = (m - 1) * 2 by omega, Nat.mul_assoc]
      have b : (2 * m + 2) * 2 ^ (e - 1 - 1) = (m + 1) * (2 * 2 ^ (e - 1 - 1)) := by
        rw [show 2 * m + 2 = (m + 1) * 2 by omega, Nat.mul_assoc]
      exact .inr ⟨⟨by omega, by rw [a]; exact h8, by rw [b]; exact h9⟩, by omega, by omega⟩
  · omega
theorem mid_end {m e S : Nat} (h : Mid m e S) (h1 : ¬ (m < 2 ^ 55 ∧ 1 < e)) : fin8 m e = rne S := by
  obtain ⟨h3, h4, h5⟩ := h
  rcases h5 with ⟨h5, h6⟩ | ⟨h5, h6, h7⟩
  · exact fin8_rne (.inl h5) h3 (by omega) h4 (fun _ => .inl h5)
  · exact fin8_rne (.inr h5) h3 (by omega) h4 (fun _ => .inr ⟨h6, h7⟩)
theorem good_mid {m e S : Nat} (h : Stk m (8 * S) (e - 1)) (hx : 8 * S = m * 2 ^ (e - 1) ∨ 2 ^ 54 ≤ m) (h1 : m < 2 ^ 56) (h2 : 1 ≤ e) : Mid m e S := ⟨h1, h2, .inl ⟨h, hx⟩⟩

/-- the end of 'round', as the code has it -/
def upQ (m : Nat) : Bool := decide (4 < m % 8) || (decide (m % 8 = 4) && decide (m / 8 % 2 = 1))
theorem rnd3 (m : Nat) : rnd m 3 = m / 8 + (if upQ m then 1 else 0) := by
  unfold rnd upQ
  simp only [show (2 : Nat) ^ 3 = 8 by rfl, Bool.or_eq_true, Bool.and_eq_true, decide_eq_true_eq]
  congr 1
  by_cases h : 4 < m % 8
  · rw [if_pos (by omega), if_pos (by omega)]
  · by_cases h1 : m % 8 = 4 ∧ m / 8 % 2 = 1
    · rw [if_pos (by omega), if_pos (by omega)]
    · rw [if_neg (by omega), if_neg (by omega)]
end Go.Proofs.Ytmlcpedbpjghhaa
