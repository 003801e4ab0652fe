/-
  A set of places as bits. Plain laws.
-/
import Derived.Test.YtceomkoecidoiaaFolW1
namespace Go.Proofs.Ytceomkoecidoiaa
open Go.RowKit

/-- the places below n that are in f, as bits -/
def msk (f : Nat → Bool) : Nat → Nat
  | 0 => 0
  | n + 1 => msk f n + (if f n then 2 ^ n else 0)

theorem msk_lt (f : Nat → Bool) (n : Nat) : msk f n < 2 ^ n := by
  induction n with
  | zero => simp [msk]
  | succ n ih => simp only [msk, Nat.pow_succ]; split <;> omega

theorem testBit_msk (f : Nat → Bool) (n i : Nat) : (msk f n).testBit i = (decide (i < n) && f i) := by
  induction n with
  | zero => simp [msk]
  | succ n ih =>
    simp only [msk]
    have hl := msk_lt f n
    by_cases hi : i = n
    · subst hi
      split
      · rename_i h
        rw [Nat.add_comm, Nat.testBit_two_pow_add_eq]
        simp [Nat.testBit_lt_two_pow hl, h]
      · rename_i h
        simp [Nat.testBit_lt_two_pow hl, h]
    · split
      · rcases Nat.lt_or_ge i n with h | h
        · rw [Nat.add_comm, Nat.testBit_two_pow_add_gt h, ih]
          simp [h, Nat.lt_succ_of_lt h]
        · have : 2 ^ n + msk f n < 2 ^ i := Nat.lt_of_lt_of_le (by omega : _ < 2 ^ n + 2 ^ n) (by rw [← Nat.two_mul, ← Nat.pow_succ']; exact Nat.pow_le_pow_right (by omega) (by omega))
          rw [Nat.add_comm, Nat.testBit_lt_two_pow this]
          simp; omega
      · rw [Nat.add_zero, ih]
        have : (i < n) ↔ (i < n + 1) := by omega
        simp [this]

theorem msk_ext {m n : Nat} (f : Nat → Bool) (hm : m < 2 ^ n) (h : ∀ i, i < n → m.testBit i = f i) : m = msk f n := by
  refine Nat.eq_of_testBit_eq fun i => ?_
  rw [testBit_msk]
  by_cases hi : i < n
  · simp [hi, h i hi]
  · rw [Nat.testBit_lt_two_pow (Nat.lt_of_lt_of_le hm (Nat.pow_le_pow_right (by omega) (by omega)))]
    simp [hi]

theorem msk_congr {f g : Nat → Bool} {n : Nat} (h : ∀ i, i < n → f i = g i) : msk f n = msk g n := by
  refine msk_ext g (msk_lt f n) (fun i hi => ?_)
  rw [testBit_msk, h i hi]; simp [hi]

theorem msk_inj {f g : Nat → Bool} {n : Nat} (h : msk f n = msk g n) : ∀ i, i < n → f i = g i := by
  intro i hi
  have := congrArg (fun x => Nat.testBit x i) h
  simpa [testBit_msk, hi] using this

theorem msk_or (f g : Nat → Bool) (n : Nat) : msk f n ||| msk g n = msk (fun i => f i || g i) n := by
  refine msk_ext _ (Nat.or_lt_two_pow (msk_lt f n) (msk_lt g n)) (fun i hi => ?_)
  rw [Nat.testBit_or, testBit_msk, testBit_msk]; simp [hi]

theorem msk_one (p n : Nat) (h : p < n) : msk (fun i => decide (p = i)) n = 2 ^ p := by
  refine (msk_ext _ (Nat.pow_lt_pow_right (by omega) h) (fun i hi => ?_)).symm
  rw [Nat.testBit_two_pow]

theorem msk_none (n : Nat) : msk (fun _ => false) n = 0 := by
  induction n with
  | zero => rfl
  | succ n ih => simp [msk, ih]

end Go.Proofs.Ytceomkoecidoiaa
