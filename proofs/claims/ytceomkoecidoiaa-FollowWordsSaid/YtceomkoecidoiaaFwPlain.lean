/-
  Plain laws of the row: leaves apart, how often the map is written, the letters' word.
-/
import Derived.Test.YtceomkoecidoiaaFwAccept
import Derived.Test.YtceomkoecidoiaaFwPath
import Derived.Test.YtceomkoecidoiaaFolOver
namespace Go.Proofs.Ytceomkoecidoiaa
open Go.RowKit

/-- no two leaves of a place -/
def NoTwice (N : List (Int × Int)) : Prop := ∀ i k, k < i → ¬ clash N i k
theorem leaf_at (t : Tr) (p : Int) (h : p ∈ t.leaves) : ∃ i : Nat, t.flat[i]? = some ((2 : Int), p) := by
  have := leaves_flat t p h
  obtain ⟨i, hi, he⟩ := List.mem_iff_getElem.1 this
  exact ⟨i, by rw [List.getElem?_eq_getElem hi, he]⟩
theorem NoTwice.left {a b : List (Int × Int)} (h : NoTwice (a ++ b)) : NoTwice a := by
  intro i k hk ⟨p, h1, h2⟩
  have l1 := (List.getElem?_eq_some_iff.1 h1).1
  have l2 := (List.getElem?_eq_some_iff.1 h2).1
  exact h i k hk ⟨p, by rw [List.getElem?_append_left l1]; exact h1, by rw [List.getElem?_append_left l2]; exact h2⟩
theorem NoTwice.right {a b : List (Int × Int)} (h : NoTwice (a ++ b)) : NoTwice b := by
  intro i k hk ⟨p, h1, h2⟩
  refine h (a.length + i) (a.length + k) (by omega) ⟨p, ?_, ?_⟩
  · rw [List.getElem?_append_right (by omega), show a.length + i - a.length = i by omega]; exact h1
  · rw [List.getElem?_append_right (by omega), show a.length + k - a.length = k by omega]; exact h2
theorem NoTwice.tail {x : Int × Int} {a : List (Int × Int)} (h : NoTwice (x :: a)) : NoTwice a := NoTwice.right (a := [x]) h
theorem apart_of {A B : Tr} (h : NoTwice (A.flat ++ B.flat)) : Apart A B := by
  intro p ha hb
  obtain ⟨i, hi⟩ := leaf_at A p ha
  obtain ⟨k, hk⟩ := leaf_at B p hb
  have l1 := (List.getElem?_eq_some_iff.1 hi).1
  refine h (A.flat.length + k) i (by omega) ⟨p, ?_, ?_⟩
  · rw [List.getElem?_append_right (by omega), show A.flat.length + k - A.flat.length = k by omega]; exact hk
  · rw [List.getElem?_append_left l1]; exact hi
theorem lin_of (t : Tr) (h : NoTwice t.flat) (hp : ∀ p ∈ t.leaves, 0 ≤ p) : Lin t := by
  induction t with
  | eps p => trivial
  | leaf p => exact hp p (by simp [Tr.leaves])
  | cat p a b iha ihb =>
    have h' := NoTwice.tail h
    exact ⟨iha h'.left (fun q hq => hp q (List.mem_append.2 (Or.inl hq))), ihb h'.right (fun q hq => hp q (List.mem_append.2 (Or.inr hq))), apart_of h'⟩
  | alt p a b iha ihb =>
    have h' := NoTwice.tail h
    exact ⟨iha h'.left (fun q hq => hp q (List.mem_append.2 (Or.inl hq))), ihb h'.right (fun q hq => hp q (List.mem_append.2 (Or.inr hq))), apart_of h'⟩
  | loop p a ih => exact ih (NoTwice.tail h) hp
theorem pow_mono1 (B d e : Nat) (hB : 1 ≤ B) (h : d ≤ e) : B ^ d ≤ B ^ e := Nat.pow_le_pow_right hB h
theorem cost_le (n : Nat) (t : Tr) : cost n t ≤ t.flat.length * (n + 3) ^ t.depth := by
  have hB : 1 ≤ n + 3 := by omega
  have two : ∀ (a b : Tr), cost n a ≤ a.flat.length * (n + 3) ^ a.depth → cost n b ≤ b.flat.length * (n + 3) ^ b.depth → 1 + cost n a + cost n b ≤ (1 + (a.flat.length + b.flat.length)) * (n + 3) ^ (max a.depth b.depth) := by
    intro a b iha ihb
    have h1 := Nat.le_trans iha (Nat.mul_le_mul_left a.flat.length (pow_mono1 (n + 3) _ (max a.depth b.depth) hB (Nat.le_max_left _ _)))
    have h2 := Nat.le_trans ihb (Nat.mul_le_mul_left b.flat.length (pow_mono1 (n + 3) _ (max a.depth b.depth) hB (Nat.le_max_right _ _)))
    have h3 : 1 ≤ (n + 3) ^ (max a.depth b.depth) := Nat.one_le_pow _ _ (by omega)
    rw [Nat.add_mul, Nat.add_mul, Nat.one_mul]
    omega
  induction t with
  | eps p => simp [cost, Tr.flat, Tr.depth]
  | leaf p => simp [cost, Tr.flat, Tr.depth]
  | cat p a b iha ihb =>
    have := two a b iha ihb
    simp only [cost, Tr.flat, Tr.depth, List.length_cons, List.length_append]
    rwa [Nat.add_comm (a.flat.length + b.flat.length) 1]
  | alt p a b iha ihb =>
    have := two a b iha ihb
    simp only [cost, Tr.flat, Tr.depth, List.length_cons, List.length_append]
    rwa [Nat.add_comm (a.flat.length + b.flat.length) 1]
  | loop p a ih =>
    have h3 : 1 ≤ (n + 3) ^ (a.depth + 1) := Nat.one_le_pow _ _ (by omega)
    have h4 : (n + 3) * cost n a ≤ a.flat.length * (n + 3) ^ (a.depth + 1) := by
      rw [Nat.pow_succ, ← Nat.mul_assoc, Nat.mul_comm (n + 3)]
      exact Nat.mul_le_mul_right _ ih
    simp only [cost, Tr.flat, Tr.depth, List.length_cons]
    rw [Nat.add_mul a.flat.length 1, Nat.one_mul]
    generalize (n + 3) * cost n a = X at *
    generalize a.flat.length * (n + 3) ^ (a.depth + 1) = Y at *
    generalize (n + 3) ^ (a.depth + 1) = Z at *
    omega
theorem cost_small {n : Nat} {t : Tr} (hn : n ≤ 100) (hl : t.flat.length ≤ 200) (hd : t.depth ≤ 6) : cost n t ≤ 4611686018427387904 := by
  have h1 := cost_le n t
  have h2 : (n + 3) ^ t.depth ≤ 103 ^ 6 := Nat.le_trans (Nat.pow_le_pow_left (by omega) _) (Nat.pow_le_pow_right (by omega) hd)
  have h3 := Nat.mul_le_mul hl h2
  have h4 : 200 * 103 ^ 6 ≤ 4611686018427387904 := by decide
  omega
theorem sem_congr {n : Nat} {h h' : Nat → Nat → Bool} (t : Tr) (hh : ∀ p ∈ t.leaves, ∀ i, i < n → h p.toNat i = h' p.toNat i) : ∀ S, sem n h t S = sem n h' t S := by
  induction t with
  | eps p => exact fun S => rfl
  | leaf p =>
    intro S
    funext j
    simp only [sem]
    by_cases hj : 1 ≤ j ∧ j ≤ n
    · rw [hh p (by simp [Tr.leaves]) (j - 1) (by omega)]
    · rw [decide_eq_false hj]; rfl
  | cat p a b iha ihb =>
    intro S
    simp only [sem]
    rw [iha (fun q hq => hh q (List.mem_append.2 (Or.inl hq))), ihb (fun q hq => hh q (List.mem_append.2 (Or.inr hq)))]
  | alt p a b iha ihb =>
    intro S
    simp only [sem]
    rw [iha (fun q hq => hh q (List.mem_append.2 (Or.inl hq))), ihb (fun q hq => hh q (List.mem_append.2 (Or.inr hq)))]
  | loop p a ih =>
    intro S
    rw [sem_loop, sem_loop]
    have ih' := ih hh
    have key : ∀ k, rounds n h a S k = rounds n h' a S k := by
      intro k
      induction k with
      | zero => exact ih' S
      | succ k ihk => show more n h a _ = more n h' a _; rw [ihk]; funext j; unfold more; rw [ih']
    exact key _
/-- the letter of a number -/
def letOf (P : Nat) (x : Int) : ByteArray := if 0 ≤ x ∧ x < P then lt x.toNat else ⟨#[63]⟩
theorem lt_eq {p q : Nat} (hp : p < 100) (hq : q < 100) : ((lt p).toList == (lt q).toList) = decide (p = q) := by
  by_cases h : p = q
  · subst h; simp
  · rw [decide_eq_false h, beq_eq_false_iff_ne]
    intro e
    rw [ByteArray.toList_eq, ByteArray.toList_eq] at e
    have e1 := e
    simp [lt] at e1
    have e2 := congrArg UInt8.toNat e1
    simp at e2
    omega
theorem hit_eq {P : Nat} (hP : P ≤ 24) (L : List Int) (p : Nat) (hp : p < P) (i : Nat) (hi : i < L.length) : hitW (L.map (letOf P)) p i = hitL P L p i := by
  unfold hitW hitS hitL
  rw [List.getD_eq_getElem?_getD, List.getElem?_map, List.getElem?_eq_getElem hi]
  simp only [Option.map_some, Option.getD_some]
  unfold letOf
  by_cases h : 0 ≤ L[i] ∧ L[i] < P
  · rw [if_pos h, lt_eq (by omega) (by omega)]
    have : (L[i].toNat = p) ↔ (some L[i] = some (p : Int) ∧ p < P) := by
      simp only [Option.some.injEq]; omega
    simp only [this]
  · rw [if_neg h]
    have h1 : ¬ (some L[i] = some (p : Int) ∧ p < P) := by
      simp only [Option.some.injEq]; omega
    rw [decide_eq_false h1, beq_eq_false_iff_ne]
    intro e
    rw [ByteArray.toList_eq, ByteArray.toList_eq] at e
    simp [lt] at e
    have e2 := congrArg UInt8.toNat e
    simp at e2
    omega
end Go.Proofs.Ytceomkoecidoiaa
