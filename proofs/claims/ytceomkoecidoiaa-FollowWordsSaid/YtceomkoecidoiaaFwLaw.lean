/-
  Words and paths, plain: what is read of a word by a tree is a path of its places, where each leaf has a place of its own.
-/
import Derived.Test.YtceomkoecidoiaaFolDefs
namespace Go.Proofs.Ytceomkoecidoiaa

/-- the places behind a tree's words: 'hit p i': the i-th letter of n is that of place p -/
def sem (n : Nat) (hit : Nat → Nat → Bool) : Tr → (Nat → Bool) → Nat → Bool
  | .eps _, S => S
  | .leaf p, S => fun j => decide (1 ≤ j ∧ j ≤ n) && S (j - 1) && hit p.toNat (j - 1)
  | .cat _ a b, S => sem n hit b (sem n hit a S)
  | .alt _ a b, S => fun j => sem n hit a S j || sem n hit b S j
  | .loop _ a, S => Nat.rec (sem n hit a S) (fun _ O => fun j => O j || sem n hit a O j) (n + 1)

/-- one round more -/
def more (n : Nat) (hit : Nat → Nat → Bool) (a : Tr) (O : Nat → Bool) : Nat → Bool := fun j => O j || sem n hit a O j
def rounds (n : Nat) (hit : Nat → Nat → Bool) (a : Tr) (S : Nat → Bool) : Nat → Nat → Bool
  | 0 => sem n hit a S
  | k + 1 => more n hit a (rounds n hit a S k)
theorem sem_loop (n : Nat) (hit : Nat → Nat → Bool) (p : Int) (a : Tr) (S : Nat → Bool) : sem n hit (.loop p a) S = rounds n hit a S (n + 1) := by
  have h : ∀ k, (Nat.rec (sem n hit a S) (fun _ O => fun j => O j || sem n hit a O j) k : Nat → Bool) = rounds n hit a S k := by
    intro k
    induction k with
    | zero => rfl
    | succ k ih => exact congrArg (fun O => fun j => O j || sem n hit a O j) ih
  exact h (n + 1)

/-- nothing beyond the word's end -/
def Upto (n : Nat) (S : Nat → Bool) : Prop := ∀ j, S j = true → j ≤ n
theorem upto_more {n : Nat} {hit : Nat → Nat → Bool} {a : Tr} (ih : ∀ S, Upto n S → Upto n (sem n hit a S)) {O : Nat → Bool} (h : Upto n O) : Upto n (more n hit a O) := by
  intro j hj
  unfold more at hj
  rw [Bool.or_eq_true] at hj
  exact hj.elim (h j) (ih O h j)
theorem upto_rounds {n : Nat} {hit : Nat → Nat → Bool} {a : Tr} (ih : ∀ S, Upto n S → Upto n (sem n hit a S)) {S : Nat → Bool} (h : Upto n S) : ∀ k, Upto n (rounds n hit a S k)
  | 0 => ih S h
  | k + 1 => upto_more ih (upto_rounds ih h k)
theorem upto_sem (n : Nat) (hit : Nat → Nat → Bool) (t : Tr) : ∀ S, Upto n S → Upto n (sem n hit t S) := by
  induction t with
  | eps p => exact fun S h => h
  | leaf p =>
    intro S _ j hj
    simp only [sem, Bool.and_eq_true, decide_eq_true_eq] at hj
    exact hj.1.1.2
  | cat p a b iha ihb => exact fun S h => ihb _ (iha _ h)
  | alt p a b iha ihb =>
    intro S h j hj
    simp only [sem, Bool.or_eq_true] at hj
    exact hj.elim (iha S h j) (ihb S h j)
  | loop p a ih =>
    intro S h
    rw [sem_loop]
    exact upto_rounds ih h _

/-- a tree's words from i to j -/
inductive Parses (n : Nat) (hit : Nat → Nat → Bool) : Tr → Nat → Nat → Prop
  | eps {p : Int} {i : Nat} : Parses n hit (.eps p) i i
  | leaf {p : Int} {i : Nat} : i < n → hit p.toNat i = true → Parses n hit (.leaf p) i (i + 1)
  | cat {p : Int} {a b : Tr} {i k j : Nat} : Parses n hit a i k → Parses n hit b k j → Parses n hit (.cat p a b) i j
  | altl {p : Int} {a b : Tr} {i j : Nat} : Parses n hit a i j → Parses n hit (.alt p a b) i j
  | altr {p : Int} {a b : Tr} {i j : Nat} : Parses n hit b i j → Parses n hit (.alt p a b) i j
  | once {p : Int} {a : Tr} {i j : Nat} : Parses n hit a i j → Parses n hit (.loop p a) i j
  | again {p : Int} {a : Tr} {i k j : Nat} : Parses n hit (.loop p a) i k → Parses n hit a k j → Parses n hit (.loop p a) i j

/-- the rounds come to an end -/
def cnt (S : Nat → Bool) : Nat → Nat
  | 0 => if S 0 then 1 else 0
  | k + 1 => cnt S k + if S (k + 1) then 1 else 0
theorem cnt_le (S : Nat → Bool) : ∀ n, cnt S n ≤ n + 1
  | 0 => by unfold cnt; split <;> omega
  | n + 1 => by have := cnt_le S n; unfold cnt; split <;> omega
theorem cnt_mono {S T : Nat → Bool} (h : ∀ j, S j = true → T j = true) : ∀ n, cnt S n ≤ cnt T n
  | 0 => by
    unfold cnt
    by_cases h0 : S 0 = true
    · rw [if_pos h0, if_pos (h 0 h0)]; omega
    · rw [if_neg h0]; omega
  | n + 1 => by
    have := cnt_mono h n
    unfold cnt
    by_cases h0 : S (n + 1) = true
    · rw [if_pos h0, if_pos (h _ h0)]; omega
    · rw [if_neg h0]; omega
theorem cnt_lt {S T : Nat → Bool} (h : ∀ j, S j = true → T j = true) : ∀ n, (∃ j, j ≤ n ∧ T j = true ∧ S j = false) → cnt S n < cnt T n
  | 0, ⟨j, hj, ht, hs⟩ => by
    obtain rfl : j = 0 := by omega
    unfold cnt
    rw [if_pos ht, if_neg (by rw [hs]; simp)]; omega
  | n + 1, ⟨j, hj, ht, hs⟩ => by
    by_cases e : j = n + 1
    · subst e
      have := cnt_mono h n
      unfold cnt
      rw [if_pos ht, if_neg (by rw [hs]; simp)]; omega
    · have := cnt_lt h n ⟨j, by omega, ht, hs⟩
      unfold cnt
      by_cases h0 : S (n + 1) = true
      · rw [if_pos h0, if_pos (h _ h0)]; omega
      · rw [if_neg h0]; omega
theorem more_ge (n : Nat) (hit : Nat → Nat → Bool) (a : Tr) (O : Nat → Bool) : ∀ j, O j = true → more n hit a O j = true := fun j h => by unfold more; rw [h]; rfl
/-- a round that adds nothing, or one place more than there were -/
theorem more_step (n : Nat) (hit : Nat → Nat → Bool) (a : Tr) {O : Nat → Bool} (h : Upto n O) (ho : more n hit a O ≠ O) : cnt O n < cnt (more n hit a O) n := by
  refine cnt_lt (more_ge n hit a O) n ?_
  have hu := upto_more (upto_sem n hit a) h
  apply Classical.byContradiction
  intro hc
  apply ho
  funext j
  cases hT : more n hit a O j with
  | false =>
    cases hO : O j with
    | false => rfl
    | true => rw [more_ge n hit a O j hO] at hT; cases hT
  | true =>
    cases hO : O j with
    | true => rfl
    | false => exact absurd ⟨j, hu j hT, hT, hO⟩ hc
theorem rounds_stay {n : Nat} {hit : Nat → Nat → Bool} {a : Tr} {S : Nat → Bool} {k : Nat} (h : rounds n hit a S (k + 1) = rounds n hit a S k) : ∀ m, rounds n hit a S (k + m) = rounds n hit a S k
  | 0 => rfl
  | m + 1 => by
    have ih := rounds_stay h m
    show more n hit a (rounds n hit a S (k + m)) = _
    rw [ih]
    exact h
theorem rounds_cnt {n : Nat} {hit : Nat → Nat → Bool} {a : Tr} {S : Nat → Bool} (h : Upto n S) : ∀ k, (∀ i, i < k → rounds n hit a S (i + 1) ≠ rounds n hit a S i) → k ≤ cnt (rounds n hit a S k) n
  | 0, _ => Nat.zero_le _
  | k + 1, hk => by
    have ih := rounds_cnt h k (fun i hi => hk i (by omega))
    have := more_step n hit a (upto_rounds (upto_sem n hit a) h k) (hk k (by omega))
    show k + 1 ≤ cnt (more n hit a (rounds n hit a S k)) n
    omega
/-- so after n + 1 rounds nothing is added -/
theorem rounds_end {n : Nat} {hit : Nat → Nat → Bool} {a : Tr} {S : Nat → Bool} (h : Upto n S) : rounds n hit a S (n + 1 + 1) = rounds n hit a S (n + 1) := by
  apply Classical.byContradiction
  intro hc
  have hall : ∀ i, i < n + 1 + 1 → rounds n hit a S (i + 1) ≠ rounds n hit a S i := by
    intro i hi he
    have h1 := rounds_stay he (n + 1 - i)
    have h2 := rounds_stay he (n + 1 + 1 - i)
    rw [show i + (n + 1 - i) = n + 1 by omega] at h1
    rw [show i + (n + 1 + 1 - i) = n + 1 + 1 by omega] at h2
    exact hc (h2.trans h1.symm)
  have := rounds_cnt h _ hall
  have := cnt_le (rounds n hit a S (n + 1 + 1)) n
  omega
/-- where a round adds nothing, the loop is done -/
theorem rounds_done {n : Nat} {hit : Nat → Nat → Bool} {a : Tr} {S : Nat → Bool} (h : Upto n S) {k : Nat} (hk : k ≤ n + 1) (he : more n hit a (rounds n hit a S k) = rounds n hit a S k) : sem n hit (.loop 0 a) S = rounds n hit a S k := by
  rw [sem_loop]
  have := rounds_stay (S := S) (k := k) he (n + 1 - k)
  rwa [show k + (n + 1 - k) = n + 1 by omega] at this
theorem rounds_more {n : Nat} {hit : Nat → Nat → Bool} {a : Tr} {S : Nat → Bool} (h : Upto n S) {k : Nat} (hall : ∀ i, i ≤ k → more n hit a (rounds n hit a S i) ≠ rounds n hit a S i) : k + 1 ≤ n + 1 := by
  have h1 := rounds_cnt h (k + 1) (fun i hi => hall i (by omega))
  have h2 := cnt_le (rounds n hit a S (k + 1)) n
  omega

/-- what is told is what is read -/
theorem sem_reads (n : Nat) (hit : Nat → Nat → Bool) (t : Tr) : ∀ S, Upto n S → ∀ j, sem n hit t S j = true ↔ ∃ i, S i = true ∧ Parses n hit t i j := by
  induction t with
  | eps p =>
    intro S _ j
    constructor
    · exact fun h => ⟨j, h, .eps⟩
    · rintro ⟨i, h, hr⟩; cases hr; exact h
  | leaf p =>
    intro S hu j
    simp only [sem, Bool.and_eq_true, decide_eq_true_eq]
    constructor
    · rintro ⟨⟨⟨h1, h2⟩, h3⟩, h4⟩
      obtain ⟨i, rfl⟩ : ∃ i, j = i + 1 := ⟨j - 1, by omega⟩
      exact ⟨i, by simpa using h3, .leaf (by omega) (by simpa using h4)⟩
    · rintro ⟨i, h, hr⟩
      cases hr with
      | leaf h1 h2 => exact ⟨⟨⟨by omega, by omega⟩, by simpa using h⟩, by simpa using h2⟩
  | cat p a b iha ihb =>
    intro S hu j
    simp only [sem]
    rw [ihb _ (upto_sem n hit a S hu) j]
    constructor
    · rintro ⟨k, hk, hb⟩
      obtain ⟨i, hi, ha⟩ := (iha S hu k).1 hk
      exact ⟨i, hi, .cat ha hb⟩
    · rintro ⟨i, hi, hr⟩
      cases hr with
      | cat ha hb => exact ⟨_, (iha S hu _).2 ⟨i, hi, ha⟩, hb⟩
  | alt p a b iha ihb =>
    intro S hu j
    simp only [sem, Bool.or_eq_true]
    rw [iha S hu j, ihb S hu j]
    constructor
    · rintro (⟨i, hi, h⟩ | ⟨i, hi, h⟩)
      · exact ⟨i, hi, .altl h⟩
      · exact ⟨i, hi, .altr h⟩
    · rintro ⟨i, hi, hr⟩
      cases hr with
      | altl h => exact Or.inl ⟨i, hi, h⟩
      | altr h => exact Or.inr ⟨i, hi, h⟩
  | loop p a ih =>
    intro S hu j
    rw [sem_loop]
    have hu' := upto_rounds (upto_sem n hit a) hu
    have hsub : ∀ k j, rounds n hit a S k j = true → ∃ i, S i = true ∧ Parses n hit (.loop p a) i j := by
      intro k
      induction k with
      | zero =>
        intro j h
        obtain ⟨i, hi, hr⟩ := (ih S hu j).1 h
        exact ⟨i, hi, .once hr⟩
      | succ k ihk =>
        intro j h
        have h' : (rounds n hit a S k j || sem n hit a (rounds n hit a S k) j) = true := h
        rw [Bool.or_eq_true] at h'
        rcases h' with h' | h'
        · exact ihk j h'
        · obtain ⟨m, hm, hr⟩ := (ih _ (hu' k) j).1 h'
          obtain ⟨i, hi, hl⟩ := ihk m hm
          exact ⟨i, hi, .again hl hr⟩
    have hge : ∀ k m j, rounds n hit a S k j = true → rounds n hit a S (k + m) j = true := by
      intro k m
      induction m with
      | zero => exact fun j h => h
      | succ m ihm => exact fun j h => more_ge n hit a _ j (ihm j h)
    have hend := rounds_end (hit := hit) (a := a) hu
    constructor
    · exact hsub _ j
    · rintro ⟨i, hi, hr⟩
      generalize ht : Tr.loop p a = t at hr
      induction hr with
      | once h =>
        cases ht
        have h0 : rounds n hit a S 0 _ = true := (ih S hu _).2 ⟨_, hi, h⟩
        have := hge 0 (n + 1) _ h0
        rwa [Nat.zero_add] at this
      | again h1 h2 ih1 _ =>
        cases ht
        have hk := ih1 hi rfl
        rw [← hend]
        exact (Bool.or_eq_true _ _).mpr (Or.inr ((ih _ (hu' (n + 1)) _).2 ⟨_, hk, h2⟩))
      | eps => cases ht
      | leaf _ _ => cases ht
      | cat _ _ _ _ => cases ht
      | altl _ _ => cases ht
      | altr _ _ => cases ht
end Go.Proofs.Ytceomkoecidoiaa
