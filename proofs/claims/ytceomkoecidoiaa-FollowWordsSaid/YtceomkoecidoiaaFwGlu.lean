/-
  A tree whose leaves have places of their own reads just the paths of its sets.
-/
import Derived.Test.YtceomkoecidoiaaFwLaw
namespace Go.Proofs.Ytceomkoecidoiaa

/-- each step from i up to j is told -/
def Steps (R : Nat → Nat → Bool) (l : Nat → Nat) (i j : Nat) : Prop := ∀ k, i ≤ k → k + 1 < j → R (l k) (l (k + 1)) = true
/-- a path of a tree from i to j, not empty -/
structure PathT (t : Tr) (l : Nat → Nat) (i j : Nat) : Prop where
  lt : i < j
  first : t.first (l i) = true
  last : t.last (l (j - 1)) = true
  steps : Steps t.next l i j

def Tr.on (t : Tr) (i : Nat) : Prop := (i : Int) ∈ t.leaves
theorem first_on (t : Tr) (i : Nat) (h : t.first i = true) : t.on i := by
  induction t with
  | eps p => cases h
  | leaf p => simp [Tr.first] at h; simp [Tr.on, Tr.leaves, h]
  | cat p a b iha ihb =>
    simp only [Tr.first, Bool.or_eq_true, Bool.and_eq_true] at h
    exact List.mem_append.2 (h.imp iha (fun h => ihb h.2))
  | alt p a b iha ihb =>
    simp only [Tr.first, Bool.or_eq_true] at h
    exact List.mem_append.2 (h.imp iha ihb)
  | loop p a ih => exact ih h
theorem last_on (t : Tr) (i : Nat) (h : t.last i = true) : t.on i := by
  induction t with
  | eps p => cases h
  | leaf p => simp [Tr.last] at h; simp [Tr.on, Tr.leaves, h]
  | cat p a b iha ihb =>
    simp only [Tr.last, Bool.or_eq_true, Bool.and_eq_true] at h
    exact List.mem_append.2 (h.symm.imp (fun h => iha h.2) ihb)
  | alt p a b iha ihb =>
    simp only [Tr.last, Bool.or_eq_true] at h
    exact List.mem_append.2 (h.imp iha ihb)
  | loop p a ih => exact ih h
theorem next_on (t : Tr) (i j : Nat) (h : t.next i j = true) : t.on i ∧ t.on j := by
  induction t with
  | eps p => cases h
  | leaf p => cases h
  | cat p a b iha ihb =>
    simp only [Tr.next, Bool.or_eq_true, Bool.and_eq_true] at h
    rcases h with (h | h) | h
    · exact ⟨List.mem_append.2 (Or.inl (iha h).1), List.mem_append.2 (Or.inl (iha h).2)⟩
    · exact ⟨List.mem_append.2 (Or.inr (ihb h).1), List.mem_append.2 (Or.inr (ihb h).2)⟩
    · exact ⟨List.mem_append.2 (Or.inl (last_on a i h.1)), List.mem_append.2 (Or.inr (first_on b j h.2))⟩
  | alt p a b iha ihb =>
    simp only [Tr.next, Bool.or_eq_true] at h
    rcases h with h | h
    · exact ⟨List.mem_append.2 (Or.inl (iha h).1), List.mem_append.2 (Or.inl (iha h).2)⟩
    · exact ⟨List.mem_append.2 (Or.inr (ihb h).1), List.mem_append.2 (Or.inr (ihb h).2)⟩
  | loop p a ih =>
    simp only [Tr.next, Bool.or_eq_true, Bool.and_eq_true] at h
    rcases h with h | h
    · exact ih h
    · exact ⟨last_on a i h.1, first_on a j h.2⟩

/-- a step outside, or all steps inside -/
theorem cross (R : Nat → Nat → Bool) (l : Nat → Nat) (i j : Nat) (hij : i < j) : Steps R l i j ∨ ∃ k, i ≤ k ∧ k + 1 < j ∧ Steps R l i (k + 1) ∧ R (l k) (l (k + 1)) = false := by
  induction j with
  | zero => omega
  | succ j ih =>
    by_cases e : i = j
    · subst e
      exact Or.inl (fun k h1 h2 => by omega)
    · rcases ih (by omega) with h | ⟨k, h1, h2, h3, h4⟩
      · by_cases hr : R (l (j - 1)) (l (j - 1 + 1)) = true
        · refine Or.inl (fun k h1 h2 => ?_)
          by_cases hk : k = j - 1
          · subst hk; exact hr
          · exact h k h1 (by omega)
        · refine Or.inr ⟨j - 1, by omega, by omega, ?_, by simpa using hr⟩
          rw [show j - 1 + 1 = j by omega]
          exact h
      · exact Or.inr ⟨k, h1, by omega, h3, h4⟩

/-- from a place of b there is no way back to a, nor out of either's own steps -/
theorem stay_in {t x : Tr} {l : Nat → Nat} (hx : ∀ p q, x.on p → t.next p q = true → x.next p q = true) {i j : Nat} (hi : x.on (l i)) (h : Steps t.next l i j) : ∀ k, i ≤ k → k < j → x.on (l k) ∧ (k + 1 < j → x.next (l k) (l (k + 1)) = true) := by
  have key : ∀ m, i + m < j → x.on (l (i + m)) := by
    intro m
    induction m with
    | zero => exact fun _ => hi
    | succ m ih =>
      intro hm
      have h0 := ih (by omega)
      have h1 := h (i + m) (by omega) (by omega)
      exact (next_on x _ _ (hx _ _ h0 h1)).2
  intro k h1 h2
  have hk : x.on (l k) := by
    have := key (k - i) (by omega)
    rwa [show i + (k - i) = k by omega] at this
  exact ⟨hk, fun h3 => hx _ _ hk (h k h1 h3)⟩

theorem reads_le {n : Nat} {hit : Nat → Nat → Bool} {t : Tr} {i j : Nat} (h : Parses n hit t i j) : i ≤ j := by
  induction h with
  | eps => exact Nat.le_refl _
  | leaf _ _ => omega
  | cat _ _ h1 h2 => omega
  | altl _ h => exact h
  | altr _ h => exact h
  | once _ h => exact h
  | again _ _ h1 h2 => omega
theorem reads_end {n : Nat} {hit : Nat → Nat → Bool} {t : Tr} {i j : Nat} (h : Parses n hit t i j) (hi : i ≤ n) : j ≤ n := by
  induction h with
  | eps => exact hi
  | leaf h _ => omega
  | cat _ _ h1 h2 => exact h2 (h1 hi)
  | altl _ h => exact h hi
  | altr _ h => exact h hi
  | once _ h => exact h hi
  | again _ _ h1 h2 => exact h2 (h1 hi)

/-- the leaves of two trees are apart -/
def Apart (a b : Tr) : Prop := ∀ p, a.on p → b.on p → False
def Lin : Tr → Prop
  | .eps _ => True
  | .leaf p => 0 ≤ p
  | .cat _ a b => Lin a ∧ Lin b ∧ Apart a b
  | .alt _ a b => Lin a ∧ Lin b ∧ Apart a b
  | .loop _ a => Lin a

theorem path_join {t a b : Tr} {l : Nat → Nat} {i k j : Nat} (ha : PathT a l i k) (hb : PathT b l k j) (hna : ∀ p q, a.next p q = true → t.next p q = true) (hnb : ∀ p q, b.next p q = true → t.next p q = true)
    (hx : ∀ p q, a.last p = true → b.first q = true → t.next p q = true) : Steps t.next l i j := by
  intro m h1 h2
  by_cases c1 : m + 1 < k
  · exact hna _ _ (ha.steps m h1 c1)
  · by_cases c2 : m + 1 = k
    · have h3 := ha.last
      have h4 := hb.first
      rw [← c2, show m + 1 - 1 = m by omega] at h3
      rw [← c2] at h4
      exact hx _ _ h3 h4
    · exact hnb _ _ (hb.steps m (by omega) h2)

/-- what is read is a path -/
theorem reads_path {n : Nat} {hit : Nat → Nat → Bool} {l : Nat → Nat} (hl : ∀ p i, hit p i = true → i < n → l i = p) {t : Tr} {i j : Nat} (h : Parses n hit t i j) (hL : Lin t) : (i = j ∧ t.null = true) ∨ PathT t l i j := by
  induction h with
  | eps => exact Or.inl ⟨rfl, rfl⟩
  | leaf h1 h2 =>
    rename_i p i
    have he := hl _ _ h2 h1
    have hp : p = (l i : Int) := by simp only [Lin] at hL; omega
    exact Or.inr ⟨by omega, by simp [Tr.first, hp], by simp [Tr.last, hp], fun k h1 h2 => by omega⟩
  | cat ha hb iha ihb =>
    rename_i p a b i k j
    obtain ⟨La, Lb, _⟩ := hL
    rcases iha La with ⟨rfl, na⟩ | pa
    · rcases ihb Lb with ⟨rfl, nb⟩ | pb
      · exact Or.inl ⟨rfl, by simp [Tr.null, na, nb]⟩
      · exact Or.inr ⟨pb.lt, by simp [Tr.first, na, pb.first], by simp [Tr.last, pb.last], fun m h1 h2 => by simp [Tr.next, pb.steps m h1 h2]⟩
    · rcases ihb Lb with ⟨rfl, nb⟩ | pb
      · exact Or.inr ⟨pa.lt, by simp [Tr.first, pa.first], by simp [Tr.last, nb, pa.last], fun m h1 h2 => by simp [Tr.next, pa.steps m h1 h2]⟩
      · exact Or.inr ⟨by have := pa.lt; have := pb.lt; omega, by simp [Tr.first, pa.first], by simp [Tr.last, pb.last],
          path_join pa pb (fun p q h => by simp [Tr.next, h]) (fun p q h => by simp [Tr.next, h]) (fun p q h1 h2 => by simp [Tr.next, h1, h2])⟩
  | altl ha iha =>
    obtain ⟨La, Lb, _⟩ := hL
    rcases iha La with ⟨rfl, na⟩ | pa
    · exact Or.inl ⟨rfl, by simp [Tr.null, na]⟩
    · exact Or.inr ⟨pa.lt, by simp [Tr.first, pa.first], by simp [Tr.last, pa.last], fun m h1 h2 => by simp [Tr.next, pa.steps m h1 h2]⟩
  | altr ha iha =>
    obtain ⟨La, Lb, _⟩ := hL
    rcases iha Lb with ⟨rfl, na⟩ | pa
    · exact Or.inl ⟨rfl, by simp [Tr.null, na]⟩
    · exact Or.inr ⟨pa.lt, by simp [Tr.first, pa.first], by simp [Tr.last, pa.last], fun m h1 h2 => by simp [Tr.next, pa.steps m h1 h2]⟩
  | once ha iha =>
    rcases iha hL with ⟨rfl, na⟩ | pa
    · exact Or.inl ⟨rfl, na⟩
    · exact Or.inr ⟨pa.lt, pa.first, pa.last, fun m h1 h2 => by simp [Tr.next, pa.steps m h1 h2]⟩
  | again ha hb iha ihb =>
    rcases iha hL with ⟨rfl, na⟩ | pa
    · rcases ihb hL with ⟨rfl, nb⟩ | pb
      · exact Or.inl ⟨rfl, nb⟩
      · exact Or.inr ⟨pb.lt, pb.first, pb.last, fun m h1 h2 => by simp [Tr.next, pb.steps m h1 h2]⟩
    · rcases ihb hL with ⟨rfl, nb⟩ | pb
      · exact Or.inr pa
      · exact Or.inr ⟨by have := pa.lt; have := pb.lt; omega, pa.first, pb.last,
          path_join pa pb (fun p q h => h) (fun p q h => by simp [Tr.next, h]) (fun p q h1 h2 => by
            have h1' : Tr.last _ p = true := h1
            simp only [Tr.last] at h1'
            simp [Tr.next, h1', h2])⟩

theorem next_cat_a {p : Int} {a b : Tr} (hA : Apart a b) (x y : Nat) (hx : a.on x) (h : (Tr.cat p a b).next x y = true) : a.next x y = true ∨ (a.last x = true ∧ b.first y = true) := by
  simp only [Tr.next, Bool.or_eq_true, Bool.and_eq_true] at h
  rcases h with (h | h) | h
  · exact Or.inl h
  · exact absurd (next_on b _ _ h).1 (fun hb => hA x hx hb)
  · exact Or.inr h
theorem next_cat_b {p : Int} {a b : Tr} (hA : Apart a b) (x y : Nat) (hx : b.on x) (h : (Tr.cat p a b).next x y = true) : b.next x y = true := by
  simp only [Tr.next, Bool.or_eq_true, Bool.and_eq_true] at h
  rcases h with (h | h) | h
  · exact absurd (next_on a _ _ h).1 (fun ha => hA x ha hx)
  · exact h
  · exact absurd (last_on a _ h.1) (fun ha => hA x ha hx)
theorem last_cat_b {p : Int} {a b : Tr} (hA : Apart a b) (x : Nat) (hx : b.on x) (h : (Tr.cat p a b).last x = true) : b.last x = true := by
  simp only [Tr.last, Bool.or_eq_true, Bool.and_eq_true] at h
  rcases h with h | h
  · exact h
  · exact absurd (last_on a _ h.2) (fun ha => hA x ha hx)
theorem last_cat_a {p : Int} {a b : Tr} (hA : Apart a b) (x : Nat) (hx : a.on x) (h : (Tr.cat p a b).last x = true) : b.null = true ∧ a.last x = true := by
  simp only [Tr.last, Bool.or_eq_true, Bool.and_eq_true] at h
  rcases h with h | h
  · exact absurd (last_on b _ h) (fun hb => hA x hx hb)
  · exact h

/-- a path inside b, told by cat -/
theorem path_cat_b {p : Int} {a b : Tr} {l : Nat → Nat} {i j : Nat} (hA : Apart a b) (hij : i < j) (hf : b.first (l i) = true) (hl : (Tr.cat p a b).last (l (j - 1)) = true) (hs : Steps (Tr.cat p a b).next l i j) : PathT b l i j := by
  have hst := stay_in (x := b) (next_cat_b hA) (first_on b _ hf) hs
  exact ⟨hij, hf, last_cat_b hA _ (hst (j - 1) (by omega) (by omega)).1 hl, fun k h1 h2 => (hst k h1 (by omega)).2 h2⟩

/-- a path is read -/
theorem path_reads {n : Nat} {hit : Nat → Nat → Bool} {l : Nat → Nat} (hl : ∀ i, i < n → hit (l i) i = true) (t : Tr) (hL : Lin t) : (t.null = true → ∀ i, Parses n hit t i i) ∧ ∀ i j, j ≤ n → PathT t l i j → Parses n hit t i j := by
  induction t with
  | eps p => exact ⟨fun _ i => .eps, fun i j _ h => by have := h.first; cases this⟩
  | leaf p =>
    refine ⟨fun h => (by cases h), fun i j hj h => ?_⟩
    have h1 : p = l i := by simpa [Tr.first] using h.first
    have h2 : ¬ i + 1 < j := fun c => by have := h.steps i (Nat.le_refl _) c; cases this
    obtain rfl : j = i + 1 := by have := h.lt; omega
    exact .leaf (by omega) (by rw [h1]; simpa using hl i (by omega))
  | cat p a b iha ihb =>
    obtain ⟨La, Lb, hA⟩ := hL
    obtain ⟨na, pa⟩ := iha La
    obtain ⟨nb, pb⟩ := ihb Lb
    refine ⟨fun h i => ?_, fun i j hj h => ?_⟩
    · simp only [Tr.null, Bool.and_eq_true] at h
      exact .cat (na h.1 i) (nb h.2 i)
    · have hf := h.first
      simp only [Tr.first, Bool.or_eq_true, Bool.and_eq_true] at hf
      rcases hf with hf | ⟨hn, hf⟩
      · -- begins in a
        rcases cross a.next l i j h.lt with hall | ⟨k, h1, h2, h3, h4⟩
        · have hon : a.on (l (j - 1)) := by
            by_cases c : i = j - 1
            · rw [← c]; exact first_on a _ hf
            · have := hall (j - 2) (by have := h.lt; omega) (by have := h.lt; omega)
              rw [show j - 2 + 1 = j - 1 by have := h.lt; omega] at this
              exact (next_on a _ _ this).2
          obtain ⟨c1, c2⟩ := last_cat_a hA _ hon h.last
          exact .cat (pa i j hj ⟨h.lt, hf, c2, hall⟩) (nb c1 j)
        · have hon : a.on (l k) := by
            by_cases c : i = k
            · rw [← c]; exact first_on a _ hf
            · have := h3 (k - 1) (by omega) (by omega)
              rw [show k - 1 + 1 = k by omega] at this
              exact (next_on a _ _ this).2
          rcases next_cat_a hA _ _ hon (h.steps k h1 h2) with c | ⟨c1, c2⟩
          · rw [c] at h4; cases h4
          · refine .cat (k := k + 1) (pa i (k + 1) (by omega) ⟨by omega, hf, by rw [show k + 1 - 1 = k by omega]; exact c1, h3⟩) (pb (k + 1) j hj ?_)
            exact path_cat_b hA h2 c2 h.last (fun m g1 g2 => h.steps m (by omega) g2)
      · exact .cat (na hn i) (pb i j hj (path_cat_b hA h.lt hf h.last h.steps))
  | alt p a b iha ihb =>
    obtain ⟨La, Lb, hA⟩ := hL
    obtain ⟨na, pa⟩ := iha La
    obtain ⟨nb, pb⟩ := ihb Lb
    have hxa : ∀ x y, a.on x → (Tr.alt p a b).next x y = true → a.next x y = true := by
      intro x y hx h
      simp only [Tr.next, Bool.or_eq_true] at h
      exact h.resolve_right (fun c => hA x hx (next_on b _ _ c).1)
    have hxb : ∀ x y, b.on x → (Tr.alt p a b).next x y = true → b.next x y = true := by
      intro x y hx h
      simp only [Tr.next, Bool.or_eq_true] at h
      exact h.resolve_left (fun c => hA x (next_on a _ _ c).1 hx)
    refine ⟨fun h i => ?_, fun i j hj h => ?_⟩
    · simp only [Tr.null, Bool.or_eq_true] at h
      exact h.elim (fun h => .altl (na h i)) (fun h => .altr (nb h i))
    · have hf := h.first
      have hla := h.last
      simp only [Tr.first, Bool.or_eq_true] at hf
      simp only [Tr.last, Bool.or_eq_true] at hla
      rcases hf with hf | hf
      · have hst := stay_in (x := a) hxa (first_on a _ hf) h.steps
        have hon := (hst (j - 1) (by have := h.lt; omega) (by have := h.lt; omega)).1
        exact .altl (pa i j hj ⟨h.lt, hf, hla.resolve_right (fun c => hA _ hon (last_on b _ c)), fun k h1 h2 => (hst k h1 (by omega)).2 h2⟩)
      · have hst := stay_in (x := b) hxb (first_on b _ hf) h.steps
        have hon := (hst (j - 1) (by have := h.lt; omega) (by have := h.lt; omega)).1
        exact .altr (pb i j hj ⟨h.lt, hf, hla.resolve_left (fun c => hA _ (last_on a _ c) hon), fun k h1 h2 => (hst k h1 (by omega)).2 h2⟩)
  | loop p a ih =>
    obtain ⟨na, pa⟩ := ih hL
    have chain : ∀ i k j, Parses n hit a i k → Parses n hit (.loop p a) k j → Parses n hit (.loop p a) i j := by
      intro i k j h1 h2
      generalize ht : Tr.loop p a = t at h2
      induction h2 with
      | once h => cases ht; exact .again (.once h1) h
      | again g1 g2 i1 _ => cases ht; exact .again (i1 h1 rfl) g2
      | eps => cases ht
      | leaf _ _ => cases ht
      | cat _ _ _ _ => cases ht
      | altl _ _ => cases ht
      | altr _ _ => cases ht
    refine ⟨fun h i => .once (na h i), ?_⟩
    have key : ∀ m i j, j - i ≤ m → j ≤ n → PathT (.loop p a) l i j → Parses n hit (.loop p a) i j := by
      intro m
      induction m with
      | zero => exact fun i j hm _ h => by have := h.lt; omega
      | succ m ihm =>
        intro i j hm hj h
        rcases cross a.next l i j h.lt with hall | ⟨k, h1, h2, h3, h4⟩
        · exact .once (pa i j hj ⟨h.lt, h.first, h.last, hall⟩)
        · have hs := h.steps k h1 h2
          simp only [Tr.next, Bool.or_eq_true, Bool.and_eq_true] at hs
          rcases hs with c | ⟨c1, c2⟩
          · rw [c] at h4; cases h4
          · exact chain i (k + 1) j (pa i (k + 1) (by omega) ⟨by omega, h.first, by rw [show k + 1 - 1 = k by omega]; exact c1, h3⟩)
              (ihm (k + 1) j (by omega) hj ⟨h2, c2, h.last, fun m g1 g2 => h.steps m (by omega) g2⟩)
    exact fun i j hj h => key (j - i) i j (Nat.le_refl _) hj h
end Go.Proofs.Ytceomkoecidoiaa
