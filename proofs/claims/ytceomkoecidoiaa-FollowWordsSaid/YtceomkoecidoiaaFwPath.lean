/-
  A list of places is a path just if its word is read from the start to the end.
-/
import Derived.Test.YtceomkoecidoiaaFwGlu
import Derived.Test.YtceomkoecidoiaaFolPath
namespace Go.Proofs.Ytceomkoecidoiaa

/-- the i-th letter of the word is that of place p -/
def hitL (P : Nat) (L : List Int) (p i : Nat) : Bool := decide (L[i]? = some (p : Int) ∧ p < P)
def start0 : Nat → Bool := fun j => decide (j = 0)
def plcL (L : List Int) (i : Nat) : Nat := (L.getD i 0).toNat

theorem walk_iff {P : Nat} (hP : P ≤ 32) (T : Nat → Nat → Bool) : ∀ (L : List Int) (m : Nat → Bool), walkP P T m L = true ↔
    (∀ (i : Nat) (x : Int), L[i]? = some x → 0 ≤ x ∧ x < P) ∧ (0 < L.length → m (plcL L 0) = true) ∧ ∀ i, i + 1 < L.length → T (plcL L i) (plcL L (i + 1)) = true := by
  intro L
  induction L with
  | nil => intro m; simp [walkP]
  | cons x r ih =>
    intro m
    have hw : walkP P T m (x :: r) = ((hasF m x && decide (x < P)) && walkP P T (T x.toNat) r) := rfl
    rw [hw, Bool.and_eq_true, Bool.and_eq_true, ih]
    unfold hasF
    simp only [Bool.and_eq_true, decide_eq_true_eq]
    constructor
    · rintro ⟨⟨⟨h1, h2⟩, h3⟩, h4, h5, h6⟩
      refine ⟨fun i y hy => ?_, fun _ => h2, fun i hi => ?_⟩
      · cases i with
        | zero => simp at hy; subst hy; exact ⟨h1.1, h3⟩
        | succ i => exact h4 i y (by simpa using hy)
      · cases i with
        | zero => exact h5 (by simpa using hi)
        | succ i => exact h6 i (by simpa using hi)
    · rintro ⟨h1, h2, h3⟩
      have hx := h1 0 x rfl
      refine ⟨⟨⟨⟨hx.1, by omega⟩, h2 (by simp)⟩, hx.2⟩, fun i y hy => h1 (i + 1) y (by simpa using hy), fun h => h3 0 (by simpa using h), fun i hi => h3 (i + 1) (by simpa using hi)⟩

theorem reads_hit {n : Nat} {hit : Nat → Nat → Bool} {t : Tr} {i j : Nat} (h : Parses n hit t i j) : ∀ k, i ≤ k → k < j → ∃ p, hit p k = true := by
  induction h with
  | eps => exact fun k h1 h2 => by omega
  | leaf _ h =>
    intro k h1 h2
    obtain rfl : k = _ := Nat.le_antisymm (Nat.le_of_lt_succ h2) h1
    exact ⟨_, h⟩
  | cat ha hb iha ihb =>
    rename_i k' j'
    intro k h1 h2
    by_cases c : k < k'
    · exact iha k h1 c
    · exact ihb k (by omega) h2
  | altl _ h => exact h
  | altr _ h => exact h
  | once _ h => exact h
  | again ha hb iha ihb =>
    rename_i k' j'
    intro k h1 h2
    by_cases c : k < k'
    · exact iha k h1 c
    · exact ihb k (by omega) h2

theorem words_path {P : Nat} (hP : P ≤ 32) (t : Tr) (hL : Lin t) (L : List Int) :
    pathB t.null t.first t.last P t.next L = sem L.length (hitL P L) t start0 L.length := by
  have hu : Upto L.length start0 := fun j h => by simp [start0] at h; omega
  rw [Bool.eq_iff_iff, sem_reads L.length (hitL P L) t start0 hu]
  have h0 : (∃ i, start0 i = true ∧ Parses L.length (hitL P L) t i L.length) ↔ Parses L.length (hitL P L) t 0 L.length := by
    constructor
    · rintro ⟨i, hi, h⟩
      have : i = 0 := by simpa [start0] using hi
      rwa [this] at h
    · exact fun h => ⟨0, by simp [start0], h⟩
  rw [h0]
  have hp : ∀ p i, hitL P L p i = true → i < L.length → plcL L i = p := by
    intro p i h _
    unfold hitL at h
    rw [decide_eq_true_eq] at h
    simp [plcL, List.getD, h.1]
  by_cases hin : ∀ (i : Nat) (x : Int), L[i]? = some x → 0 ≤ x ∧ x < P
  · have hq : ∀ i, i < L.length → hitL P L (plcL L i) i = true := by
      intro i hi
      have := hin i _ (List.getElem?_eq_getElem hi)
      unfold hitL plcL
      rw [decide_eq_true_eq]
      rw [List.getD_eq_getElem?_getD, List.getElem?_eq_getElem hi]
      simp only [Option.getD_some]
      refine ⟨?_, by omega⟩
      rw [show ((L[i].toNat : Nat) : Int) = L[i] by omega]
    obtain ⟨nr, pr⟩ := path_reads (n := L.length) (hit := hitL P L) (l := plcL L) hq t hL
    cases hg : L.getLast? with
    | none =>
      have hn : L = [] := List.getLast?_eq_none_iff.1 hg
      subst hn
      simp only [pathB, List.getLast?_nil]
      constructor
      · exact fun h => nr h 0
      · intro h
        rcases reads_path hp h hL with ⟨_, h⟩ | h
        · exact h
        · exact absurd h.lt (by simp)
    | some z =>
      have hz : L[L.length - 1]? = some z := by rw [List.getLast?_eq_getElem?] at hg; exact hg
      have hpos : 0 < L.length := by
        cases L with
        | nil => cases hg
        | cons _ _ => simp
      have hzb := hin _ z hz
      have hlz : plcL L (L.length - 1) = z.toNat := by simp [plcL, List.getD, hz]
      have hpb : pathB t.null t.first t.last P t.next L = (walkP P t.next t.first L && hasF t.last z) := by simp only [pathB, hg]
      rw [hpb, Bool.and_eq_true, walk_iff hP]
      unfold hasF
      simp only [Bool.and_eq_true, decide_eq_true_eq]
      constructor
      · rintro ⟨⟨_, h2, h3⟩, _, h5⟩
        exact pr 0 L.length (Nat.le_refl _) ⟨hpos, h2 hpos, by rw [hlz]; exact h5, fun k _ h => h3 k h⟩
      · intro h
        rcases reads_path hp h hL with ⟨h, _⟩ | h
        · omega
        · exact ⟨⟨hin, fun _ => h.first, fun i hi => h.steps i (Nat.zero_le _) hi⟩, ⟨hzb.1, by omega⟩, by rw [← hlz]; exact h.last⟩
  · have hno : ¬ Parses L.length (hitL P L) t 0 L.length := by
      intro h
      apply hin
      intro i x hx
      have hi : i < L.length := (List.getElem?_eq_some_iff.1 hx).1
      obtain ⟨p, hp⟩ := reads_hit h i (Nat.zero_le _) hi
      unfold hitL at hp
      rw [decide_eq_true_eq, hx] at hp
      have := Option.some.inj hp.1
      omega
    refine ⟨fun h => ?_, fun h => absurd h hno⟩
    exfalso
    apply hin
    cases hg : L.getLast? with
    | none =>
      have hn : L = [] := List.getLast?_eq_none_iff.1 hg
      subst hn
      exact fun i x hx => by simp at hx
    | some z =>
      have hpb : pathB t.null t.first t.last P t.next L = (walkP P t.next t.first L && hasF t.last z) := by simp only [pathB, hg]
      rw [hpb, Bool.and_eq_true, walk_iff hP] at h
      exact h.1.1
end Go.Proofs.Ytceomkoecidoiaa
