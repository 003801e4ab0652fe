/-
  A box in memory: its block, the ring that it owns, and the list that the ring holds. Plain laws on rings.
-/
import Derived.Test.YtakhmommcgfoaaaHeap
namespace Go.Proofs.Ytakhmommcgfoaaa
open Go.RowKit

/-- The ring zs, from place h on, holds the list L. -/
structure Ring {α : Type} (zs : List α) (h : Nat) (L : List α) : Prop where
  len : L.length ≤ zs.length
  hd : h = 0 ∨ h < zs.length
  at_ : ∀ i, i < L.length → zs[(h + i) % zs.length]? = L[i]?

theorem Ring.nil {α : Type} : Ring ([] : List α) 0 [] := ⟨by simp, .inl rfl, fun i hi => by simp at hi⟩

theorem Ring.lt {α : Type} {zs : List α} {h : Nat} {L : List α} (r : Ring zs h L) (hp : 0 < zs.length) : h < zs.length := by
  rcases r.hd with rfl | h
  · exact hp
  · exact h

theorem mod_inj {n h i j : Nat} (hi : i < n) (hj : j < n) (hh : h < n) (e : (h + i) % n = (h + j) % n) : i = j := by
  rcases Nat.lt_or_ge (h + i) n with a | a <;> rcases Nat.lt_or_ge (h + j) n with b | b
  · rw [Nat.mod_eq_of_lt a, Nat.mod_eq_of_lt b] at e; omega
  · rw [Nat.mod_eq_of_lt a, Nat.mod_eq_sub_mod b, Nat.mod_eq_of_lt (by omega)] at e; omega
  · rw [Nat.mod_eq_of_lt b, Nat.mod_eq_sub_mod a, Nat.mod_eq_of_lt (by omega)] at e; omega
  · rw [Nat.mod_eq_sub_mod a, Nat.mod_eq_sub_mod b, Nat.mod_eq_of_lt (by omega), Nat.mod_eq_of_lt (by omega)] at e; omega

theorem Ring.push {α : Type} {zs : List α} {h : Nat} {L : List α} (r : Ring zs h L) (hl : L.length < zs.length) (x : α) :
    Ring (zs.set ((h + L.length) % zs.length) x) h (L ++ [x]) := by
  have hlt := r.lt (by omega)
  refine ⟨by simp; omega, by simpa using r.hd, fun i hi => ?_⟩
  simp only [List.length_append, List.length_cons, List.length_nil, List.length_set] at hi ⊢
  rcases Nat.lt_or_ge i L.length with hi' | hi'
  · rw [List.getElem?_set, if_neg (fun e => by have := mod_inj (by omega) (by omega) hlt e; omega), r.at_ i hi', List.getElem?_append_left hi']
  · obtain rfl : i = L.length := by omega
    rw [List.getElem?_set, if_pos rfl, if_pos (Nat.mod_lt _ (by omega))]
    simp

theorem Ring.pop {α : Type} {zs : List α} {h : Nat} {x : α} {L : List α} (r : Ring zs h (x :: L)) (z : α) :
    h < zs.length ∧ zs[h]? = some x ∧ Ring (zs.set h z) ((h + 1) % zs.length) L := by
  have hl := r.len
  simp only [List.length_cons] at hl
  have hlt := r.lt (by omega)
  refine ⟨hlt, ?_, ⟨by simp; omega, ?_, fun i hi => ?_⟩⟩
  · have := r.at_ 0 (by simp)
    simpa [Nat.mod_eq_of_lt hlt] using this
  · right; simpa using Nat.mod_lt _ (by omega)
  · have := r.at_ (i + 1) (by simpa using hi)
    simp only [List.getElem?_cons_succ] at this
    rw [← this, List.length_set]
    have e : ((h + 1) % zs.length + i) % zs.length = (h + (i + 1)) % zs.length := by
      rw [Nat.mod_add_mod]; congr 1; omega
    rw [e, List.getElem?_set, if_neg]
    intro e2
    have : h % zs.length = (h + 0) % zs.length := by simp
    have e3 : (h + 0) % zs.length = (h + (i + 1)) % zs.length := by rw [← e2]; simp [Nat.mod_eq_of_lt hlt]
    have := mod_inj (by omega) (by omega) hlt e3
    omega

theorem Ring.fresh {α : Type} (L R : List α) : Ring (L ++ R) 0 L := by
  refine ⟨by simp, .inl rfl, fun i hi => ?_⟩
  have : (0 + i) % (L ++ R).length = i := by rw [Nat.zero_add]; exact Nat.mod_eq_of_lt (by simp; omega)
  rw [this, List.getElem?_append_left hi]

/-- Block b is a box of the type T, that holds the list L in its ring (of the element type E, sz cells each), with room for most. -/
structure BoxAt {α : Type} (T E sz : Nat) (enc : α → List Value) (w : World) (B b : Nat) (rv : Value) (most h : Nat) (zs L : List α) (wv : Value) : Prop where
  base : B ≤ b
  blk : w.heap[b]? = some (.cells #[.int .i64 most, rv, .int .i64 h, .int .i64 L.length, wv] T (0, 0))
  own : w.ownsRow B E sz rv zs.length (zs.flatMap enc)
  ne : rv.ownBlock ≠ some b
  m1 : most ≤ 4096
  le : zs.length ≤ most
  ring : Ring zs h L

section
variable {α : Type} {T E sz : Nat} {enc : α → List Value} {w : World} {B b : Nat} {rv : Value} {most h : Nat} {zs L : List α} {wv : Value}

theorem BoxAt.fr {S : Nat → Prop} {w' : World} (x : BoxAt T E sz enc w B b rv most h zs L wv) (hf : Fr S w w') (h1 : ¬ S b) (h2 : ∀ k, rv.ownBlock = some k → ¬ S k) :
    BoxAt T E sz enc w' B b rv most h zs L wv :=
  ⟨x.base, hf.heap x.blk h1, hf.owns x.own h2, x.ne, x.m1, x.le, x.ring⟩

theorem BoxAt.c0 (x : BoxAt T E sz enc w B b rv most h zs L wv) : w.cell? ⟨b, 0, none⟩ = some (.int .i64 most) := cell_of x.blk 0 rfl
theorem BoxAt.c1 (x : BoxAt T E sz enc w B b rv most h zs L wv) : w.cell? ⟨b, 1, none⟩ = some rv := cell_of x.blk 1 rfl
theorem BoxAt.c2 (x : BoxAt T E sz enc w B b rv most h zs L wv) : w.cell? ⟨b, 2, none⟩ = some (.int .i64 h) := cell_of x.blk 2 rfl
theorem BoxAt.c3 (x : BoxAt T E sz enc w B b rv most h zs L wv) : w.cell? ⟨b, 3, none⟩ = some (.int .i64 L.length) := cell_of x.blk 3 rfl
theorem BoxAt.c4 (x : BoxAt T E sz enc w B b rv most h zs L wv) : w.cell? ⟨b, 4, none⟩ = some wv := cell_of x.blk 4 rfl
theorem BoxAt.fz (x : BoxAt T E sz enc w B b rv most h zs L wv) (i : Nat) : w.frozen? ⟨b, i, none⟩ = false := free_of x.blk i
theorem BoxAt.cnt (x : BoxAt T E sz enc w B b rv most h zs L wv) : L.length ≤ most := Nat.le_trans x.ring.len x.le
theorem BoxAt.form (x : BoxAt T E sz enc w B b rv most h zs L wv) :
    (rv = .slice none 0 0 ∧ zs = []) ∨ ∃ g cap, rv = .slice (some ⟨g, 0, none⟩) zs.length cap ∧ zs.length ≤ cap ∧ cap ≤ maxLen ∧ B ≤ g ∧ g < w.heap.size ∧ g ≠ b := by
  rcases owns_form x.own with ⟨h, hz⟩ | ⟨g, cap, rfl, h⟩
  · exact .inl ⟨h, List.length_eq_zero_iff.1 hz⟩
  · refine .inr ⟨g, cap, rfl, h.1, h.2.1, h.2.2.1, h.2.2.2, ?_⟩
    rintro rfl
    exact x.ne rfl
end

/-- Who watches a box: the value in its field, what holds of his own memory, what he does when he is told a number. -/
structure Watch (T : Nat) (P : Program) (turned : Nat) (σ : Type) where
  wv : Value
  Q : σ → World → Prop
  next : σ → Nat → σ
  foot : Nat → Prop
  kept : ∀ s w w' S, Q s w → Fr S w w' → (∀ k, foot k → ¬ S k) → Q s w'
  lt : ∀ s w k, Q s w → foot k → k < w.heap.size
  turns : ∀ (w : World) (b n : Nat) (x0 x1 x2 : Value) (s : σ), w.heap[b]? = some (.cells #[x0, x1, x2, .int .i64 n, wv] T (0, 0)) → n ≤ 4096 → Q s w →
    Calls P turned #[.pointer (some ⟨b, 0, none⟩)] w fun e w' => e = .returned (.tuple #[]) ∧ Q (next s n) w' ∧ Fr foot w w'

end Go.Proofs.Ytakhmommcgfoaaa
