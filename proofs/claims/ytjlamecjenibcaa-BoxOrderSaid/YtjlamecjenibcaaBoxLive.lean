/-
  A box that lives: its contracts without the ring, under a footprint.
-/
import Derived.Test.YtjlamecjenibcaaBoxRef2
namespace Go.Proofs.Ytjlamecjenibcaa
open Go.RowKit

def pushE (most : Nat) (L : List Int) : Int := if L.length < most then 0 else 7
def pushL (most : Nat) (L : List Int) (y : Int) : List Int := if L.length < most then L ++ [y] else L
def popE (L : List Int) : Int := if L.isEmpty then 16 else 0
def popV (L : List Int) : Int := L.headD 0

variable {σ : Type}
def Watch.push {T : Nat} {P : Program} {t : Nat} (W : Watch T P t σ) (most : Nat) (s : σ) (L : List Int) : σ := if L.length < most then W.next s (L.length + 1) else s
def Watch.pop {T : Nat} {P : Program} {t : Nat} (W : Watch T P t σ) (s : σ) (L : List Int) : σ := if L.isEmpty then s else W.next s (L.length - 1)

/-- Block b is a box with the things L and room for most, watched by W in the state s; all its memory lies in S. -/
structure Live (W : Watch 51 Try.prog 22 σ) (w : World) (B b most : Nat) (L : List Int) (s : σ) (S : Nat → Prop) : Prop where
  box : ∃ rv h zs, BoxI w B b rv most h zs L W.wv ∧ ∀ k, rv.ownBlock = some k → S k ∧ ¬ W.foot k
  q : W.Q s w
  sb : S b
  nb : ¬ W.foot b
  sf : ∀ k, W.foot k → S k
  lt : ∀ k, S k → k < w.heap.size

theorem Live.fr {W : Watch 51 Try.prog 22 σ} {w w' : World} {B b most : Nat} {L : List Int} {s : σ} {S T : Nat → Prop} (h : Live W w B b most L s S) (hf : Fr T w w') (hd : ∀ k, S k → ¬ T k) : Live W w' B b most L s S := by
  obtain ⟨⟨rv, hh, zs, hb, hr⟩, q, sb, nb, sf, lt⟩ := h
  exact ⟨⟨rv, hh, zs, hb.fr hf (hd b sb) (fun k hk => hd k (hr k hk).1), hr⟩, W.kept s w w' T q hf (fun k hk => hd k (sf k hk)), sb, nb, sf, fun k hk => Nat.lt_of_lt_of_le (lt k hk) hf.size⟩

theorem Live.drewN {W : Watch 51 Try.prog 22 σ} {w : World} {B b most : Nat} {L : List Int} {s : σ} {S : Nat → Prop} (h : Live W w B b most L s S) (n : Nat) : Live W (w.drewN n) B b most L s S :=
  h.fr ((Fr.refl (fun _ => False) w).drewN n) (fun _ _ e => e)

theorem Live.below {W : Watch 51 Try.prog 22 σ} {w w' : World} {B b most : Nat} {L : List Int} {s : σ} {S : Nat → Prop} (h : Live W w B b most L s S) (hf : Below w.heap.size w w') : Live W w' B b most L s S :=
  h.fr (Fr.of_below (S := fun _ => False) hf (fun i h1 h2 => by omega)) (fun _ _ e => e)

theorem Live.cnt {W : Watch 51 Try.prog 22 σ} {w : World} {B b most : Nat} {L : List Int} {s : σ} {S : Nat → Prop} (h : Live W w B b most L s S) : L.length ≤ most ∧ most ≤ 4096 := by
  obtain ⟨⟨rv, hh, zs, hb, hr⟩, _⟩ := h
  exact ⟨hb.cnt, hb.m1⟩

theorem push_live (W : Watch 51 Try.prog 22 σ) {w : World} {B b most : Nat} {L : List Int} {s : σ} {S : Nat → Prop} (h : Live W w B b most L s S) (hB : B ≤ w.heap.size) (y : Int) :
    Calls Try.prog 10 #[.pointer (some ⟨b, 0, none⟩), .int .i64 y] w fun e w' => e = .returned (.int .i64 (pushE most L)) ∧
      ∃ S', Live W w' B b most (pushL most L y) (W.push most s L) S' ∧ Fr S w w' ∧ ∀ k, S' k → S k ∨ w.heap.size ≤ k := by
  have hc := h.cnt
  have H := h
  obtain ⟨⟨rv, hh, zs, hb, hr⟩, q, sb, nb, sf, lt⟩ := h
  by_cases hf : L.length = most
  · refine (push_full y hb hf).mono ?_
    rintro e w' ⟨rfl, m, rfl⟩
    have : ¬ L.length < most := by omega
    simp only [pushE, pushL, Watch.push, if_neg this]
    exact ⟨trivial, S, H.drewN m, (Fr.refl S w).drewN m, fun k hk => .inl hk⟩
  · have hlt : L.length < most := by omega
    simp only [pushE, pushL, Watch.push, if_pos hlt]
    by_cases hz : L.length = zs.length
    · refine (push_grow W y s hb hz hlt hB q nb).mono ?_
      rintro e w' ⟨rfl, ⟨rv', h', zs', hb', hfresh⟩, hq', hf'⟩
      refine ⟨rfl, fun k => S k ∨ (w.heap.size ≤ k ∧ k < w'.heap.size), ⟨⟨rv', h', zs', hb', fun k hk => ?_⟩, hq', .inl sb, nb, fun k hk => .inl (sf k hk), fun k hk => ?_⟩, hf'.mono ?_, fun k hk => ?_⟩
      · have h1 := hfresh k hk
        exact ⟨.inr ⟨h1, (hb'.own.lt k hk).2⟩, fun hf => by have := W.lt s w k q hf; omega⟩
      · rcases hk with hk | hk
        · exact Nat.lt_of_lt_of_le (lt k hk) hf'.size
        · exact hk.2
      · rintro i _ (rfl | hi)
        · exact sb
        · exact sf i hi
      · rcases hk with hk | hk
        · exact .inl hk
        · exact .inr hk.1
    · have hl := hb.ring.len
      refine (push_room W y s hb (by omega) q nb (fun k hk => (hr k hk).2)).mono ?_
      rintro e w' ⟨rfl, ⟨zs', hb'⟩, hq', hf'⟩
      refine ⟨rfl, S, ⟨⟨rv, hh, zs', hb', hr⟩, hq', sb, nb, sf, fun k hk => Nat.lt_of_lt_of_le (lt k hk) hf'.size⟩, hf'.mono ?_, fun k hk => .inl hk⟩
      rintro i _ (rfl | hi | hi)
      · exact sb
      · exact (hr i hi).1
      · exact sf i hi

theorem pop_live (W : Watch 51 Try.prog 22 σ) {w : World} {B b most : Nat} {L : List Int} {s : σ} {S : Nat → Prop} (h : Live W w B b most L s S) :
    Calls Try.prog 8 #[.pointer (some ⟨b, 0, none⟩)] w fun e w' => e = .returned (.tuple #[.int .i64 (popV L), .int .i64 (popE L)]) ∧
      Live W w' B b most L.tail (W.pop s L) S ∧ Fr S w w' := by
  have H := h
  obtain ⟨⟨rv, hh, zs, hb, hr⟩, q, sb, nb, sf, lt⟩ := h
  cases L with
  | nil =>
    refine (pop_none hb).mono ?_
    rintro e w' ⟨rfl, rfl⟩
    exact ⟨rfl, H, Fr.refl S w⟩
  | cons y L =>
    refine (pop_some W s hb q nb (fun k hk => (hr k hk).2)).mono ?_
    rintro e w' ⟨rfl, ⟨h', zs', hb'⟩, hq', hf'⟩
    refine ⟨rfl, ⟨⟨rv, h', zs', hb', hr⟩, by simpa [Watch.pop] using hq', sb, nb, sf, fun k hk => Nat.lt_of_lt_of_le (lt k hk) hf'.size⟩, hf'.mono ?_⟩
    rintro i _ (rfl | hi | hi)
    · exact sb
    · exact (hr i hi).1
    · exact sf i hi

theorem peek_live (W : Watch 51 Try.prog 22 σ) {w : World} {B b most : Nat} {L : List Int} {s : σ} {S : Nat → Prop} (h : Live W w B b most L s S) :
    Calls Try.prog 12 #[.pointer (some ⟨b, 0, none⟩)] w fun e w' => e = .returned (.tuple #[.int .i64 (popV L), .bool (!L.isEmpty)]) ∧ ∃ m, w' = w.drewN m := by
  obtain ⟨⟨rv, hh, zs, hb, hr⟩, q, sb, nb, sf, lt⟩ := h
  cases L with
  | nil =>
    refine (peek_none hb).mono ?_
    rintro e w' ⟨rfl, rfl⟩
    exact ⟨rfl, 0, rfl⟩
  | cons y L => exact peek_some hb

theorem len_live (W : Watch 51 Try.prog 22 σ) {w : World} {B b most : Nat} {L : List Int} {s : σ} {S : Nat → Prop} (h : Live W w B b most L s S) :
    Calls Try.prog 13 #[.pointer (some ⟨b, 0, none⟩)] w fun e w' => e = .returned (.int .i64 L.length) ∧ w = w' := by
  obtain ⟨⟨rv, hh, zs, hb, hr⟩, _⟩ := h
  exact len_ok hb

theorem room_live (W : Watch 51 Try.prog 22 σ) {w : World} {B b most : Nat} {L : List Int} {s : σ} {S : Nat → Prop} (h : Live W w B b most L s S) :
    Calls Try.prog 14 #[.pointer (some ⟨b, 0, none⟩)] w fun e w' => e = .returned (.int .i64 ((most : Int) - (L.length : Int))) ∧ ∃ m, w' = w.drewN m := by
  have hc := h.cnt
  obtain ⟨⟨rv, hh, zs, hb, hr⟩, _⟩ := h
  refine (room_ok hb).mono ?_
  rintro e w' ⟨rfl, hm⟩
  exact ⟨by congr 2; omega, hm⟩

theorem list_live (W : Watch 51 Try.prog 22 σ) {w : World} {B b most : Nat} {L : List Int} {s : σ} {S : Nat → Prop} (h : Live W w B b most L s S) :
    Calls Try.prog 16 #[.pointer (some ⟨b, 0, none⟩)] w fun e w' => ∃ v, e = .returned v ∧ IntsAt w' (fun g => w.heap.size ≤ g) v L ∧ Below w.heap.size w w' := by
  obtain ⟨⟨rv, hh, zs, hb, hr⟩, _⟩ := h
  refine (list_ok hb).mono ?_
  rintro e w' ⟨v, rfl, hown, hbl⟩
  exact ⟨v, rfl, IntsAt.of_owns hown, hbl⟩

/-- nobody watches -/
def W0 : Watch 51 Try.prog 22 Unit where
  wv := .nilFunc
  Q := fun _ _ => True
  next := fun s _ => s
  foot := fun _ => False
  kept := fun _ _ _ _ _ _ _ => trivial
  lt := fun _ _ _ _ h => h.elim
  turns := fun w b n x0 x1 x2 s hb _ _ => (turned_nil b n x0 x1 x2 w hb).mono (by rintro e w' ⟨rfl, rfl⟩; exact ⟨rfl, trivial, Fr.refl _ _⟩)

/-- a new box -/
theorem new_live (n : Int) (w : World) (h1 : 1 ≤ n) (h2 : n ≤ 4096) :
    Calls Try.prog 6 #[.int .i64 n] w fun e w' => ∃ b, e = .returned (.tuple #[.pointer (some ⟨b, 0, none⟩), .int .i64 0]) ∧ Live W0 w' w.heap.size b n.toNat [] () (fun k => k = b) ∧ Below w.heap.size w w' ∧ w.heap.size ≤ b := by
  refine (new_ok n w h1 h2).mono ?_
  rintro e w' ⟨rfl, rfl⟩
  have hb : BoxI (w.alloc (.cells #[.int .i64 n, .slice none 0 0, .int .i64 0, .int .i64 0, .nilFunc] 51)) w.heap.size w.heap.size (.slice none 0 0) n.toNat 0 [] [] .nilFunc := by
    refine ⟨Nat.le_refl _, ?_, World.ownsRow_nil _ _ _ _, by simp [Value.ownBlock], by omega, by simp, Ring.nil⟩
    rw [heap_new]
    simp only [List.length_nil]
    congr 5
    simp; omega
  exact ⟨w.heap.size, rfl, ⟨⟨_, _, _, hb, fun k hk => by simp [Value.ownBlock] at hk⟩, trivial, rfl, fun h => h, fun _ h => h.elim, fun k hk => by simp [hk]⟩, (Below.refl _ w).alloc (Nat.le_refl _) _, Nat.le_refl _⟩

/-- a fork lives by itself -/
theorem fork_live (W : Watch 51 Try.prog 22 σ) {w : World} {B b most : Nat} {L : List Int} {s : σ} {S : Nat → Prop} (h : Live W w B b most L s S) :
    Calls Try.prog 19 #[.pointer (some ⟨b, 0, none⟩)] w fun e w' => ∃ b', e = .returned (.pointer (some ⟨b', 0, none⟩)) ∧ Live W0 w' w.heap.size b' most L () (fun k => w.heap.size ≤ k ∧ k < w'.heap.size) ∧ Below w.heap.size w w' := by
  obtain ⟨⟨rv, hh, zs, hb, hr⟩, _⟩ := h
  refine (fork_ok hb).mono ?_
  rintro e w' ⟨b', rv', rfl, hb', hbl⟩
  exact ⟨b', rfl, ⟨⟨rv', hh, zs, hb', fun k hk => ⟨hb'.own.lt k hk, fun h => h⟩⟩, trivial, ⟨hb'.base, lt_of_block hb'.blk⟩, fun h => h, fun _ h => h.elim, fun k hk => hk.2⟩, hbl⟩

end Go.Proofs.Ytjlamecjenibcaa
