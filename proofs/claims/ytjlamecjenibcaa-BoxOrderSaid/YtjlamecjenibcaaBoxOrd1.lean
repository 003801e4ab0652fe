/-
  BoxOrder's watcher, and what holds at each round's head. No conditions.
-/
import Derived.Test.YtjlamecjenibcaaBoxAwake
import Derived.Deep.DeepCutAuto
namespace Go.Proofs.Ytjlamecjenibcaa
open Go.RowKit

/-- who watches in BoxOrder: now, and how many turns -/
def W2 (p q : Nat) : Watch 51 Try.prog 22 (Int × Int) where
  wv := .func (.func 18) #[] #[.pointer (some ⟨p, 0, none⟩), .pointer (some ⟨q, 0, none⟩)]
  Q := fun s w => p ≠ q ∧ w.heap[p]? = some (.cells #[.int .i64 s.1] 3 (0, 0)) ∧ w.heap[q]? = some (.cells #[.int .i64 s.2] 3 (0, 0))
  next := fun s n => ((n : Int), wrap64 (s.2 + 1))
  foot := fun k => k = p ∨ k = q
  kept := fun _ _ _ _ h hf hd => ⟨h.1, hf.heap h.2.1 (hd p (.inl rfl)), hf.heap h.2.2 (hd q (.inr rfl))⟩
  lt := fun _ _ k h hk => by rcases hk with rfl | rfl; exact lt_of_block h.2.1; exact lt_of_block h.2.2
  turns := fun w b n x0 x1 x2 s hb _ hq => (turned_order b n p q s.1 s.2 x0 x1 x2 w hq.1 hb hq.2.1 hq.2.2).mono (by
    rintro e w' ⟨rfl, rfl⟩
    refine ⟨rfl, ⟨hq.1, ?_, ?_⟩, (((Fr.refl (fun k => k = p ∨ k = q) w).drewN 1).setCell (fun _ => .inl rfl) _).setCell (fun _ => .inr rfl) _⟩
    · have := heap_set (w := w.drewN 1) (i := 0) hq.2.1 (.int .i64 (n : Int))
      have := heap_set_ne this (a := ⟨q, 0, none⟩) hq.1 (.int .i64 (wrap64 (s.2 + 1)))
      simpa using this
    · have := heap_set_ne (w := w.drewN 1) hq.2.2 (a := ⟨p, 0, none⟩) (Ne.symm hq.1) (.int .i64 (n : Int))
      have := heap_set (i := 0) this (.int .i64 (wrap64 (s.2 + 1)))
      simpa using this)

theorem watch_live2 {w : World} {B b p q most : Nat} {L : List Int} {S : Nat → Prop} (h : Live W0 w B b most L () S) (hpq : p ≠ q) (hp : w.heap[p]? = some (.cells #[.int .i64 0] 3 (0, 0)))
    (hq : w.heap[q]? = some (.cells #[.int .i64 0] 3 (0, 0))) (hS : ¬ S p) (hS' : ¬ S q) :
    Calls Try.prog 17 #[.pointer (some ⟨b, 0, none⟩), .func (.func 18) #[] #[.pointer (some ⟨p, 0, none⟩), .pointer (some ⟨q, 0, none⟩)]] w fun e w' => e = .returned (.tuple #[]) ∧
      Live (W2 p q) w' B b most L (0, 0) (fun k => S k ∨ k = p ∨ k = q) ∧ Fr S w w' := by
  obtain ⟨⟨rv, hh, zs, hb, hr⟩, _, sb, nb, sf, lt⟩ := h
  refine (watch_ok (.func 18) #[] #[.pointer (some ⟨p, 0, none⟩), .pointer (some ⟨q, 0, none⟩)] hb).mono ?_
  rintro e w' ⟨rfl, rfl⟩
  have hf : Fr S w (w.setCell ⟨b, 4, none⟩ (.func (.func 18) #[] #[.pointer (some ⟨p, 0, none⟩), .pointer (some ⟨q, 0, none⟩)])) := (Fr.refl S w).setCell (fun _ => sb) _
  refine ⟨rfl, ⟨⟨rv, hh, zs, watched _ hb, fun k hk => ⟨.inl (hr k hk).1, fun e => ?_⟩⟩, ⟨hpq, hf.heap hp hS, hf.heap hq hS'⟩, .inl sb, fun e => ?_, fun k hk => .inr hk, fun k hk => ?_⟩, hf⟩
  · rcases e with rfl | rfl
    · exact hS (hr _ hk).1
    · exact hS' (hr _ hk).1
  · rcases e with rfl | rfl
    · exact hS sb
    · exact hS' sb
  · rcases hk with hk | rfl | rfl
    · simpa using lt k hk
    · simpa using lt_of_block hp
    · simpa using lt_of_block hq

def rowI (L : List Int) : List Value := L.map (Value.int .i64)

/-- the two rows that BoxOrder fills, apart from the box -/
structure OrdRows (w wr : World) (outL inL : List Int) (S : Nat → Prop) (vi vo : Value) : Prop where
  ins : wr.ownsRow w.heap.size 3 1 vi inL.length (rowI inL)
  outs : wr.ownsRow w.heap.size 3 1 vo outL.length (rowI outL)
  si : ∀ k, vi.ownBlock = some k → ¬ S k
  so : ∀ k, vo.ownBlock = some k → ¬ S k
  ne : ∀ k, vi.ownBlock = some k → vo.ownBlock ≠ some k
  bel : Below w.heap.size w wr
  old : ∀ k, S k → w.heap.size ≤ k

theorem OrdRows.fr {w w1 w2 : World} {outL inL : List Int} {S S' : Nat → Prop} {vi vo : Value} (h : OrdRows w w1 outL inL S vi vo) (hF : Fr S w1 w2) (hS : ∀ k, S' k → S k ∨ w1.heap.size ≤ k) : OrdRows w w2 outL inL S' vi vo :=
  ⟨hF.owns h.ins h.si, hF.owns h.outs h.so, fun k hk e => (hS k e).elim (h.si k hk) (fun h2 => by have := (h.ins.lt k hk).2; omega), fun k hk e => (hS k e).elim (h.so k hk) (fun h2 => by have := (h.outs.lt k hk).2; omega), h.ne,
    h.bel.trans (hF.below h.bel.size (fun i hi e => by have := h.old i e; omega)), fun k hk => (hS k hk).elim (h.old k) (fun h2 => Nat.le_trans h.bel.size h2)⟩

theorem OrdRows.grewIn {w w2 w3 : World} {outL inL : List Int} {y : Int} {S : Nat → Prop} {vi vo : Value} {g c : Nat} (h : OrdRows w w2 outL inL S vi vo) (hlt : ∀ k, S k → k < w2.heap.size) {o : Obj}
    (hown : w3.ownsRow w.heap.size 3 1 (.slice (some ⟨g, 0, none⟩) (inL.length + 1) c) (inL.length + 1) (rowI inL ++ [.int .i64 y])) (hg : (w2.alloc o).grownBy w3 vi.ownBlock) (hat : vi.ownBlock = some g ∨ g = w2.heap.size + 1) :
    OrdRows w w3 outL (inL ++ [y]) S (.slice (some ⟨g, 0, none⟩) (inL.length + 1) c) vo ∧ Fr (fun k => vi.ownBlock = some k) w2 w3 := by
  have hF : Fr (fun k => vi.ownBlock = some k) w2 w3 := ((Fr.refl _ w2).alloc o).grown hg (fun k hk _ => hk)
  refine ⟨⟨?_, hF.owns h.outs (fun k hk e => h.ne k e hk), fun k hk e => ?_, h.so, fun k hk e => ?_, h.bel.trans (hF.below h.bel.size (fun i hi e => by have := (h.ins.lt i e).1; omega)), h.old⟩, hF⟩
  · have e : rowI inL ++ [Value.int .i64 y] = rowI (inL ++ [y]) := by simp [rowI]
    rw [e] at hown
    simpa using hown
  · obtain rfl : g = k := by simpa [Value.ownBlock] using hk
    rcases hat with hat | rfl
    · exact h.si _ hat e
    · have := hlt _ e; omega
  · obtain rfl : g = k := by simpa [Value.ownBlock] using hk
    rcases hat with hat | rfl
    · exact h.ne _ hat e
    · have := (h.outs.lt _ e).2; omega

theorem OrdRows.grewOut {w w2 w3 : World} {outL inL : List Int} {y : Int} {S : Nat → Prop} {vi vo : Value} {g c : Nat} (h : OrdRows w w2 outL inL S vi vo) (hlt : ∀ k, S k → k < w2.heap.size) {o : Obj}
    (hown : w3.ownsRow w.heap.size 3 1 (.slice (some ⟨g, 0, none⟩) (outL.length + 1) c) (outL.length + 1) (rowI outL ++ [.int .i64 y])) (hg : (w2.alloc o).grownBy w3 vo.ownBlock) (hat : vo.ownBlock = some g ∨ g = w2.heap.size + 1) :
    OrdRows w w3 (outL ++ [y]) inL S vi (.slice (some ⟨g, 0, none⟩) (outL.length + 1) c) ∧ Fr (fun k => vo.ownBlock = some k) w2 w3 := by
  have hF : Fr (fun k => vo.ownBlock = some k) w2 w3 := ((Fr.refl _ w2).alloc o).grown hg (fun k hk _ => hk)
  refine ⟨⟨hF.owns h.ins (fun k hk e => h.ne k hk e), ?_, h.si, fun k hk e => ?_, fun k hk e => ?_, h.bel.trans (hF.below h.bel.size (fun i hi e => by have := (h.outs.lt i e).1; omega)), h.old⟩, hF⟩
  · have e : rowI outL ++ [Value.int .i64 y] = rowI (outL ++ [y]) := by simp [rowI]
    rw [e] at hown
    simpa using hown
  · obtain rfl : g = k := by simpa [Value.ownBlock] using hk
    rcases hat with hat | rfl
    · exact h.so _ hat e
    · have := hlt _ e; omega
  · obtain rfl : g = k := by simpa [Value.ownBlock] using e
    rcases hat with hat | rfl
    · exact h.ne _ hk hat
    · have := (h.ins.lt _ hk).2; omega

/-- what holds at each round's head, and behind the round's turn -/
structure OrdMid (w wr : World) (b p q most : Nat) (L outL inL : List Int) (t : Nat) (S : Nat → Prop) (vi vo : Value) : Prop where
  live : Live (W2 p q) wr w.heap.size b most L ((L.length : Int), (t : Int)) S
  rows : OrdRows w wr outL inL S vi vo
  eq : inL = outL ++ L

theorem OrdMid.fr {w w1 w2 : World} {b p q most : Nat} {L outL inL : List Int} {t : Nat} {S : Nat → Prop} {vi vo : Value} (h : OrdMid w w1 b p q most L outL inL t S vi vo) (hf : Fr (fun _ => False) w1 w2) : OrdMid w w2 b p q most L outL inL t S vi vo :=
  ⟨h.live.fr hf (fun _ _ e => e), h.rows.fr (hf.mono (fun _ _ e => e.elim)) (fun _ h => .inl h), h.eq⟩

/-- a turn that did not turn -/
theorem OrdMid.turn0 {w w1 w2 : World} {b p q most : Nat} {L outL inL : List Int} {t : Nat} {S S' : Nat → Prop} {vi vo : Value} (h : OrdMid w w1 b p q most L outL inL t S vi vo)
    (hL : Live (W2 p q) w2 w.heap.size b most L ((L.length : Int), (t : Int)) S') (hF : Fr S w1 w2) (hS : ∀ k, S' k → S k ∨ w1.heap.size ≤ k) : OrdMid w w2 b p q most L outL inL t S' vi vo :=
  ⟨hL, h.rows.fr hF hS, h.eq⟩

/-- pushed, and the row of what was pushed lengthened -/
theorem OrdMid.pushed {w w1 w2 w3 : World} {b p q most : Nat} {L outL inL : List Int} {y : Int} {t : Nat} {S S' : Nat → Prop} {vi vo : Value} {g c : Nat} (h : OrdMid w w1 b p q most L outL inL t S vi vo)
    (hL : Live (W2 p q) w2 w.heap.size b most (L ++ [y]) (((L ++ [y]).length : Int), ((t + 1 : Nat) : Int)) S') (hF : Fr S w1 w2) (hS : ∀ k, S' k → S k ∨ w1.heap.size ≤ k) {o : Obj}
    (hown : w3.ownsRow w.heap.size 3 1 (.slice (some ⟨g, 0, none⟩) (inL.length + 1) c) (inL.length + 1) (rowI inL ++ [.int .i64 y])) (hg : (w2.alloc o).grownBy w3 vi.ownBlock) (hat : vi.ownBlock = some g ∨ g = w2.heap.size + 1) :
    OrdMid w w3 b p q most (L ++ [y]) outL (inL ++ [y]) (t + 1) S' (.slice (some ⟨g, 0, none⟩) (inL.length + 1) c) vo := by
  have hr := h.rows.fr hF hS
  obtain ⟨h1, h2⟩ := hr.grewIn hL.lt hown hg hat
  exact ⟨hL.fr h2 (fun k hk e => hr.si k e hk), h1, by rw [h.eq]; simp⟩

/-- popped, and the row of what came out lengthened -/
theorem OrdMid.popped {w w1 w2 w3 : World} {b p q most : Nat} {L outL inL : List Int} {y : Int} {t : Nat} {S : Nat → Prop} {vi vo : Value} {g c : Nat} (h : OrdMid w w1 b p q most (y :: L) outL inL t S vi vo)
    (hL : Live (W2 p q) w2 w.heap.size b most L ((L.length : Int), ((t + 1 : Nat) : Int)) S) (hF : Fr S w1 w2) {o : Obj}
    (hown : w3.ownsRow w.heap.size 3 1 (.slice (some ⟨g, 0, none⟩) (outL.length + 1) c) (outL.length + 1) (rowI outL ++ [.int .i64 y])) (hg : (w2.alloc o).grownBy w3 vo.ownBlock) (hat : vo.ownBlock = some g ∨ g = w2.heap.size + 1) :
    OrdMid w w3 b p q most L (outL ++ [y]) inL (t + 1) S vi (.slice (some ⟨g, 0, none⟩) (outL.length + 1) c) := by
  have hr := h.rows.fr hF (S' := S) (fun _ h => .inl h)
  obtain ⟨h1, h2⟩ := hr.grewOut hL.lt hown hg hat
  exact ⟨hL.fr h2 (fun k hk e => hr.so k e hk), h1, by rw [h.eq]; simp⟩

theorem wrap_in (t : Nat) (h : t ≤ 4096) : wrap64 ((t : Int) + 1) = ((t + 1 : Nat) : Int) := by unfold wrap64; omega

theorem push2 {p q most t : Nat} {L : List Int} {y : Int} (ht : t ≤ 4096) (hf : L.length < most) : (W2 p q).push most ((L.length : Int), (t : Int)) L = (((L ++ [y]).length : Int), ((t + 1 : Nat) : Int)) := by
  simp only [Watch.push, if_pos hf, W2, List.length_append, List.length_cons, List.length_nil]
  rw [wrap_in t ht]
theorem push2f {p q most : Nat} {s : Int × Int} {L : List Int} (hf : ¬ L.length < most) : (W2 p q).push most s L = s := by
  simp only [Watch.push, if_neg hf]
theorem pop2 {p q t : Nat} {L : List Int} {y : Int} (ht : t ≤ 4096) : (W2 p q).pop (((y :: L).length : Int), (t : Int)) (y :: L) = ((L.length : Int), ((t + 1 : Nat) : Int)) := by
  simp only [Watch.pop, W2, List.isEmpty_cons, List.length_cons, Nat.add_sub_cancel]
  rw [wrap_in t ht]
  rfl
theorem pop2n {p q : Nat} {s : Int × Int} : (W2 p q).pop s [] = s := rfl

theorem owns_slice {w : World} {base : Nat} {e : TypeId} {size : Nat} {v : Value} {n : Nat} {xs : List Value} (h : w.ownsRow base e size v n xs) : ∃ ao c, v = .slice ao n c := by
  rcases owns_form h with ⟨rfl, rfl⟩ | ⟨g, cap, rfl, _⟩
  · exact ⟨_, _, rfl⟩
  · exact ⟨_, _, rfl⟩

end Go.Proofs.Ytjlamecjenibcaa
