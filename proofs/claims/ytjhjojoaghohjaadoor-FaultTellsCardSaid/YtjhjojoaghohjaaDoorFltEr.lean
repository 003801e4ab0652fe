/-
  Errors by number and place, none among them: the contracts of New, Told, Move and First, and of the document's, at any.
-/
import Derived.Test.YtjhjojoaghohjaaDoorFltKeep
namespace Go.Proofs.YtjhjojoaghohjaaDoor
open Go.RowKit Go.Extern.Stop Go.Stop Go.Extern

/-- an error that is none (number 0) or a fault -/
def Er (W : World) (v : Value) (e a : Int) : Prop := (e = 0 ∧ v = .nilIface) ∨ (e ≠ 0 ∧ ∃ b : Nat, v = .iface 48 (.pointer (some ⟨b, 0, none⟩)) ∧ Flt W b e a)
theorem Er.next {w W : World} {v : Value} {e a : Int} (h : Er w v e a) (hb : Below w.heap.size w W) : Er W v e a := by
  rcases h with h | ⟨h, b, rfl, hF⟩
  · exact Or.inl h
  · exact Or.inr ⟨h, b, rfl, hF.next hb⟩
theorem Er.draw {W : World} {v : Value} {e a : Int} (h : Er W v e a) (m : Nat) : Er (W.drewN m) v e a := h
theorem Er.draw1 {W : World} {v : Value} {e a : Int} (h : Er W v e a) : Er W.drew v e a := h
theorem Er.alloc {W : World} {v : Value} {e a : Int} (h : Er W v e a) (o : Obj) : Er (W.alloc o) v e a := h.next (one_box _ _)
/-- the place that is told -/
def plc (e a : Int) : Int := if e = 0 then 0 else a
/-- an error comes back -/
def GivesEr (w : World) (e a : Int) (ev : Ending) (w' : World) : Prop := ∃ v, ev = .returned v ∧ Er w' v e a ∧ Below w.heap.size w w'
theorem new_er (e a : Int) (w : World) : Calls Tryd.prog 7 #[.int .i64 e, .int .i64 a] w (GivesEr w e a) := by
  by_cases h : e = 0
  · subst h
    exact (new_none a w).mono fun _ _ ⟨h1, h2⟩ => ⟨_, h1, Or.inl ⟨rfl, rfl⟩, h2 ▸ Below.refl _ _⟩
  · exact (new_flt e a h w).mono fun _ _ ⟨b, h1, h2, h3⟩ => ⟨_, h1, Or.inr ⟨h, b, rfl, h2⟩, h3⟩
theorem told_er (v : Value) (e a : Int) (w : World) (hg : Laid w) (hE : Er w v e a) : Calls Tryd.prog 13 #[v] w fun ev w' => ev = .returned (.agg #[.int .i64 e, .int .i64 (plc e a)]) ∧ Below w.heap.size w w' := by
  unfold plc
  rcases hE with ⟨rfl, rfl⟩ | ⟨h, b, rfl, hF⟩
  · rw [if_pos rfl]; exact told_nil w
  · rw [if_neg h]; exact told_hit b e a w hg hF
theorem move_er (v : Value) (e a m : Int) (h1 : -4611686018427387904 ≤ a + m) (h2 : a + m ≤ 4611686018427387904) (w : World) (hg : Laid w) (hE : Er w v e a) : Calls Tryd.prog 14 #[v, .int .i64 m] w (GivesEr w e (a + m)) := by
  rcases hE with ⟨rfl, rfl⟩ | ⟨h, b, rfl, hF⟩
  · exact (move_nil m w).mono fun _ _ ⟨q1, q2⟩ => ⟨_, q1, Or.inl ⟨rfl, rfl⟩, q2⟩
  · exact (move_some b e a m h h1 h2 w hg hF).mono fun _ _ ⟨b, q1, q2, q3⟩ => ⟨_, q1, Or.inr ⟨h, b, rfl, q2⟩, q3⟩
/-- is the first of two errors the second one? -/
def isSnd (e f a x : Int) : Prop := e = 0 ∨ (f ≠ 0 ∧ x < a)
instance (e f a x : Int) : Decidable (isSnd e f a x) := by unfold isSnd; infer_instance
/-- the first one's number, and place -/
def fstE (e f a x : Int) : Int := if isSnd e f a x then f else e
def fstA (e f a x : Int) : Int := if isSnd e f a x then x else a
theorem first_er (u v : Value) (e a f x : Int) (w : World) (hg : Laid w) (hE : Er w u e a) (hF : Er w v f x) : Calls Tryd.prog 16 #[u, v] w (GivesEr w (fstE e f a x) (fstA e f a x)) := by
  unfold fstE fstA
  rcases hE with ⟨rfl, rfl⟩ | ⟨h, b, rfl, hb⟩
  · have hn : isSnd 0 f a x := Or.inl rfl
    rw [if_pos hn, if_pos hn]
    exact (first_nil v w).mono fun _ _ ⟨q1, q2⟩ => ⟨_, q1, q2 ▸ hF, q2 ▸ Below.refl _ _⟩
  · rcases hF with ⟨rfl, rfl⟩ | ⟨h', c, rfl, hc⟩
    · have hn : ¬ isSnd e 0 a x := by unfold isSnd; omega
      rw [if_neg hn, if_neg hn]
      exact (first_one _ w).mono fun _ _ ⟨q1, q2⟩ => ⟨_, q1, q2 ▸ Or.inr ⟨h, b, rfl, hb⟩, q2 ▸ Below.refl _ _⟩
    · refine (first_two b c e a f x w hg hb hc).mono fun _ _ ⟨q1, q2⟩ => ⟨_, q1, ?_, q2⟩
      unfold fst2
      by_cases hl : x < a
      · have hn : isSnd e f a x := Or.inr ⟨h', hl⟩
        rw [if_pos hn, if_pos hn, if_pos hl]
        exact Or.inr ⟨h', c, rfl, hc.next q2⟩
      · have hn : ¬ isSnd e f a x := by unfold isSnd; omega
        rw [if_neg hn, if_neg hn, if_neg hl]
        exact Or.inr ⟨h, b, rfl, hb.next q2⟩
theorem rNew_er (e a : Int) (w : World) : Calls Tryd.prog 12 #[.int .i64 e, .int .i64 a] w fun ev w' => ev = .returned (.agg #[.int .i64 e, .int .i64 (plc e a)]) ∧ Below w.heap.size w w' := by
  unfold plc
  by_cases h : e = 0
  · subst h; rw [if_pos rfl]; exact rNew_zero a w
  · rw [if_neg h]; exact rNew_some e a h w
theorem rMove_er (e a m : Int) (h1 : -4611686018427387904 ≤ a + m) (h2 : a + m ≤ 4611686018427387904) (w : World) : Calls Tryd.prog 15 #[.agg #[.int .i64 e, .int .i64 (plc e a)], .int .i64 m] w fun ev w' => ev = .returned (.agg #[.int .i64 e, .int .i64 (plc e (a + m))]) ∧ Below w.heap.size w w' := by
  unfold plc
  by_cases h : e = 0
  · subst h; rw [if_pos rfl, if_pos rfl]; exact rMove_zero 0 m w
  · rw [if_neg h, if_neg h]; exact rMove_some e a m h h1 h2 w
theorem rFirst_er (e a f x : Int) (w : World) : Calls Tryd.prog 17 #[.agg #[.int .i64 e, .int .i64 (plc e a)], .agg #[.int .i64 f, .int .i64 (plc f x)]] w fun ev w' => ev = .returned (.agg #[.int .i64 (fstE e f a x), .int .i64 (plc (fstE e f a x) (fstA e f a x))]) ∧ Below w.heap.size w w' := by
  unfold fstE fstA
  by_cases h : e = 0
  · subst h
    have hn : isSnd 0 f a x := Or.inl rfl
    rw [if_pos hn, if_pos hn]
    exact rFirst_nil _ _ _ w
  · by_cases h' : f = 0
    · subst h'
      have hn : ¬ isSnd e 0 a x := by unfold isSnd; omega
      rw [if_neg hn, if_neg hn]
      exact rFirst_one e _ _ h w
    · refine (rFirst_two e (plc e a) f (plc f x) h h' w).mono fun _ _ ⟨q1, q2⟩ => ⟨q1.trans ?_, q2⟩
      have p1 : plc e a = a := if_neg h
      have p2 : plc f x = x := if_neg h'
      rw [p1, p2]
      by_cases hl : x < a
      · have hn : isSnd e f a x := Or.inr ⟨h', hl⟩
        rw [if_pos hn, if_pos hn, if_pos hl, p2]
      · have hn : ¬ isSnd e f a x := by unfold isSnd; omega
        rw [if_neg hn, if_neg hn, if_neg hl, p1]
/-! ### two blocks of its own, made and written in an open order -/
theorem own2_of {w V : World} {T : TypeId} (hV : w.alloc (.cells #[.int .i64 0, .int .i64 0] T) = V) : Own2 V w.heap.size 0 0 := hV ▸ own2_new _ _ _ _
theorem Own2.of_alloc {w V : World} {b : Nat} {e a : Int} {o : Obj} (h : Own2 w b e a) (hV : w.alloc o = V) : Own2 V b e a := hV ▸ h.alloc o
theorem Blw.of_alloc {a w V : World} {o : Obj} (h : Blw a w) (hV : w.alloc o = V) : Blw a V := hV ▸ h.alloc o
theorem flt_set {w V : World} {b : Nat} {x y e a : Int} (h : Own2 w b x y) (hV : (w.setCell ⟨b, 0, none⟩ (.int .i64 e)).setCell ⟨b, 1, none⟩ (.int .i64 a) = V) : Flt V b e a := by
  have h0 := h.1.1
  have h1 := h.1.2
  have h2 := h.2.1
  have h3 := h.2.2
  subst hV
  refine ⟨?_, ?_⟩ <;> go_simp
theorem Flt.set_other {w V : World} {b c : Nat} {x y e a : Int} (h : Flt w b x y) (hne : c ≠ b) (hV : (w.setCell ⟨c, 0, none⟩ (.int .i64 e)).setCell ⟨c, 1, none⟩ (.int .i64 a) = V) : Flt V b x y := by
  have h0 := h.1
  have h1 := h.2
  subst hV
  refine ⟨?_, ?_⟩
  · rw [World.cell?_setCell_far _ _ _ _ hne, World.cell?_setCell_far _ _ _ _ hne]; exact h0
  · rw [World.cell?_setCell_far _ _ _ _ hne, World.cell?_setCell_far _ _ _ _ hne]; exact h1
theorem Own2.set_other {w V : World} {b c : Nat} {x y e a : Int} (h : Own2 w b x y) (hne : c ≠ b) (hV : (w.setCell ⟨c, 0, none⟩ (.int .i64 e)).setCell ⟨c, 1, none⟩ (.int .i64 a) = V) : Own2 V b x y := by
  refine ⟨h.1.set_other hne hV, ?_, ?_⟩
  · have h2 := h.2.1
    subst hV
    go_simp
  · have h2 := h.2.2
    subst hV
    go_simp
theorem Blw.set {a w V : World} {c : Nat} {u v : Value} (h : Blw a w) (hc : a.heap.size ≤ c) (hV : (w.setCell ⟨c, 0, none⟩ u).setCell ⟨c, 1, none⟩ v = V) : Blw a V := hV ▸ (Below.setCell (p := ⟨c, 1, none⟩) (Below.setCell (p := ⟨c, 0, none⟩) h hc _) hc _)
/-- two blocks that were made -/
def CutR (W0 : World) (e0 b0 e1 b1 : Int) (x y : Value) (wx : World) : Prop := ∃ p q : Nat, x = .pointer (some ⟨p, 0, none⟩) ∧ y = .pointer (some ⟨q, 0, none⟩) ∧ Flt wx p e0 b0 ∧ Flt wx q e1 b1 ∧ Blw W0 wx
end Go.Proofs.YtjhjojoaghohjaaDoor
