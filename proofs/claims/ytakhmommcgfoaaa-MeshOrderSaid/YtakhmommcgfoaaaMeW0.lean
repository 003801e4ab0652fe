/-
  Messages of seven cells: rows of them in memory; loads and stores of many cells kept shut.
-/
import Derived.Test.YtakhmommcgfoaaaRows
import Derived.Test.YtakhmommcgfoaaaBoxDefs
import Derived.Deep.QuietTactic
import Derived.BigQuiet
import Derived.StillTailTactics
import Derived.Deep.RegionWith
import Derived.Lib.Hide
import Derived.Laws.EntriesVeiled
import Derived.Deep.MidRow
import Derived.Deep.RegionHeld3
import Derived.Deep.AppendLies
import Derived.Deep.LoopGhost
import Derived.WalkSpells
import Derived.Laws.CopyOwn
namespace Go.Proofs.Ytakhmommcgfoaaa
open Go.RowKit

/-- a message: its seven cells -/
structure Mq where
  p : Int
  k : ByteArray
  t : Int
  s : Int
  q : Int
  y : ByteArray
  a : Option Addr
  n : Nat
  c : Nat
deriving Inhabited
def encM (m : Mq) : List Value := [.int .i64 m.p, .string m.k, .int .i64 m.t, .int .i64 m.s, .int .i64 m.q, .string m.y, .slice m.a m.n m.c]
def noM : Mq := ⟨0, ⟨#[]⟩, 0, 0, 0, ⟨#[]⟩, none, 0, 0⟩
def msgV (m : Mq) : Value := .agg (encM m).toArray
theorem encM_len (m : Mq) : (encM m).length = 7 := rfl
theorem encM_size (m : Mq) : (encM m).toArray.size = 7 := rfl
theorem encM_one (m : Mq) : ∀ v ∈ encM m, v.oneCell' = true := by
  intro v hv
  simp only [encM, List.mem_cons, List.not_mem_nil, or_false] at hv
  rcases hv with rfl | rfl | rfl | rfl | rfl | rfl | rfl <;> rfl
theorem encM_ones (m : Mq) : (encM m).toArray.all (·.oneCell') = true := all_oneCell_toArray (encM_one m)
theorem flat_one (zs : List Mq) : ∀ v ∈ zs.flatMap encM, v.oneCell' = true := by
  intro v hv
  obtain ⟨m, _, h⟩ := List.mem_flatMap.1 hv
  exact encM_one m v h

section flat
variable {α : Type} {enc : α → List Value} {sz : Nat}
theorem flat_len (h : ∀ x, (enc x).length = sz) (zs : List α) : (zs.flatMap enc).length = zs.length * sz := by
  induction zs with
  | nil => simp
  | cons a l ih => rw [List.flatMap_cons, List.length_append, h, ih, List.length_cons, Nat.add_mul, Nat.one_mul, Nat.add_comm]
theorem flat_get (h : ∀ x, (enc x).length = sz) (zs : List α) (i j : Nat) (hj : j < sz) : (zs.flatMap enc)[i * sz + j]? = (zs[i]?).bind fun x => (enc x)[j]? := by
  induction zs generalizing i with
  | nil => simp
  | cons a l ih =>
    rw [List.flatMap_cons]
    cases i with
    | zero => rw [Nat.zero_mul, Nat.zero_add, List.getElem?_append_left (by rw [h]; exact hj)]; rfl
    | succ i =>
      rw [List.getElem?_append_right (by rw [h, Nat.add_mul]; omega), h]
      have e : (i + 1) * sz + j - sz = i * sz + j := by rw [Nat.add_mul]; omega
      rw [e, ih]; rfl
theorem flat_at (h : ∀ x, (enc x).length = sz) {zs : List α} {i j : Nat} {x : α} {v : Value} (hx : zs[i]? = some x) (hv : (enc x)[j]? = some v) : (zs.flatMap enc)[i * sz + j]? = some v := by
  have hj : j < sz := by rw [← h x]; exact (List.getElem?_eq_some_iff.1 hv).1
  rw [flat_get h zs i j hj, hx]; exact hv
end flat

/-- cells laid over others -/
def ovl : Array Value → Nat → List Value → Array Value
  | C, _, [] => C
  | C, o, v :: r => ovl (C.setIfInBounds o v) (o + 1) r
theorem ovl_size (vs : List Value) : ∀ (C : Array Value) (o : Nat), (ovl C o vs).size = C.size := by
  induction vs with
  | nil => intro C o; rfl
  | cons v r ih => intro C o; rw [ovl, ih]; simp
theorem ovl_get (vs : List Value) : ∀ (C : Array Value) (o i : Nat), o + vs.length ≤ C.size → (ovl C o vs)[i]? = if o ≤ i ∧ i < o + vs.length then vs[i - o]? else C[i]? := by
  induction vs with
  | nil => intro C o i _; simp only [ovl, List.length_nil]; rw [if_neg (by omega)]
  | cons v r ih =>
    intro C o i h
    simp only [List.length_cons] at h
    rw [ovl, ih _ _ _ (by simp; omega)]
    by_cases h1 : o + 1 ≤ i ∧ i < o + 1 + r.length
    · rw [if_pos h1, if_pos (by simp only [List.length_cons]; omega)]
      obtain ⟨k, rfl⟩ : ∃ k, i = o + 1 + k := ⟨i - (o + 1), by omega⟩
      rw [show o + 1 + k - (o + 1) = k by omega, show o + 1 + k - o = k + 1 by omega]; rfl
    · rw [if_neg h1]
      by_cases h2 : i = o
      · subst h2
        rw [if_pos (by simp only [List.length_cons]; omega)]
        simp only [Nat.sub_self, List.getElem?_cons_zero]
        rw [Array.getElem?_setIfInBounds_self_of_lt (by omega)]
      · rw [if_neg (by simp only [List.length_cons]; omega), Array.getElem?_setIfInBounds_ne (fun e => h2 e.symm)]
theorem heap_setCells {b : Nat} {t : TypeId} {fr : Nat × Nat} (vs : List Value) : ∀ {w : World} {C : Array Value} (o : Nat), w.heap[b]? = some (.cells C t fr) → (w.setCells b o vs).heap[b]? = some (.cells (ovl C o vs) t fr) := by
  induction vs with
  | nil => intro w C o h; exact h
  | cons v r ih => intro w C o h; rw [World.setCells, ovl]; exact ih (o + 1) (heap_set h v)
theorem heap_setCells_ne {b k : Nat} {o' : Obj} (hk : k ≠ b) (vs : List Value) : ∀ {w : World} (o : Nat), w.heap[k]? = some o' → (w.setCells b o vs).heap[k]? = some o' := by
  induction vs with
  | nil => intro w o h; exact h
  | cons v r ih => intro w o h; rw [World.setCells]; exact ih (o + 1) (heap_set_ne h (a := ⟨b, o, none⟩) hk v)
theorem size_setCells {b : Nat} (vs : List Value) : ∀ {w : World} (o : Nat), (w.setCells b o vs).heap.size = w.heap.size := by
  induction vs with
  | nil => intro w o; rfl
  | cons v r ih => intro w o; rw [World.setCells, ih]; simp [World.setCell]
theorem Fr.setCells {S : Nat → Prop} {a : World} {b : Nat} (hp : b < a.heap.size → S b) (vs : List Value) : ∀ {w : World} (o : Nat), Fr S a w → Fr S a (w.setCells b o vs) := by
  induction vs with
  | nil => intro w o h; exact h
  | cons v r ih => intro w o h; rw [World.setCells]; exact ih (o + 1) (h.setCell (p := ⟨b, o, none⟩) hp v)

/-- a load, a store of many cells, kept shut -/
noncomputable def ld (t : TypeId) (v : Value) (w : World) : Result Next := (do pure (.value (← Instr.loadAt t v)) : Sem Next).run Try.prog w
noncomputable def st (t : TypeId) (v x : Value) (w : World) : Result Next := (do Instr.storeAt t v x; pure .skip : Sem Next).run Try.prog w
theorem run_ldM (ρ : Operand → Value) (dst : Option Tmp) (x : Operand) (ty : TypeId) (pos : String) (after : Array Edge) (guard : Option (Nat × Bool)) (w : World) :
    (execOp ρ { dst, op := .load 40 x, type := ty, pos, after, guard }).run Try.prog w = ld 40 (ρ x) w := rfl
theorem run_stM (ρ : Operand → Value) (dst : Option Tmp) (x y : Operand) (ty : TypeId) (pos : String) (after : Array Edge) (guard : Option (Nat × Bool)) (w : World) :
    (execOp ρ { dst, op := .store 40 x y, type := ty, pos, after, guard }).run Try.prog w = st 40 (ρ x) (ρ y) w := rfl

/-- the message m lies in block b from o on -/
def MsgAt (w : World) (b o : Nat) (m : Mq) : Prop := w.rangeAt b o (encM m)
theorem MsgAt.cells {w : World} {b o : Nat} {m : Mq} (h : MsgAt w b o m) : w.cell? ⟨b, o, none⟩ = some (.int .i64 m.p) ∧ w.cell? ⟨b, o + 1, none⟩ = some (.string m.k) ∧ w.cell? ⟨b, o + 2, none⟩ = some (.int .i64 m.t) ∧ w.cell? ⟨b, o + 3, none⟩ = some (.int .i64 m.s) ∧ w.cell? ⟨b, o + 4, none⟩ = some (.int .i64 m.q) ∧ w.cell? ⟨b, o + 5, none⟩ = some (.string m.y) ∧ w.cell? ⟨b, o + 6, none⟩ = some (.slice m.a m.n m.c) :=
  ⟨h 0 _ rfl, h 1 _ rfl, h 2 _ rfl, h 3 _ rfl, h 4 _ rfl, h 5 _ rfl, h 6 _ rfl⟩
theorem MsgAt.of_block {w : World} {b : Nat} {m : Mq} {t : TypeId} {fr : Nat × Nat} (h : w.heap[b]? = some (.cells (encM m).toArray t fr)) : MsgAt w b 0 m := by
  intro j v hv
  rw [Nat.zero_add, cell_of_row w b j _ t fr h]
  simpa using hv
theorem ld_msg {w : World} {b o : Nat} {m : Mq} (h : MsgAt w b o m) : ld 40 (.pointer (some ⟨b, o, none⟩)) w = .ok (.value (msgV m)) w := by
  have := run_loadAt_mid (P := Try.prog) w b o 40 (encM m) _ h Try.underlying40 rfl (by rw [encM_len]; kernel_rfl)
  simp only [ld, Sem.run_bind, this, Result.andThen_ok, Sem.run_pure]
  rfl
theorem st_msg {w : World} {b o : Nat} (m : Mq) (h : w.there b o 7) : st 40 (.pointer (some ⟨b, o, none⟩)) (msgV m) w = .ok .skip (w.setCells b o (encM m)) := by
  have := run_storeAt_mid (P := Try.prog) w b o 40 (encM m).toArray (by rw [encM_size]; exact h) (by rw [encM_size]; kernel_rfl) (encM_ones m)
  simp only [st, msgV, Sem.run_bind, this, Result.andThen_ok, Sem.run_pure]
theorem ld_var {w : World} {b o : Nat} {m : Mq} (h : MsgAt w b o m) : (loadVar 40 ⟨b, o, none⟩).run Try.prog w = .ok (msgV m) w :=
  run_loadVar_mid (P := Try.prog) w b o 40 (encM m) _ h Try.underlying40 rfl (by rw [encM_len]; kernel_rfl)

/-- a row that is owned: its element is stored over -/
theorem owns_put {α : Type} {enc : α → List Value} {sz : Nat} (h : ∀ x, (enc x).length = sz) (hsz : 0 < sz) {w : World} {B g n cap E : Nat} {zs : List α} (ho : w.ownsRow B E sz (.slice (some ⟨g, 0, none⟩) n cap) n (zs.flatMap enc)) (i : Nat) (hi : i < n) (x : α) :
    (w.setCells g (i * sz) (enc x)).ownsRow B E sz (.slice (some ⟨g, 0, none⟩) n cap) n ((zs.set i x).flatMap enc) := by
  obtain ⟨hl, ho | ⟨g', cap', cur, e, hb, hg, hn, hm, hs, ht⟩⟩ := ho
  · simp at ho
  simp only [Value.slice.injEq, Option.some.injEq, Addr.mk.injEq] at e
  obtain ⟨⟨rfl, _, _⟩, _, rfl⟩ := e
  have hzl : zs.length = n := by
    rw [flat_len h] at hl
    exact Nat.eq_of_mul_eq_mul_right hsz hl
  have hfit : i * sz + sz ≤ n * sz := by rw [← Nat.succ_mul]; exact Nat.mul_le_mul_right sz hi
  have hcap : n * sz ≤ cap * sz := Nat.mul_le_mul_right sz hn
  refine ⟨by rw [flat_len h, List.length_set, hzl], .inr ⟨g, cap, ovl cur (i * sz) (enc x), rfl, hb, heap_setCells _ _ hg, hn, hm, by rw [ovl_size, hs], ?_⟩⟩
  apply List.ext_getElem?
  intro r
  rw [List.getElem?_take]
  by_cases hr : r < n * sz
  · rw [if_pos hr, Array.getElem?_toList, ovl_get _ _ _ _ (by rw [h, hs]; omega), h]
    have hdm := Nat.div_add_mod' r sz
    have hmod := Nat.mod_lt r hsz
    have e1 : ((zs.set i x).flatMap enc)[r]? = ((zs.set i x)[r / sz]?).bind fun y => (enc y)[r % sz]? := by
      rw [← flat_get h _ _ _ hmod, hdm]
    have e2 : (zs.flatMap enc)[r]? = (zs[r / sz]?).bind fun y => (enc y)[r % sz]? := by
      rw [← flat_get h _ _ _ hmod, hdm]
    rw [e1, List.getElem?_set]
    by_cases hq : i = r / sz
    · have hr1 : i * sz ≤ r ∧ r < i * sz + sz := by
        rw [← hq] at hdm; omega
      have hr2 : r - i * sz = r % sz := by rw [← hq] at hdm; omega
      rw [if_pos hr1, if_pos hq, if_pos (by omega), hr2]
      rfl
    · rw [if_neg, if_neg hq, ← e2, ← ht, List.getElem?_take, if_pos hr, Array.getElem?_toList]
      rintro ⟨h1, h2⟩
      apply hq
      exact (Nat.div_eq_of_lt_le h1 (by rw [Nat.add_mul, Nat.one_mul]; exact h2)).symm
  · rw [if_neg hr]
    symm
    apply List.getElem?_eq_none
    rw [flat_len h, List.length_set, hzl]
    omega

theorem owns_range {α : Type} {enc : α → List Value} {sz : Nat} (h : ∀ x, (enc x).length = sz) {w : World} {B g n cap E : Nat} {zs : List α} (ho : w.ownsRow B E sz (.slice (some ⟨g, 0, none⟩) n cap) n (zs.flatMap enc)) {i : Nat} {x : α} (hx : zs[i]? = some x) :
    w.rangeAt g (i * sz) (enc x) := by
  intro j v hv
  have := Go.World.ownsRow.cells ho rfl (i * sz + j) v (flat_at h hx hv)
  have e : (⟨g, 0, none⟩ : Addr).add (i * sz + j) = ⟨g, i * sz + j, none⟩ := by rw [Addr.add_mid, Nat.zero_add]
  rwa [e] at this
theorem owns_there {α : Type} {enc : α → List Value} {sz : Nat} (h : ∀ x, (enc x).length = sz) {w : World} {B g n cap E : Nat} {zs : List α} (ho : w.ownsRow B E sz (.slice (some ⟨g, 0, none⟩) n cap) n (zs.flatMap enc)) {i : Nat} {x : α} (hx : zs[i]? = some x) :
    w.there g (i * sz) sz := by
  intro j hj
  have hv : (enc x)[j]? = some ((enc x)[j]'(by rw [h]; exact hj)) := List.getElem?_eq_getElem _
  refine ⟨by rw [owns_range h ho hx j _ hv]; rfl, ho.frozenAt _⟩

end Go.Proofs.Ytakhmommcgfoaaa
