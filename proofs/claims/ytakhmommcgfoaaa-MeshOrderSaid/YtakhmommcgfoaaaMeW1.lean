/-
  Parcels of nine cells: rows of them in memory; loads and stores kept shut.
-/
import Derived.Test.YtakhmommcgfoaaaMeM6
namespace Go.Proofs.Ytakhmommcgfoaaa
open Go.RowKit

/-- a parcel: its nine cells -/
structure Pq where
  f : Int
  d : Int
  m : Mq
deriving Inhabited
def encP (x : Pq) : List Value := .int .i64 x.f :: .int .i64 x.d :: encM x.m
def noP : Pq := ⟨0, 0, noM⟩
def parV (x : Pq) : Value := .agg (encP x).toArray
theorem encP_len (x : Pq) : (encP x).length = 9 := rfl
theorem encP_size (x : Pq) : (encP x).toArray.size = 9 := rfl
theorem encP_one (x : Pq) : ∀ v ∈ encP x, v.oneCell' = true := by
  intro v hv
  simp only [encP, List.mem_cons] at hv
  rcases hv with rfl | rfl | hv
  · rfl
  · rfl
  · exact encM_one x.m v hv
theorem encP_ones (x : Pq) : (encP x).toArray.all (·.oneCell') = true := all_oneCell_toArray (encP_one x)
theorem flatP_one (zs : List Pq) : ∀ v ∈ zs.flatMap encP, v.oneCell' = true := by
  intro v hv
  obtain ⟨m, _, h⟩ := List.mem_flatMap.1 hv
  exact encP_one m v h
theorem run_ldP (ρ : Operand → Value) (dst : Option Tmp) (x : Operand) (ty : TypeId) (pos : String) (after : Array Edge) (guard : Option (Nat × Bool)) (w : World) :
    (execOp ρ { dst, op := .load 69 x, type := ty, pos, after, guard }).run Try.prog w = ld 69 (ρ x) w := rfl
theorem run_stP (ρ : Operand → Value) (dst : Option Tmp) (x y : Operand) (ty : TypeId) (pos : String) (after : Array Edge) (guard : Option (Nat × Bool)) (w : World) :
    (execOp ρ { dst, op := .store 69 x y, type := ty, pos, after, guard }).run Try.prog w = st 69 (ρ x) (ρ y) w := rfl
/-- the parcel x lies in block b from o on -/
def ParAt (w : World) (b o : Nat) (x : Pq) : Prop := w.rangeAt b o (encP x)
theorem ParAt.c0 {w : World} {b o : Nat} {x : Pq} (h : ParAt w b o x) : w.cell? ⟨b, o, none⟩ = some (.int .i64 x.f) := h 0 _ rfl
theorem ParAt.c1 {w : World} {b o : Nat} {x : Pq} (h : ParAt w b o x) : w.cell? ⟨b, o + 1, none⟩ = some (.int .i64 x.d) := h 1 _ rfl
theorem ParAt.msg {w : World} {b o : Nat} {x : Pq} (h : ParAt w b o x) : MsgAt w b (o + 2) x.m := fun j v hv => by
  have := h (j + 2) v hv
  rwa [show o + (j + 2) = o + 2 + j by omega] at this
theorem ParAt.of_block {w : World} {b : Nat} {x : Pq} {t : TypeId} {fr : Nat × Nat} (h : w.heap[b]? = some (.cells (encP x).toArray t fr)) : ParAt w b 0 x := by
  intro j v hv
  rw [Nat.zero_add, cell_of_row w b j _ t fr h]
  simpa using hv
theorem ld_par {w : World} {b o : Nat} {x : Pq} (h : ParAt w b o x) : ld 69 (.pointer (some ⟨b, o, none⟩)) w = .ok (.value (parV x)) w := by
  have := run_loadAt_mid (P := Try.prog) w b o 69 (encP x) _ h Try.underlying69 rfl (by rw [encP_len]; kernel_rfl)
  simp only [ld, Sem.run_bind, this, Result.andThen_ok, Sem.run_pure]
  rfl
theorem st_par {w : World} {b o : Nat} (x : Pq) (h : w.there b o 9) : st 69 (.pointer (some ⟨b, o, none⟩)) (parV x) w = .ok .skip (w.setCells b o (encP x)) := by
  have := run_storeAt_mid (P := Try.prog) w b o 69 (encP x).toArray (by rw [encP_size]; exact h) (by rw [encP_size]; kernel_rfl) (encP_ones x)
  simp only [st, parV, Sem.run_bind, this, Result.andThen_ok, Sem.run_pure]
theorem there_blockP {w : World} {b : Nat} {x : Pq} {t : TypeId} (h : w.heap[b]? = some (.cells (encP x).toArray t (0, 0))) : w.there b 0 9 := by
  intro j hj
  refine ⟨?_, free_of h _⟩
  rw [Nat.zero_add, cell_of_row w b j _ t _ h]
  simp [encP, encM]
  omega
theorem encP_zero (x : Pq) (C : Array Value) (h : C.size = 9) : ovl C 0 (encP x) = (encP x).toArray := by
  apply Array.ext_getElem?
  intro i
  rw [ovl_get _ _ _ _ (by rw [encP_len, h]; omega), encP_len]
  by_cases hi : i < 9
  · rw [if_pos (by omega)]; simp
  · rw [if_neg (by omega), Array.getElem?_eq_none (by omega), Array.getElem?_eq_none (by simp [encP, encM]; omega)]
/-- a parcel in a new block, in order -/
theorem par_put {w w1 : World} {T : TypeId} {x : Pq} {C : Array Value} (hC : C.size = 9) (hw : w1 = (w.alloc (.cells C T)).setCells w.heap.size 0 (encP x)) :
    w1.heap[w.heap.size]? = some (.cells (encP x).toArray T (0, 0)) ∧ Fr (fun _ => False) w w1 ∧ w1.heap.size = w.heap.size + 1 := by
  subst hw
  refine ⟨?_, ?_, ?_⟩
  · have h := heap_setCells (w := w.alloc (.cells C T)) (encP x) 0 (heap_new w (.cells C T))
    rw [encP_zero _ _ hC] at h
    exact h
  · exact ((Fr.refl (fun _ => False) w).alloc (.cells C T)).setCells (fun h => by omega) _ _
  · rw [size_setCells]; simp

end Go.Proofs.Ytakhmommcgfoaaa
