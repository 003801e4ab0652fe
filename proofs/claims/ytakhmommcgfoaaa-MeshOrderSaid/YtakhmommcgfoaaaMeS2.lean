/-
  The document's Send: what it is built of.
-/
import Derived.Test.YtakhmommcgfoaaaMeO2
import Derived.Test.YtakhmommcgfoaaaWords
namespace Go.Proofs.Ytakhmommcgfoaaa
open Go.RowKit

theorem genw {K : Act → World → Prop} {a : Act} {W : World} (h : ∀ w', w' = W → K a w') : K a W := h W rfl
theorem results_duo {fn : Func} {p u : Tmp} {ty : TypeId} (h : fn.results = #[.cell p ty, .tmp u]) (tmps : Array Value) (w : World) {a : Addr} (ha : tmps.getD p undef = .pointer (some a)) {v : Value} (hv : (loadVar ty a).run Try.prog w = .ok v w) {x : Value} (hx : tmps.getD u undef = x) :
    (results fn tmps).run Try.prog w = .ok (.tuple #[v, x]) w := by
  simp only [Array.getD_eq_getD_getElem?] at ha hx
  simp only [results, h]
  simp [ha, asAddr, hv, hx, Result.andThen]
theorem info_rpar : (Try.prog.info? 79).map (fun i => (i.zero, i.size, i.bytes)) = some (some (.agg #[.int .i64 0, .int .i64 0, .int .i64 0, .string ⟨#[]⟩, .int .i64 0, .int .i64 0, .int .i64 0, .string ⟨#[]⟩, .slice none 0 0]), 9, 104) := by kernel_rfl

/-- a document's mesh: its three cells -/
def encR (W c : Int) (s : Option Addr) (n k : Nat) : List Value := [.int .i64 W, .int .i64 c, .slice s n k]
theorem encR_one (W c : Int) (s : Option Addr) (n k : Nat) : (encR W c s n k).toArray.all (·.oneCell') = true := by
  apply all_oneCell_toArray
  intro v hv
  simp only [encR, List.mem_cons, List.not_mem_nil, or_false] at hv
  rcases hv with rfl | rfl | rfl <;> rfl
theorem run_stR (ρ : Operand → Value) (dst : Option Tmp) (x y : Operand) (ty : TypeId) (pos : String) (after : Array Edge) (guard : Option (Nat × Bool)) (w : World) :
    (execOp ρ { dst, op := .store 32 x y, type := ty, pos, after, guard }).run Try.prog w = st 32 (ρ x) (ρ y) w := rfl
theorem run_ldQ (ρ : Operand → Value) (dst : Option Tmp) (x : Operand) (ty : TypeId) (pos : String) (after : Array Edge) (guard : Option (Nat × Bool)) (w : World) :
    (execOp ρ { dst, op := .load 79 x, type := ty, pos, after, guard }).run Try.prog w = ld 79 (ρ x) w := rfl
theorem ld_rpar {w : World} {b o : Nat} {x : Pq} (h : ParAt w b o x) : ld 79 (.pointer (some ⟨b, o, none⟩)) w = .ok (.value (parV x)) w := by
  have := run_loadAt_mid (P := Try.prog) w b o 79 (encP x) _ h Try.underlying79 rfl (by rw [encP_len]; kernel_rfl)
  simp only [ld, Sem.run_bind, this, Result.andThen_ok, Sem.run_pure]
  rfl
theorem there_rm {w : World} {b : Nat} {W c : Int} {s : Option Addr} {n k : Nat} {T : TypeId} (h : w.heap[b]? = some (.cells (encR W c s n k).toArray T (0, 0))) : w.there b 0 3 := by
  intro j hj
  refine ⟨?_, free_of h _⟩
  rw [Nat.zero_add, cell_of_row w b j _ T _ h]
  simp [encR]
  omega
theorem st_rm {w : World} {b : Nat} (W c : Int) (s : Option Addr) (n k : Nat) (h : w.there b 0 3) : st 32 (.pointer (some ⟨b, 0, none⟩)) (.agg #[.int .i64 W, .int .i64 c, .slice s n k]) w = .ok .skip (w.setCells b 0 (encR W c s n k)) := by
  have := run_storeAt_mid (P := Try.prog) w b 0 32 (encR W c s n k).toArray (by exact h) (by kernel_rfl) (encR_one W c s n k)
  simp only [st, Sem.run_bind]
  rw [show (Value.agg #[.int .i64 W, .int .i64 c, .slice s n k]) = .agg (encR W c s n k).toArray from rfl, this]
  simp only [Result.andThen_ok, Sem.run_pure]
theorem encR_put {w : World} {b : Nat} {W c W' c' : Int} {s s' : Option Addr} {n k n' k' : Nat} {T : TypeId} (h : w.heap[b]? = some (.cells (encR W c s n k).toArray T (0, 0))) :
    (w.setCells b 0 (encR W' c' s' n' k')).heap[b]? = some (.cells (encR W' c' s' n' k').toArray T (0, 0)) := by
  rw [heap_setCells _ _ h]
  have e : ovl (encR W c s n k).toArray 0 (encR W' c' s' n' k') = (encR W' c' s' n' k').toArray := by rfl
  rw [e]
theorem rm_var {w : World} {b : Nat} {W c : Int} {s : Option Addr} {n k : Nat} {T : TypeId} (h : w.heap[b]? = some (.cells (encR W c s n k).toArray T (0, 0))) : (loadVar 32 ⟨b, 0, none⟩).run Try.prog w = .ok (rmV W c (.slice s n k)) w :=
  run_loadVar_mid (P := Try.prog) w b 0 32 (encR W c s n k) _ (fun j v hv => by rw [Nat.zero_add, cell_of_row w b j _ _ _ h]; simpa using hv) Try.underlying32 rfl (by kernel_rfl)
theorem two_rms {w w1 : World} {T U : TypeId} {W c W' c' : Int} {s s' : Option Addr} {n k n' k' : Nat}
    (hw : (w.alloc (.cells (encR W c s n k).toArray T)).alloc (.cells (encR W' c' s' n' k').toArray U) = w1) :
    w1.heap[w.heap.size]? = some (.cells (encR W c s n k).toArray T (0, 0)) ∧ w1.heap[w.heap.size + 1]? = some (.cells (encR W' c' s' n' k').toArray U (0, 0)) ∧ Fr (fun _ => False) w w1 ∧ w1.heap.size = w.heap.size + 2 := by
  subst hw
  have e2 := heap_new (w.alloc (.cells (encR W c s n k).toArray T)) (.cells (encR W' c' s' n' k').toArray U)
  rw [World.size_alloc] at e2
  exact ⟨heap_old (heap_new w _) _, e2, ((Fr.refl _ w).alloc _).alloc _, by rw [World.size_alloc, World.size_alloc]⟩
theorem one_rm {w w1 : World} {T : TypeId} {W c W' c' : Int} {s s' : Option Addr} {n k n' k' : Nat}
    (hw : (w.alloc (.cells (encR W' c' s' n' k').toArray T)).setCells w.heap.size 0 (encR W c s n k) = w1) :
    w1.heap[w.heap.size]? = some (.cells (encR W c s n k).toArray T (0, 0)) ∧ Fr (fun _ => False) w w1 ∧ w1.heap.size = w.heap.size + 1 := by
  subst hw
  exact ⟨encR_put (heap_new w _), ((Fr.refl _ w).alloc _).setCells (fun h => by omega) _ _, by rw [size_setCells, World.size_alloc]⟩

theorem Reads.fr {S : Nat → Prop} {w w' : World} {B size n : Nat} {A : Option Addr} {xs : List Value} (h : Reads w B size A n xs) (hf : Fr S w w') (hB : B ≤ w.heap.size) (hS : ∀ i, i < B → ¬ S i) : Reads w' B size A n xs :=
  h.keep fun p hp => World.cell?_of_block (hf.block p.block (by omega) (hS _ hp))
/-- an empty row in a new block -/
theorem empty_own {w w1 wa : World} {T : TypeId} {B E sz : Nat} (ha : wa = w1) (hw : Fr (fun _ => False) (w.alloc (.cells #[] T)) w1) (hB : B ≤ w.heap.size) (hT : T = E) :
    wa.ownsRow B E sz (.slice (some ⟨w.heap.size, 0, none⟩) 0 0) 0 [] := by
  subst ha hT
  refine ⟨by simp, .inr ⟨w.heap.size, 0, #[], rfl, hB, hw.heap (heap_new w _) (fun e => e), Nat.le_refl _, by unfold maxLen; omega, by simp, by simp⟩⟩
/-- the document's own lists: one by one -/
def RowA (w : World) (s : Option Addr) (n k : Nat) (A : List Pq) : Prop := ∃ B, w.ownsRow B 79 9 (.slice s n k) A.length (A.flatMap encP)
theorem RowA.fr {S : Nat → Prop} {w w' : World} {s : Option Addr} {n k : Nat} {A : List Pq} (h : RowA w s n k A) (hf : Fr S w w') (hS : ∀ i, (Value.slice s n k).ownBlock = some i → ¬ S i) : RowA w' s n k A := by
  obtain ⟨B, h⟩ := h
  exact ⟨B, hf.owns h hS⟩
theorem RowA.n {w : World} {s : Option Addr} {n k : Nat} {A : List Pq} (h : RowA w s n k A) : n = A.length := by
  obtain ⟨B, h⟩ := h
  obtain ⟨a, c, e, _⟩ := owns_view h
  injection e
theorem RowA.lt {w : World} {s : Option Addr} {n k : Nat} {A : List Pq} (h : RowA w s n k A) : ∀ i, (Value.slice s n k).ownBlock = some i → i < w.heap.size := by
  obtain ⟨B, h⟩ := h
  exact fun i e => (h.lt i e).2

end Go.Proofs.Ytakhmommcgfoaaa
