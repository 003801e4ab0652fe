/-
  The document's sets of a core, in memory: one block of 66 cells, and the rows behind.
-/
import Derived.Test.YtceomkoecidoiaaFolSet
import Derived.Laws.MakeOwn
namespace Go.Proofs.Ytceomkoecidoiaa
open Go.RowKit

def setsC (n : Bool) (f l : Nat → Bool) (v : Value) : List Value := .bool n :: (bs f 32 ++ (bs l 32 ++ [v]))
def setsV (n : Bool) (f l : Nat → Bool) (v : Value) : Value := .agg (setsC n f l v).toArray
theorem setsC_len (n : Bool) (f l : Nat → Bool) (v : Value) : (setsC n f l v).length = 66 := by simp [setsC, bs_len]

theorem setsC_get (n : Bool) (f l : Nat → Bool) (v : Value) (i : Nat) : (setsC n f l v)[i]? =
    if i = 0 then some (.bool n) else if i < 33 then some (.bool (f (i - 1))) else if i < 65 then some (.bool (l (i - 33))) else if i = 65 then some v else none := by
  cases i with
  | zero => rfl
  | succ i =>
    simp only [setsC, List.getElem?_cons_succ, List.getElem?_append, bs_len]
    by_cases h1 : i < 32
    · rw [if_pos h1, bs_get _ _ _ h1, if_neg (by omega), if_pos (by omega)]; simp
    · rw [if_neg h1]
      by_cases h2 : i - 32 < 32
      · rw [if_pos h2, bs_get _ _ _ h2, if_neg (show ¬ i + 1 < 33 by omega), if_pos (show i + 1 < 65 by omega), show i + 1 - 33 = i - 32 by omega]; simp
      · rw [if_neg h2, if_neg (show ¬ i + 1 < 33 by omega), if_neg (show ¬ i + 1 < 65 by omega)]
        by_cases h3 : i = 64
        · subst h3; simp
        · rw [if_neg (show ¬ i + 1 = 65 by omega), List.getElem?_eq_none (by simp; omega)]; simp

structure SetsB (w : World) (b : Nat) (n : Bool) (f l : Nat → Bool) (v : Value) : Prop where
  blk : w.heap[b]? = some (.cells (setsC n f l v).toArray 45 (0, 0))

theorem SetsB.c0 {w : World} {b : Nat} {n : Bool} {f l : Nat → Bool} {v : Value} (h : SetsB w b n f l v) : w.cell? ⟨b, 0, none⟩ = some (.bool n) := cell_of h.blk 0 (by simp [setsC_get])
theorem SetsB.c65 {w : World} {b : Nat} {n : Bool} {f l : Nat → Bool} {v : Value} (h : SetsB w b n f l v) : w.cell? ⟨b, 65, none⟩ = some v := cell_of h.blk 65 (by simp [setsC_get])
theorem SetsB.cf {w : World} {b : Nat} {n : Bool} {f l : Nat → Bool} {v : Value} (h : SetsB w b n f l v) (i : Nat) (hi : i < 32) : w.cell? ⟨b, 1 + i, none⟩ = some (.bool (f i)) :=
  cell_of h.blk (1 + i) (by simp only [List.getElem?_toArray, setsC_get]; rw [if_neg (by omega), if_pos (by omega)]; congr; omega)
theorem SetsB.cl {w : World} {b : Nat} {n : Bool} {f l : Nat → Bool} {v : Value} (h : SetsB w b n f l v) (i : Nat) (hi : i < 32) : w.cell? ⟨b, 33 + i, none⟩ = some (.bool (l i)) :=
  cell_of h.blk (33 + i) (by simp only [List.getElem?_toArray, setsC_get]; rw [if_neg (by omega), if_neg (by omega), if_pos (by omega)]; congr; omega)
theorem SetsB.fz {w : World} {b : Nat} {n : Bool} {f l : Nat → Bool} {v : Value} (h : SetsB w b n f l v) (i : Nat) : w.frozen? ⟨b, i, none⟩ = false := free_of h.blk i
theorem SetsB.lt {w : World} {b : Nat} {n : Bool} {f l : Nat → Bool} {v : Value} (h : SetsB w b n f l v) : b < w.heap.size := lt_of_block h.blk
theorem SetsB.fr {S : Nat → Prop} {w w' : World} {b : Nat} {n : Bool} {f l : Nat → Bool} {v : Value} (h : SetsB w b n f l v) (hf : Fr S w w') (hb : ¬ S b) : SetsB w' b n f l v := ⟨hf.heap h.blk hb⟩

theorem SetsB.rowF {w : World} {b : Nat} {n : Bool} {f l : Nat → Bool} {v : Value} (h : SetsB w b n f l v) : RowB w b 1 f :=
  ⟨fun j u hu => by
    have hj : j < 32 := by have := (List.getElem?_eq_some_iff.1 hu).1; rwa [bs_len] at this
    rw [bs_get _ _ _ hj] at hu
    rw [h.cf j hj, ← hu]⟩
theorem SetsB.rowL {w : World} {b : Nat} {n : Bool} {f l : Nat → Bool} {v : Value} (h : SetsB w b n f l v) : RowB w b 33 l :=
  ⟨fun j u hu => by
    have hj : j < 32 := by have := (List.getElem?_eq_some_iff.1 hu).1; rwa [bs_len] at this
    rw [bs_get _ _ _ hj] at hu
    rw [h.cl j hj, ← hu]⟩
theorem SetsB.thF {w : World} {b : Nat} {n : Bool} {f l : Nat → Bool} {v : Value} (h : SetsB w b n f l v) : ThereB w b 1 := ⟨fun j hj => ⟨by rw [h.cf j hj]; rfl, h.fz _⟩⟩
theorem SetsB.thL {w : World} {b : Nat} {n : Bool} {f l : Nat → Bool} {v : Value} (h : SetsB w b n f l v) : ThereB w b 33 := ⟨fun j hj => ⟨by rw [h.cl j hj]; rfl, h.fz _⟩⟩

theorem setsC_set0 (n n' : Bool) (f l : Nat → Bool) (v : Value) : (setsC n f l v).toArray.setIfInBounds 0 (.bool n') = (setsC n' f l v).toArray := by simp [setsC]
theorem SetsB.set0 {w : World} {b : Nat} {n : Bool} {f l : Nat → Bool} {v : Value} (h : SetsB w b n f l v) (n' : Bool) : SetsB (w.setCell ⟨b, 0, none⟩ (.bool n')) b n' f l v :=
  ⟨by rw [heap_set h.blk, setsC_set0]⟩

theorem SetsB.setFi {w : World} {b : Nat} {n : Bool} {f l : Nat → Bool} {v : Value} (h : SetsB w b n f l v) (k : Nat) (hk : k < 32) : SetsB (w.setCell ⟨b, 1 + k, none⟩ (.bool true)) b n (fun i => f i || decide (k = i)) l v :=
  ⟨by
    rw [heap_set h.blk]
    congr 2
    apply Array.ext_getElem?
    intro i
    rw [Array.getElem?_setIfInBounds]
    simp only [List.getElem?_toArray, setsC_get, List.size_toArray, setsC_len]
    by_cases h1 : 1 + k = i
    · subst h1
      rw [if_pos rfl, if_pos (by omega), if_neg (by omega), if_pos (by omega)]
      simp
    · rw [if_neg h1]
      have : ¬ (i ≠ 0 ∧ k = i - 1) := by omega
      by_cases h2 : i = 0
      · simp [h2]
      · rw [if_neg h2, if_neg h2]
        have : ¬ k = i - 1 := by omega
        simp [this]⟩
theorem SetsB.setLi {w : World} {b : Nat} {n : Bool} {f l : Nat → Bool} {v : Value} (h : SetsB w b n f l v) (k : Nat) (hk : k < 32) : SetsB (w.setCell ⟨b, 33 + k, none⟩ (.bool true)) b n f (fun i => l i || decide (k = i)) v :=
  ⟨by
    rw [heap_set h.blk]
    congr 2
    apply Array.ext_getElem?
    intro i
    rw [Array.getElem?_setIfInBounds]
    simp only [List.getElem?_toArray, setsC_get, List.size_toArray, setsC_len]
    by_cases h1 : 33 + k = i
    · subst h1
      rw [if_pos rfl, if_pos (by omega), if_neg (by omega), if_neg (by omega), if_pos (by omega)]
      simp
    · rw [if_neg h1]
      by_cases h2 : i = 0
      · simp [h2]
      · rw [if_neg h2, if_neg h2]
        by_cases h3 : i < 33
        · rw [if_pos h3, if_pos h3]
        · rw [if_neg h3, if_neg h3]
          have : ¬ k = i - 33 := by omega
          simp [this]⟩

theorem ovl_F (n : Bool) (f l f' : Nat → Bool) (v : Value) : ovl (setsC n f l v).toArray 1 (bs f' 32) = (setsC n f' l v).toArray := by
  apply Array.ext_getElem?
  intro i
  rw [ovl_get _ _ _ _ (by simp [bs_len, setsC_len])]
  simp only [List.getElem?_toArray, setsC_get, bs_len]
  by_cases h1 : 1 ≤ i ∧ i < 1 + 32
  · rw [if_pos h1, bs_get _ _ _ (by omega), if_neg (by omega), if_pos (by omega)]
  · rw [if_neg h1]
    by_cases h2 : i = 0
    · simp [h2]
    · have h3 : ¬ i < 33 := by omega
      simp only [h2, h3, if_false]
theorem SetsB.putF {w : World} {b : Nat} {n : Bool} {f l : Nat → Bool} {v : Value} (h : SetsB w b n f l v) (f' : Nat → Bool) : SetsB (w.setCells b 1 (bs f' 32)) b n f' l v :=
  ⟨by
    rw [heap_setCells _ _ h.blk]
    rw [ovl_F]⟩
theorem ovl_L (n : Bool) (f l l' : Nat → Bool) (v : Value) : ovl (setsC n f l v).toArray 33 (bs l' 32) = (setsC n f l' v).toArray := by
  apply Array.ext_getElem?
  intro i
  rw [ovl_get _ _ _ _ (by simp [bs_len, setsC_len])]
  simp only [List.getElem?_toArray, setsC_get, bs_len]
  by_cases h1 : 33 ≤ i ∧ i < 33 + 32
  · rw [if_pos h1, bs_get _ _ _ (by omega), if_neg (by omega), if_neg (by omega), if_pos (by omega)]
  · rw [if_neg h1]
    by_cases h2 : i = 0
    · simp [h2]
    · rw [if_neg h2, if_neg h2]
      by_cases h3 : i < 33
      · rw [if_pos h3, if_pos h3]
      · have h4 : ¬ i < 65 := by omega
        simp only [h3, h4, if_false]
theorem SetsB.putL {w : World} {b : Nat} {n : Bool} {f l : Nat → Bool} {v : Value} (h : SetsB w b n f l v) (l' : Nat → Bool) : SetsB (w.setCells b 33 (bs l' 32)) b n f l' v :=
  ⟨by
    rw [heap_setCells _ _ h.blk]
    rw [ovl_L]⟩

/-- a block of 66 cells that may be written -/
structure Blk66 (w : World) (b : Nat) : Prop where
  blk : ∃ C : Array Value, C.size = 66 ∧ w.heap[b]? = some (.cells C 45 (0, 0))
theorem Blk66.fr {S : Nat → Prop} {w w' : World} {b : Nat} (h : Blk66 w b) (hf : Fr S w w') (hb : ¬ S b) : Blk66 w' b := by
  obtain ⟨C, h1, h2⟩ := h.blk
  exact ⟨C, h1, hf.heap h2 hb⟩

theorem run_ld45 (ρ : Operand → Value) (dst : Option Tmp) (x : Operand) (ty : TypeId) (pos : String) (after : Array Edge) (guard : Option (Nat × Bool)) (w : World) :
    (execOp ρ { dst, op := .load 45 x, type := ty, pos, after, guard }).run Try.prog w = ld 45 (ρ x) w := rfl
theorem run_st45 (ρ : Operand → Value) (dst : Option Tmp) (x y : Operand) (ty : TypeId) (pos : String) (after : Array Edge) (guard : Option (Nat × Bool)) (w : World) :
    (execOp ρ { dst, op := .store 45 x y, type := ty, pos, after, guard }).run Try.prog w = st 45 (ρ x) (ρ y) w := rfl

theorem SetsB.at_ {w : World} {b : Nat} {n : Bool} {f l : Nat → Bool} {v : Value} (h : SetsB w b n f l v) : w.rangeAt b 0 (setsC n f l v) := by
  have := World.rangeAt_of_block h.blk 0 66
  have e : ((setsC n f l v).toArray.extract 0 (0 + 66)).toList = setsC n f l v := by
    simp only [List.extract_toArray, List.extract, Nat.zero_add, Nat.sub_zero, List.drop_zero]
    exact List.take_of_length_le (Nat.le_of_eq (setsC_len n f l v))
  rw [e] at this
  exact this

theorem ld_sets {w : World} {b : Nat} {n : Bool} {f l : Nat → Bool} {v : Value} (h : SetsB w b n f l v) : ld 45 (.pointer (some ⟨b, 0, none⟩)) w = .ok (.value (setsV n f l v)) w := by
  have := run_loadAt_mid (P := Try.prog) w b 0 45 (setsC n f l v) _ h.at_ Try.underlying45 rfl (by rw [setsC_len]; kernel_rfl)
  simp only [ld, Sem.run_bind, this, Result.andThen_ok, Sem.run_pure]
  rfl

theorem setsC_one (n : Bool) (f l : Nat → Bool) (v : Value) (hv : v.oneCell' = true) : (setsC n f l v).toArray.all (·.oneCell') = true := by
  refine all_oneCell_toArray fun x hx => ?_
  simp only [setsC, List.mem_cons, List.mem_append, bs, List.mem_map, List.not_mem_nil, or_false] at hx
  rcases hx with rfl | ⟨_, _, rfl⟩ | ⟨_, _, rfl⟩ | rfl
  · rfl
  · rfl
  · rfl
  · exact hv

theorem st_sets {w : World} {b : Nat} {n : Bool} {f l : Nat → Bool} {v : Value} (hv : v.oneCell' = true) (h : Blk66 w b) : st 45 (.pointer (some ⟨b, 0, none⟩)) (setsV n f l v) w = .ok .skip (w.setCells b 0 (setsC n f l v)) := by
  obtain ⟨C, hC, hb⟩ := h.blk
  have := run_storeAt_mid (P := Try.prog) w b 0 45 (setsC n f l v).toArray
    (fun j hj => ⟨by rw [cell_of_row w b (0 + j) _ _ _ hb]; simp [setsC_len] at hj; simp [hC, hj], free_of hb _⟩) (by simp only [List.size_toArray, setsC_len]; kernel_rfl) (setsC_one n f l v hv)
  simp only [st, setsV, Sem.run_bind, this, Result.andThen_ok, Sem.run_pure]

theorem ovl_66 {C : Array Value} (hC : C.size = 66) (n : Bool) (f l : Nat → Bool) (v : Value) : ovl C 0 (setsC n f l v) = (setsC n f l v).toArray := by
  apply Array.ext_getElem?
  intro i
  rw [ovl_get _ _ _ _ (by simp [setsC_len, hC])]
  by_cases h1 : i < 66
  · rw [if_pos (by rw [setsC_len]; omega)]; simp
  · rw [if_neg (by rw [setsC_len]; omega)]
    rw [Array.getElem?_eq_none (by omega), Array.getElem?_eq_none (by simp [setsC_len]; omega)]
theorem Blk66.put {w : World} {b : Nat} (h : Blk66 w b) (n : Bool) (f l : Nat → Bool) (v : Value) : SetsB (w.setCells b 0 (setsC n f l v)) b n f l v :=
  ⟨by
    obtain ⟨C, hC, hb⟩ := h.blk
    rw [heap_setCells _ _ hb]
    rw [ovl_66 hC]⟩

/-- the rows behind -/
def rowsL (P : Nat) (f : Nat → Nat → Bool) : List Value := bs (fun k => f (k / 32) (k % 32)) (P * 32)
structure RowsB (w : World) (g P : Nat) (f : Nat → Nat → Bool) : Prop where
  blk : w.heap[g]? = some (.cells (rowsL P f).toArray 42 (0, 0))
theorem RowsB.fr {S : Nat → Prop} {w w' : World} {g P : Nat} {f : Nat → Nat → Bool} (h : RowsB w g P f) (hf : Fr S w w') (hb : ¬ S g) : RowsB w' g P f := ⟨hf.heap h.blk hb⟩
theorem RowsB.row {w : World} {g P : Nat} {f : Nat → Nat → Bool} (h : RowsB w g P f) (i : Nat) (hi : i < P) : RowB w g (i * 32) (f i) :=
  ⟨fun j u hu => by
    have hj : j < 32 := by have := (List.getElem?_eq_some_iff.1 hu).1; rwa [bs_len] at this
    rw [bs_get _ _ _ hj] at hu
    rw [← hu]
    refine cell_of h.blk (i * 32 + j) ?_
    simp only [List.getElem?_toArray, rowsL]
    rw [bs_get _ _ _ (by omega), show (i * 32 + j) / 32 = i by omega, show (i * 32 + j) % 32 = j by omega]⟩
theorem RowsB.th {w : World} {g P : Nat} {f : Nat → Nat → Bool} (h : RowsB w g P f) (i : Nat) (hi : i < P) : ThereB w g (i * 32) :=
  ⟨fun j hj => ⟨by
    rw [cell_of h.blk (i * 32 + j) (v := .bool (f ((i * 32 + j) / 32) ((i * 32 + j) % 32))) (by simp only [List.getElem?_toArray, rowsL]; rw [bs_get _ _ _ (by omega)])]; rfl, free_of h.blk _⟩⟩
theorem ovl_rows (P k : Nat) (f f' : Nat → Nat → Bool) (r : Nat → Bool) (hk : k < P) (hr : ∀ j, j < 32 → f' k j = r j) (he : ∀ i, i ≠ k → f' i = f i) : ovl (rowsL P f).toArray (k * 32) (bs r 32) = (rowsL P f').toArray := by
  apply Array.ext_getElem?
  intro i
  rw [ovl_get _ _ _ _ (by simp [rowsL, bs_len]; omega)]
  simp only [List.getElem?_toArray, bs_len, rowsL]
  by_cases h0 : i < P * 32
  · rw [bs_get _ _ _ h0, bs_get _ _ _ h0]
    by_cases h1 : k * 32 ≤ i ∧ i < k * 32 + 32
    · rw [if_pos h1, bs_get _ _ _ (by omega), show i / 32 = k by omega, show i - k * 32 = i % 32 by omega, hr _ (by omega)]
    · rw [if_neg h1, he (i / 32) (by omega)]
  · rw [if_neg (by omega)]
    simp only [bs]
    rw [List.getElem?_eq_none (by simp; omega), List.getElem?_eq_none (by simp; omega)]
theorem RowsB.put {w : World} {g P : Nat} {f : Nat → Nat → Bool} (h : RowsB w g P f) (k : Nat) (hk : k < P) (r : Nat → Bool) (f' : Nat → Nat → Bool) (hr : ∀ j, j < 32 → f' k j = r j) (he : ∀ i, i ≠ k → f' i = f i) : RowsB (w.setCells g (k * 32) (bs r 32)) g P f' :=
  ⟨by
    rw [heap_setCells _ _ h.blk]
    rw [ovl_rows P k f f' r hk hr he]⟩
theorem RowsB.congr {w : World} {g P : Nat} {f f' : Nat → Nat → Bool} (h : RowsB w g P f) (he : ∀ i, i < P → f i = f' i) : RowsB w g P f' := by
  refine ⟨?_⟩
  rw [h.blk]
  have : rowsL P f = rowsL P f' := bs_congr fun i hi => by rw [he (i / 32) (by omega)]
  rw [this]

theorem info_set : (Try.prog.info? 42).map (fun i => (i.zero, i.size, i.bytes)) = some (some (setV fun _ => false), 32, 32) := by kernel_rfl

theorem made_sets (P : Nat) : madeCells (bs (fun _ => false) 32).toArray (P * 32) = (rowsL P fun _ _ => false).toArray := by
  apply Array.ext_getElem?
  intro i
  simp only [madeCells, rowsL, bs]
  by_cases h : i < P * 32
  · simp only [Array.getElem?_map, List.getElem?_toArray, List.getElem?_map, List.getElem?_range h, Option.map_some]
    rw [Array.getElem?_range]
    simp only [h, if_true, Option.map_some, Option.some.injEq]
    have : i % 32 < 32 := by omega
    simp [this]
  · rw [Array.getElem?_eq_none (by simp; omega), Array.getElem?_eq_none (by simp; omega)]

theorem make_sets (P : Nat) (hP : P ≤ 40) (w : World) : (Instr.makeSlice 43 (.int .i64 P) (.int .i64 P)).run Try.prog w = .ok (.slice (some ⟨w.heap.size, 0, none⟩) P P) (w.alloc (.cells (rowsL P fun _ _ => false).toArray 42)) := by
  have hinfo := info_set
  cases hi : Try.prog.info? 42 with
  | none => rw [hi] at hinfo; simp at hinfo
  | some i =>
    rw [hi] at hinfo
    simp only [Option.map_some, Option.some.injEq, Prod.mk.injEq] at hinfo
    obtain ⟨hz, hs, hb⟩ := hinfo
    have := run_make w 43 42 i _ Try.underlying43 hi hz .i64 .i64 P P (by omega) (Int.le_refl _) (by rw [hb]; omega) (by omega)
    rw [this, hs]
    simp only [Int.toNat_natCast, setV, Value.cells]
    rw [made_sets]

end Go.Proofs.Ytceomkoecidoiaa
