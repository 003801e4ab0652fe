/-
  Build, the program's and the document's, walked.
-/
import Derived.Test.YtceomkoecidoiaaFolFineB
import Derived.Test.YtceomkoecidoiaaFolFineC
import Derived.Test.YtceomkoecidoiaaFolW4
import Derived.Test.YtceomkoecidoiaaFolOfE
import Derived.Test.YtceomkoecidoiaaFolOfL
import Derived.Test.YtceomkoecidoiaaFolOfR
import Derived.Test.YtceomkoecidoiaaFolOfC
namespace Go.Proofs.Ytceomkoecidoiaa
open Go.RowKit

theorem of_ok (t : Tr) : OfSaid t := by
  induction t with
  | eps p => exact of_eps p
  | leaf p => exact of_leaf p
  | cat p a b iha ihb => exact of_cat p a b iha ihb
  | alt p a b iha ihb => exact of_alt p a b iha ihb
  | loop p a iha => exact of_loop p a iha

theorem leaves_flat (t : Tr) : ∀ p ∈ t.leaves, ((2 : Int), p) ∈ t.flat := by
  induction t with
  | eps p => simp [Tr.leaves]
  | leaf p => intro q hq; simp [Tr.leaves] at hq; simp [Tr.flat, hq]
  | cat p a b iha ihb =>
    intro q hq
    simp only [Tr.leaves, List.mem_append] at hq
    simp only [Tr.flat, List.mem_cons, List.mem_append]
    rcases hq with h | h
    · exact .inr (.inl (iha q h))
    · exact .inr (.inr (ihb q h))
  | alt p a b iha ihb =>
    intro q hq
    simp only [Tr.leaves, List.mem_append] at hq
    simp only [Tr.flat, List.mem_cons, List.mem_append]
    rcases hq with h | h
    · exact .inr (.inl (iha q h))
    · exact .inr (.inr (ihb q h))
  | loop p a iha =>
    intro q hq
    simp only [Tr.leaves] at hq
    simp only [Tr.flat, List.mem_cons]
    exact .inr (iha q hq)

/-- a fine core is a tree, its leaves within the places -/
theorem ok17_tree {N : List (Int × Int)} {P : Nat} (h : Ok17 N P) : ∃ t : Tr, N = t.flat ∧ P ≤ 24 ∧ ∀ p ∈ t.leaves, 0 ≤ p ∧ p < P := by
  obtain ⟨t, ht⟩ := parse_one h.ok.sz (fun x hx => ⟨(h.ok.all x hx).1, (h.ok.all x hx).2.1⟩)
  refine ⟨t, ht, h.le, fun p hp => ?_⟩
  have := h.ok.all (2, p) (by rw [ht]; exact leaves_flat t p hp)
  exact this.2.2 rfl

/-- what Build of the program tells of a tree, and of no tree -/
def foV (n : Bool) (f l : Nat) (v : Value) : Value := .agg #[.bool n, .int .u32 f, .int .u32 l, v]
structure RowAt (w : World) (g P : Nat) (f : Nat → Nat → Bool) : Prop where
  blk : w.heap[g]? = some (.cells (rowU P f) 27 (0, 0))

theorem info_u32 : (Try.prog.info? 27).map (fun i => (i.zero, i.size, i.bytes)) = some (some (.int .u32 0), 1, 4) := by kernel_rfl
theorem made_u32 (P : Nat) : madeCells #[.int .u32 0] P = rowU P (fun _ _ => false) := by
  apply Array.ext_getElem?
  intro i
  simp only [madeCells, rowU]
  by_cases h : i < P
  · have h1 : i % 1 = 0 := by omega
    simp [h, msk_none, h1]
  · rw [Array.getElem?_eq_none (by simp; omega), Array.getElem?_eq_none (by simp; omega)]
theorem make_u32s (P : Nat) (hP : P ≤ 40) (w : World) : (Instr.makeSlice 30 (.int .i64 P) (.int .i64 P)).run Try.prog w = .ok (.slice (some ⟨w.heap.size, 0, none⟩) P P) (w.alloc (.cells (rowU P fun _ _ => false) 27)) := by
  have hinfo := info_u32
  cases hi : Try.prog.info? 27 with
  | none => rw [hi] at hinfo; simp at hinfo
  | some i =>
    rw [hi] at hinfo
    simp only [Option.map_some, Option.some.injEq, Prod.mk.injEq] at hinfo
    obtain ⟨hz, hs, hb⟩ := hinfo
    have := run_make w 30 27 i _ Try.underlying30 hi hz .i64 .i64 P P (by omega) (Int.le_refl _) (by rw [hb]; omega) (by omega)
    rw [this, hs]
    simp only [Int.toNat_natCast, Value.cells, Nat.mul_one]
    rw [made_u32]

structure BuildYes (w w' : World) (e : Ending) (P : Nat) (t : Tr) : Prop where
  out : ∃ g, e = .returned (.tuple #[foV t.null (msk t.first 32) (msk t.last 32) (.slice (some ⟨g, 0, none⟩) P P), .int .i64 0]) ∧ w.heap.size ≤ g ∧ RowAt w' g P t.next ∧ Fr (fun _ => False) w w'
structure BuildNo (w w' : World) (e : Ending) : Prop where
  out : e = .returned (.tuple #[foV false 0 0 (.slice none 0 0), .int .i64 2]) ∧ Fr (fun _ => False) w w'

theorem run_ld39 (ρ : Operand → Value) (dst : Option Tmp) (x : Operand) (ty : TypeId) (pos : String) (after : Array Edge) (guard : Option (Nat × Bool)) (w : World) :
    (execOp ρ { dst, op := .load 39 x, type := ty, pos, after, guard }).run Try.prog w = ld 39 (ρ x) w := rfl
theorem ld_own {w : World} {b : Nat} {kv : Array Value} (h : w.heap[b]? = some (.cells kv 39 (0, 0))) (hk : kv.size = 5) : ld 39 (.pointer (some ⟨b, 0, none⟩)) w = .ok (.value (.agg kv)) w := by
  have e : (kv.extract 0 (0 + 5)).toList = kv.toList := by rw [show 0 + 5 = kv.size by omega, Array.extract_size]
  have hr := World.rangeAt_of_block h 0 5
  rw [e] at hr
  have := run_loadAt_mid (P := Try.prog) w b 0 39 kv.toList _ hr Try.underlying39 rfl (by rw [Array.length_toList, hk]; kernel_rfl)
  simp only [ld, Sem.run_bind, this, Result.andThen_ok, Sem.run_pure]

section
attribute [local go_sem ↓] run_ld39

set_option maxRecDepth 100000 in
set_option maxHeartbeats 2000000 in
theorem build_no {w : World} {ok : Nat → Prop} {nv : Value} {pa : Option Addr} {P pc : Nat} {wi : Int} {bv : ByteArray} {mm : Int} {N : List (Int × Int)} (hB : NodesAt w ok nv N) (hl : N.length ≤ 250) (hno : ¬ Ok17 N P) :
    Calls Try.prog 8 #[coreV nv pa P pc wi bv mm] w fun e w' => BuildNo w w' e := by
  obtain ⟨kv, hkv⟩ : ∃ kv : Array Value, kv = #[nv, .slice pa P pc, .int .i64 wi, .string bv, .int .u8 mm] := ⟨_, rfl⟩
  have HB := hid hB
  have HL := hid hl
  have HO := hid hno
  clear hB hl hno
  unfold coreV
  rw [← hkv]
  have HKV := hid hkv
  clear hkv
  go_enter Try.func8, Try.ntmps8
  go_upto_region 1 with fail
  obtain ⟨w1, hw1⟩ : ∃ w1, w1 = (w.alloc (.cells kv 39)).alloc (.cells #[.bool false, .int .u32 0, .int .u32 0, .slice none 0 0] 32) := ⟨_, rfl⟩
  obtain ⟨k, hk⟩ : ∃ k, k = w.heap.size := ⟨_, rfl⟩
  obtain ⟨r, hr⟩ : ∃ r, r = w.heap.size + 1 := ⟨_, rfl⟩
  rw [← hw1, ← hr, ← hk]
  have K1 := hid (show w1.heap[k]? = some (.cells kv 39 (0, 0)) by rw [hw1, hk]; exact heap_old (heap_new w _) _)
  have R1 := hid (show w1.heap[r]? = some (.cells #[.bool false, .int .u32 0, .int .u32 0, .slice none 0 0] 32 (0, 0)) by rw [hw1, hr]; simpa using heap_new (w.alloc _) (.cells _ 32))
  have F1 := hid (show Fr (fun _ => False) w w1 by rw [hw1]; exact ((Fr.refl _ w).alloc _).alloc _)
  have hkw : w.heap.size ≤ k := by omega
  have hkr : k < r := by omega
  clear hw1 hk hr
  have hld := ld_own K1.out (by rw [HKV.out]; rfl)
  have hcall := fine_ok (w := w1) (pa := pa) (P := P) (pc := pc) (wi := wi) (bv := bv) (mm := mm) (HB.out.fr (S := fun _ => False) F1.out (fun _ _ e => e) (fun _ h _ => h)) HL.out
  unfold coreV at hcall
  rw [← HKV.out] at hcall
  have HC := hid (hcall.mono (fun _ _ h => h.no HO.out))
  clear hcall
  have hr1 : ∀ w', Fr (fun _ => False) w1 w' → w'.heap[r]? = some (.cells #[.bool false, .int .u32 0, .int .u32 0, .slice none 0 0] 32 (0, 0)) := fun w' h => h.heap R1.out (fun e => e)
  have HR1 := hid hr1
  clear hr1
  go_upto_region 2 with (go_at_call 21; refine HC.out.mono ?_; rintro e w2 ⟨rfl, hF2⟩)
  have F2 := hid (F1.out.trans' hF2)
  have R2 := HR1.out w2 hF2
  have r0 := cell_of R2 0 (v := .bool false) rfl
  have r1 := cell_of R2 1 (v := .int .u32 0) rfl
  have r2 := cell_of R2 2 (v := .int .u32 0) rfl
  have r3 := cell_of R2 3 (v := .slice none 0 0) rfl
  have f0 := free_of R2 0
  have f1 := free_of R2 1
  have f2 := free_of R2 2
  have f3 := free_of R2 3
  have HR2 := hid R2
  clear R2 hld HC hF2
  go_wp2_with fail
  refine bodyPost_ret (v := .tuple #[foV false 0 0 (.slice none 0 0), .int .i64 2]) (by simp [foV, results, Try.results8, go_sem, r0, r1, r2, r3]) rfl ⟨rfl, ?_⟩
  exact (((F2.out.setCell (p := ⟨r, 0, none⟩) (fun h => by simp only at h; omega) _).setCell (p := ⟨r, 1, none⟩) (fun h => by simp only at h; omega) _).setCell (p := ⟨r, 2, none⟩) (fun h => by simp only at h; omega) _).setCell (p := ⟨r, 3, none⟩) (fun h => by simp only at h; omega) _

set_option maxRecDepth 100000 in
set_option maxHeartbeats 2000000 in
theorem build_yes {w : World} {ok : Nat → Prop} {nv : Value} {pa : Option Addr} {P pc : Nat} {wi : Int} {bv : ByteArray} {mm : Int} {N : List (Int × Int)} (hB : NodesAt w ok nv N) (hl : N.length ≤ 250) (hno : Ok17 N P) (t : Tr) (hNt : N = t.flat) (hP : P ≤ 24) (hlv : ∀ p ∈ t.leaves, 0 ≤ p ∧ p < P) :
    Calls Try.prog 8 #[coreV nv pa P pc wi bv mm] w fun e w' => BuildYes w w' e P t := by
  have HT := hid hNt
  have HLV := hid hlv
  clear hNt hlv
  have hB' := hB
  obtain ⟨ao, nc, rfl, _, _, _⟩ := hB'
  obtain ⟨n, hn⟩ : ∃ n, n = N.length := ⟨_, rfl⟩
  rw [← hn] at hB ⊢
  have HN := hid hn
  clear hn
  obtain ⟨kv, hkv⟩ : ∃ kv : Array Value, kv = #[.slice ao n nc, .slice pa P pc, .int .i64 wi, .string bv, .int .u8 mm] := ⟨_, rfl⟩
  have HB := hid hB
  have HL := hid hl
  have HO := hid hno
  clear hB hl hno
  unfold coreV
  rw [← hkv]
  have HKV := hid hkv
  clear hkv
  go_enter Try.func8, Try.ntmps8
  go_upto_region 1 with fail
  obtain ⟨w1, hw1⟩ : ∃ w1, w1 = (w.alloc (.cells kv 39)).alloc (.cells #[.bool false, .int .u32 0, .int .u32 0, .slice none 0 0] 32) := ⟨_, rfl⟩
  obtain ⟨k, hk⟩ : ∃ k, k = w.heap.size := ⟨_, rfl⟩
  obtain ⟨r, hr⟩ : ∃ r, r = w.heap.size + 1 := ⟨_, rfl⟩
  rw [← hw1, ← hr, ← hk]
  have K1 := hid (show w1.heap[k]? = some (.cells kv 39 (0, 0)) by rw [hw1, hk]; exact heap_old (heap_new w _) _)
  have R1 := hid (show w1.heap[r]? = some (.cells #[.bool false, .int .u32 0, .int .u32 0, .slice none 0 0] 32 (0, 0)) by rw [hw1, hr]; simpa using heap_new (w.alloc _) (.cells _ 32))
  have F1 := hid (show Fr (fun _ => False) w w1 by rw [hw1]; exact ((Fr.refl _ w).alloc _).alloc _)
  have hkw : w.heap.size ≤ k := by omega
  have hkr : k < r := by omega
  clear hw1 hk hr
  have hld := ld_own K1.out (by rw [HKV.out]; rfl)
  have hcall := fine_ok (w := w1) (pa := pa) (P := P) (pc := pc) (wi := wi) (bv := bv) (mm := mm) (HB.out.fr (S := fun _ => False) F1.out (fun _ _ e => e) (fun _ h _ => h)) HL.out
  unfold coreV at hcall
  rw [← HKV.out] at hcall
  have HC := hid (hcall.mono (fun _ _ h => h.yes HO.out))
  clear hcall
  have hr1 : ∀ w', Fr (fun _ => False) w1 w' → w'.cell? ⟨k, 0, none⟩ = some (.slice ao n nc) ∧ w'.cell? ⟨k, 1, none⟩ = some (.slice pa P pc) ∧ w'.heap[k]? = some (.cells kv 39 (0, 0)) ∧ w'.heap[r]? = some (.cells #[.bool false, .int .u32 0, .int .u32 0, .slice none 0 0] 32 (0, 0)) :=
    fun w' h => ⟨cell_of (h.heap K1.out (fun e => e)) 0 (by rw [HKV.out]; rfl), cell_of (h.heap K1.out (fun e => e)) 1 (by rw [HKV.out]; rfl), h.heap K1.out (fun e => e), h.heap R1.out (fun e => e)⟩
  have HR1 := hid hr1
  clear hr1
  go_upto_region 3 with (go_at_call 21; refine HC.out.mono ?_; rintro e w2 ⟨rfl, hF2⟩)
  have F2 := hid (F1.out.trans' hF2)
  obtain ⟨k0, k1, hK2, hR2⟩ := HR1.out w2 hF2
  have K2 := hid hK2
  have R2 := hid hR2
  clear hK2 hR2 hld HC hF2
  have hmk := make_u32s P (by omega)
  have hkl := lt_of_block K2.out
  go_region
  obtain ⟨w3, hw3⟩ : ∃ w3, w3 = ((w2.alloc (.cells (rowU P fun _ _ => false) 27)).alloc (.cells #[.slice ao n nc, .int .i64 0, .slice (some ⟨w2.heap.size, 0, none⟩) P P] 73)).drew := ⟨_, rfl⟩
  obtain ⟨g, hg⟩ : ∃ g, g = w2.heap.size := ⟨_, rfl⟩
  obtain ⟨bb, hbb⟩ : ∃ bb, bb = w2.heap.size + 1 := ⟨_, rfl⟩
  rw [← hw3, ← hbb, ← hg]
  rw [← hg] at hw3
  have hkr2 := lt_of_block R2.out
  have hrg : r < g := by omega
  have hgb : g < bb := by omega
  have F23 := hid (show Fr (fun _ => False) w2 w3 by rw [hw3]; exact (((Fr.refl _ w2).alloc _).alloc _).drew)
  have B3 := hid (show BAt w3 bb g P P (.slice ao n nc) N 0 (fun _ _ => false) from ⟨by rw [hw3, hbb]; show ((w2.alloc _).alloc _).heap[w2.heap.size + 1]? = _; simpa using heap_new (w2.alloc (.cells (rowU P fun _ _ => false) 27)) (.cells #[.slice ao n nc, .int .i64 0, .slice (some ⟨g, 0, none⟩) P P] 73), by rw [hw3, hg]; exact heap_old (heap_new w2 _) _, by
    have h := HB.out.fr (S := fun _ => False) (ok' := fun j => j < w.heap.size) (F2.out.trans' F23.out) (fun _ _ e => e) (fun _ _ h => h)
    exact h.fr (S := fun _ => False) (Fr.refl _ w3) (fun _ _ e => e) (fun j h _ => by omega), by omega⟩)
  have R3 := hid (F23.out.heap R2.out (fun e => e))
  have F3 := hid (F2.out.trans' F23.out)
  clear hw3 hg hbb hmk k0 k1 K2 R2 F2 F23 hkl hkr2 K1 R1 F1 HR1
  have htr := tree_ok t w3 bb g P P _ N 0 _ [] B3.out (by rw [List.drop_zero, HT.out, List.append_nil]) HL.out (by omega) (fun p hp => by have := HLV.out p hp; omega)
  have HTR := hid htr
  clear htr
  go_upto_region 5 with (go_at_call 22; refine HTR.out.mono ?_; rintro e w4 ⟨rfl, hB4, hF4⟩; simp only [endsV])
  obtain ⟨w5, hw5⟩ : ∃ w5, w5 = w4.alloc (.cells #[.bool t.null, .int .u32 (msk t.first 32), .int .u32 (msk t.last 32)] 75) := ⟨_, rfl⟩
  obtain ⟨e5, he5⟩ : ∃ e5, e5 = w4.heap.size := ⟨_, rfl⟩
  rw [← hw5, ← he5]
  have E5 := show w5.heap[e5]? = some (.cells #[.bool t.null, .int .u32 (msk t.first 32), .int .u32 (msk t.last 32)] 75 (0, 0)) by rw [hw5, he5]; exact heap_new w4 _
  have hF45 : Fr (fun _ => False) w4 w5 := by rw [hw5]; exact (Fr.refl _ w4).alloc _
  have hB5 := hB4.fr hF45
  have hR5 : w5.heap[r]? = some (.cells #[.bool false, .int .u32 0, .int .u32 0, .slice none 0 0] 32 (0, 0)) := hF45.heap (hF4.heap R3.out (by omega)) (fun e => e)
  have F5 := hid (show Fr (fun k => k = bb ∨ k = g) w3 w5 from hF4.trans hF45 (fun _ h => h) (fun _ _ h => h.elim))
  have e0 := cell_of E5 0 (v := .bool t.null) rfl
  have e1 := cell_of E5 1 (v := .int .u32 (msk t.first 32)) rfl
  have e2 := cell_of E5 2 (v := .int .u32 (msk t.last 32)) rfl
  have b2 := cell_of hB5.blk 2 (v := .slice (some ⟨g, 0, none⟩) P P) rfl
  have hel := lt_of_block E5
  have hbl := lt_of_block hB5.blk
  have r0 := cell_of hR5 0 (v := .bool false) rfl
  have r1 := cell_of hR5 1 (v := .int .u32 0) rfl
  have r2 := cell_of hR5 2 (v := .int .u32 0) rfl
  have r3 := cell_of hR5 3 (v := .slice none 0 0) rfl
  have f0 := free_of hR5 0
  have f1 := free_of hR5 1
  have f2 := free_of hR5 2
  have f3 := free_of hR5 3
  have B5 := hid hB5
  have R5 := hid hR5
  clear hw5 he5 E5 hF45 hB5 hR5 hB4 hF4 HTR B3 R3
  go_region
  go_wp2_with fail
  have hrow : w5.heap[g]? = some (.cells (rowU P t.next) 27 (0, 0)) := by
    have := B5.out.row
    rwa [rowU_congr (f' := t.next) (fun i _ => by funext j; simp)] at this
  refine bodyPost_ret (v := .tuple #[foV t.null (msk t.first 32) (msk t.last 32) (.slice (some ⟨g, 0, none⟩) P P), .int .i64 0]) (by simp [foV, results, Try.results8, go_sem, r0, r1, r2, r3]) rfl ⟨g, rfl, by omega, ⟨?_⟩, ?_⟩
  · exact heap_set_ne (heap_set_ne (heap_set_ne (heap_set_ne hrow (a := ⟨r, 0, none⟩) (show g ≠ r by omega) _) (a := ⟨r, 1, none⟩) (show g ≠ r by omega) _) (a := ⟨r, 2, none⟩) (show g ≠ r by omega) _) (a := ⟨r, 3, none⟩) (show g ≠ r by omega) _
  · have h5 : Fr (fun _ => False) w w5 := F3.out.trans F5.out (fun _ e => e) (fun j hj e => by omega)
    exact ((((h5.setCell (p := ⟨r, 0, none⟩) (fun h => by simp only at h; omega) _).setCell (p := ⟨r, 1, none⟩) (fun h => by simp only at h; omega) _).setCell (p := ⟨r, 2, none⟩) (fun h => by simp only at h; omega) _).setCell (p := ⟨r, 3, none⟩) (fun h => by simp only at h; omega) _).drew
end
end Go.Proofs.Ytceomkoecidoiaa
