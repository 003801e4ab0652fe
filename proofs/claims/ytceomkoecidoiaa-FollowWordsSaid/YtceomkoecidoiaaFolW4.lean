/-
  The program's tree, walked.
-/
import Derived.Test.YtceomkoecidoiaaFolW3
namespace Go.Proofs.Ytceomkoecidoiaa
open Go.RowKit

/-- a builder in memory, at place a of the nodes N, with the row f -/
structure BAt (w : World) (bb g P c : Nat) (nv : Value) (N : List (Int × Int)) (a : Nat) (f : Nat → Nat → Bool) : Prop where
  blk : w.heap[bb]? = some (.cells #[nv, .int .i64 a, .slice (some ⟨g, 0, none⟩) P c] 73 (0, 0))
  row : w.heap[g]? = some (.cells (rowU P f) 27 (0, 0))
  nodes : NodesAt w (fun k => k ≠ bb ∧ k ≠ g) nv N
  ne : g ≠ bb

theorem BAt.fr {w w' : World} {bb g P c : Nat} {nv : Value} {N : List (Int × Int)} {a : Nat} {f : Nat → Nat → Bool} (h : BAt w bb g P c nv N a f) (hf : Fr (fun _ => False) w w') : BAt w' bb g P c nv N a f :=
  ⟨hf.heap h.blk (fun e => e), hf.heap h.row (fun e => e), h.nodes.fr hf (fun _ _ e => e) (fun _ h _ => h), h.ne⟩

theorem node_cell {w : World} {bb g P c n nc ng no : Nat} {N : List (Int × Int)} {a : Nat} {f : Nat → Nat → Bool} {k p : Int} (h : BAt w bb g P c (.slice (some ⟨ng, no, none⟩) n nc) N a f) (hx : N[a]? = some (k, p)) :
    w.cell? ⟨ng, no + a * 2, none⟩ = some (.int .u8 k) ∧ w.cell? ⟨ng, no + a * 2 + 1, none⟩ = some (.int .i64 p) := by
  obtain ⟨ao, c', hv, _, _, hp⟩ := h.nodes
  have hl : a < N.length := (List.getElem?_eq_some_iff.1 hx).1
  obtain ⟨g', o', rfl, _, _, hc⟩ := hp (by omega)
  simp only [Value.slice.injEq, Option.some.injEq, Addr.mk.injEq] at hv
  obtain ⟨⟨rfl, rfl, _⟩, _, _⟩ := hv
  exact hc a _ hx

theorem BAt.moved {w w' : World} {bb g P c : Nat} {nv : Value} {N : List (Int × Int)} {a : Nat} {f : Nat → Nat → Bool} (h : BAt w bb g P c nv N a f) (hf : Fr (fun k => k = bb) w w')
    (hb : w'.heap[bb]? = some (.cells #[nv, .int .i64 ((a : Int) + 1), .slice (some ⟨g, 0, none⟩) P c] 73 (0, 0))) : BAt w' bb g P c nv N (a + 1) f :=
  ⟨hb, hf.heap h.row (fun e => h.ne e), h.nodes.fr hf (fun _ e e2 => e.1 e2) (fun _ h _ => h), h.ne⟩

def endsV (t : Tr) : Value := .agg #[.bool t.null, .int .u32 (msk t.first 32), .int .u32 (msk t.last 32)]

def TreeSaid (t : Tr) : Prop := ∀ (w : World) (bb g P c : Nat) (nv : Value) (N : List (Int × Int)) (a : Nat) (f : Nat → Nat → Bool) (rest : List (Int × Int)), BAt w bb g P c nv N a f → N.drop a = t.flat ++ rest → N.length ≤ 250 → P ≤ 32 → (∀ p ∈ t.leaves, 0 ≤ p ∧ p < 32) →
  Calls Try.prog 22 #[.pointer (some ⟨bb, 0, none⟩)] w fun e w' => e = .returned (endsV t) ∧ BAt w' bb g P c nv N (a + t.flat.length) (fun i j => f i j || t.next i j) ∧ Fr (fun k => k = bb ∨ k = g) w w'

theorem drop_next {N : List (Int × Int)} {a : Nat} {y : Int × Int} {r : List (Int × Int)} (h : N.drop a = y :: r) : N.drop (a + 1) = r := by
  have := congrArg (List.drop 1) h
  simpa [List.drop_drop] using this

theorem BAt.done {w w5 : World} {bb g P c r a a' : Nat} {nv u0 u1 u2 : Value} {N : List (Int × Int)} {f f' : Nat → Nat → Bool} (B : BAt w bb g P c nv N a f) (B5 : BAt w5 bb g P c nv N a' f') (F5 : Fr (fun k => k = bb ∨ k = g) w w5) (hr : w.heap.size ≤ r) (hrb : r ≠ bb) (hrg : r ≠ g) :
    BAt (((w5.setCell ⟨r, 0, none⟩ u0).setCell ⟨r, 1, none⟩ u1).setCell ⟨r, 2, none⟩ u2) bb g P c nv N a' f' ∧ Fr (fun k => k = bb ∨ k = g) w (((w5.setCell ⟨r, 0, none⟩ u0).setCell ⟨r, 1, none⟩ u1).setCell ⟨r, 2, none⟩ u2) := by
  have hx : ∀ i : Nat, (⟨r, i, none⟩ : Addr).block < w.heap.size → r = bb ∨ r = g := fun i h => by simp only at h; omega
  have F := ((F5.setCell (p := ⟨r, 0, none⟩) (hx 0) u0).setCell (p := ⟨r, 1, none⟩) (hx 1) u1).setCell (p := ⟨r, 2, none⟩) (hx 2) u2
  exact ⟨⟨heap_set_ne (heap_set_ne (heap_set_ne B5.blk (a := ⟨r, 0, none⟩) (Ne.symm hrb) u0) (a := ⟨r, 1, none⟩) (Ne.symm hrb) u1) (a := ⟨r, 2, none⟩) (Ne.symm hrb) u2,
    heap_set_ne (heap_set_ne (heap_set_ne B5.row (a := ⟨r, 0, none⟩) (Ne.symm hrg) u0) (a := ⟨r, 1, none⟩) (Ne.symm hrg) u1) (a := ⟨r, 2, none⟩) (Ne.symm hrg) u2,
    B.nodes.fr F (fun _ h e => e.elim h.1 h.2) (fun _ h _ => h), B.ne⟩, F⟩

theorem BAt.cast {w : World} {bb g P c a a' : Nat} {nv : Value} {N : List (Int × Int)} {f f' : Nat → Nat → Bool} (B : BAt w bb g P c nv N a f) (ha : a = a') (hf : f = f') : BAt w bb g P c nv N a' f' := by subst ha; subst hf; exact B

structure BMid (w w5 : World) (bb g P c : Nat) (nv : Value) (a : Nat) (f : Nat → Nat → Bool) : Prop where
  blk : w5.heap[bb]? = some (.cells #[nv, .int .i64 a, .slice (some ⟨g, 0, none⟩) P c] 73 (0, 0))
  row : w5.heap[g]? = some (.cells (rowU P f) 27 (0, 0))
  fr : Fr (fun k => k = bb ∨ k = g) w w5

theorem BMid.set {w w5 : World} {bb g P c a k i : Nat} {nv : Value} {f : Nat → Nat → Bool} (h : BMid w w5 bb g P c nv a f) (u : Value) (hk : w.heap.size ≤ k) (hb : k ≠ bb) (hg : k ≠ g) : BMid w (w5.setCell ⟨k, i, none⟩ u) bb g P c nv a f :=
  ⟨heap_set_ne h.blk (a := ⟨k, i, none⟩) (Ne.symm hb) u, heap_set_ne h.row (a := ⟨k, i, none⟩) (Ne.symm hg) u, h.fr.setCell (p := ⟨k, i, none⟩) (fun h2 => by simp only at h2; omega) u⟩
theorem BMid.alloc {w w5 : World} {bb g P c a : Nat} {nv : Value} {f : Nat → Nat → Bool} (h : BMid w w5 bb g P c nv a f) (o : Obj) : BMid w (w5.alloc o) bb g P c nv a f :=
  ⟨heap_old h.blk o, heap_old h.row o, h.fr.alloc o⟩
theorem BMid.bat {w w5 : World} {bb g P c a a' : Nat} {nv : Value} {N : List (Int × Int)} {f f' : Nat → Nat → Bool} (h : BMid w w5 bb g P c nv a' f') (B : BAt w bb g P c nv N a f) : BAt w5 bb g P c nv N a' f' :=
  ⟨h.blk, h.row, B.nodes.fr h.fr (fun _ h e => e.elim h.1 h.2) (fun _ h _ => h), B.ne⟩

theorem BMid.fin {w w5 : World} {bb g P c a a' r : Nat} {nv : Value} {N : List (Int × Int)} {f f' : Nat → Nat → Bool} (h : BMid w w5 bb g P c nv a' f') (B : BAt w bb g P c nv N a f) (hk : w.heap.size ≤ r) (hb : r ≠ bb) (hg : r ≠ g) (u0 u1 u2 : Value) (o : Obj) :
    BAt ((((w5.setCell ⟨r, 0, none⟩ u0).setCell ⟨r, 1, none⟩ u1).setCell ⟨r, 2, none⟩ u2).alloc o) bb g P c nv N a' f' ∧ Fr (fun k => k = bb ∨ k = g) w ((((w5.setCell ⟨r, 0, none⟩ u0).setCell ⟨r, 1, none⟩ u1).setCell ⟨r, 2, none⟩ u2).alloc o) := by
  have M := (((h.set (i := 0) u0 hk hb hg).set (i := 1) u1 hk hb hg).set (i := 2) u2 hk hb hg).alloc o
  exact ⟨M.bat B, M.fr⟩

theorem cat_first (p : Int) (x y : Tr) (h : x.null = true) : msk (Tr.cat p x y).first 32 = msk (fun i => x.first i || y.first i) 32 := msk_congr fun i _ => by simp [Tr.first, h]
theorem cat_first' (p : Int) (x y : Tr) (h : x.null = false) : msk (Tr.cat p x y).first 32 = msk x.first 32 := msk_congr fun i _ => by simp [Tr.first, h]
theorem cat_last (p : Int) (x y : Tr) (h : y.null = true) : msk (Tr.cat p x y).last 32 = msk (fun i => y.last i || x.last i) 32 := msk_congr fun i _ => by simp [Tr.last, h]
theorem cat_last' (p : Int) (x y : Tr) (h : y.null = false) : msk (Tr.cat p x y).last 32 = msk y.last 32 := msk_congr fun i _ => by simp [Tr.last, h]
theorem catF {f : Nat → Nat → Bool} (p : Int) (x y : Tr) : (fun i j => ((f i j || x.next i j) || y.next i j) || (x.last i && y.first j)) = fun i j => f i j || (Tr.cat p x y).next i j := by
  funext i j; simp [Tr.next, Bool.or_assoc]

theorem three {w : World} {r : Nat} {a0 a1 a2 : Value} (u0 u1 u2 : Value) (o : Obj) (h0 : w.cell? ⟨r, 0, none⟩ = some a0) (h1 : w.cell? ⟨r, 1, none⟩ = some a1) (h2 : w.cell? ⟨r, 2, none⟩ = some a2) :
    ((((w.setCell ⟨r, 0, none⟩ u0).setCell ⟨r, 1, none⟩ u1).setCell ⟨r, 2, none⟩ u2).alloc o).cell? ⟨r, 0, none⟩ = some u0 ∧ ((((w.setCell ⟨r, 0, none⟩ u0).setCell ⟨r, 1, none⟩ u1).setCell ⟨r, 2, none⟩ u2).alloc o).cell? ⟨r, 1, none⟩ = some u1 ∧ ((((w.setCell ⟨r, 0, none⟩ u0).setCell ⟨r, 1, none⟩ u1).setCell ⟨r, 2, none⟩ u2).alloc o).cell? ⟨r, 2, none⟩ = some u2 := by
  refine ⟨?_, ?_, ?_⟩ <;> rw [World.cell?_alloc_some _ _ _ (by simp [go_sem, h0, h1, h2])] <;> simp [go_sem, h0, h1, h2]
set_option maxRecDepth 100000 in
set_option maxHeartbeats 1000000 in
theorem tree_eps (p : Int) : TreeSaid (.eps p) := by
  intro w bb g P c nv N a f rest hB hN hl hP hlv
  have hal : a < N.length := by
    rcases Nat.lt_or_ge a N.length with h | h
    · exact h
    · rw [List.drop_eq_nil_of_le h] at hN; simp [Tr.flat] at hN
  have hx : N[a]? = some (1, p) := by
    have := congrArg List.head? hN
    simpa [Tr.flat, List.head?_drop] using this
  have B := hid hB
  have HX := hid hx
  obtain ⟨n, hn⟩ : ∃ n, n = N.length := ⟨_, rfl⟩
  have HN := hid hn
  obtain ⟨ng, no, nc, rfl⟩ : ∃ ng no nc, nv = .slice (some ⟨ng, no, none⟩) n nc := by
    obtain ⟨ao, nc, rfl, _, _, hp⟩ := hB.nodes
    obtain ⟨ng, no, rfl, _⟩ := hp (by omega)
    exact ⟨ng, no, nc, by rw [hn]⟩
  rw [← hn] at hal hl
  have HNN := hid hN
  have HLV := hid hlv
  have HL := hid hl
  clear hx hN hB hn hlv
  go_enter Try.func22, Try.ntmps22
  go_wp2_with fail
  obtain ⟨w1, hw1⟩ : ∃ w1, w1 = w.alloc (.cells #[.bool false, .int .u32 0, .int .u32 0] 75) := ⟨_, rfl⟩
  rw [← hw1]
  obtain ⟨r, hr⟩ : ∃ r, r = w.heap.size := ⟨_, rfl⟩
  rw [← hr]
  have HR1 := hid (show w1.heap[r]? = some (.cells #[.bool false, .int .u32 0, .int .u32 0] 75 (0, 0)) by rw [hw1, hr]; exact heap_new w _)
  have F1 := hid (show Fr (fun _ => False) w w1 by rw [hw1]; exact (Fr.refl _ w).alloc _)
  have hrw : w.heap.size ≤ r := by omega
  have B1 := hid (B.out.fr F1.out)
  clear hw1 hr
  obtain ⟨c0, c1⟩ := node_cell B1.out HX.out
  have b0 := cell_of B1.out.blk 0 (v := .slice (some ⟨ng, no, none⟩) n nc) rfl
  have b1 := cell_of B1.out.blk 1 (v := .int .i64 a) rfl
  have fb := free_of B1.out.blk 1
  have hbl := lt_of_block B1.out.blk
  have hngl := World.block_lt_of_cell? _ _ c0
  simp only at hngl
  go_region
  obtain ⟨w2, hw2⟩ : ∃ w2, w2 = (w1.alloc (.cells #[.int .u8 1, .int .i64 p] 69)).drew := ⟨_, rfl⟩
  rw [← hw2]
  obtain ⟨m, hm⟩ : ∃ m, m = w1.heap.size := ⟨_, rfl⟩
  rw [← hm]
  have F2 := hid (show Fr (fun _ => False) w1 w2 by rw [hw2]; exact ((Fr.refl _ w1).alloc _).drew)
  have hn2 : w2.heap[m]? = some (.cells #[.int .u8 1, .int .i64 p] 69 (0, 0)) := by rw [hw2, hm]; exact heap_new w1 _
  have hmr : m ≠ r := by have := lt_of_block HR1.out; omega
  have hmb : m ≠ bb := by omega
  have HR2 := hid (F2.out.heap HR1.out (fun e => e))
  have B2 := hid (B1.out.fr F2.out)
  have hrb : r ≠ bb := by have := lt_of_block B.out.blk; omega
  have m0 := cell_of hn2 0 (v := .int .u8 1) rfl
  have m1 := cell_of hn2 1 (v := .int .i64 p) rfl
  have hml := lt_of_block hn2
  have hrl := lt_of_block HR2.out
  have HN2 := hid hn2
  clear b0 b1 c0 c1 fb hbl hngl hw2 hm hn2 HR1
  have b1 := cell_of B2.out.blk 1 (v := .int .i64 a) rfl
  have fb := free_of B2.out.blk 1
  have hbl := lt_of_block B2.out.blk
  go_upto_region 3 with fail
  obtain ⟨w3, hw3⟩ : ∃ w3, w3 = w2.setCell ⟨bb, 1, none⟩ (.int .i64 ((a : Int) + 1)) := ⟨_, rfl⟩
  rw [← hw3]
  have F3 := hid (show Fr (fun k => k = bb) w w3 by rw [hw3]; exact ((Fr.refl (fun k => k = bb) w).trans F1.out (fun _ h => h) (fun _ _ e => e.elim)).trans F2.out (fun _ h => h) (fun _ _ e => e.elim) |>.setCell (fun _ => rfl) _)
  have B3 := hid (show BAt w3 bb g P c (.slice (some ⟨ng, no, none⟩) n nc) N (a + 1) f from B.out.moved F3.out (by rw [hw3]; simpa using heap_set B2.out.blk (i := 1) (.int .i64 ((a : Int) + 1))))
  have HR3 := hid (show w3.heap[r]? = some (.cells #[.bool false, .int .u32 0, .int .u32 0] 75 (0, 0)) by rw [hw3]; exact heap_set_ne HR2.out (a := ⟨bb, 1, none⟩) hrb _)
  have HM3 := hid (show w3.heap[m]? = some (.cells #[.int .u8 1, .int .i64 p] 69 (0, 0)) by rw [hw3]; exact heap_set_ne HN2.out (a := ⟨bb, 1, none⟩) hmb _)
  clear hw3 b1 fb hbl m0 m1 hml hrl
  have m0 := cell_of HM3.out 0 (v := .int .u8 1) rfl
  have m1 := cell_of HM3.out 1 (v := .int .i64 p) rfl
  have r0 := cell_of HR3.out 0 (v := .bool false) rfl
  have r1 := cell_of HR3.out 1 (v := .int .u32 0) rfl
  have r2 := cell_of HR3.out 2 (v := .int .u32 0) rfl
  have fr0 := free_of HR3.out 0
  have fr1 := free_of HR3.out 1
  have fr2 := free_of HR3.out 2
  go_wp2_with fail
  have hrw2 : ∀ i : Nat, (⟨r, i, none⟩ : Addr).block < w.heap.size → r = bb := fun i h => by simp only at h; omega
  have F4 := ((F3.out.setCell (p := ⟨r, 0, none⟩) (hrw2 0) (.bool true)).setCell (p := ⟨r, 1, none⟩) (hrw2 1) (.int .u32 0)).setCell (p := ⟨r, 2, none⟩) (hrw2 2) (.int .u32 0)
  have hblk := heap_set_ne (heap_set_ne (heap_set_ne B3.out.blk (a := ⟨r, 0, none⟩) (Ne.symm hrb) (.bool true)) (a := ⟨r, 1, none⟩) (Ne.symm hrb) (.int .u32 0)) (a := ⟨r, 2, none⟩) (Ne.symm hrb) (.int .u32 0)
  refine bodyPost_ret (v := endsV (.eps p)) (by simp [results, Try.results22, go_sem, r0, r1, r2, endsV, Tr.null, Tr.first, Tr.last, msk_none]) rfl ⟨rfl, ?_, F4.mono (fun i _ e => .inl e)⟩
  have := B.out.moved F4 (by simpa using hblk)
  simpa [Tr.flat, Tr.next] using this

set_option maxRecDepth 100000 in
set_option maxHeartbeats 1000000 in
theorem tree_leaf (p : Int) : TreeSaid (.leaf p) := by
  intro w bb g P c nv N a f rest hB hN hl hP hlv
  have hal : a < N.length := by
    rcases Nat.lt_or_ge a N.length with h | h
    · exact h
    · rw [List.drop_eq_nil_of_le h] at hN; simp [Tr.flat] at hN
  have hx : N[a]? = some (2, p) := by
    have := congrArg List.head? hN
    simpa [Tr.flat, List.head?_drop] using this
  have B := hid hB
  have HX := hid hx
  obtain ⟨n, hn⟩ : ∃ n, n = N.length := ⟨_, rfl⟩
  have HN := hid hn
  obtain ⟨ng, no, nc, rfl⟩ : ∃ ng no nc, nv = .slice (some ⟨ng, no, none⟩) n nc := by
    obtain ⟨ao, nc, rfl, _, _, hp⟩ := hB.nodes
    obtain ⟨ng, no, rfl, _⟩ := hp (by omega)
    exact ⟨ng, no, nc, by rw [hn]⟩
  rw [← hn] at hal hl
  have HNN := hid hN
  have HLV := hid hlv
  have HL := hid hl
  clear hx hN hB hn hlv
  go_enter Try.func22, Try.ntmps22
  go_wp2_with fail
  obtain ⟨w1, hw1⟩ : ∃ w1, w1 = w.alloc (.cells #[.bool false, .int .u32 0, .int .u32 0] 75) := ⟨_, rfl⟩
  rw [← hw1]
  obtain ⟨r, hr⟩ : ∃ r, r = w.heap.size := ⟨_, rfl⟩
  rw [← hr]
  have HR1 := hid (show w1.heap[r]? = some (.cells #[.bool false, .int .u32 0, .int .u32 0] 75 (0, 0)) by rw [hw1, hr]; exact heap_new w _)
  have F1 := hid (show Fr (fun _ => False) w w1 by rw [hw1]; exact (Fr.refl _ w).alloc _)
  have hrw : w.heap.size ≤ r := by omega
  have B1 := hid (B.out.fr F1.out)
  clear hw1 hr
  obtain ⟨c0, c1⟩ := node_cell B1.out HX.out
  have b0 := cell_of B1.out.blk 0 (v := .slice (some ⟨ng, no, none⟩) n nc) rfl
  have b1 := cell_of B1.out.blk 1 (v := .int .i64 a) rfl
  have fb := free_of B1.out.blk 1
  have hbl := lt_of_block B1.out.blk
  have hngl := World.block_lt_of_cell? _ _ c0
  simp only at hngl
  go_region
  obtain ⟨w2, hw2⟩ : ∃ w2, w2 = (w1.alloc (.cells #[.int .u8 2, .int .i64 p] 69)).drew := ⟨_, rfl⟩
  rw [← hw2]
  obtain ⟨m, hm⟩ : ∃ m, m = w1.heap.size := ⟨_, rfl⟩
  rw [← hm]
  have F2 := hid (show Fr (fun _ => False) w1 w2 by rw [hw2]; exact ((Fr.refl _ w1).alloc _).drew)
  have hn2 : w2.heap[m]? = some (.cells #[.int .u8 2, .int .i64 p] 69 (0, 0)) := by rw [hw2, hm]; exact heap_new w1 _
  have hmr : m ≠ r := by have := lt_of_block HR1.out; omega
  have hmb : m ≠ bb := by omega
  have HR2 := hid (F2.out.heap HR1.out (fun e => e))
  have B2 := hid (B1.out.fr F2.out)
  have hrb : r ≠ bb := by have := lt_of_block B.out.blk; omega
  have m0 := cell_of hn2 0 (v := .int .u8 2) rfl
  have m1 := cell_of hn2 1 (v := .int .i64 p) rfl
  have hml := lt_of_block hn2
  have hrl := lt_of_block HR2.out
  have HN2 := hid hn2
  clear b0 b1 c0 c1 fb hbl hngl hw2 hm hn2 HR1
  have b1 := cell_of B2.out.blk 1 (v := .int .i64 a) rfl
  have fb := free_of B2.out.blk 1
  have hbl := lt_of_block B2.out.blk
  go_upto_region 3 with fail
  obtain ⟨w3, hw3⟩ : ∃ w3, w3 = w2.setCell ⟨bb, 1, none⟩ (.int .i64 ((a : Int) + 1)) := ⟨_, rfl⟩
  rw [← hw3]
  have F3 := hid (show Fr (fun k => k = bb) w w3 by rw [hw3]; exact ((Fr.refl (fun k => k = bb) w).trans F1.out (fun _ h => h) (fun _ _ e => e.elim)).trans F2.out (fun _ h => h) (fun _ _ e => e.elim) |>.setCell (fun _ => rfl) _)
  have B3 := hid (show BAt w3 bb g P c (.slice (some ⟨ng, no, none⟩) n nc) N (a + 1) f from B.out.moved F3.out (by rw [hw3]; simpa using heap_set B2.out.blk (i := 1) (.int .i64 ((a : Int) + 1))))
  have HR3 := hid (show w3.heap[r]? = some (.cells #[.bool false, .int .u32 0, .int .u32 0] 75 (0, 0)) by rw [hw3]; exact heap_set_ne HR2.out (a := ⟨bb, 1, none⟩) hrb _)
  have HM3 := hid (show w3.heap[m]? = some (.cells #[.int .u8 2, .int .i64 p] 69 (0, 0)) by rw [hw3]; exact heap_set_ne HN2.out (a := ⟨bb, 1, none⟩) hmb _)
  clear hw3 b1 fb hbl m0 m1 hml hrl
  have m0 := cell_of HM3.out 0 (v := .int .u8 2) rfl
  have m1 := cell_of HM3.out 1 (v := .int .i64 p) rfl
  have r0 := cell_of HR3.out 0 (v := .bool false) rfl
  have r1 := cell_of HR3.out 1 (v := .int .u32 0) rfl
  have r2 := cell_of HR3.out 2 (v := .int .u32 0) rfl
  have fr0 := free_of HR3.out 0
  have fr1 := free_of HR3.out 1
  have fr2 := free_of HR3.out 2
  have hp0 : 0 ≤ p ∧ p < 32 := HLV.out p (by simp [Tr.leaves])
  obtain ⟨k, rfl⟩ : ∃ k : Nat, p = k := ⟨p.toNat, by omega⟩
  have hk32 : k < 32 := by omega
  obtain ⟨u, hu⟩ : ∃ u : Nat, u = 2 ^ k := ⟨_, rfl⟩
  have hone : msk (Tr.leaf (k : Int)).first 32 = u := by
    rw [hu, ← msk_one k 32 hk32]
    exact msk_congr (fun i _ => by
      show decide ((k : Int) = (i : Int)) = decide (k = i)
      congr 1
      exact propext ⟨fun h => by omega, fun h => by omega⟩)
  have hone2 : msk (Tr.leaf (k : Int)).last 32 = u := hone
  have hq : (2 : Int) ^ k % 4294967296 = (u : Int) := by
    have : 2 ^ k < 2 ^ 32 := Nat.pow_lt_pow_right (by omega) hk32
    have e : (2 : Int) ^ k = ((2 ^ k : Nat) : Int) := by rw [Int.natCast_pow]; rfl
    rw [e, hu]
    omega
  have HU := hid hu
  clear hu
  go_wp2_with fail
  have hrw2 : ∀ i : Nat, (⟨r, i, none⟩ : Addr).block < w.heap.size → r = bb := fun i h => by simp only at h; omega
  have F4 := ((F3.out.setCell (p := ⟨r, 0, none⟩) (hrw2 0) (.bool false)).setCell (p := ⟨r, 1, none⟩) (hrw2 1) (.int .u32 u)).setCell (p := ⟨r, 2, none⟩) (hrw2 2) (.int .u32 u)
  have hblk := heap_set_ne (heap_set_ne (heap_set_ne B3.out.blk (a := ⟨r, 0, none⟩) (Ne.symm hrb) (.bool false)) (a := ⟨r, 1, none⟩) (Ne.symm hrb) (.int .u32 u)) (a := ⟨r, 2, none⟩) (Ne.symm hrb) (.int .u32 u)
  refine bodyPost_ret (v := endsV (.leaf k)) (by simp only [endsV, hone, hone2]; simp [results, Try.results22, go_sem, r0, r1, r2, Tr.null]) rfl ⟨rfl, ?_, F4.mono (fun i _ e => .inl e)⟩
  have := B.out.moved F4 (by simpa using hblk)
  simpa [Tr.flat, Tr.next] using this

set_option maxRecDepth 100000 in
set_option maxHeartbeats 1000000 in
theorem tree_loop (p : Int) (x : Tr) (ihx : TreeSaid x) : TreeSaid (.loop p x) := by
  intro w bb g P c nv N a f rest hB hN hl hP hlv
  have hal : a < N.length := by
    rcases Nat.lt_or_ge a N.length with h | h
    · exact h
    · rw [List.drop_eq_nil_of_le h] at hN; simp [Tr.flat] at hN
  have hx : N[a]? = some (5, p) := by
    have := congrArg List.head? hN
    simpa [Tr.flat, List.head?_drop] using this
  have B := hid hB
  have HX := hid hx
  obtain ⟨n, hn⟩ : ∃ n, n = N.length := ⟨_, rfl⟩
  have HN := hid hn
  obtain ⟨ng, no, nc, rfl⟩ : ∃ ng no nc, nv = .slice (some ⟨ng, no, none⟩) n nc := by
    obtain ⟨ao, nc, rfl, _, _, hp⟩ := hB.nodes
    obtain ⟨ng, no, rfl, _⟩ := hp (by omega)
    exact ⟨ng, no, nc, by rw [hn]⟩
  rw [← hn] at hal hl
  have HNN := hid hN
  have HLV := hid hlv
  have HL := hid hl
  clear hx hN hB hn hlv
  go_enter Try.func22, Try.ntmps22
  go_wp2_with fail
  obtain ⟨w1, hw1⟩ : ∃ w1, w1 = w.alloc (.cells #[.bool false, .int .u32 0, .int .u32 0] 75) := ⟨_, rfl⟩
  rw [← hw1]
  obtain ⟨r, hr⟩ : ∃ r, r = w.heap.size := ⟨_, rfl⟩
  rw [← hr]
  have HR1 := hid (show w1.heap[r]? = some (.cells #[.bool false, .int .u32 0, .int .u32 0] 75 (0, 0)) by rw [hw1, hr]; exact heap_new w _)
  have F1 := hid (show Fr (fun _ => False) w w1 by rw [hw1]; exact (Fr.refl _ w).alloc _)
  have hrw : w.heap.size ≤ r := by omega
  have B1 := hid (B.out.fr F1.out)
  clear hw1 hr
  obtain ⟨c0, c1⟩ := node_cell B1.out HX.out
  have b0 := cell_of B1.out.blk 0 (v := .slice (some ⟨ng, no, none⟩) n nc) rfl
  have b1 := cell_of B1.out.blk 1 (v := .int .i64 a) rfl
  have fb := free_of B1.out.blk 1
  have hbl := lt_of_block B1.out.blk
  have hngl := World.block_lt_of_cell? _ _ c0
  simp only at hngl
  go_region
  obtain ⟨w2, hw2⟩ : ∃ w2, w2 = (w1.alloc (.cells #[.int .u8 5, .int .i64 p] 69)).drew := ⟨_, rfl⟩
  rw [← hw2]
  obtain ⟨m, hm⟩ : ∃ m, m = w1.heap.size := ⟨_, rfl⟩
  rw [← hm]
  have F2 := hid (show Fr (fun _ => False) w1 w2 by rw [hw2]; exact ((Fr.refl _ w1).alloc _).drew)
  have hn2 : w2.heap[m]? = some (.cells #[.int .u8 5, .int .i64 p] 69 (0, 0)) := by rw [hw2, hm]; exact heap_new w1 _
  have hmr : m ≠ r := by have := lt_of_block HR1.out; omega
  have hmb : m ≠ bb := by omega
  have HR2 := hid (F2.out.heap HR1.out (fun e => e))
  have B2 := hid (B1.out.fr F2.out)
  have hrb : r ≠ bb := by have := lt_of_block B.out.blk; omega
  have m0 := cell_of hn2 0 (v := .int .u8 5) rfl
  have m1 := cell_of hn2 1 (v := .int .i64 p) rfl
  have hml := lt_of_block hn2
  have hrl := lt_of_block HR2.out
  have HN2 := hid hn2
  clear b0 b1 c0 c1 fb hbl hngl hw2 hm hn2 HR1
  have b1 := cell_of B2.out.blk 1 (v := .int .i64 a) rfl
  have fb := free_of B2.out.blk 1
  have hbl := lt_of_block B2.out.blk
  go_upto_region 3 with fail
  obtain ⟨w3, hw3⟩ : ∃ w3, w3 = w2.setCell ⟨bb, 1, none⟩ (.int .i64 ((a : Int) + 1)) := ⟨_, rfl⟩
  rw [← hw3]
  have F3 := hid (show Fr (fun k => k = bb) w w3 by rw [hw3]; exact ((Fr.refl (fun k => k = bb) w).trans F1.out (fun _ h => h) (fun _ _ e => e.elim)).trans F2.out (fun _ h => h) (fun _ _ e => e.elim) |>.setCell (fun _ => rfl) _)
  have B3 := hid (show BAt w3 bb g P c (.slice (some ⟨ng, no, none⟩) n nc) N (a + 1) f from B.out.moved F3.out (by rw [hw3]; simpa using heap_set B2.out.blk (i := 1) (.int .i64 ((a : Int) + 1))))
  have HR3 := hid (show w3.heap[r]? = some (.cells #[.bool false, .int .u32 0, .int .u32 0] 75 (0, 0)) by rw [hw3]; exact heap_set_ne HR2.out (a := ⟨bb, 1, none⟩) hrb _)
  have HM3 := hid (show w3.heap[m]? = some (.cells #[.int .u8 5, .int .i64 p] 69 (0, 0)) by rw [hw3]; exact heap_set_ne HN2.out (a := ⟨bb, 1, none⟩) hmb _)
  clear hw3 b1 fb hbl m0 m1 hml hrl
  have m0 := cell_of HM3.out 0 (v := .int .u8 5) rfl
  have m1 := cell_of HM3.out 1 (v := .int .i64 p) rfl
  have r0 := cell_of HR3.out 0 (v := .bool false) rfl
  have r1 := cell_of HR3.out 1 (v := .int .u32 0) rfl
  have r2 := cell_of HR3.out 2 (v := .int .u32 0) rfl
  have fr0 := free_of HR3.out 0
  have fr1 := free_of HR3.out 1
  have fr2 := free_of HR3.out 2
  have hrg : r ≠ g := by have := lt_of_block B.out.row; omega
  go_wp2_with fail
  refine (ihx w3 bb g P c _ N (a + 1) f rest B3.out (drop_next (by rw [HNN.out]; rfl)) (by rw [← HN.out]; exact HL.out) hP (fun q hq => HLV.out q (by simpa [Tr.leaves] using hq))).mono ?_
  rintro e w4 ⟨rfl, hB4, hF4⟩
  simp only [endsV]
  have B4 := hid hB4
  have F4 := hid hF4
  have HR4 := hid (hF4.heap HR3.out (by simp [hrb, hrg]))
  clear hB4 hF4 m0 m1 r0 r1 r2 fr0 fr1 fr2
  go_wp2_with fail
  have hE4 := heap_new w4 (.cells #[.bool x.null, .int .u32 (msk x.first 32), .int .u32 (msk x.last 32)] 75)
  have hge : g < w4.heap.size := lt_of_block B4.out.row
  have hre : r < w4.heap.size := lt_of_block HR4.out
  refine (tie_ok x.last x.first hP (heap_old B4.out.blk _) (heap_old B4.out.row _) B4.out.ne).mono ?_
  rintro e w5 ⟨rfl, hrow5, hF5⟩
  have hE5 := hF5.heap hE4 (fun e => by omega)
  have HR5 := hid (hF5.heap (heap_old HR4.out _) hrg)
  have B5 := hid (show BAt w5 bb g P c (.slice (some ⟨ng, no, none⟩) n nc) N (a + 1 + x.flat.length) (fun i j => (f i j || x.next i j) || (x.last i && x.first j)) from
    ⟨hF5.heap (heap_old B4.out.blk _) (Ne.symm B4.out.ne), hrow5, (B4.out.nodes.fr ((Fr.refl (fun _ => False) w4).alloc _) (fun _ _ e => e) (fun _ h _ => h)).fr hF5 (fun _ e e2 => e.2 e2) (fun _ h _ => h), B4.out.ne⟩)
  have F5 := hid (show Fr (fun k => k = bb ∨ k = g) w w5 from
    ((F3.out.mono (fun i _ e => .inl e)).trans' F4.out).trans' (((Fr.refl (fun k => k = bb ∨ k = g) w4).alloc _).trans' (hF5.mono (fun i _ e => .inr e))))
  obtain ⟨eb, heb⟩ : ∃ eb, eb = w4.heap.size := ⟨_, rfl⟩
  rw [← heb] at hE5 ⊢
  have her : eb ≠ r := by omega
  have HE5 := hid hE5
  have e0 := cell_of hE5 0 (v := .bool x.null) rfl
  have e1 := cell_of hE5 1 (v := .int .u32 (msk x.first 32)) rfl
  have e2 := cell_of hE5 2 (v := .int .u32 (msk x.last 32)) rfl
  have r0 := cell_of HR5.out 0 (v := .bool false) rfl
  have r1 := cell_of HR5.out 1 (v := .int .u32 0) rfl
  have r2 := cell_of HR5.out 2 (v := .int .u32 0) rfl
  have fr0 := free_of HR5.out 0
  have fr1 := free_of HR5.out 1
  have fr2 := free_of HR5.out 2
  clear heb hE4 hE5 hrow5 hF5
  go_wp2_with fail
  obtain ⟨BD, FD⟩ := B.out.done B5.out F5.out (u0 := .bool x.null) (u1 := .int .u32 (msk x.first 32)) (u2 := .int .u32 (msk x.last 32)) hrw hrb hrg
  have h1 : msk (Tr.loop p x).first 32 = msk x.first 32 := rfl
  have h2 : msk (Tr.loop p x).last 32 = msk x.last 32 := rfl
  refine bodyPost_ret (v := endsV (.loop p x)) (by simp only [endsV, h1, h2]; simp [results, Try.results22, go_sem, r0, r1, r2, Tr.null]) rfl ⟨rfl, ?_, FD⟩
  exact BD.cast (by simp [Tr.flat]; omega) (by funext i j; simp [Tr.next, Bool.or_assoc])

set_option maxRecDepth 100000 in
set_option maxHeartbeats 1000000 in
theorem tree_alt (p : Int) (x y : Tr) (ihx : TreeSaid x) (ihy : TreeSaid y) : TreeSaid (.alt p x y) := by
  intro w bb g P c nv N a f rest hB hN hl hP hlv
  have hal : a < N.length := by
    rcases Nat.lt_or_ge a N.length with h | h
    · exact h
    · rw [List.drop_eq_nil_of_le h] at hN; simp [Tr.flat] at hN
  have hx : N[a]? = some (4, p) := by
    have := congrArg List.head? hN
    simpa [Tr.flat, List.head?_drop] using this
  have B := hid hB
  have HX := hid hx
  obtain ⟨n, hn⟩ : ∃ n, n = N.length := ⟨_, rfl⟩
  have HN := hid hn
  obtain ⟨ng, no, nc, rfl⟩ : ∃ ng no nc, nv = .slice (some ⟨ng, no, none⟩) n nc := by
    obtain ⟨ao, nc, rfl, _, _, hp⟩ := hB.nodes
    obtain ⟨ng, no, rfl, _⟩ := hp (by omega)
    exact ⟨ng, no, nc, by rw [hn]⟩
  rw [← hn] at hal hl
  have HNN := hid hN
  have HLV := hid hlv
  have HL := hid hl
  clear hx hN hB hn hlv
  go_enter Try.func22, Try.ntmps22
  go_wp2_with fail
  obtain ⟨w1, hw1⟩ : ∃ w1, w1 = w.alloc (.cells #[.bool false, .int .u32 0, .int .u32 0] 75) := ⟨_, rfl⟩
  rw [← hw1]
  obtain ⟨r, hr⟩ : ∃ r, r = w.heap.size := ⟨_, rfl⟩
  rw [← hr]
  have HR1 := hid (show w1.heap[r]? = some (.cells #[.bool false, .int .u32 0, .int .u32 0] 75 (0, 0)) by rw [hw1, hr]; exact heap_new w _)
  have F1 := hid (show Fr (fun _ => False) w w1 by rw [hw1]; exact (Fr.refl _ w).alloc _)
  have hrw : w.heap.size ≤ r := by omega
  have B1 := hid (B.out.fr F1.out)
  clear hw1 hr
  obtain ⟨c0, c1⟩ := node_cell B1.out HX.out
  have b0 := cell_of B1.out.blk 0 (v := .slice (some ⟨ng, no, none⟩) n nc) rfl
  have b1 := cell_of B1.out.blk 1 (v := .int .i64 a) rfl
  have fb := free_of B1.out.blk 1
  have hbl := lt_of_block B1.out.blk
  have hngl := World.block_lt_of_cell? _ _ c0
  simp only at hngl
  go_region
  obtain ⟨w2, hw2⟩ : ∃ w2, w2 = (w1.alloc (.cells #[.int .u8 4, .int .i64 p] 69)).drew := ⟨_, rfl⟩
  rw [← hw2]
  obtain ⟨m, hm⟩ : ∃ m, m = w1.heap.size := ⟨_, rfl⟩
  rw [← hm]
  have F2 := hid (show Fr (fun _ => False) w1 w2 by rw [hw2]; exact ((Fr.refl _ w1).alloc _).drew)
  have hn2 : w2.heap[m]? = some (.cells #[.int .u8 4, .int .i64 p] 69 (0, 0)) := by rw [hw2, hm]; exact heap_new w1 _
  have hmr : m ≠ r := by have := lt_of_block HR1.out; omega
  have hmb : m ≠ bb := by omega
  have HR2 := hid (F2.out.heap HR1.out (fun e => e))
  have B2 := hid (B1.out.fr F2.out)
  have hrb : r ≠ bb := by have := lt_of_block B.out.blk; omega
  have m0 := cell_of hn2 0 (v := .int .u8 4) rfl
  have m1 := cell_of hn2 1 (v := .int .i64 p) rfl
  have hml := lt_of_block hn2
  have hrl := lt_of_block HR2.out
  have HN2 := hid hn2
  clear b0 b1 c0 c1 fb hbl hngl hw2 hm hn2 HR1
  have b1 := cell_of B2.out.blk 1 (v := .int .i64 a) rfl
  have fb := free_of B2.out.blk 1
  have hbl := lt_of_block B2.out.blk
  go_upto_region 3 with fail
  obtain ⟨w3, hw3⟩ : ∃ w3, w3 = w2.setCell ⟨bb, 1, none⟩ (.int .i64 ((a : Int) + 1)) := ⟨_, rfl⟩
  rw [← hw3]
  have F3 := hid (show Fr (fun k => k = bb) w w3 by rw [hw3]; exact ((Fr.refl (fun k => k = bb) w).trans F1.out (fun _ h => h) (fun _ _ e => e.elim)).trans F2.out (fun _ h => h) (fun _ _ e => e.elim) |>.setCell (fun _ => rfl) _)
  have B3 := hid (show BAt w3 bb g P c (.slice (some ⟨ng, no, none⟩) n nc) N (a + 1) f from B.out.moved F3.out (by rw [hw3]; simpa using heap_set B2.out.blk (i := 1) (.int .i64 ((a : Int) + 1))))
  have HR3 := hid (show w3.heap[r]? = some (.cells #[.bool false, .int .u32 0, .int .u32 0] 75 (0, 0)) by rw [hw3]; exact heap_set_ne HR2.out (a := ⟨bb, 1, none⟩) hrb _)
  have HM3 := hid (show w3.heap[m]? = some (.cells #[.int .u8 4, .int .i64 p] 69 (0, 0)) by rw [hw3]; exact heap_set_ne HN2.out (a := ⟨bb, 1, none⟩) hmb _)
  clear hw3 b1 fb hbl m0 m1 hml hrl
  have m0 := cell_of HM3.out 0 (v := .int .u8 4) rfl
  have m1 := cell_of HM3.out 1 (v := .int .i64 p) rfl
  have r0 := cell_of HR3.out 0 (v := .bool false) rfl
  have r1 := cell_of HR3.out 1 (v := .int .u32 0) rfl
  have r2 := cell_of HR3.out 2 (v := .int .u32 0) rfl
  have fr0 := free_of HR3.out 0
  have fr1 := free_of HR3.out 1
  have fr2 := free_of HR3.out 2
  have hrg : r ≠ g := by have := lt_of_block B.out.row; omega
  have hd1 : N.drop (a + 1) = x.flat ++ (y.flat ++ rest) := drop_next (y := (4, p)) (by rw [HNN.out]; simp [Tr.flat])
  go_wp2_with fail
  refine (ihx w3 bb g P c _ N (a + 1) f (y.flat ++ rest) B3.out hd1 (by rw [← HN.out]; exact HL.out) hP (fun q hq => HLV.out q (by simp only [Tr.leaves, List.mem_append]; exact .inl hq))).mono ?_
  rintro e w4 ⟨rfl, hB4, hF4⟩
  simp only [endsV]
  have B4 := hid hB4
  have F4 := hid hF4
  have HR4 := hid (hF4.heap HR3.out (by simp [hrb, hrg]))
  clear hB4 hF4 m0 m1 r0 r1 r2 fr0 fr1 fr2
  go_wp2_with fail
  have hE4 := heap_new w4 (.cells #[.bool x.null, .int .u32 (msk x.first 32), .int .u32 (msk x.last 32)] 75)
  have hge : g < w4.heap.size := lt_of_block B4.out.row
  have hbe : bb < w4.heap.size := lt_of_block B4.out.blk
  have hre : r < w4.heap.size := lt_of_block HR4.out
  have hdr : N.drop (a + 1 + x.flat.length) = y.flat ++ rest := by
    have := congrArg (List.drop x.flat.length) hd1
    simpa [List.drop_drop] using this
  refine (ihy _ bb g P c _ N (a + 1 + x.flat.length) (fun i j => f i j || x.next i j) rest (B4.out.fr ((Fr.refl _ w4).alloc _)) hdr (by rw [← HN.out]; exact HL.out) hP (fun q hq => HLV.out q (by simp only [Tr.leaves, List.mem_append]; exact .inr hq))).mono ?_
  rintro e w5 ⟨rfl, hB5, hF5⟩
  simp only [endsV]
  have hE5 := hF5.heap hE4 (fun e => by omega)
  have HR5 := hid (hF5.heap (heap_old HR4.out _) (by simp [hrb, hrg]))
  have B5 := hid hB5
  have F5 := hid (show Fr (fun k => k = bb ∨ k = g) w w5 from
    ((F3.out.mono (fun i _ e => .inl e)).trans' F4.out).trans' (((Fr.refl (fun k => k = bb ∨ k = g) w4).alloc _).trans' hF5))
  obtain ⟨eb, heb⟩ : ∃ eb, eb = w4.heap.size := ⟨_, rfl⟩
  rw [← heb] at hE5 hge hbe hre ⊢
  have her : eb ≠ r := by omega
  have heg : eb ≠ g := by omega
  have HE5 := hid hE5
  clear heb hE4 hE5 hB5 hF5
  go_upto_region 14 with fail
  obtain ⟨w6, hw6⟩ : ∃ w6, w6 = w5.alloc (.cells #[.bool y.null, .int .u32 (msk y.first 32), .int .u32 (msk y.last 32)] 75) := ⟨_, rfl⟩
  rw [← hw6]
  obtain ⟨ec, hec⟩ : ∃ ec, ec = w5.heap.size := ⟨_, rfl⟩
  rw [← hec]
  have hE6 : w6.heap[eb]? = some (.cells #[.bool x.null, .int .u32 (msk x.first 32), .int .u32 (msk x.last 32)] 75 (0, 0)) := by rw [hw6]; exact heap_old HE5.out _
  have hC6 : w6.heap[ec]? = some (.cells #[.bool y.null, .int .u32 (msk y.first 32), .int .u32 (msk y.last 32)] 75 (0, 0)) := by rw [hw6, hec]; exact heap_new w5 _
  have HR6 := hid (show w6.heap[r]? = some (.cells #[.bool false, .int .u32 0, .int .u32 0] 75 (0, 0)) by rw [hw6]; exact heap_old HR5.out _)
  have B6 := hid (B5.out.fr (w' := w6) (by rw [hw6]; exact (Fr.refl _ w5).alloc _))
  have F6 := hid (F5.out.trans' (by rw [hw6]; exact (Fr.refl _ w5).alloc _ : Fr (fun k => k = bb ∨ k = g) w5 w6))
  clear hw6 hec
  have e0 := cell_of hE6 0 (v := .bool x.null) rfl
  have e1 := cell_of hE6 1 (v := .int .u32 (msk x.first 32)) rfl
  have e2 := cell_of hE6 2 (v := .int .u32 (msk x.last 32)) rfl
  have g0 := cell_of hC6 0 (v := .bool y.null) rfl
  have g1 := cell_of hC6 1 (v := .int .u32 (msk y.first 32)) rfl
  have g2 := cell_of hC6 2 (v := .int .u32 (msk y.last 32)) rfl
  have r0 := cell_of HR6.out 0 (v := .bool false) rfl
  have r1 := cell_of HR6.out 1 (v := .int .u32 0) rfl
  have r2 := cell_of HR6.out 2 (v := .int .u32 0) rfl
  have fr0 := free_of HR6.out 0
  have fr1 := free_of HR6.out 1
  have fr2 := free_of HR6.out 2
  have ho1 := or_fact x.first y.first
  have ho2 := or_fact x.last y.last
  clear hE6 hC6
  obtain ⟨BD, FD⟩ := B.out.done B6.out F6.out (u0 := .bool (x.null || y.null)) (u1 := .int .u32 (msk (fun i => x.first i || y.first i) 32)) (u2 := .int .u32 (msk (fun i => x.last i || y.last i) 32)) hrw hrb hrg
  have BD := hid BD
  have FD := hid FD
  have hf1 : msk (Tr.alt p x y).first 32 = msk (fun i => x.first i || y.first i) 32 := rfl
  have hf2 : msk (Tr.alt p x y).last 32 = msk (fun i => x.last i || y.last i) 32 := rfl
  have HF1 := hid hf1
  have HF2 := hid hf2
  clear hf1 hf2
  cases hxn : x.null with
  | true =>
    rw [hxn] at e0 BD FD
    go_wp2_with fail
    refine bodyPost_ret (v := endsV (.alt p x y)) (by simp only [endsV, HF1.out, HF2.out]; simp [results, Try.results22, go_sem, r0, r1, r2, Tr.null, hxn]) rfl ⟨rfl, ?_, FD.out⟩
    exact BD.out.cast (by simp [Tr.flat]; omega) (by funext i j; simp [Tr.next, Bool.or_assoc])
  | false =>
    rw [hxn] at e0 BD FD
    simp only [Bool.false_or] at BD FD
    go_wp2_with fail
    refine bodyPost_ret (v := endsV (.alt p x y)) (by simp only [endsV, HF1.out, HF2.out]; simp [results, Try.results22, go_sem, r0, r1, r2, Tr.null, hxn]) rfl ⟨rfl, ?_, FD.out⟩
    exact BD.out.cast (by simp [Tr.flat]; omega) (by funext i j; simp [Tr.next, Bool.or_assoc])

set_option maxRecDepth 100000 in
set_option maxHeartbeats 1000000 in
theorem tree_cat (p : Int) (x y : Tr) (ihx : TreeSaid x) (ihy : TreeSaid y) : TreeSaid (.cat p x y) := by
  intro w bb g P c nv N a f rest hB hN hl hP hlv
  have hal : a < N.length := by
    rcases Nat.lt_or_ge a N.length with h | h
    · exact h
    · rw [List.drop_eq_nil_of_le h] at hN; simp [Tr.flat] at hN
  have hx : N[a]? = some (3, p) := by
    have := congrArg List.head? hN
    simpa [Tr.flat, List.head?_drop] using this
  have B := hid hB
  have HX := hid hx
  obtain ⟨n, hn⟩ : ∃ n, n = N.length := ⟨_, rfl⟩
  have HN := hid hn
  obtain ⟨ng, no, nc, rfl⟩ : ∃ ng no nc, nv = .slice (some ⟨ng, no, none⟩) n nc := by
    obtain ⟨ao, nc, rfl, _, _, hp⟩ := hB.nodes
    obtain ⟨ng, no, rfl, _⟩ := hp (by omega)
    exact ⟨ng, no, nc, by rw [hn]⟩
  rw [← hn] at hal hl
  have HNN := hid hN
  have HLV := hid hlv
  have HL := hid hl
  clear hx hN hB hn hlv
  go_enter Try.func22, Try.ntmps22
  go_wp2_with fail
  obtain ⟨w1, hw1⟩ : ∃ w1, w1 = w.alloc (.cells #[.bool false, .int .u32 0, .int .u32 0] 75) := ⟨_, rfl⟩
  rw [← hw1]
  obtain ⟨r, hr⟩ : ∃ r, r = w.heap.size := ⟨_, rfl⟩
  rw [← hr]
  have HR1 := hid (show w1.heap[r]? = some (.cells #[.bool false, .int .u32 0, .int .u32 0] 75 (0, 0)) by rw [hw1, hr]; exact heap_new w _)
  have F1 := hid (show Fr (fun _ => False) w w1 by rw [hw1]; exact (Fr.refl _ w).alloc _)
  have hrw : w.heap.size ≤ r := by omega
  have B1 := hid (B.out.fr F1.out)
  clear hw1 hr
  obtain ⟨c0, c1⟩ := node_cell B1.out HX.out
  have b0 := cell_of B1.out.blk 0 (v := .slice (some ⟨ng, no, none⟩) n nc) rfl
  have b1 := cell_of B1.out.blk 1 (v := .int .i64 a) rfl
  have fb := free_of B1.out.blk 1
  have hbl := lt_of_block B1.out.blk
  have hngl := World.block_lt_of_cell? _ _ c0
  simp only at hngl
  go_region
  obtain ⟨w2, hw2⟩ : ∃ w2, w2 = (w1.alloc (.cells #[.int .u8 3, .int .i64 p] 69)).drew := ⟨_, rfl⟩
  rw [← hw2]
  obtain ⟨m, hm⟩ : ∃ m, m = w1.heap.size := ⟨_, rfl⟩
  rw [← hm]
  have F2 := hid (show Fr (fun _ => False) w1 w2 by rw [hw2]; exact ((Fr.refl _ w1).alloc _).drew)
  have hn2 : w2.heap[m]? = some (.cells #[.int .u8 3, .int .i64 p] 69 (0, 0)) := by rw [hw2, hm]; exact heap_new w1 _
  have hmr : m ≠ r := by have := lt_of_block HR1.out; omega
  have hmb : m ≠ bb := by omega
  have HR2 := hid (F2.out.heap HR1.out (fun e => e))
  have B2 := hid (B1.out.fr F2.out)
  have hrb : r ≠ bb := by have := lt_of_block B.out.blk; omega
  have m0 := cell_of hn2 0 (v := .int .u8 3) rfl
  have m1 := cell_of hn2 1 (v := .int .i64 p) rfl
  have hml := lt_of_block hn2
  have hrl := lt_of_block HR2.out
  have HN2 := hid hn2
  clear b0 b1 c0 c1 fb hbl hngl hw2 hm hn2 HR1
  have b1 := cell_of B2.out.blk 1 (v := .int .i64 a) rfl
  have fb := free_of B2.out.blk 1
  have hbl := lt_of_block B2.out.blk
  go_upto_region 3 with fail
  obtain ⟨w3, hw3⟩ : ∃ w3, w3 = w2.setCell ⟨bb, 1, none⟩ (.int .i64 ((a : Int) + 1)) := ⟨_, rfl⟩
  rw [← hw3]
  have F3 := hid (show Fr (fun k => k = bb) w w3 by rw [hw3]; exact ((Fr.refl (fun k => k = bb) w).trans F1.out (fun _ h => h) (fun _ _ e => e.elim)).trans F2.out (fun _ h => h) (fun _ _ e => e.elim) |>.setCell (fun _ => rfl) _)
  have B3 := hid (show BAt w3 bb g P c (.slice (some ⟨ng, no, none⟩) n nc) N (a + 1) f from B.out.moved F3.out (by rw [hw3]; simpa using heap_set B2.out.blk (i := 1) (.int .i64 ((a : Int) + 1))))
  have HR3 := hid (show w3.heap[r]? = some (.cells #[.bool false, .int .u32 0, .int .u32 0] 75 (0, 0)) by rw [hw3]; exact heap_set_ne HR2.out (a := ⟨bb, 1, none⟩) hrb _)
  have HM3 := hid (show w3.heap[m]? = some (.cells #[.int .u8 3, .int .i64 p] 69 (0, 0)) by rw [hw3]; exact heap_set_ne HN2.out (a := ⟨bb, 1, none⟩) hmb _)
  clear hw3 b1 fb hbl m0 m1 hml hrl
  have m0 := cell_of HM3.out 0 (v := .int .u8 3) rfl
  have m1 := cell_of HM3.out 1 (v := .int .i64 p) rfl
  have r0 := cell_of HR3.out 0 (v := .bool false) rfl
  have r1 := cell_of HR3.out 1 (v := .int .u32 0) rfl
  have r2 := cell_of HR3.out 2 (v := .int .u32 0) rfl
  have fr0 := free_of HR3.out 0
  have fr1 := free_of HR3.out 1
  have fr2 := free_of HR3.out 2
  have hrg : r ≠ g := by have := lt_of_block B.out.row; omega
  have hd1 : N.drop (a + 1) = x.flat ++ (y.flat ++ rest) := drop_next (y := (3, p)) (by rw [HNN.out]; simp [Tr.flat])
  go_wp2_with fail
  refine (ihx w3 bb g P c _ N (a + 1) f (y.flat ++ rest) B3.out hd1 (by rw [← HN.out]; exact HL.out) hP (fun q hq => HLV.out q (by simp only [Tr.leaves, List.mem_append]; exact .inl hq))).mono ?_
  rintro e w4 ⟨rfl, hB4, hF4⟩
  simp only [endsV]
  have B4 := hid hB4
  have F4 := hid hF4
  have HR4 := hid (hF4.heap HR3.out (by simp [hrb, hrg]))
  clear hB4 hF4 m0 m1 r0 r1 r2 fr0 fr1 fr2
  go_wp2_with fail
  have hE4 := heap_new w4 (.cells #[.bool x.null, .int .u32 (msk x.first 32), .int .u32 (msk x.last 32)] 75)
  have hge : g < w4.heap.size := lt_of_block B4.out.row
  have hbe : bb < w4.heap.size := lt_of_block B4.out.blk
  have hre : r < w4.heap.size := lt_of_block HR4.out
  have hdr : N.drop (a + 1 + x.flat.length) = y.flat ++ rest := by
    have := congrArg (List.drop x.flat.length) hd1
    simpa [List.drop_drop] using this
  refine (ihy _ bb g P c _ N (a + 1 + x.flat.length) (fun i j => f i j || x.next i j) rest (B4.out.fr ((Fr.refl _ w4).alloc _)) hdr (by rw [← HN.out]; exact HL.out) hP (fun q hq => HLV.out q (by simp only [Tr.leaves, List.mem_append]; exact .inr hq))).mono ?_
  rintro e w5 ⟨rfl, hB5, hF5⟩
  simp only [endsV]
  have hE5 := hF5.heap hE4 (fun e => by omega)
  have HR5 := hid (hF5.heap (heap_old HR4.out _) (by simp [hrb, hrg]))
  have B5 := hid hB5
  have F5 := hid (show Fr (fun k => k = bb ∨ k = g) w w5 from
    ((F3.out.mono (fun i _ e => .inl e)).trans' F4.out).trans' (((Fr.refl (fun k => k = bb ∨ k = g) w4).alloc _).trans' hF5))
  obtain ⟨eb, heb⟩ : ∃ eb, eb = w4.heap.size := ⟨_, rfl⟩
  rw [← heb] at hE5 hge hbe hre ⊢
  have her : eb ≠ r := by omega
  have heg : eb ≠ g := by omega
  have HE5 := hid hE5
  clear heb hE4 hE5 hB5 hF5
  go_upto_region 18 with fail
  obtain ⟨w6, hw6⟩ : ∃ w6, w6 = w5.alloc (.cells #[.bool y.null, .int .u32 (msk y.first 32), .int .u32 (msk y.last 32)] 75) := ⟨_, rfl⟩
  rw [← hw6]
  obtain ⟨ec, hec⟩ : ∃ ec, ec = w5.heap.size := ⟨_, rfl⟩
  rw [← hec]
  have hE6 : w6.heap[eb]? = some (.cells #[.bool x.null, .int .u32 (msk x.first 32), .int .u32 (msk x.last 32)] 75 (0, 0)) := by rw [hw6]; exact heap_old HE5.out _
  have hC6 : w6.heap[ec]? = some (.cells #[.bool y.null, .int .u32 (msk y.first 32), .int .u32 (msk y.last 32)] 75 (0, 0)) := by rw [hw6, hec]; exact heap_new w5 _
  have HR6 := hid (show w6.heap[r]? = some (.cells #[.bool false, .int .u32 0, .int .u32 0] 75 (0, 0)) by rw [hw6]; exact heap_old HR5.out _)
  have B6 := hid (B5.out.fr (w' := w6) (by rw [hw6]; exact (Fr.refl _ w5).alloc _))
  have F6 := hid (F5.out.trans' (by rw [hw6]; exact (Fr.refl _ w5).alloc _ : Fr (fun k => k = bb ∨ k = g) w5 w6))
  have hew : w.heap.size ≤ eb := by have := F4.out.size; have := F3.out.size; omega
  have hcw : w.heap.size ≤ ec := by have := F5.out.size; omega
  have hel := lt_of_block hE6
  have hce : ec ≠ eb := by have := lt_of_block HE5.out; omega
  have hcr : ec ≠ r := by have := lt_of_block HR5.out; omega
  have hcg : ec ≠ g := by have := lt_of_block B5.out.row; omega
  have hcb : ec ≠ bb := by have := lt_of_block B5.out.blk; omega
  clear hw6 hec
  have e0 := cell_of hE6 0 (v := .bool x.null) rfl
  have e1 := cell_of hE6 1 (v := .int .u32 (msk x.first 32)) rfl
  have e2 := cell_of hE6 2 (v := .int .u32 (msk x.last 32)) rfl
  have g0 := cell_of hC6 0 (v := .bool y.null) rfl
  have g1 := cell_of hC6 1 (v := .int .u32 (msk y.first 32)) rfl
  have g2 := cell_of hC6 2 (v := .int .u32 (msk y.last 32)) rfl
  have HE6 := hid hE6
  have HC6 := hid hC6
  clear hE6 hC6
  go_wp2_with fail
  refine (tie_ok x.last y.first hP B6.out.blk B6.out.row B6.out.ne).mono ?_
  rintro e w7 ⟨rfl, hrow7, hF7⟩
  have HE7 := hF7.heap HE6.out heg
  have HC7 := hF7.heap HC6.out hcg
  have HR7 := hid (hF7.heap HR6.out hrg)
  have M7 := hid (show BMid w w7 bb g P c (.slice (some ⟨ng, no, none⟩) n nc) (a + 1 + x.flat.length + y.flat.length) (fun i j => ((f i j || x.next i j) || y.next i j) || (x.last i && y.first j)) from
    ⟨hF7.heap B6.out.blk (Ne.symm B6.out.ne), hrow7, F6.out.trans' (hF7.mono (fun i _ e => .inr e))⟩)
  have hs7 := hF7.size
  clear e0 e1 e2 g0 g1 g2 hF7 hrow7
  have e0 := cell_of HE7 0 (v := .bool x.null) rfl
  have e1 := cell_of HE7 1 (v := .int .u32 (msk x.first 32)) rfl
  have e2 := cell_of HE7 2 (v := .int .u32 (msk x.last 32)) rfl
  have g0 := cell_of HC7 0 (v := .bool y.null) rfl
  have g1 := cell_of HC7 1 (v := .int .u32 (msk y.first 32)) rfl
  have g2 := cell_of HC7 2 (v := .int .u32 (msk y.last 32)) rfl
  have hel7 := lt_of_block HE7
  have hcl7 := lt_of_block HC7
  have hrl7 := lt_of_block HR7.out
  have hgl7 := lt_of_block M7.out.row
  have hbl7 := lt_of_block M7.out.blk
  have r0 := cell_of HR7.out 0 (v := .bool false) rfl
  have r1 := cell_of HR7.out 1 (v := .int .u32 0) rfl
  have r2 := cell_of HR7.out 2 (v := .int .u32 0) rfl
  have fr0 := free_of HR7.out 0
  have fr1 := free_of HR7.out 1
  have fr2 := free_of HR7.out 2
  clear HE7 HC7
  have ho1 := or_fact x.first y.first
  have ho2 := or_fact y.last x.last
  cases hxn : x.null with
  | true =>
    rw [hxn] at e0
    cases hyn : y.null with
    | true =>
      rw [hyn] at g0
      go_wp2_with fail
      have hv : endsV (.cat p x y) = .agg #[.bool true, .int .u32 (msk (fun i => x.first i || y.first i) 32), .int .u32 (msk (fun i => y.last i || x.last i) 32)] := by simp only [endsV, cat_first p x y hxn, cat_last p x y hyn]; simp [Tr.null, hxn, hyn]
      obtain ⟨BD, FD⟩ := M7.out.fin B.out hrw hrb hrg _ _ _ _
      refine bodyPost_ret (v := endsV (.cat p x y)) (by have q := fun u0 u1 u2 o => three u0 u1 u2 o r0 r1 r2; rw [hv]; simp [results, Try.results22, go_sem, q]) rfl ⟨rfl, ?_, FD⟩
      exact BD.cast (by simp [Tr.flat]; omega) (catF p x y)
    | false =>
      rw [hyn] at g0
      go_wp2_with fail
      have hv : endsV (.cat p x y) = .agg #[.bool false, .int .u32 (msk (fun i => x.first i || y.first i) 32), .int .u32 (msk y.last 32)] := by simp only [endsV, cat_first p x y hxn, cat_last' p x y hyn]; simp [Tr.null, hxn, hyn]
      obtain ⟨BD, FD⟩ := M7.out.fin B.out hrw hrb hrg _ _ _ _
      refine bodyPost_ret (v := endsV (.cat p x y)) (by have q := fun u0 u1 u2 o => three u0 u1 u2 o r0 r1 r2; rw [hv]; simp [results, Try.results22, go_sem, q]) rfl ⟨rfl, ?_, FD⟩
      exact BD.cast (by simp [Tr.flat]; omega) (catF p x y)
  | false =>
    rw [hxn] at e0
    cases hyn : y.null with
    | true =>
      rw [hyn] at g0
      go_wp2_with fail
      have hv : endsV (.cat p x y) = .agg #[.bool false, .int .u32 (msk x.first 32), .int .u32 (msk (fun i => y.last i || x.last i) 32)] := by simp only [endsV, cat_first' p x y hxn, cat_last p x y hyn]; simp [Tr.null, hxn, hyn]
      obtain ⟨BD, FD⟩ := M7.out.fin B.out hrw hrb hrg _ _ _ _
      refine bodyPost_ret (v := endsV (.cat p x y)) (by have q := fun u0 u1 u2 o => three u0 u1 u2 o r0 r1 r2; rw [hv]; simp [results, Try.results22, go_sem, q]) rfl ⟨rfl, ?_, FD⟩
      exact BD.cast (by simp [Tr.flat]; omega) (catF p x y)
    | false =>
      rw [hyn] at g0
      go_wp2_with fail
      have hv : endsV (.cat p x y) = .agg #[.bool false, .int .u32 (msk x.first 32), .int .u32 (msk y.last 32)] := by simp only [endsV, cat_first' p x y hxn, cat_last' p x y hyn]; simp [Tr.null, hxn, hyn]
      obtain ⟨BD, FD⟩ := M7.out.fin B.out hrw hrb hrg _ _ _ _
      refine bodyPost_ret (v := endsV (.cat p x y)) (by have q := fun u0 u1 u2 o => three u0 u1 u2 o r0 r1 r2; rw [hv]; simp [results, Try.results22, go_sem, q]) rfl ⟨rfl, ?_, FD⟩
      exact BD.cast (by simp [Tr.flat]; omega) (catF p x y)

theorem tree_ok (t : Tr) : TreeSaid t := by
  induction t with
  | eps p => exact tree_eps p
  | leaf p => exact tree_leaf p
  | cat p a b iha ihb => exact tree_cat p a b iha ihb
  | alt p a b iha ihb => exact tree_alt p a b iha ihb
  | loop p a iha => exact tree_loop p a iha

end Go.Proofs.Ytceomkoecidoiaa
