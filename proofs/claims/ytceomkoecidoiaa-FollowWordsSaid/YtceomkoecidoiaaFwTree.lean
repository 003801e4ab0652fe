/-
  tree of a reader, walked: the places behind a tree's words, asked once.
-/
import Derived.Test.YtceomkoecidoiaaFwLoop
import Derived.Test.YtceomkoecidoiaaFwSize
import Derived.Deep.CutBlock
import Derived.Test.YtceomkoecidoiaaFolLoops
namespace Go.Proofs.Ytceomkoecidoiaa
open Go.RowKit

theorem build_ask (a x y : Int) (w : World) : (Instr.build 108 #[(0, .int .i64 a), (1, .agg #[.int .u64 x, .int .u64 y])]).run Try.prog w = .ok (.agg #[.int .i64 a, .int .u64 x, .int .u64 y]) w := by kernel_rfl
/-- how often, at most, the map is written by the kids -/
def costK (n : Nat) : Tr → Nat
  | .eps _ => 0
  | .leaf _ => 0
  | .cat _ a b => cost n a + cost n b
  | .alt _ a b => cost n a + cost n b
  | .loop _ a => (n + 3) * cost n a
theorem cost_eq (n : Nat) (t : Tr) : cost n t = costK n t + 1 := by cases t <;> simp [cost, costK] <;> omega
/-- a node and its set, of one's own -/
def CutN (W2 : World) (M : Nat) (kd pd : Int) (S : Nat → Bool) (x y : Value) (wx : World) : Prop :=
  ∃ d u : Nat, x = .pointer (some ⟨d, 0, none⟩) ∧ y = .pointer (some ⟨u, 0, none⟩) ∧ ¬ d = u ∧ ¬ d = M ∧ ¬ u = M ∧ W2.heap.size ≤ d ∧ W2.heap.size ≤ u ∧ wx.heap[d]? = some (.cells #[.int .u8 kd, .int .i64 pd] 69 (0, 0)) ∧ wx.heap[u]? = some (.cells #[.int .u64 (lo S), .int .u64 (hi S)] 89 (0, 0)) ∧ Fr (fun _ => False) W2 wx
/-- the set is what is told of the tree -/
def CutO (W5 : World) (u M c : Nat) (N : List (Int × Int)) (ws : List ByteArray) (O : Nat → Bool) (wx : World) : Prop :=
  wx.heap[u]? = some (.cells #[.int .u64 (lo O), .int .u64 (hi O)] 89 (0, 0)) ∧ Fr (fun q => q = M ∨ q = u) W5 wx ∧ Memo wx M c N ws.length (hitW ws)
theorem set4 {w : World} {b : Nat} {x y z v : Value} {T : TypeId} (h : w.heap[b]? = some (.cells #[x, y, z, v] T (0, 0))) (x' y' z' v' : Value) : ((((w.setCell ⟨b, 0, none⟩ x').setCell ⟨b, 1, none⟩ y').setCell ⟨b, 2, none⟩ z').setCell ⟨b, 3, none⟩ v').heap[b]? = some (.cells #[x', y', z', v'] T (0, 0)) := heap_set (heap_set (heap_set (heap_set h _) _) _) _
theorem set2 {w : World} {b : Nat} {x y : Value} {T : TypeId} (h : w.heap[b]? = some (.cells #[x, y] T (0, 0))) (u v : Value) : ((w.setCell ⟨b, 0, none⟩ u).setCell ⟨b, 1, none⟩ v).heap[b]? = some (.cells #[u, v] T (0, 0)) := heap_set (heap_set h u) v
theorem keep2 {w : World} {b k : Nat} {o : Obj} (h : w.heap[k]? = some o) (hn : ¬ k = b) (u v : Value) : ((w.setCell ⟨b, 0, none⟩ u).setCell ⟨b, 1, none⟩ v).heap[k]? = some o := heap_set_ne (heap_set_ne h hn u) hn v
theorem Fr.two {S : Nat → Prop} {a w : World} {b : Nat} (h : Fr S a w) (hb : b < a.heap.size → S b) (u v : Value) : Fr S a ((w.setCell ⟨b, 0, none⟩ u).setCell ⟨b, 1, none⟩ v) := (h.setCell (p := ⟨b, 0, none⟩) hb u).setCell (p := ⟨b, 1, none⟩) hb v
theorem Fr.quad {S : Nat → Prop} {a w : World} {b : Nat} (h : Fr S a w) (hb : b < a.heap.size → S b) (x y u v : Value) : Fr S a ((((w.setCell ⟨b, 0, none⟩ x).setCell ⟨b, 1, none⟩ y).setCell ⟨b, 2, none⟩ u).setCell ⟨b, 3, none⟩ v) := (h.two hb x y).setCell (p := ⟨b, 2, none⟩) hb u |>.setCell (p := ⟨b, 3, none⟩) hb v
theorem Memo.two {w : World} {M c : Nat} {N : List (Int × Int)} {n : Nat} {hit : Nat → Nat → Bool} (h : Memo w M c N n hit) {b : Nat} (hb : ¬ b = M) (u v : Value) : Memo ((w.setCell ⟨b, 0, none⟩ u).setCell ⟨b, 1, none⟩ v) M c N n hit := (h.setCell (p := ⟨b, 0, none⟩) (fun e => hb e.symm) u).setCell (p := ⟨b, 1, none⟩) (fun e => hb e.symm) v

set_option maxRecDepth 100000 in
set_option maxHeartbeats 8000000 in
theorem ask_step (t : Tr) (ih : ∀ x ∈ kidsT t, AskSaid x) : AskSaid t := by
  intro w R M nv pv wv wi mm bv N P ws a c rest S hR hM hS hN hl hw hlv hc
  have hpos := t.pos
  have hal : a < N.length := by
    rcases Nat.lt_or_ge a N.length with h | h
    · exact h
    · rw [List.drop_eq_nil_of_le h] at hN
      have := congrArg List.length hN
      simp at this; omega
  have hx : N[a]? = some (kindT t, placeT t) := by
    have := congrArg List.head? hN
    rw [flat_kids] at this
    simpa [List.head?_drop] using this
  have hdrop : N.drop (a + 1) = (kidsT t).flatMap Tr.flat ++ rest := by
    have := congrArg (List.drop 1) hN
    rw [flat_kids] at this
    simpa [List.drop_drop] using this
  have hlen : a + t.flat.length ≤ N.length := by
    have := congrArg List.length hN
    simp at this; omega
  obtain ⟨x, y, b, hrun, hhit⟩ := memo_look hM (by omega : a ≤ 250) hS hN
  have hMlt := hM.lt
  obtain ⟨ng, no, nc, rfl, hc0, hc1, hngM, hngl⟩ : ∃ ng no nc, nv = .slice (some ⟨ng, no, none⟩) N.length nc ∧ w.cell? ⟨ng, no + a * 2, none⟩ = some (.int .u8 (kindT t)) ∧ w.cell? ⟨ng, no + a * 2 + 1, none⟩ = some (.int .i64 (placeT t)) ∧ ng ≠ M ∧ ng < w.heap.size := by
    obtain ⟨ao, nc, hv, _, _, hp⟩ := hR.nodes
    obtain ⟨ng, no, rfl, hok, hlt, hcell⟩ := hp (by omega)
    exact ⟨ng, no, nc, hv, (hcell a _ hx).1, (hcell a _ hx).2, hok, hlt⟩
  have hPut := Lib.hid fun (w' : World) (c' : Nat) (hM' : Memo w' M c' N ws.length (hitW ws)) (hc' : c' < 4611686018427387904) => memo_put hw hM' hc' (by omega : a ≤ 250) hS hN
  have HRun := hid hrun
  have HHit := hid hhit
  have HR := hid hR
  have HM := hid hM
  have HS := hid hS
  have HL := hid hl
  have HC := hid hc
  have HLV := hid hlv
  have HD := hid hdrop
  have HLEN := hid hlen
  have HC0 := hid hc0
  have HC1 := hid hc1
  have HCE := hid (cost_eq ws.length t)
  have IH := hid ih
  have hal' : (a : Int) < N.length := by omega
  have hann : (0 : Int) ≤ a := by omega
  have hnl : (N.length : Int) ≤ 250 := by omega
  have bA := build_ask a (lo S) (hi S)
  clear hrun hhit hR hM hS hN hx hdrop hlv hc hc0 hc1 ih hl
  unfold askV mk at *
  obtain ⟨n, hn⟩ : ∃ n, n = N.length := ⟨_, rfl⟩
  rw [← hn] at hal hal' hnl HR HLEN
  have HN := hid hn
  clear hn
  go_enter Try.func29, Try.ntmps29
  go_upto_region 2 with fail
  obtain ⟨W1, hW1⟩ : ∃ W1, W1 = ((w.alloc (.cells #[.int .u64 (lo S), .int .u64 (hi S)] 89)).alloc (.cells #[.int .u64 0, .int .u64 0] 89)).alloc (.cells #[.int .i64 a, .int .u64 (lo S), .int .u64 (hi S)] 108) := ⟨_, rfl⟩
  obtain ⟨k, hk⟩ : ∃ k, k = w.heap.size := ⟨_, rfl⟩
  obtain ⟨r, hr⟩ : ∃ r, r = w.heap.size + 1 := ⟨_, rfl⟩
  obtain ⟨q, hq⟩ : ∃ q, q = w.heap.size + 1 + 1 := ⟨_, rfl⟩
  rw [← hW1, ← hq, ← hr, ← hk]
  have K1 := hid (show W1.heap[k]? = some (.cells #[.int .u64 (lo S), .int .u64 (hi S)] 89 (0, 0)) by rw [hW1, hk]; exact heap_old (heap_old (heap_new w _) _) _)
  have R1 := hid (show W1.heap[r]? = some (.cells #[.int .u64 0, .int .u64 0] 89 (0, 0)) by rw [hW1, hr]; exact heap_old (by simpa using heap_new (w.alloc _) (.cells #[.int .u64 0, .int .u64 0] 89)) _)
  have Q1 := hid (show W1.heap[q]? = some (.cells #[.int .i64 a, .int .u64 (lo S), .int .u64 (hi S)] 108 (0, 0)) by rw [hW1, hq]; simpa using heap_new ((w.alloc _).alloc _) (.cells #[.int .i64 a, .int .u64 (lo S), .int .u64 (hi S)] 108))
  have F1 := hid (show Fr (fun _ => False) w W1 by rw [hW1]; exact (((Fr.refl _ w).alloc _).alloc _).alloc _)
  have hkr : k < r := by omega
  have hrq : r < q := by omega
  have hkw : w.heap.size ≤ k := by omega
  have hq1 : q < W1.heap.size := lt_of_block Q1.out
  have hkM : ¬ k = M := by omega
  have hrM : ¬ r = M := by omega
  have hqM : ¬ q = M := by omega
  clear hW1 hk hr hq
  have HS2 := Lib.hid fun (w' : World) (h : Fr (fun _ => False) W1 w') => (show w'.cell? ⟨R, 6, none⟩ = some (.map (some M)) ∧ w'.cell? ⟨q, 0, none⟩ = some (.int .i64 a) ∧ w'.cell? ⟨q, 1, none⟩ = some (.int .u64 (lo S)) ∧ w'.cell? ⟨q, 2, none⟩ = some (.int .u64 (hi S)) ∧ (Instr.lookup 84 (.map (some M)) (.agg #[.int .i64 a, .int .u64 (lo S), .int .u64 (hi S)]) true).run Try.prog w' = .ok (.tuple #[.agg #[.int .u64 x, .int .u64 y], .bool b]) w' from
    ⟨cell_of (h.heap (F1.out.heap HR.out.own (fun e => e)) (fun e => e)) 6 rfl, cell_of (h.heap Q1.out (fun e => e)) 0 rfl, cell_of (h.heap Q1.out (fun e => e)) 1 rfl, cell_of (h.heap Q1.out (fun e => e)) 2 rfl, HRun.out w' (F1.out.trans' h)⟩)
  have hG : Fr (fun _ => False) W1 W1 := Fr.refl _ _
  refine wp_region_held_drew (S := (fun w' => w'.cell? ⟨R, 6, none⟩ = some (.map (some M)) ∧ w'.cell? ⟨q, 0, none⟩ = some (.int .i64 a) ∧ w'.cell? ⟨q, 1, none⟩ = some (.int .u64 (lo S)) ∧ w'.cell? ⟨q, 2, none⟩ = some (.int .u64 (hi S)) ∧ (Instr.lookup 84 (.map (some M)) (.agg #[.int .i64 a, .int .u64 (lo S), .int .u64 (hi S)]) true).run Try.prog w' = .ok (.tuple #[.agg #[.int .u64 x, .int .u64 y], .bool b]) w')) (by kernel_rfl) ?_ (fun hH => ?_)
  · (first | exact HS2.out _ hG | exact HS2.out _ hG.drew | go_keep)
  refine wpAnyH_take (i := 0) (oi := { dst := some 17, op := Op.move (Operand.tmp 0), type := 83, pos := "core.go:289", after := #[], guard := none }) (v := ?_) rfl (by kernel_rfl) (by kernel_rfl) (by kernel_rfl) (fun _ _ _ h => h) (Or.inl ⟨by rfl, ?_⟩) hH ?_
  rotate_left
  · intro w hSw; (try dsimp only at hSw); go_simp <;> with_reducible rfl
  try simp only [Act.put, List.setIfInBounds_toArray, List.set_cons_zero, List.set_cons_succ]
  refine wpAnyH_take (i := 1) (oi := { dst := some 18, op := Op.nilCheck (Operand.tmp 17), type := 0, pos := "core.go:289", after := #[{ on := 0, ground := Ground.data }], guard := none }) (v := ?_) rfl (by kernel_rfl) (by kernel_rfl) (by kernel_rfl) (fun _ _ _ h => h) (Or.inl ⟨by rfl, ?_⟩) hH ?_
  rotate_left
  · intro w hSw; (try dsimp only at hSw); go_simp <;> with_reducible rfl
  try simp only [Act.put, List.setIfInBounds_toArray, List.set_cons_zero, List.set_cons_succ]
  refine wpAnyH_take (i := 2) (oi := { dst := some 19, op := Op.fieldAddr 86 (Operand.tmp 18) 2, type := 0, pos := "core.go:289", after := #[{ on := 1, ground := Ground.data }], guard := none }) (v := ?_) rfl (by kernel_rfl) (by kernel_rfl) (by kernel_rfl) (fun _ _ _ h => h) (Or.inl ⟨by rfl, ?_⟩) hH ?_
  rotate_left
  · intro w hSw; (try dsimp only at hSw); go_simp <;> with_reducible rfl
  try simp only [Act.put, List.setIfInBounds_toArray, List.set_cons_zero, List.set_cons_succ]
  refine wpAnyH_take (i := 3) (oi := { dst := some 20, op := Op.load 84 (Operand.tmp 19), type := 84, pos := "core.go:289", after := #[{ on := 2, ground := Ground.data }], guard := none }) (v := ?_) rfl (by kernel_rfl) (by kernel_rfl) (by kernel_rfl) (fun _ _ _ h => h) (Or.inl ⟨by rfl, ?_⟩) hH ?_
  rotate_left
  · intro w hSw; (try dsimp only at hSw); go_simp <;> with_reducible rfl
  try simp only [Act.put, List.setIfInBounds_toArray, List.set_cons_zero, List.set_cons_succ]
  refine wpAnyH_take (i := 4) (oi := { dst := some 21, op := Op.load 108 (Operand.tmp 7), type := 108, pos := "core.go:289", after := #[], guard := none }) (v := ?_) rfl (by kernel_rfl) (by kernel_rfl) (by kernel_rfl) (fun _ _ _ h => h) (Or.inl ⟨by rfl, ?_⟩) hH ?_
  rotate_left
  · intro w hSw; (try dsimp only at hSw); go_simp <;> with_reducible rfl
  try simp only [Act.put, List.setIfInBounds_toArray, List.set_cons_zero, List.set_cons_succ]
  refine wpAnyH_take (i := 5) (oi := { dst := some 22, op := Op.lookup 84 (Operand.tmp 20) (Operand.tmp 21) true, type := 109, pos := "core.go:289", after := #[{ on := 3, ground := Ground.data }, { on := 4, ground := Ground.data }], guard := none }) (v := ?_) rfl (by kernel_rfl) (by kernel_rfl) (by kernel_rfl) (fun _ _ _ h => h) (Or.inl ⟨by rfl, ?_⟩) hH ?_
  rotate_left
  · intro w hSw; (try dsimp only at hSw); go_simp <;> with_reducible rfl
  try simp only [Act.put, List.setIfInBounds_toArray, List.set_cons_zero, List.set_cons_succ]
  refine wpAnyH_take (i := 6) (oi := { dst := some 16, op := Op.move (Operand.tmp 22), type := 109, pos := "core.go:289", after := #[{ on := 5, ground := Ground.data }], guard := none }) (v := ?_) rfl (by kernel_rfl) (by kernel_rfl) (by kernel_rfl) (fun _ _ _ h => h) (Or.inl ⟨by rfl, ?_⟩) hH ?_
  rotate_left
  · intro w hSw; (try dsimp only at hSw); go_simp <;> with_reducible rfl
  try simp only [Act.put, List.setIfInBounds_toArray, List.set_cons_zero, List.set_cons_succ]
  refine wpAnyH_take (i := 7) (oi := { dst := some 23, op := Op.extract (Operand.tmp 16) 0, type := 89, pos := "core.go:289", after := #[{ on := 6, ground := Ground.data }], guard := none }) (v := ?_) rfl (by kernel_rfl) (by kernel_rfl) (by kernel_rfl) (fun _ _ _ h => h) (Or.inl ⟨by rfl, ?_⟩) hH ?_
  rotate_left
  · intro w hSw; (try dsimp only at hSw); go_simp <;> with_reducible rfl
  try simp only [Act.put, List.setIfInBounds_toArray, List.set_cons_zero, List.set_cons_succ]
  refine wpAnyH_take (i := 8) (oi := { dst := some 24, op := Op.extract (Operand.tmp 16) 1, type := 4, pos := "core.go:289", after := #[{ on := 6, ground := Ground.data }, { on := 10, ground := Ground.gcOnly Departure.lateStores }], guard := none }) (v := ?_) rfl (by kernel_rfl) (by kernel_rfl) (by kernel_rfl) (fun _ _ _ h => h) (Or.inl ⟨by rfl, ?_⟩) hH ?_
  rotate_left
  · intro w hSw; (try dsimp only at hSw); go_simp <;> with_reducible rfl
  try simp only [Act.put, List.setIfInBounds_toArray, List.set_cons_zero, List.set_cons_succ]
  refine wpAnyH_ready (rs := [9]) (by kernel_rfl) (by simp) ?_
  refine AllReadyH.cons (o := { dst := some 8, op := Op.alloc 89, type := 0, pos := "core.go:289", after := #[], guard := none }) rfl (fun K hK => ?_) AllReadyH.nil
  go_simp
  generalize hV9 : World.alloc _ _ = A2
  have hX : A2.heap[W1.heap.size]? = some (.cells #[.int .u64 0, .int .u64 0] 89 (0, 0)) := by rw [← hV9]; exact heap_new _ _
  replace hG : Fr (fun _ => False) W1 A2 := by rw [← hV9]; exact hG.alloc _
  clear hV9
  refine hK.out _ _ ?_ (fun hH => ?_)
  · (first | exact HS2.out _ hG | exact HS2.out _ hG.drew | go_keep)
  clear hK K
  try simp only [Act.put, List.setIfInBounds_toArray, List.set_cons_zero, List.set_cons_succ]
  refine wpAnyH_ready (rs := [10]) (by kernel_rfl) (by simp) ?_
  refine AllReadyH.cons (o := { dst := none, op := Op.store 89 (Operand.tmp 8) (Operand.tmp 23), type := 0, pos := "core.go:289", after := #[{ on := 9, ground := Ground.data }, { on := 7, ground := Ground.data }, { on := 0, ground := Ground.phase }, { on := 1, ground := Ground.phase }, { on := 2, ground := Ground.phase }, { on := 3, ground := Ground.phase }, { on := 4, ground := Ground.phase }, { on := 5, ground := Ground.phase }, { on := 6, ground := Ground.phase }, { on := 7, ground := Ground.phase }, { on := 8, ground := Ground.textOnly Departure.lateStores }, { on := 9, ground := Ground.phase }], guard := none }) rfl (fun K hK => ?_) AllReadyH.nil
  have x0 := cell_of hX 0 (v := .int .u64 0) rfl
  have x1 := cell_of hX 1 (v := .int .u64 0) rfl
  have x2 := free_of hX 0
  have x3 := free_of hX 1
  go_simp
  generalize hV9 : World.setCell _ _ _ = B2
  clear x0 x1 x2 x3
  replace hX : B2.heap[W1.heap.size]? = some (.cells #[.int .u64 x, .int .u64 y] 89 (0, 0)) := by rw [← hV9]; exact set2 hX _ _
  replace hG : Fr (fun _ => False) W1 B2 := by rw [← hV9]; exact hG.two (fun h => absurd h (Nat.lt_irrefl _)) _ _
  clear hV9
  refine hK.out _ _ ?_ (fun hH => ?_)
  · (first | exact HS2.out _ hG | exact HS2.out _ hG.drew | go_keep)
  clear hK K
  refine wpAnyH_take (i := 11) (oi := { dst := some 9, op := Op.assign (Operand.tmp 24), type := 4, pos := "core.go:289", after := #[{ on := 8, ground := Ground.data }, { on := 10, ground := Ground.chain }, { on := 0, ground := Ground.phase }, { on := 1, ground := Ground.phase }, { on := 2, ground := Ground.phase }, { on := 3, ground := Ground.phase }, { on := 4, ground := Ground.phase }, { on := 5, ground := Ground.phase }, { on := 6, ground := Ground.phase }, { on := 7, ground := Ground.phase }, { on := 8, ground := Ground.phase }, { on := 9, ground := Ground.phase }, { on := 10, ground := Ground.phase }], guard := none }) (v := ?_) rfl (by kernel_rfl) (by kernel_rfl) (by kernel_rfl) (fun _ _ _ h => h) (Or.inl ⟨by rfl, ?_⟩) hH ?_
  rotate_left
  · intro w hSw; (try dsimp only at hSw); go_simp <;> with_reducible rfl
  try simp only [Act.put, List.setIfInBounds_toArray, List.set_cons_zero, List.set_cons_succ]
  refine wpAnyH_done (by kernel_rfl) ?_ _
  obtain ⟨m, hm⟩ : ∃ m, m = W1.heap.size := ⟨_, rfl⟩
  rw [← hm] at hX ⊢
  obtain ⟨W2, hW2⟩ : ∃ W2, W2 = B2.drew := ⟨_, rfl⟩
  rw [← hW2]
  have hX : W2.heap[m]? = some (.cells #[.int .u64 x, .int .u64 y] 89 (0, 0)) := by rw [hW2]; exact hX
  have hG : Fr (fun _ => False) W1 W2 := by rw [hW2]; exact hG.drew
  clear hW2
  have GX := hid hX
  have F2 := hid (show Fr (fun _ => False) w W2 from F1.out.trans' hG)
  have GR := hid (hG.heap R1.out (fun e => e))
  have GK := hid (hG.heap K1.out (fun e => e))
  have GQ := hid (hG.heap Q1.out (fun e => e))
  have hW2 : r < W2.heap.size := lt_of_block GR.out
  have hqB : q < W2.heap.size := lt_of_block GQ.out
  clear hX hm hG
  cases b with
  | true =>
    have hv := HHit.out rfl
    simp only [Value.agg.injEq, Array.mk.injEq, List.cons.injEq, Value.int.injEq, true_and, and_true] at hv
    obtain ⟨rfl, rfl⟩ := hv
    have x0 := cell_of GX.out 0 (v := .int .u64 (lo (sem ws.length (hitW ws) t S))) rfl
    have x1 := cell_of GX.out 1 (v := .int .u64 (hi (sem ws.length (hitW ws) t S))) rfl
    have r0 := cell_of GR.out 0 (v := .int .u64 0) rfl
    have r1 := cell_of GR.out 1 (v := .int .u64 0) rfl
    have rf0 := free_of GR.out 0
    have rf1 := free_of GR.out 1
    have hrw : ¬ r < w.heap.size := by omega
    obtain ⟨O, hO⟩ : ∃ O, O = sem ws.length (hitW ws) t S := ⟨_, rfl⟩
    rw [← hO] at GX x0 x1 ⊢
    have HO := hid hO
    clear hO
    go_wp2_with fail
    exact bodyPost_ret (v := .agg #[.int .u64 (lo O), .int .u64 (hi O)]) (by simp [results, Try.results29, go_sem, r0, r1, rf0, rf1, x0, x1]) rfl
      (by rw [← HO.out]; exact ⟨rfl, (F2.out.toM M).two (fun h => absurd h hrw) _ _, ((HM.out.fr F2.out).two hrM _ _).mono (Nat.le_add_right _ _)⟩)
  | false =>
    clear HHit HRun HS2 GX
    have HS5 := Lib.hid fun (w' : World) (h : Fr (fun _ => False) W2 w') => (show w'.cell? ⟨R, 0, none⟩ = some (.slice (some ⟨ng, no, none⟩) n nc) ∧ w'.cell? ⟨ng, no + a * 2, none⟩ = some (.int .u8 (kindT t)) ∧ w'.cell? ⟨ng, no + a * 2 + 1, none⟩ = some (.int .i64 (placeT t)) ∧ w'.cell? ⟨k, 0, none⟩ = some (.int .u64 (lo S)) ∧ w'.cell? ⟨k, 1, none⟩ = some (.int .u64 (hi S)) from
      ⟨cell_of (h.heap (F2.out.heap HR.out.own (fun e => e)) (fun e => e)) 0 rfl, h.cell (F2.out.cell HC0.out (fun e => e)) (fun e => e), h.cell (F2.out.cell HC1.out (fun e => e)) (fun e => e), cell_of (h.heap GK.out (fun e => e)) 0 rfl, cell_of (h.heap GK.out (fun e => e)) 1 rfl⟩)
    have hMB : M < W2.heap.size := by have := F2.out.size; omega
    have hG : Fr (fun _ => False) W2 W2 := Fr.refl _ _
    have s5 := HS5.out _ hG
    have s5' := HS5.out _ hG.drew
    obtain ⟨kd, hkd⟩ : ∃ kd, kd = kindT t := ⟨_, rfl⟩
    obtain ⟨pd, hpd⟩ : ∃ pd, pd = placeT t := ⟨_, rfl⟩
    rw [← hkd, ← hpd] at HS5 s5 s5'
    rw [← hkd] at HC0
    rw [← hpd] at HC1
    have HKD := hid hkd
    have HPD := hid hpd
    clear hkd hpd s5 s5'
    go_wp2_with fail
    go_cut [10, 11] (fun x y wx => CutN W2 M kd pd S x y wx)
    case first =>
      refine wp_region_held_drew (S := (fun w' => w'.cell? ⟨R, 0, none⟩ = some (.slice (some ⟨ng, no, none⟩) n nc) ∧ w'.cell? ⟨ng, no + a * 2, none⟩ = some (.int .u8 kd) ∧ w'.cell? ⟨ng, no + a * 2 + 1, none⟩ = some (.int .i64 pd) ∧ w'.cell? ⟨k, 0, none⟩ = some (.int .u64 (lo S)) ∧ w'.cell? ⟨k, 1, none⟩ = some (.int .u64 (hi S)))) (by kernel_rfl) ?_ (fun hH => ?_)
      · (first | exact HS5.out _ hG | exact HS5.out _ hG.drew | go_keep)
      refine wpAnyH_take (i := 0) (oi := { dst := some 27, op := Op.move (Operand.tmp 0), type := 83, pos := "core.go:292", after := #[], guard := none }) (v := ?_) rfl (by kernel_rfl) (by kernel_rfl) (by kernel_rfl) (fun _ _ _ h => h) (Or.inl ⟨by rfl, ?_⟩) hH ?_
      rotate_left
      · intro w hSw; (try dsimp only at hSw); go_simp <;> with_reducible rfl
      try simp only [Act.put, List.setIfInBounds_toArray, List.set_cons_zero, List.set_cons_succ]
      refine wpAnyH_take (i := 1) (oi := { dst := some 28, op := Op.nilCheck (Operand.tmp 27), type := 0, pos := "core.go:292", after := #[{ on := 0, ground := Ground.data }], guard := none }) (v := ?_) rfl (by kernel_rfl) (by kernel_rfl) (by kernel_rfl) (fun _ _ _ h => h) (Or.inl ⟨by rfl, ?_⟩) hH ?_
      rotate_left
      · intro w hSw; (try dsimp only at hSw); go_simp <;> with_reducible rfl
      try simp only [Act.put, List.setIfInBounds_toArray, List.set_cons_zero, List.set_cons_succ]
      refine wpAnyH_take (i := 2) (oi := { dst := some 29, op := Op.fieldAddr 86 (Operand.tmp 28) 0, type := 0, pos := "core.go:292", after := #[{ on := 1, ground := Ground.data }], guard := none }) (v := ?_) rfl (by kernel_rfl) (by kernel_rfl) (by kernel_rfl) (fun _ _ _ h => h) (Or.inl ⟨by rfl, ?_⟩) hH ?_
      rotate_left
      · intro w hSw; (try dsimp only at hSw); go_simp <;> with_reducible rfl
      try simp only [Act.put, List.setIfInBounds_toArray, List.set_cons_zero, List.set_cons_succ]
      refine wpAnyH_take (i := 3) (oi := { dst := some 30, op := Op.fieldAddr 39 (Operand.tmp 29) 0, type := 0, pos := "core.go:292", after := #[{ on := 2, ground := Ground.data }], guard := none }) (v := ?_) rfl (by kernel_rfl) (by kernel_rfl) (by kernel_rfl) (fun _ _ _ h => h) (Or.inl ⟨by rfl, ?_⟩) hH ?_
      rotate_left
      · intro w hSw; (try dsimp only at hSw); go_simp <;> with_reducible rfl
      try simp only [Act.put, List.setIfInBounds_toArray, List.set_cons_zero, List.set_cons_succ]
      refine wpAnyH_take (i := 4) (oi := { dst := some 31, op := Op.load 36 (Operand.tmp 30), type := 36, pos := "core.go:292", after := #[{ on := 3, ground := Ground.data }], guard := none }) (v := ?_) rfl (by kernel_rfl) (by kernel_rfl) (by kernel_rfl) (fun _ _ _ h => h) (Or.inl ⟨by rfl, ?_⟩) hH ?_
      rotate_left
      · intro w hSw; (try dsimp only at hSw); go_simp <;> with_reducible rfl
      try simp only [Act.put, List.setIfInBounds_toArray, List.set_cons_zero, List.set_cons_succ]
      refine wpAnyH_take (i := 5) (oi := { dst := some 32, op := Op.move (Operand.tmp 1), type := 3, pos := "core.go:292", after := #[], guard := none }) (v := ?_) rfl (by kernel_rfl) (by kernel_rfl) (by kernel_rfl) (fun _ _ _ h => h) (Or.inl ⟨by rfl, ?_⟩) hH ?_
      rotate_left
      · intro w hSw; (try dsimp only at hSw); go_simp <;> with_reducible rfl
      try simp only [Act.put, List.setIfInBounds_toArray, List.set_cons_zero, List.set_cons_succ]
      refine wpAnyH_take (i := 6) (oi := { dst := some 33, op := Op.indexAddr 36 (Operand.tmp 31) (Operand.tmp 32), type := 0, pos := "core.go:292", after := #[{ on := 4, ground := Ground.data }, { on := 5, ground := Ground.data }], guard := none }) (v := ?_) rfl (by kernel_rfl) (by kernel_rfl) (by kernel_rfl) (fun _ _ _ h => h) (Or.inl ⟨by rfl, ?_⟩) hH ?_
      rotate_left
      · intro w hSw; (try dsimp only at hSw); go_simp <;> with_reducible rfl
      try simp only [Act.put, List.setIfInBounds_toArray, List.set_cons_zero, List.set_cons_succ]
      refine wpAnyH_take (i := 7) (oi := { dst := some 34, op := Op.load 69 (Operand.tmp 33), type := 69, pos := "core.go:292", after := #[{ on := 6, ground := Ground.data }], guard := none }) (v := ?_) rfl (by kernel_rfl) (by kernel_rfl) (by kernel_rfl) (fun _ _ _ h => h) (Or.inl ⟨by rfl, ?_⟩) hH ?_
      rotate_left
      · intro w hSw; (try dsimp only at hSw); go_simp <;> with_reducible rfl
      try simp only [Act.put, List.setIfInBounds_toArray, List.set_cons_zero, List.set_cons_succ]
      refine wpAnyH_take (i := 8) (oi := { dst := some 35, op := Op.load 89 (Operand.tmp 5), type := 89, pos := "core.go:292", after := #[{ on := 11, ground := Ground.gcOnly Departure.lateStores }], guard := none }) (v := ?_) rfl (by kernel_rfl) (by kernel_rfl) (by kernel_rfl) (fun _ _ _ h => h) (Or.inl ⟨by rfl, ?_⟩) hH ?_
      rotate_left
      · intro w hSw; (try dsimp only at hSw); go_simp <;> with_reducible rfl
      try simp only [Act.put, List.setIfInBounds_toArray, List.set_cons_zero, List.set_cons_succ]
      refine wpAnyH_ready (rs := [9, 10]) (by kernel_rfl) (by simp) ?_
      refine AllReadyH.cons (o := { dst := some 10, op := Op.alloc 69, type := 0, pos := "core.go:292", after := #[], guard := none }) rfl (fun K hK => ?_) ?_
      ·
        go_simp
        generalize hV9 : World.alloc _ _ = c59
        have hX : c59.heap[W2.heap.size]? = some (.cells #[.int .u8 0, .int .i64 0] 69 (0, 0)) := by rw [← hV9]; exact heap_new _ _
        have hXc := hG.size
        have hXM : ¬ W2.heap.size = M := by omega
        replace hG : Fr (fun _ => False) W2 c59 := by rw [← hV9]; exact hG.alloc _
        clear hV9
        refine hK.out _ _ ?_ (fun hH => ?_)
        · (first | exact HS5.out _ hG | exact HS5.out _ hG.drew | go_keep)
        clear hK K
        try simp only [Act.put, List.setIfInBounds_toArray, List.set_cons_zero, List.set_cons_succ]
        refine wpAnyH_ready (rs := [10]) (by kernel_rfl) (by simp) ?_
        refine AllReadyH.cons (o := { dst := some 11, op := Op.alloc 89, type := 0, pos := "core.go:292", after := #[], guard := none }) rfl (fun K hK => ?_) AllReadyH.nil
        go_simp
        generalize hV9 : World.alloc _ _ = c59_10
        have hY : c59_10.heap[c59.heap.size]? = some (.cells #[.int .u64 0, .int .u64 0] 89 (0, 0)) := by rw [← hV9]; exact heap_new _ _
        have hYc := hG.size
        have hYM : ¬ c59.heap.size = M := by omega
        have hne : ¬ W2.heap.size = c59.heap.size := Nat.ne_of_lt (lt_of_block hX)
        replace hX : c59_10.heap[W2.heap.size]? = some (.cells #[.int .u8 0, .int .i64 0] 69 (0, 0)) := by rw [← hV9]; exact heap_old hX _
        replace hG : Fr (fun _ => False) W2 c59_10 := by rw [← hV9]; exact hG.alloc _
        clear hV9
        refine hK.out _ _ ?_ (fun hH => ?_)
        · (first | exact HS5.out _ hG | exact HS5.out _ hG.drew | go_keep)
        clear hK K
        try simp only [Act.put, List.setIfInBounds_toArray, List.set_cons_zero, List.set_cons_succ]
        refine wpAnyH_ready (rs := [11]) (by kernel_rfl) (by simp) ?_
        refine AllReadyH.cons (o := { dst := none, op := Op.store 69 (Operand.tmp 10) (Operand.tmp 34), type := 0, pos := "core.go:292", after := #[{ on := 9, ground := Ground.data }, { on := 7, ground := Ground.data }, { on := 0, ground := Ground.phase }, { on := 1, ground := Ground.phase }, { on := 2, ground := Ground.phase }, { on := 3, ground := Ground.phase }, { on := 4, ground := Ground.phase }, { on := 5, ground := Ground.phase }, { on := 6, ground := Ground.phase }, { on := 7, ground := Ground.phase }, { on := 8, ground := Ground.textOnly Departure.lateStores }, { on := 9, ground := Ground.phase }, { on := 10, ground := Ground.phase }], guard := none }) rfl (fun K hK => ?_) AllReadyH.nil
        have x0 := cell_of hX 0 (v := .int .u8 0) rfl
        have x1 := cell_of hX 1 (v := .int .i64 0) rfl
        have x2 := free_of hX 0
        have x3 := free_of hX 1
        go_simp
        generalize hV9 : World.setCell _ _ _ = c59_10_11
        clear x0 x1 x2 x3
        replace hX : c59_10_11.heap[W2.heap.size]? = some (.cells #[.int .u8 kd, .int .i64 pd] 69 (0, 0)) := by rw [← hV9]; exact set2 hX _ _
        replace hY : c59_10_11.heap[c59.heap.size]? = some (.cells #[.int .u64 0, .int .u64 0] 89 (0, 0)) := by rw [← hV9]; exact keep2 hY (fun e => hne e.symm) _ _
        replace hG : Fr (fun _ => False) W2 c59_10_11 := by rw [← hV9]; exact hG.two (fun h => absurd hXc (Nat.not_le.2 h)) _ _
        clear hV9
        refine hK.out _ _ ?_ (fun hH => ?_)
        · (first | exact HS5.out _ hG | exact HS5.out _ hG.drew | go_keep)
        clear hK K
        refine wpAnyH_ready (rs := [12]) (by kernel_rfl) (by simp) ?_
        refine AllReadyH.cons (o := { dst := none, op := Op.store 89 (Operand.tmp 11) (Operand.tmp 35), type := 0, pos := "core.go:292", after := #[{ on := 10, ground := Ground.data }, { on := 8, ground := Ground.data }, { on := 11, ground := Ground.chain }, { on := 0, ground := Ground.phase }, { on := 1, ground := Ground.phase }, { on := 2, ground := Ground.phase }, { on := 3, ground := Ground.phase }, { on := 4, ground := Ground.phase }, { on := 5, ground := Ground.phase }, { on := 6, ground := Ground.phase }, { on := 7, ground := Ground.phase }, { on := 8, ground := Ground.phase }, { on := 9, ground := Ground.phase }, { on := 10, ground := Ground.phase }, { on := 11, ground := Ground.phase }], guard := none }) rfl (fun K hK => ?_) AllReadyH.nil
        have x0 := cell_of hY 0 (v := .int .u64 0) rfl
        have x1 := cell_of hY 1 (v := .int .u64 0) rfl
        have x2 := free_of hY 0
        have x3 := free_of hY 1
        go_simp
        generalize hV9 : World.setCell _ _ _ = c59_10_11_12
        clear x0 x1 x2 x3
        replace hY : c59_10_11_12.heap[c59.heap.size]? = some (.cells #[.int .u64 (lo S), .int .u64 (hi S)] 89 (0, 0)) := by rw [← hV9]; exact set2 hY _ _
        replace hX : c59_10_11_12.heap[W2.heap.size]? = some (.cells #[.int .u8 kd, .int .i64 pd] 69 (0, 0)) := by rw [← hV9]; exact keep2 hX hne _ _
        replace hG : Fr (fun _ => False) W2 c59_10_11_12 := by rw [← hV9]; exact hG.two (fun h => absurd hYc (Nat.not_le.2 h)) _ _
        clear hV9
        refine hK.out _ _ ?_ (fun hH => ?_)
        · (first | exact HS5.out _ hG | exact HS5.out _ hG.drew | go_keep)
        clear hK K
        refine wpAnyH_done (by kernel_rfl) ?_ _
        go_wp2_with fail
        go_meet
        exact ⟨_, _, rfl, rfl, hne, hXM, hYM, hXc, hYc, hX, hY, by first | exact hG | exact hG.drew⟩
      refine AllReadyH.cons (o := { dst := some 11, op := Op.alloc 89, type := 0, pos := "core.go:292", after := #[], guard := none }) rfl (fun K hK => ?_) AllReadyH.nil
      go_simp
      generalize hV9 : World.alloc _ _ = c510
      have hY : c510.heap[W2.heap.size]? = some (.cells #[.int .u64 0, .int .u64 0] 89 (0, 0)) := by rw [← hV9]; exact heap_new _ _
      have hYc := hG.size
      have hYM : ¬ W2.heap.size = M := by omega
      replace hG : Fr (fun _ => False) W2 c510 := by rw [← hV9]; exact hG.alloc _
      clear hV9
      refine hK.out _ _ ?_ (fun hH => ?_)
      · (first | exact HS5.out _ hG | exact HS5.out _ hG.drew | go_keep)
      clear hK K
      try simp only [Act.put, List.setIfInBounds_toArray, List.set_cons_zero, List.set_cons_succ]
      refine wpAnyH_ready (rs := [9]) (by kernel_rfl) (by simp) ?_
      refine AllReadyH.cons (o := { dst := some 10, op := Op.alloc 69, type := 0, pos := "core.go:292", after := #[], guard := none }) rfl (fun K hK => ?_) AllReadyH.nil
      go_simp
      generalize hV9 : World.alloc _ _ = c510_9
      have hX : c510_9.heap[c510.heap.size]? = some (.cells #[.int .u8 0, .int .i64 0] 69 (0, 0)) := by rw [← hV9]; exact heap_new _ _
      have hXc := hG.size
      have hXM : ¬ c510.heap.size = M := by omega
      have hne : ¬ W2.heap.size = c510.heap.size := Nat.ne_of_lt (lt_of_block hY)
      replace hY : c510_9.heap[W2.heap.size]? = some (.cells #[.int .u64 0, .int .u64 0] 89 (0, 0)) := by rw [← hV9]; exact heap_old hY _
      replace hG : Fr (fun _ => False) W2 c510_9 := by rw [← hV9]; exact hG.alloc _
      clear hV9
      refine hK.out _ _ ?_ (fun hH => ?_)
      · (first | exact HS5.out _ hG | exact HS5.out _ hG.drew | go_keep)
      clear hK K
      try simp only [Act.put, List.setIfInBounds_toArray, List.set_cons_zero, List.set_cons_succ]
      refine wpAnyH_ready (rs := [11]) (by kernel_rfl) (by simp) ?_
      refine AllReadyH.cons (o := { dst := none, op := Op.store 69 (Operand.tmp 10) (Operand.tmp 34), type := 0, pos := "core.go:292", after := #[{ on := 9, ground := Ground.data }, { on := 7, ground := Ground.data }, { on := 0, ground := Ground.phase }, { on := 1, ground := Ground.phase }, { on := 2, ground := Ground.phase }, { on := 3, ground := Ground.phase }, { on := 4, ground := Ground.phase }, { on := 5, ground := Ground.phase }, { on := 6, ground := Ground.phase }, { on := 7, ground := Ground.phase }, { on := 8, ground := Ground.textOnly Departure.lateStores }, { on := 9, ground := Ground.phase }, { on := 10, ground := Ground.phase }], guard := none }) rfl (fun K hK => ?_) AllReadyH.nil
      have x0 := cell_of hX 0 (v := .int .u8 0) rfl
      have x1 := cell_of hX 1 (v := .int .i64 0) rfl
      have x2 := free_of hX 0
      have x3 := free_of hX 1
      go_simp
      generalize hV9 : World.setCell _ _ _ = c510_9_11
      clear x0 x1 x2 x3
      replace hX : c510_9_11.heap[c510.heap.size]? = some (.cells #[.int .u8 kd, .int .i64 pd] 69 (0, 0)) := by rw [← hV9]; exact set2 hX _ _
      replace hY : c510_9_11.heap[W2.heap.size]? = some (.cells #[.int .u64 0, .int .u64 0] 89 (0, 0)) := by rw [← hV9]; exact keep2 hY hne _ _
      replace hG : Fr (fun _ => False) W2 c510_9_11 := by rw [← hV9]; exact hG.two (fun h => absurd hXc (Nat.not_le.2 h)) _ _
      clear hV9
      refine hK.out _ _ ?_ (fun hH => ?_)
      · (first | exact HS5.out _ hG | exact HS5.out _ hG.drew | go_keep)
      clear hK K
      refine wpAnyH_ready (rs := [12]) (by kernel_rfl) (by simp) ?_
      refine AllReadyH.cons (o := { dst := none, op := Op.store 89 (Operand.tmp 11) (Operand.tmp 35), type := 0, pos := "core.go:292", after := #[{ on := 10, ground := Ground.data }, { on := 8, ground := Ground.data }, { on := 11, ground := Ground.chain }, { on := 0, ground := Ground.phase }, { on := 1, ground := Ground.phase }, { on := 2, ground := Ground.phase }, { on := 3, ground := Ground.phase }, { on := 4, ground := Ground.phase }, { on := 5, ground := Ground.phase }, { on := 6, ground := Ground.phase }, { on := 7, ground := Ground.phase }, { on := 8, ground := Ground.phase }, { on := 9, ground := Ground.phase }, { on := 10, ground := Ground.phase }, { on := 11, ground := Ground.phase }], guard := none }) rfl (fun K hK => ?_) AllReadyH.nil
      have x0 := cell_of hY 0 (v := .int .u64 0) rfl
      have x1 := cell_of hY 1 (v := .int .u64 0) rfl
      have x2 := free_of hY 0
      have x3 := free_of hY 1
      go_simp
      generalize hV9 : World.setCell _ _ _ = c510_9_11_12
      clear x0 x1 x2 x3
      replace hY : c510_9_11_12.heap[W2.heap.size]? = some (.cells #[.int .u64 (lo S), .int .u64 (hi S)] 89 (0, 0)) := by rw [← hV9]; exact set2 hY _ _
      replace hX : c510_9_11_12.heap[c510.heap.size]? = some (.cells #[.int .u8 kd, .int .i64 pd] 69 (0, 0)) := by rw [← hV9]; exact keep2 hX (fun e => hne e.symm) _ _
      replace hG : Fr (fun _ => False) W2 c510_9_11_12 := by rw [← hV9]; exact hG.two (fun h => absurd hYc (Nat.not_le.2 h)) _ _
      clear hV9
      refine hK.out _ _ ?_ (fun hH => ?_)
      · (first | exact HS5.out _ hG | exact HS5.out _ hG.drew | go_keep)
      clear hK K
      refine wpAnyH_done (by kernel_rfl) ?_ _
      go_wp2_with fail
      go_meet
      exact ⟨_, _, rfl, rfl, (fun e => hne e.symm), hXM, hYM, hXc, hYc, hX, hY, by first | exact hG | exact hG.drew⟩
    case rest =>
      unfold CutN at hcut
      obtain ⟨W5, rfl⟩ : ∃ W5, W5 = wc := ⟨wc, rfl⟩
      obtain ⟨d, u, rfl, rfl, hdu, hdM, huM, hd2, hu2, hD, hU, hG⟩ := hcut
      have GD := hid hD
      have GU := hid hU
      have F5 := hid (show Fr (fun _ => False) w W5 from F2.out.trans' hG)
      have GK5 := hid (hG.heap GK.out (fun e => e))
      have GR5 := hid (hG.heap GR.out (fun e => e))
      have GQ5 := hid (hG.heap GQ.out (fun e => e))
      have hd5 : d < W5.heap.size := lt_of_block hD
      have hu5 : u < W5.heap.size := lt_of_block hU
      have hsz5 := F5.out.size
      have hwu : w.heap.size ≤ u := by have := F2.out.size; omega
      have hwd : w.heap.size ≤ d := by have := F2.out.size; omega
      have hku : ¬ k = u := by omega
      have hkd' : ¬ k = d := by omega
      have hru : ¬ r = u := by omega
      have hqu : ¬ q = u := by omega
      have hRu : ¬ R = u := by have := lt_of_block HR.out.own; omega
      have HTW := Lib.hid fun (w' : World) (h : Fr (fun q => q = M ∨ q = u) W5 w') => (show Fr (fun q => q = M) w w' from ((F5.out.toM M).trans h (fun _ e => e) (fun i hi e => e.resolve_right (by omega))))
      have HRW := Lib.hid fun (w' : World) (h : Fr (fun q => q = M ∨ q = u) W5 w') => HR.out.fr (HTW.out w' h)
      have HKW := Lib.hid fun (w' : World) (h : Fr (fun q => q = M ∨ q = u) W5 w') => h.heap GK5.out (fun e => e.elim hkM hku)
      have M5 := hid (show Memo W5 M c N ws.length (hitW ws) from HM.out.fr F5.out)
      clear hD hU hG HS5
      have d0 := cell_of GD.out 0 (v := .int .u8 kd) rfl
      go_upto_block 0 with fail
      go_cut [] (fun wx => CutO W5 u M (c + costK ws.length t) N ws (sem ws.length (hitW ws) t S) wx)
      case first =>
        have hkd := HKD.out
        have hpd := HPD.out
        have hwr : IntKind.i64.wrap ((a : Int) + 1) = ((a + 1 : Nat) : Int) := by rw [IntWalk.i64_in _ (by omega)]; omega
        have hsub : ∀ i, i < W5.heap.size → i = M → i = M ∨ i = u := fun _ _ e => Or.inl e
        have hG : Fr (fun q => q = M ∨ q = u) W5 W5 := Fr.refl _ _
        have hU := GU.out
        have hM := M5.out
        have HHW := hid hwr
        clear hwr
        clear HKD HPD hPut HHW
        cases t with
        | eps p =>
          simp only [kindT, placeT] at hkd hpd
          subst hkd hpd
          have HUU := hid hU
          have HMM := hid hM
          have HGG := hid hG
          clear hU hM hG
          go_wp2_with fail
          go_meet
          exact ⟨HUU.out, HGG.out, HMM.out⟩
        | leaf p =>
          simp only [kindT, placeT] at hkd hpd
          obtain ⟨hp0, hpP⟩ := HLV.out p (by simp [Tr.leaves])
          obtain ⟨pn, rfl⟩ : ∃ pn : Nat, p = pn := ⟨p.toNat, by omega⟩
          subst hkd hpd
          have hpn : pn < P := by omega
          obtain ⟨g2, o2, pc, rfl, hg2, hcl⟩ : ∃ g2 o2 pc, pv = .slice (some ⟨g2, o2, none⟩) P pc ∧ g2 ≠ M ∧ (w.cell? ⟨g2, o2 + pn * 4, none⟩ = some (.bool false) ∧ w.cell? ⟨g2, o2 + pn * 4 + 1, none⟩ = some (.string (lt pn)) ∧ w.cell? ⟨g2, o2 + pn * 4 + 2, none⟩ = some (.string ⟨#[]⟩) ∧ w.cell? ⟨g2, o2 + pn * 4 + 3, none⟩ = some (.slice none 0 0)) := by
            obtain ⟨pa, pc, hv, _, hp⟩ := HR.out.places
            obtain ⟨g2, o2, rfl, hn2, _, hs2⟩ := hp (by omega)
            exact ⟨g2, o2, pc, hv, hn2, hs2 pn hpn⟩
          have HCL := hid hcl
          clear hcl
          have HS8 := Lib.hid fun (w' : World) (h : Fr (fun _ => False) W5 w') => (show w'.cell? ⟨R, 1, none⟩ = some (.slice (some ⟨g2, o2, none⟩) P pc) ∧ w'.cell? ⟨d, 1, none⟩ = some (.int .i64 pn) ∧ w'.cell? ⟨g2, o2 + pn * 4, none⟩ = some (.bool false) ∧ w'.cell? ⟨g2, o2 + pn * 4 + 1, none⟩ = some (.string (lt pn)) ∧ w'.cell? ⟨g2, o2 + pn * 4 + 2, none⟩ = some (.string ⟨#[]⟩) ∧ w'.cell? ⟨g2, o2 + pn * 4 + 3, none⟩ = some (.slice none 0 0) from
            ⟨cell_of ((F5.out.trans' h).heap HR.out.own (fun e => e)) 1 rfl, cell_of (h.heap GD.out (fun e => e)) 1 rfl, (F5.out.trans' h).cell HCL.out.1 (fun e => e), (F5.out.trans' h).cell HCL.out.2.1 (fun e => e), (F5.out.trans' h).cell HCL.out.2.2.1 (fun e => e), (F5.out.trans' h).cell HCL.out.2.2.2 (fun e => e)⟩)
          have HUU := hid hU
          have HMM := hid hM
          clear hU hM hG d0
          have hG : Fr (fun _ => False) W5 W5 := Fr.refl _ _
          go_wp2_with fail
          refine wp_region_held_drew (S := (fun w' => w'.cell? ⟨R, 1, none⟩ = some (.slice (some ⟨g2, o2, none⟩) P pc) ∧ w'.cell? ⟨d, 1, none⟩ = some (.int .i64 pn) ∧ w'.cell? ⟨g2, o2 + pn * 4, none⟩ = some (.bool false) ∧ w'.cell? ⟨g2, o2 + pn * 4 + 1, none⟩ = some (.string (lt pn)) ∧ w'.cell? ⟨g2, o2 + pn * 4 + 2, none⟩ = some (.string ⟨#[]⟩) ∧ w'.cell? ⟨g2, o2 + pn * 4 + 3, none⟩ = some (.slice none 0 0))) (by kernel_rfl) ?_ (fun hH => ?_)
          · (first | exact HS8.out _ hG | exact HS8.out _ hG.drew | go_keep)
          refine wpAnyH_take (i := 0) (oi := { dst := some 40, op := Op.move (Operand.tmp 0), type := 83, pos := "core.go:295", after := #[], guard := none }) (v := ?_) rfl (by kernel_rfl) (by kernel_rfl) (by kernel_rfl) (fun _ _ _ h => h) (Or.inl ⟨by rfl, ?_⟩) hH ?_
          rotate_left
          · intro w hSw; (try dsimp only at hSw); go_simp <;> with_reducible rfl
          try simp only [Act.put, List.setIfInBounds_toArray, List.set_cons_zero, List.set_cons_succ]
          refine wpAnyH_take (i := 1) (oi := { dst := some 41, op := Op.nilCheck (Operand.tmp 40), type := 0, pos := "core.go:295", after := #[{ on := 0, ground := Ground.data }], guard := none }) (v := ?_) rfl (by kernel_rfl) (by kernel_rfl) (by kernel_rfl) (fun _ _ _ h => h) (Or.inl ⟨by rfl, ?_⟩) hH ?_
          rotate_left
          · intro w hSw; (try dsimp only at hSw); go_simp <;> with_reducible rfl
          try simp only [Act.put, List.setIfInBounds_toArray, List.set_cons_zero, List.set_cons_succ]
          refine wpAnyH_take (i := 2) (oi := { dst := some 42, op := Op.fieldAddr 86 (Operand.tmp 41) 0, type := 0, pos := "core.go:295", after := #[{ on := 1, ground := Ground.data }], guard := none }) (v := ?_) rfl (by kernel_rfl) (by kernel_rfl) (by kernel_rfl) (fun _ _ _ h => h) (Or.inl ⟨by rfl, ?_⟩) hH ?_
          rotate_left
          · intro w hSw; (try dsimp only at hSw); go_simp <;> with_reducible rfl
          try simp only [Act.put, List.setIfInBounds_toArray, List.set_cons_zero, List.set_cons_succ]
          refine wpAnyH_take (i := 3) (oi := { dst := some 43, op := Op.fieldAddr 39 (Operand.tmp 42) 1, type := 0, pos := "core.go:295", after := #[{ on := 2, ground := Ground.data }], guard := none }) (v := ?_) rfl (by kernel_rfl) (by kernel_rfl) (by kernel_rfl) (fun _ _ _ h => h) (Or.inl ⟨by rfl, ?_⟩) hH ?_
          rotate_left
          · intro w hSw; (try dsimp only at hSw); go_simp <;> with_reducible rfl
          try simp only [Act.put, List.setIfInBounds_toArray, List.set_cons_zero, List.set_cons_succ]
          refine wpAnyH_take (i := 4) (oi := { dst := some 44, op := Op.load 37 (Operand.tmp 43), type := 37, pos := "core.go:295", after := #[{ on := 3, ground := Ground.data }], guard := none }) (v := ?_) rfl (by kernel_rfl) (by kernel_rfl) (by kernel_rfl) (fun _ _ _ h => h) (Or.inl ⟨by rfl, ?_⟩) hH ?_
          rotate_left
          · intro w hSw; (try dsimp only at hSw); go_simp <;> with_reducible rfl
          try simp only [Act.put, List.setIfInBounds_toArray, List.set_cons_zero, List.set_cons_succ]
          refine wpAnyH_take (i := 5) (oi := { dst := some 45, op := Op.fieldAddr 69 (Operand.tmp 10) 1, type := 0, pos := "core.go:295", after := #[], guard := none }) (v := ?_) rfl (by kernel_rfl) (by kernel_rfl) (by kernel_rfl) (fun _ _ _ h => h) (Or.inl ⟨by rfl, ?_⟩) hH ?_
          rotate_left
          · intro w hSw; (try dsimp only at hSw); go_simp <;> with_reducible rfl
          try simp only [Act.put, List.setIfInBounds_toArray, List.set_cons_zero, List.set_cons_succ]
          refine wpAnyH_take (i := 6) (oi := { dst := some 46, op := Op.load 3 (Operand.tmp 45), type := 3, pos := "core.go:295", after := #[{ on := 5, ground := Ground.data }], guard := none }) (v := ?_) rfl (by kernel_rfl) (by kernel_rfl) (by kernel_rfl) (fun _ _ _ h => h) (Or.inl ⟨by rfl, ?_⟩) hH ?_
          rotate_left
          · intro w hSw; (try dsimp only at hSw); go_simp <;> with_reducible rfl
          try simp only [Act.put, List.setIfInBounds_toArray, List.set_cons_zero, List.set_cons_succ]
          refine wpAnyH_take (i := 7) (oi := { dst := some 47, op := Op.indexAddr 37 (Operand.tmp 44) (Operand.tmp 46), type := 0, pos := "core.go:295", after := #[{ on := 4, ground := Ground.data }, { on := 6, ground := Ground.data }], guard := none }) (v := ?_) rfl (by kernel_rfl) (by kernel_rfl) (by kernel_rfl) (fun _ _ _ h => h) (Or.inl ⟨by rfl, ?_⟩) hH ?_
          rotate_left
          · intro w hSw; (try dsimp only at hSw); go_simp <;> with_reducible rfl
          try simp only [Act.put, List.setIfInBounds_toArray, List.set_cons_zero, List.set_cons_succ]
          refine wpAnyH_take (i := 8) (oi := { dst := some 48, op := Op.load 59 (Operand.tmp 47), type := 59, pos := "core.go:295", after := #[{ on := 7, ground := Ground.data }], guard := none }) (v := ?_) rfl (by kernel_rfl) (by kernel_rfl) (by kernel_rfl) (fun _ _ _ h => h) (Or.inl ⟨by rfl, ?_⟩) hH ?_
          rotate_left
          · intro w hSw; (try dsimp only at hSw); go_simp <;> with_reducible rfl
          try simp only [Act.put, List.setIfInBounds_toArray, List.set_cons_zero, List.set_cons_succ]
          refine wpAnyH_ready (rs := [9]) (by kernel_rfl) (by simp) ?_
          refine AllReadyH.cons (o := { dst := some 12, op := Op.alloc 59, type := 0, pos := "core.go:295", after := #[], guard := none }) rfl (fun K hK => ?_) AllReadyH.nil
          go_simp
          generalize hV9 : World.alloc _ _ = A8
          have hE : A8.heap[W5.heap.size]? = some (.cells #[.bool false, .string ⟨#[]⟩, .string ⟨#[]⟩, .slice none 0 0] 59 (0, 0)) := by rw [← hV9]; exact heap_new _ _
          replace hG : Fr (fun _ => False) W5 A8 := by rw [← hV9]; exact hG.alloc _
          clear hV9
          refine hK.out _ _ ?_ (fun hH => ?_)
          · (first | exact HS8.out _ hG | exact HS8.out _ hG.drew | go_keep)
          clear hK K
          try simp only [Act.put, List.setIfInBounds_toArray, List.set_cons_zero, List.set_cons_succ]
          refine wpAnyH_ready (rs := [10]) (by kernel_rfl) (by simp) ?_
          refine AllReadyH.cons (o := { dst := none, op := Op.store 59 (Operand.tmp 12) (Operand.tmp 48), type := 0, pos := "core.go:295", after := #[{ on := 9, ground := Ground.data }, { on := 8, ground := Ground.data }, { on := 0, ground := Ground.phase }, { on := 1, ground := Ground.phase }, { on := 2, ground := Ground.phase }, { on := 3, ground := Ground.phase }, { on := 4, ground := Ground.phase }, { on := 5, ground := Ground.phase }, { on := 6, ground := Ground.phase }, { on := 7, ground := Ground.phase }, { on := 8, ground := Ground.phase }, { on := 9, ground := Ground.phase }], guard := none }) rfl (fun K hK => ?_) AllReadyH.nil
          have x0 := cell_of hE 0 (v := .bool false) rfl
          have x1 := cell_of hE 1 (v := .string ⟨#[]⟩) rfl
          have x2 := cell_of hE 2 (v := .string ⟨#[]⟩) rfl
          have x3 := cell_of hE 3 (v := .slice none 0 0) rfl
          have y0 := free_of hE 0
          have y1 := free_of hE 1
          have y2 := free_of hE 2
          have y3 := free_of hE 3
          go_simp
          generalize hV9 : World.setCell _ _ _ = B8
          clear x0 x1 x2 x3 y0 y1 y2 y3
          replace hE : B8.heap[W5.heap.size]? = some (.cells #[.bool false, .string (lt pn), .string ⟨#[]⟩, .slice none 0 0] 59 (0, 0)) := by rw [← hV9]; exact set4 hE _ _ _ _
          replace hG : Fr (fun _ => False) W5 B8 := by rw [← hV9]; exact hG.quad (fun h => absurd h (Nat.lt_irrefl _)) _ _ _ _
          clear hV9
          refine hK.out _ _ ?_ (fun hH => ?_)
          · (first | exact HS8.out _ hG | exact HS8.out _ hG.drew | go_keep)
          clear hK K
          refine wpAnyH_done (by kernel_rfl) ?_ _
          obtain ⟨e, he⟩ : ∃ e, e = W5.heap.size := ⟨_, rfl⟩
          rw [← he] at hE ⊢
          obtain ⟨W8, hW8⟩ : ∃ W8, W8 = B8.drew := ⟨_, rfl⟩
          rw [← hW8]
          have hE : W8.heap[e]? = some (.cells #[.bool false, .string (lt pn), .string ⟨#[]⟩, .slice none 0 0] 59 (0, 0)) := by rw [hW8]; exact hE
          have hG8 : Fr (fun _ => False) W5 W8 := by rw [hW8]; exact hG.drew
          have GE := hid hE
          have F8 := hid hG8
          have heM : ¬ e = M := by omega
          have heu : ¬ e = u := by omega
          have hG : Fr (fun q => q = M ∨ q = u) W8 W8 := Fr.refl _ _
          have hU := hG8.heap HUU.out (fun e => e)
          have hM := HMM.out.fr hG8
          have hu8 : u < W8.heap.size := lt_of_block hU
          have hGW := Lib.hid fun (w' : World) (h : Fr (fun q => q = M ∨ q = u) W8 w') => (show Fr (fun q => q = M ∨ q = u) W5 w' from hG8.trans h (fun _ e => e.elim) (fun _ _ e => e))
          have HS9 := Lib.hid fun (w' : World) (h : Fr (fun q => q = M ∨ q = u) W8 w') => (show w'.cell? ⟨k, 0, none⟩ = some (.int .u64 (lo S)) ∧ w'.cell? ⟨k, 1, none⟩ = some (.int .u64 (hi S)) ∧ w'.cell? ⟨e, 0, none⟩ = some (.bool false) ∧ w'.cell? ⟨e, 1, none⟩ = some (.string (lt pn)) from
            ⟨cell_of (HKW.out w' (hGW.out w' h)) 0 rfl, cell_of (HKW.out w' (hGW.out w' h)) 1 rfl, cell_of (h.heap GE.out (fun q => q.elim heM heu)) 0 rfl, cell_of (h.heap GE.out (fun q => q.elim heM heu)) 1 rfl⟩)
          have OV := Lib.hid fun (w' : World) (h : Fr (fun q => q = M ∨ q = u) W8 w') => rover_ok (HRW.out w' (hGW.out w' h)) hw S (lt pn)
          unfold mk at OV
          obtain ⟨O, hO⟩ : ∃ O, O = ovS (hitS ws (lt pn)) S ws.length := ⟨_, rfl⟩
          rw [← hO] at OV
          have HO := hid (show sem ws.length (hitW ws) (.leaf pn) S = O from hO ▸ rfl)
          clear hO he hW8 hG8 hE HS8
          go_wp2_with fail
          refine wp_region_held_drew (S := (fun w' => w'.cell? ⟨k, 0, none⟩ = some (.int .u64 (lo S)) ∧ w'.cell? ⟨k, 1, none⟩ = some (.int .u64 (hi S)) ∧ w'.cell? ⟨e, 0, none⟩ = some (.bool false) ∧ w'.cell? ⟨e, 1, none⟩ = some (.string (lt pn)))) (by kernel_rfl) ?_ (fun hH => ?_)
          · (first | exact HS9.out _ hG | exact HS9.out _ hG.drew | go_keep)
          refine wpAnyH_take (i := 0) (oi := { dst := some 49, op := Op.move (Operand.tmp 0), type := 83, pos := "core.go:296", after := #[], guard := none }) (v := ?_) rfl (by kernel_rfl) (by kernel_rfl) (by kernel_rfl) (fun _ _ _ h => h) (Or.inl ⟨by rfl, ?_⟩) hH ?_
          rotate_left
          · intro w hSw; (try dsimp only at hSw); go_simp <;> with_reducible rfl
          try simp only [Act.put, List.setIfInBounds_toArray, List.set_cons_zero, List.set_cons_succ]
          refine wpAnyH_take (i := 1) (oi := { dst := some 50, op := Op.load 89 (Operand.tmp 5), type := 89, pos := "core.go:296", after := #[], guard := none }) (v := ?_) rfl (by kernel_rfl) (by kernel_rfl) (by kernel_rfl) (fun _ _ _ h => h) (Or.inl ⟨by rfl, ?_⟩) hH ?_
          rotate_left
          · intro w hSw; (try dsimp only at hSw); go_simp <;> with_reducible rfl
          try simp only [Act.put, List.setIfInBounds_toArray, List.set_cons_zero, List.set_cons_succ]
          refine wpAnyH_take (i := 2) (oi := { dst := some 51, op := Op.fieldAddr 59 (Operand.tmp 12) 0, type := 0, pos := "core.go:296", after := #[], guard := none }) (v := ?_) rfl (by kernel_rfl) (by kernel_rfl) (by kernel_rfl) (fun _ _ _ h => h) (Or.inl ⟨by rfl, ?_⟩) hH ?_
          rotate_left
          · intro w hSw; (try dsimp only at hSw); go_simp <;> with_reducible rfl
          try simp only [Act.put, List.setIfInBounds_toArray, List.set_cons_zero, List.set_cons_succ]
          refine wpAnyH_take (i := 3) (oi := { dst := some 52, op := Op.load 4 (Operand.tmp 51), type := 4, pos := "core.go:296", after := #[{ on := 2, ground := Ground.data }], guard := none }) (v := ?_) rfl (by kernel_rfl) (by kernel_rfl) (by kernel_rfl) (fun _ _ _ h => h) (Or.inl ⟨by rfl, ?_⟩) hH ?_
          rotate_left
          · intro w hSw; (try dsimp only at hSw); go_simp <;> with_reducible rfl
          try simp only [Act.put, List.setIfInBounds_toArray, List.set_cons_zero, List.set_cons_succ]
          refine wpAnyH_take (i := 4) (oi := { dst := some 53, op := Op.fieldAddr 59 (Operand.tmp 12) 1, type := 0, pos := "core.go:296", after := #[], guard := none }) (v := ?_) rfl (by kernel_rfl) (by kernel_rfl) (by kernel_rfl) (fun _ _ _ h => h) (Or.inl ⟨by rfl, ?_⟩) hH ?_
          rotate_left
          · intro w hSw; (try dsimp only at hSw); go_simp <;> with_reducible rfl
          try simp only [Act.put, List.setIfInBounds_toArray, List.set_cons_zero, List.set_cons_succ]
          refine wpAnyH_take (i := 5) (oi := { dst := some 54, op := Op.load 9 (Operand.tmp 53), type := 9, pos := "core.go:296", after := #[{ on := 4, ground := Ground.data }], guard := none }) (v := ?_) rfl (by kernel_rfl) (by kernel_rfl) (by kernel_rfl) (fun _ _ _ h => h) (Or.inl ⟨by rfl, ?_⟩) hH ?_
          rotate_left
          · intro w hSw; (try dsimp only at hSw); go_simp <;> with_reducible rfl
          try simp only [Act.put, List.setIfInBounds_toArray, List.set_cons_zero, List.set_cons_succ]
          refine wpAnyH_ready (rs := [6]) (by kernel_rfl) (by simp) ?_
          refine AllReadyH.cons (o := { dst := some 55, op := Op.call { callee := Callee.value (Operand.func 40), args := #[Operand.tmp 52, Operand.tmp 54], argTypes := #[4, 9] }, type := 9, pos := "core.go:296", after := #[{ on := 3, ground := Ground.data }, { on := 5, ground := Ground.data }], guard := none }) rfl (fun K hK => ?_) AllReadyH.nil
          go_simp
          go_at_call 40
          refine (letter_ok _ _).mono ?_
          rintro ev z6 ⟨rfl, rfl⟩
          go_simp
          refine hK.out _ _ ?_ (fun hH => ?_)
          · (first | exact HS9.out _ hG | exact HS9.out _ hG.drew | go_keep)
          clear hK K
          try simp only [Act.put, List.setIfInBounds_toArray, List.set_cons_zero, List.set_cons_succ]
          refine wpAnyH_ready (rs := [7]) (by kernel_rfl) (by simp) ?_
          refine AllReadyH.cons (o := { dst := some 56, op := Op.call { callee := Callee.value (Operand.func 39), args := #[Operand.tmp 49, Operand.tmp 50, Operand.tmp 55], argTypes := #[83, 89, 9] }, type := 89, pos := "core.go:296", after := #[{ on := 0, ground := Ground.data }, { on := 1, ground := Ground.data }, { on := 6, ground := Ground.data }, { on := 6, ground := Ground.chain }], guard := none }) rfl (fun K hK => ?_) AllReadyH.nil
          go_simp
          go_at_call 39
          refine (OV.out _ (by first | exact hG | exact hG.drew)).mono ?_
          rintro ev z6_rover ⟨rfl, hf0⟩
          (first | replace hU := hf0.heap hU (fun e => e) | replace hU := hf0.heap (k := u) hU (fun e => e))
          (first | replace hM := hM.fr hf0 | replace hM := (Memo.drew hM).fr hf0)
          (first | replace hG := hG.trans hf0 (fun _ e => e) (fun _ _ e => e.elim) | replace hG := hG.drew.trans hf0 (fun _ e => e) (fun _ _ e => e.elim))
          clear hf0
          go_simp
          refine hK.out _ _ ?_ (fun hH => ?_)
          · (first | exact HS9.out _ hG | exact HS9.out _ hG.drew | go_keep)
          clear hK K
          try simp only [Act.put, List.setIfInBounds_toArray, List.set_cons_zero, List.set_cons_succ]
          refine wpAnyH_ready (rs := [8]) (by kernel_rfl) (by simp) ?_
          refine AllReadyH.cons (o := { dst := none, op := Op.store 89 (Operand.tmp 11) (Operand.tmp 56), type := 0, pos := "core.go:296", after := #[{ on := 7, ground := Ground.data }, { on := 7, ground := Ground.chain }, { on := 0, ground := Ground.phase }, { on := 1, ground := Ground.phase }, { on := 2, ground := Ground.phase }, { on := 3, ground := Ground.phase }, { on := 4, ground := Ground.phase }, { on := 5, ground := Ground.phase }, { on := 6, ground := Ground.phase }, { on := 7, ground := Ground.phase }], guard := none }) rfl (fun K hK => ?_) AllReadyH.nil
          have x0 := cell_of hU 0 (v := .int .u64 (lo S)) rfl
          have x1 := cell_of hU 1 (v := .int .u64 (hi S)) rfl
          have x2 := free_of hU 0
          have x3 := free_of hU 1
          go_simp
          generalize hV9 : World.setCell _ _ _ = vE
          clear x0 x1 x2 x3
          replace hU : vE.heap[u]? = some (.cells #[.int .u64 (lo O), .int .u64 (hi O)] 89 (0, 0)) := by rw [← hV9]; exact set2 hU _ _
          replace hG : Fr (fun q => q = M ∨ q = u) W8 vE := by rw [← hV9]; exact hG.two (fun _ => Or.inr rfl) _ _
          replace hM : Memo vE M (c) N ws.length (hitW ws) := by rw [← hV9]; exact hM.two huM _ _
          clear hV9
          refine hK.out _ _ ?_ (fun hH => ?_)
          · (first | exact HS9.out _ hG | exact HS9.out _ hG.drew | go_keep)
          clear hK K
          refine wpAnyH_done (by kernel_rfl) ?_ _
          go_wp2_with fail
          go_meet
          exact HO.out ▸ ⟨hU, hGW.out _ (by first | exact hG | exact hG.drew), (by first | exact hM | exact Memo.drew hM)⟩
        | cat p A B =>
          simp only [kindT, placeT] at hkd hpd
          subst hkd hpd
          have hdA : N.drop (a + 1) = A.flat ++ (B.flat ++ rest) := by have := HD.out; simpa [kidsT] using this
          have hdB : N.drop (a + 1 + A.flat.length) = B.flat ++ rest := by
            have := congrArg (List.drop A.flat.length) hdA
            simpa [List.drop_drop] using this
          have hposA := A.pos
          have hposB := B.pos
          have hfl : a + (1 + (A.flat.length + B.flat.length)) ≤ n := by have := HLEN.out; simp [Tr.flat] at this; omega
          have hNn := HN.out
          have lvA : ∀ p ∈ A.leaves, 0 ≤ p ∧ p < P := fun p hp => HLV.out p (List.mem_append.2 (Or.inl hp))
          have lvB : ∀ p ∈ B.leaves, 0 ≤ p ∧ p < P := fun p hp => HLV.out p (List.mem_append.2 (Or.inr hp))
          have hcc : c + (1 + cost ws.length A + cost ws.length B) ≤ 4611686018427387904 := HC.out
          have SZ := Lib.hid fun (w' : World) (hR' : Rd w' R M (.slice (some ⟨ng, no, none⟩) n nc) pv wv wi mm bv N P ws) => (show Calls Try.prog 34 #[.slice (some ⟨ng, no, none⟩) n nc, .int .i64 ((a + 1 : Nat) : Int)] w' fun e w'' => e = .returned (.int .i64 (A.flat.length : Nat)) ∧ Fr (fun _ => False) w' w'' by
            have h := csize_at hR'.nodes HL.out (a + 1) (by omega)
            rw [hdA, sz_flat] at h
            exact h)
          have IHA := Lib.hid fun (w' : World) (hR' : Rd w' R M (.slice (some ⟨ng, no, none⟩) n nc) pv wv wi mm bv N P ws) (hM' : Memo w' M c N ws.length (hitW ws)) => IH.out A (by simp [kidsT]) w' R M _ pv wv wi mm bv N P ws (a + 1) c (B.flat ++ rest) S hR' hM' HS.out hdA HL.out hw lvA (by omega)
          have IHB := Lib.hid fun (w' : World) (hR' : Rd w' R M (.slice (some ⟨ng, no, none⟩) n nc) pv wv wi mm bv N P ws) (hM' : Memo w' M (c + cost ws.length A) N ws.length (hitW ws)) => IH.out B (by simp [kidsT]) w' R M _ pv wv wi mm bv N P ws (a + 1 + A.flat.length) (c + cost ws.length A) rest (sem ws.length (hitW ws) A S) hR' hM' (upto_sem _ _ A S HS.out) hdB HL.out hw lvB (by omega)
          have hw1 : IntKind.i64.wrap ((a : Int) + 1) = ((a + 1 : Nat) : Int) := by rw [IntWalk.i64_in _ (by omega)]; omega
          have hw2 : IntKind.i64.wrap (((a + 1 : Nat) : Int) + ((A.flat.length : Nat) : Int)) = ((a + 1 + A.flat.length : Nat) : Int) := by rw [IntWalk.i64_in _ (by omega)]; omega
          have HKR := Lib.hid fun (w' : World) (h : Fr (fun q => q = M ∨ q = u) W5 w') => (show w'.cell? ⟨R, 0, none⟩ = some (.slice (some ⟨ng, no, none⟩) n nc) ∧ w'.cell? ⟨k, 0, none⟩ = some (.int .u64 (lo S)) ∧ w'.cell? ⟨k, 1, none⟩ = some (.int .u64 (hi S)) from
            ⟨cell_of (HRW.out w' h).own 0 rfl, cell_of (HKW.out w' h) 0 rfl, cell_of (HKW.out w' h) 1 rfl⟩)
          generalize A.flat.length = sa at *
          generalize ((a + 1 : Nat) : Int) = a1 at *
          generalize ((a + 1 + sa : Nat) : Int) = a2 at *
          clear hdA hdB hposA hposB hfl hNn lvA lvB hcc
          unfold mk at *
          obtain ⟨O, hO⟩ : ∃ O, O = sem ws.length (hitW ws) B (sem ws.length (hitW ws) A S) := ⟨_, rfl⟩
          rw [← hO] at IHB
          have HO := hid (show sem ws.length (hitW ws) (.cat pd A B) S = O from hO ▸ rfl)
          obtain ⟨O1, hO1⟩ : ∃ O1, O1 = sem ws.length (hitW ws) A S := ⟨_, rfl⟩
          rw [← hO1] at IHA IHB
          have hck : c + cost ws.length A + cost ws.length B = c + costK ws.length (.cat pd A B) := by simp [costK]; omega
          have HCK := hid hck
          clear hO hO1 hck d0
          have d0 := cell_of GD.out 0 (v := .int .u8 3) rfl
          go_wp2_with fail
          refine wp_region_held_drew (S := (fun w' => w'.cell? ⟨R, 0, none⟩ = some (.slice (some ⟨ng, no, none⟩) n nc) ∧ w'.cell? ⟨k, 0, none⟩ = some (.int .u64 (lo S)) ∧ w'.cell? ⟨k, 1, none⟩ = some (.int .u64 (hi S)))) (by kernel_rfl) ?_ (fun hH => ?_)
          · (first | exact HKR.out _ hG | exact HKR.out _ hG.drew | go_keep)
          refine wpAnyH_take (i := 0) (oi := { dst := some 59, op := Op.move (Operand.tmp 0), type := 83, pos := "core.go:298", after := #[], guard := none }) (v := ?_) rfl (by kernel_rfl) (by kernel_rfl) (by kernel_rfl) (fun _ _ _ h => h) (Or.inl ⟨by rfl, ?_⟩) hH ?_
          rotate_left
          · intro w hSw; (try dsimp only at hSw); go_simp <;> with_reducible rfl
          try simp only [Act.put, List.setIfInBounds_toArray, List.set_cons_zero, List.set_cons_succ]
          refine wpAnyH_take (i := 1) (oi := { dst := some 60, op := Op.move (Operand.tmp 1), type := 3, pos := "core.go:298", after := #[], guard := none }) (v := ?_) rfl (by kernel_rfl) (by kernel_rfl) (by kernel_rfl) (fun _ _ _ h => h) (Or.inl ⟨by rfl, ?_⟩) hH ?_
          rotate_left
          · intro w hSw; (try dsimp only at hSw); go_simp <;> with_reducible rfl
          try simp only [Act.put, List.setIfInBounds_toArray, List.set_cons_zero, List.set_cons_succ]
          refine wpAnyH_take (i := 2) (oi := { dst := some 61, op := Op.binOp BinOp.add 3 (Operand.tmp 60) (Operand.const (Value.int IntKind.i64 1)) 3, type := 3, pos := "core.go:298", after := #[{ on := 1, ground := Ground.data }], guard := none }) (v := ?_) rfl (by kernel_rfl) (by kernel_rfl) (by kernel_rfl) (fun _ _ _ h => h) (Or.inl ⟨by rfl, ?_⟩) hH ?_
          rotate_left
          · intro w hSw; (try dsimp only at hSw); go_simp <;> with_reducible rfl
          try simp only [Act.put, List.setIfInBounds_toArray, List.set_cons_zero, List.set_cons_succ]
          refine wpAnyH_take (i := 3) (oi := { dst := some 62, op := Op.move (Operand.tmp 0), type := 83, pos := "core.go:298", after := #[], guard := none }) (v := ?_) rfl (by kernel_rfl) (by kernel_rfl) (by kernel_rfl) (fun _ _ _ h => h) (Or.inl ⟨by rfl, ?_⟩) hH ?_
          rotate_left
          · intro w hSw; (try dsimp only at hSw); go_simp <;> with_reducible rfl
          try simp only [Act.put, List.setIfInBounds_toArray, List.set_cons_zero, List.set_cons_succ]
          refine wpAnyH_take (i := 4) (oi := { dst := some 63, op := Op.nilCheck (Operand.tmp 62), type := 0, pos := "core.go:298", after := #[{ on := 3, ground := Ground.data }], guard := none }) (v := ?_) rfl (by kernel_rfl) (by kernel_rfl) (by kernel_rfl) (fun _ _ _ h => h) (Or.inl ⟨by rfl, ?_⟩) hH ?_
          rotate_left
          · intro w hSw; (try dsimp only at hSw); go_simp <;> with_reducible rfl
          try simp only [Act.put, List.setIfInBounds_toArray, List.set_cons_zero, List.set_cons_succ]
          refine wpAnyH_take (i := 5) (oi := { dst := some 64, op := Op.fieldAddr 86 (Operand.tmp 63) 0, type := 0, pos := "core.go:298", after := #[{ on := 4, ground := Ground.data }], guard := none }) (v := ?_) rfl (by kernel_rfl) (by kernel_rfl) (by kernel_rfl) (fun _ _ _ h => h) (Or.inl ⟨by rfl, ?_⟩) hH ?_
          rotate_left
          · intro w hSw; (try dsimp only at hSw); go_simp <;> with_reducible rfl
          try simp only [Act.put, List.setIfInBounds_toArray, List.set_cons_zero, List.set_cons_succ]
          refine wpAnyH_take (i := 6) (oi := { dst := some 65, op := Op.fieldAddr 39 (Operand.tmp 64) 0, type := 0, pos := "core.go:298", after := #[{ on := 5, ground := Ground.data }], guard := none }) (v := ?_) rfl (by kernel_rfl) (by kernel_rfl) (by kernel_rfl) (fun _ _ _ h => h) (Or.inl ⟨by rfl, ?_⟩) hH ?_
          rotate_left
          · intro w hSw; (try dsimp only at hSw); go_simp <;> with_reducible rfl
          try simp only [Act.put, List.setIfInBounds_toArray, List.set_cons_zero, List.set_cons_succ]
          refine wpAnyH_take (i := 7) (oi := { dst := some 66, op := Op.load 36 (Operand.tmp 65), type := 36, pos := "core.go:298", after := #[{ on := 6, ground := Ground.data }], guard := none }) (v := ?_) rfl (by kernel_rfl) (by kernel_rfl) (by kernel_rfl) (fun _ _ _ h => h) (Or.inl ⟨by rfl, ?_⟩) hH ?_
          rotate_left
          · intro w hSw; (try dsimp only at hSw); go_simp <;> with_reducible rfl
          try simp only [Act.put, List.setIfInBounds_toArray, List.set_cons_zero, List.set_cons_succ]
          refine wpAnyH_take (i := 8) (oi := { dst := some 67, op := Op.move (Operand.tmp 1), type := 3, pos := "core.go:298", after := #[], guard := none }) (v := ?_) rfl (by kernel_rfl) (by kernel_rfl) (by kernel_rfl) (fun _ _ _ h => h) (Or.inl ⟨by rfl, ?_⟩) hH ?_
          rotate_left
          · intro w hSw; (try dsimp only at hSw); go_simp <;> with_reducible rfl
          try simp only [Act.put, List.setIfInBounds_toArray, List.set_cons_zero, List.set_cons_succ]
          refine wpAnyH_take (i := 9) (oi := { dst := some 68, op := Op.binOp BinOp.add 3 (Operand.tmp 67) (Operand.const (Value.int IntKind.i64 1)) 3, type := 3, pos := "core.go:298", after := #[{ on := 8, ground := Ground.data }], guard := none }) (v := ?_) rfl (by kernel_rfl) (by kernel_rfl) (by kernel_rfl) (fun _ _ _ h => h) (Or.inl ⟨by rfl, ?_⟩) hH ?_
          rotate_left
          · intro w hSw; (try dsimp only at hSw); go_simp <;> with_reducible rfl
          try simp only [Act.put, List.setIfInBounds_toArray, List.set_cons_zero, List.set_cons_succ]
          refine wpAnyH_take (i := 12) (oi := { dst := some 71, op := Op.move (Operand.tmp 0), type := 83, pos := "core.go:298", after := #[], guard := none }) (v := ?_) rfl (by kernel_rfl) (by kernel_rfl) (by kernel_rfl) (fun _ _ _ h => h) (Or.inl ⟨by rfl, ?_⟩) hH ?_
          rotate_left
          · intro w hSw; (try dsimp only at hSw); go_simp <;> with_reducible rfl
          try simp only [Act.put, List.setIfInBounds_toArray, List.set_cons_zero, List.set_cons_succ]
          refine wpAnyH_take (i := 13) (oi := { dst := some 72, op := Op.move (Operand.tmp 1), type := 3, pos := "core.go:298", after := #[], guard := none }) (v := ?_) rfl (by kernel_rfl) (by kernel_rfl) (by kernel_rfl) (fun _ _ _ h => h) (Or.inl ⟨by rfl, ?_⟩) hH ?_
          rotate_left
          · intro w hSw; (try dsimp only at hSw); go_simp <;> with_reducible rfl
          try simp only [Act.put, List.setIfInBounds_toArray, List.set_cons_zero, List.set_cons_succ]
          refine wpAnyH_take (i := 14) (oi := { dst := some 73, op := Op.binOp BinOp.add 3 (Operand.tmp 72) (Operand.const (Value.int IntKind.i64 1)) 3, type := 3, pos := "core.go:298", after := #[{ on := 13, ground := Ground.data }], guard := none }) (v := ?_) rfl (by kernel_rfl) (by kernel_rfl) (by kernel_rfl) (fun _ _ _ h => h) (Or.inl ⟨by rfl, ?_⟩) hH ?_
          rotate_left
          · intro w hSw; (try dsimp only at hSw); go_simp <;> with_reducible rfl
          try simp only [Act.put, List.setIfInBounds_toArray, List.set_cons_zero, List.set_cons_succ]
          refine wpAnyH_take (i := 15) (oi := { dst := some 74, op := Op.load 89 (Operand.tmp 5), type := 89, pos := "core.go:298", after := #[], guard := none }) (v := ?_) rfl (by kernel_rfl) (by kernel_rfl) (by kernel_rfl) (fun _ _ _ h => h) (Or.inl ⟨by rfl, ?_⟩) hH ?_
          rotate_left
          · intro w hSw; (try dsimp only at hSw); go_simp <;> with_reducible rfl
          try simp only [Act.put, List.setIfInBounds_toArray, List.set_cons_zero, List.set_cons_succ]
          refine wpAnyH_ready (rs := [10]) (by kernel_rfl) (by simp) ?_
          refine AllReadyH.cons (o := { dst := some 69, op := Op.call { callee := Callee.value (Operand.func 34), args := #[Operand.tmp 66, Operand.tmp 68], argTypes := #[36, 3] }, type := 3, pos := "core.go:298", after := #[{ on := 7, ground := Ground.data }, { on := 9, ground := Ground.data }], guard := none }) rfl (fun K hK => ?_) AllReadyH.nil
          go_simp
          go_at_call 34
          refine (SZ.out _ (HRW.out _ (by first | exact hG | exact hG.drew))).mono ?_
          rintro ev z_Size ⟨rfl, hf0⟩
          (first | replace hU := hf0.heap hU (fun e => e) | replace hU := hf0.heap (k := u) hU (fun e => e))
          (first | replace hM := hM.fr hf0 | replace hM := (Memo.drew hM).fr hf0)
          (first | replace hG := hG.trans hf0 (fun _ e => e) (fun _ _ e => e.elim) | replace hG := hG.drew.trans hf0 (fun _ e => e) (fun _ _ e => e.elim))
          clear hf0
          go_simp
          refine hK.out _ _ ?_ (fun hH => ?_)
          · (first | exact HKR.out _ hG | exact HKR.out _ hG.drew | go_keep)
          clear hK K
          try simp only [Act.put, List.setIfInBounds_toArray, List.set_cons_zero, List.set_cons_succ]
          refine wpAnyH_take (i := 11) (oi := { dst := some 70, op := Op.binOp BinOp.add 3 (Operand.tmp 61) (Operand.tmp 69) 3, type := 3, pos := "core.go:298", after := #[{ on := 2, ground := Ground.data }, { on := 10, ground := Ground.data }], guard := none }) (v := ?_) rfl (by kernel_rfl) (by kernel_rfl) (by kernel_rfl) (fun _ _ _ h => h) (Or.inl ⟨by rfl, ?_⟩) hH ?_
          rotate_left
          · intro w hSw; (try dsimp only at hSw); go_simp <;> with_reducible rfl
          try simp only [Act.put, List.setIfInBounds_toArray, List.set_cons_zero, List.set_cons_succ]
          refine wpAnyH_ready (rs := [16]) (by kernel_rfl) (by simp) ?_
          refine AllReadyH.cons (o := { dst := some 75, op := Op.call { callee := Callee.value (Operand.func 29), args := #[Operand.tmp 71, Operand.tmp 73, Operand.tmp 74], argTypes := #[83, 3, 89] }, type := 89, pos := "core.go:298", after := #[{ on := 12, ground := Ground.data }, { on := 14, ground := Ground.data }, { on := 15, ground := Ground.data }, { on := 10, ground := Ground.chain }], guard := none }) rfl (fun K hK => ?_) AllReadyH.nil
          go_simp
          go_at_call 29
          refine (IHA.out _ (HRW.out _ (by first | exact hG | exact hG.drew)) (by first | exact hM | exact Memo.drew hM)).mono ?_
          rintro ev zA ⟨rfl, hf9, hm9⟩
          (first | replace hU := hf9.heap hU huM | replace hU := hf9.heap (k := u) hU huM)
          replace hM := hm9
          (first | replace hG := hG.trans hf9 (fun _ e => e) hsub | replace hG := hG.drew.trans hf9 (fun _ e => e) hsub)
          clear hf9 hm9
          go_simp
          refine hK.out _ _ ?_ (fun hH => ?_)
          · (first | exact HKR.out _ hG | exact HKR.out _ hG.drew | go_keep)
          clear hK K
          try simp only [Act.put, List.setIfInBounds_toArray, List.set_cons_zero, List.set_cons_succ]
          refine wpAnyH_ready (rs := [17]) (by kernel_rfl) (by simp) ?_
          refine AllReadyH.cons (o := { dst := some 76, op := Op.call { callee := Callee.value (Operand.func 29), args := #[Operand.tmp 59, Operand.tmp 70, Operand.tmp 75], argTypes := #[83, 3, 89] }, type := 89, pos := "core.go:298", after := #[{ on := 0, ground := Ground.data }, { on := 11, ground := Ground.data }, { on := 16, ground := Ground.data }, { on := 16, ground := Ground.chain }], guard := none }) rfl (fun K hK => ?_) AllReadyH.nil
          go_simp
          go_at_call 29
          refine (IHB.out _ (HRW.out _ (by first | exact hG | exact hG.drew)) (by first | exact hM | exact Memo.drew hM)).mono ?_
          rintro ev zB ⟨rfl, hf9, hm9⟩
          (first | replace hU := hf9.heap hU huM | replace hU := hf9.heap (k := u) hU huM)
          replace hM := hm9
          (first | replace hG := hG.trans hf9 (fun _ e => e) hsub | replace hG := hG.drew.trans hf9 (fun _ e => e) hsub)
          clear hf9 hm9
          go_simp
          refine hK.out _ _ ?_ (fun hH => ?_)
          · (first | exact HKR.out _ hG | exact HKR.out _ hG.drew | go_keep)
          clear hK K
          try simp only [Act.put, List.setIfInBounds_toArray, List.set_cons_zero, List.set_cons_succ]
          refine wpAnyH_ready (rs := [18]) (by kernel_rfl) (by simp) ?_
          refine AllReadyH.cons (o := { dst := none, op := Op.store 89 (Operand.tmp 11) (Operand.tmp 76), type := 0, pos := "core.go:298", after := #[{ on := 17, ground := Ground.data }, { on := 17, ground := Ground.chain }, { on := 0, ground := Ground.phase }, { on := 1, ground := Ground.phase }, { on := 2, ground := Ground.phase }, { on := 3, ground := Ground.phase }, { on := 4, ground := Ground.phase }, { on := 5, ground := Ground.phase }, { on := 6, ground := Ground.phase }, { on := 7, ground := Ground.phase }, { on := 8, ground := Ground.phase }, { on := 9, ground := Ground.phase }, { on := 10, ground := Ground.phase }, { on := 11, ground := Ground.phase }, { on := 12, ground := Ground.phase }, { on := 13, ground := Ground.phase }, { on := 14, ground := Ground.phase }, { on := 15, ground := Ground.phase }, { on := 16, ground := Ground.phase }, { on := 17, ground := Ground.phase }], guard := none }) rfl (fun K hK => ?_) AllReadyH.nil
          have x0 := cell_of hU 0 (v := .int .u64 (lo S)) rfl
          have x1 := cell_of hU 1 (v := .int .u64 (hi S)) rfl
          have x2 := free_of hU 0
          have x3 := free_of hU 1
          go_simp
          generalize hV9 : World.setCell _ _ _ = vE
          clear x0 x1 x2 x3
          replace hU : vE.heap[u]? = some (.cells #[.int .u64 (lo O), .int .u64 (hi O)] 89 (0, 0)) := by rw [← hV9]; exact set2 hU _ _
          replace hG : Fr (fun q => q = M ∨ q = u) W5 vE := by rw [← hV9]; exact hG.two (fun _ => Or.inr rfl) _ _
          replace hM : Memo vE M (c + cost ws.length A + cost ws.length B) N ws.length (hitW ws) := by rw [← hV9]; exact hM.two huM _ _
          clear hV9
          refine hK.out _ _ ?_ (fun hH => ?_)
          · (first | exact HKR.out _ hG | exact HKR.out _ hG.drew | go_keep)
          clear hK K
          refine wpAnyH_done (by kernel_rfl) ?_ _
          go_wp2_with fail
          go_meet
          exact HO.out ▸ HCK.out ▸ ⟨hU, (by first | exact hG | exact hG.drew), (by first | exact hM | exact Memo.drew hM)⟩
        | alt p A B =>
          simp only [kindT, placeT] at hkd hpd
          subst hkd hpd
          have hdA : N.drop (a + 1) = A.flat ++ (B.flat ++ rest) := by have := HD.out; simpa [kidsT] using this
          have hdB : N.drop (a + 1 + A.flat.length) = B.flat ++ rest := by
            have := congrArg (List.drop A.flat.length) hdA
            simpa [List.drop_drop] using this
          have hposA := A.pos
          have hposB := B.pos
          have hfl : a + (1 + (A.flat.length + B.flat.length)) ≤ n := by have := HLEN.out; simp [Tr.flat] at this; omega
          have hNn := HN.out
          have lvA : ∀ p ∈ A.leaves, 0 ≤ p ∧ p < P := fun p hp => HLV.out p (List.mem_append.2 (Or.inl hp))
          have lvB : ∀ p ∈ B.leaves, 0 ≤ p ∧ p < P := fun p hp => HLV.out p (List.mem_append.2 (Or.inr hp))
          have hcc : c + (1 + cost ws.length A + cost ws.length B) ≤ 4611686018427387904 := HC.out
          have SZ := Lib.hid fun (w' : World) (hR' : Rd w' R M (.slice (some ⟨ng, no, none⟩) n nc) pv wv wi mm bv N P ws) => (show Calls Try.prog 34 #[.slice (some ⟨ng, no, none⟩) n nc, .int .i64 ((a + 1 : Nat) : Int)] w' fun e w'' => e = .returned (.int .i64 (A.flat.length : Nat)) ∧ Fr (fun _ => False) w' w'' by
            have h := csize_at hR'.nodes HL.out (a + 1) (by omega)
            rw [hdA, sz_flat] at h
            exact h)
          have IHA := Lib.hid fun (w' : World) (hR' : Rd w' R M (.slice (some ⟨ng, no, none⟩) n nc) pv wv wi mm bv N P ws) (hM' : Memo w' M c N ws.length (hitW ws)) => IH.out A (by simp [kidsT]) w' R M _ pv wv wi mm bv N P ws (a + 1) c (B.flat ++ rest) S hR' hM' HS.out hdA HL.out hw lvA (by omega)
          have IHB := Lib.hid fun (w' : World) (hR' : Rd w' R M (.slice (some ⟨ng, no, none⟩) n nc) pv wv wi mm bv N P ws) (hM' : Memo w' M (c + cost ws.length A) N ws.length (hitW ws)) => IH.out B (by simp [kidsT]) w' R M _ pv wv wi mm bv N P ws (a + 1 + A.flat.length) (c + cost ws.length A) rest S hR' hM' HS.out hdB HL.out hw lvB (by omega)
          have hw1 : IntKind.i64.wrap ((a : Int) + 1) = ((a + 1 : Nat) : Int) := by rw [IntWalk.i64_in _ (by omega)]; omega
          have hw2 : IntKind.i64.wrap (((a + 1 : Nat) : Int) + ((A.flat.length : Nat) : Int)) = ((a + 1 + A.flat.length : Nat) : Int) := by rw [IntWalk.i64_in _ (by omega)]; omega
          have HKR := Lib.hid fun (w' : World) (h : Fr (fun q => q = M ∨ q = u) W5 w') => (show w'.cell? ⟨R, 0, none⟩ = some (.slice (some ⟨ng, no, none⟩) n nc) ∧ w'.cell? ⟨k, 0, none⟩ = some (.int .u64 (lo S)) ∧ w'.cell? ⟨k, 1, none⟩ = some (.int .u64 (hi S)) from
            ⟨cell_of (HRW.out w' h).own 0 rfl, cell_of (HKW.out w' h) 0 rfl, cell_of (HKW.out w' h) 1 rfl⟩)
          generalize A.flat.length = sa at *
          generalize ((a + 1 : Nat) : Int) = a1 at *
          generalize ((a + 1 + sa : Nat) : Int) = a2 at *
          clear hdA hdB hposA hposB hfl hNn lvA lvB hcc
          unfold mk at *
          have MOR := Lib.hid fun w' => mor_ok (sem ws.length (hitW ws) A S) (sem ws.length (hitW ws) B S) w'
          unfold mk at MOR
          obtain ⟨O, hO⟩ : ∃ O, O = fun j => sem ws.length (hitW ws) A S j || sem ws.length (hitW ws) B S j := ⟨_, rfl⟩
          rw [← hO] at MOR
          have HO := hid (show sem ws.length (hitW ws) (.alt pd A B) S = O from hO ▸ rfl)
          obtain ⟨O1, hO1⟩ : ∃ O1, O1 = sem ws.length (hitW ws) A S := ⟨_, rfl⟩
          obtain ⟨O2, hO2⟩ : ∃ O2, O2 = sem ws.length (hitW ws) B S := ⟨_, rfl⟩
          rw [← hO1] at IHA MOR
          rw [← hO2] at IHB MOR
          have hck : c + cost ws.length A + cost ws.length B = c + costK ws.length (.alt pd A B) := by simp [costK]; omega
          have HCK := hid hck
          clear hO hO1 hO2 hck d0
          have d0 := cell_of GD.out 0 (v := .int .u8 4) rfl
          go_wp2_with fail
          refine wp_region_held_drew (S := (fun w' => w'.cell? ⟨R, 0, none⟩ = some (.slice (some ⟨ng, no, none⟩) n nc) ∧ w'.cell? ⟨k, 0, none⟩ = some (.int .u64 (lo S)) ∧ w'.cell? ⟨k, 1, none⟩ = some (.int .u64 (hi S)))) (by kernel_rfl) ?_ (fun hH => ?_)
          · (first | exact HKR.out _ hG | exact HKR.out _ hG.drew | go_keep)
          refine wpAnyH_take (i := 0) (oi := { dst := some 79, op := Op.move (Operand.tmp 0), type := 83, pos := "core.go:300", after := #[], guard := none }) (v := ?_) rfl (by kernel_rfl) (by kernel_rfl) (by kernel_rfl) (fun _ _ _ h => h) (Or.inl ⟨by rfl, ?_⟩) hH ?_
          rotate_left
          · intro w hSw; (try dsimp only at hSw); go_simp <;> with_reducible rfl
          try simp only [Act.put, List.setIfInBounds_toArray, List.set_cons_zero, List.set_cons_succ]
          refine wpAnyH_take (i := 1) (oi := { dst := some 80, op := Op.move (Operand.tmp 1), type := 3, pos := "core.go:300", after := #[], guard := none }) (v := ?_) rfl (by kernel_rfl) (by kernel_rfl) (by kernel_rfl) (fun _ _ _ h => h) (Or.inl ⟨by rfl, ?_⟩) hH ?_
          rotate_left
          · intro w hSw; (try dsimp only at hSw); go_simp <;> with_reducible rfl
          try simp only [Act.put, List.setIfInBounds_toArray, List.set_cons_zero, List.set_cons_succ]
          refine wpAnyH_take (i := 2) (oi := { dst := some 81, op := Op.binOp BinOp.add 3 (Operand.tmp 80) (Operand.const (Value.int IntKind.i64 1)) 3, type := 3, pos := "core.go:300", after := #[{ on := 1, ground := Ground.data }], guard := none }) (v := ?_) rfl (by kernel_rfl) (by kernel_rfl) (by kernel_rfl) (fun _ _ _ h => h) (Or.inl ⟨by rfl, ?_⟩) hH ?_
          rotate_left
          · intro w hSw; (try dsimp only at hSw); go_simp <;> with_reducible rfl
          try simp only [Act.put, List.setIfInBounds_toArray, List.set_cons_zero, List.set_cons_succ]
          refine wpAnyH_take (i := 3) (oi := { dst := some 82, op := Op.load 89 (Operand.tmp 5), type := 89, pos := "core.go:300", after := #[], guard := none }) (v := ?_) rfl (by kernel_rfl) (by kernel_rfl) (by kernel_rfl) (fun _ _ _ h => h) (Or.inl ⟨by rfl, ?_⟩) hH ?_
          rotate_left
          · intro w hSw; (try dsimp only at hSw); go_simp <;> with_reducible rfl
          try simp only [Act.put, List.setIfInBounds_toArray, List.set_cons_zero, List.set_cons_succ]
          refine wpAnyH_take (i := 5) (oi := { dst := some 84, op := Op.move (Operand.tmp 0), type := 83, pos := "core.go:300", after := #[], guard := none }) (v := ?_) rfl (by kernel_rfl) (by kernel_rfl) (by kernel_rfl) (fun _ _ _ h => h) (Or.inl ⟨by rfl, ?_⟩) hH ?_
          rotate_left
          · intro w hSw; (try dsimp only at hSw); go_simp <;> with_reducible rfl
          try simp only [Act.put, List.setIfInBounds_toArray, List.set_cons_zero, List.set_cons_succ]
          refine wpAnyH_take (i := 6) (oi := { dst := some 85, op := Op.move (Operand.tmp 1), type := 3, pos := "core.go:300", after := #[], guard := none }) (v := ?_) rfl (by kernel_rfl) (by kernel_rfl) (by kernel_rfl) (fun _ _ _ h => h) (Or.inl ⟨by rfl, ?_⟩) hH ?_
          rotate_left
          · intro w hSw; (try dsimp only at hSw); go_simp <;> with_reducible rfl
          try simp only [Act.put, List.setIfInBounds_toArray, List.set_cons_zero, List.set_cons_succ]
          refine wpAnyH_take (i := 7) (oi := { dst := some 86, op := Op.binOp BinOp.add 3 (Operand.tmp 85) (Operand.const (Value.int IntKind.i64 1)) 3, type := 3, pos := "core.go:300", after := #[{ on := 6, ground := Ground.data }], guard := none }) (v := ?_) rfl (by kernel_rfl) (by kernel_rfl) (by kernel_rfl) (fun _ _ _ h => h) (Or.inl ⟨by rfl, ?_⟩) hH ?_
          rotate_left
          · intro w hSw; (try dsimp only at hSw); go_simp <;> with_reducible rfl
          try simp only [Act.put, List.setIfInBounds_toArray, List.set_cons_zero, List.set_cons_succ]
          refine wpAnyH_take (i := 8) (oi := { dst := some 87, op := Op.move (Operand.tmp 0), type := 83, pos := "core.go:300", after := #[], guard := none }) (v := ?_) rfl (by kernel_rfl) (by kernel_rfl) (by kernel_rfl) (fun _ _ _ h => h) (Or.inl ⟨by rfl, ?_⟩) hH ?_
          rotate_left
          · intro w hSw; (try dsimp only at hSw); go_simp <;> with_reducible rfl
          try simp only [Act.put, List.setIfInBounds_toArray, List.set_cons_zero, List.set_cons_succ]
          refine wpAnyH_take (i := 9) (oi := { dst := some 88, op := Op.nilCheck (Operand.tmp 87), type := 0, pos := "core.go:300", after := #[{ on := 8, ground := Ground.data }], guard := none }) (v := ?_) rfl (by kernel_rfl) (by kernel_rfl) (by kernel_rfl) (fun _ _ _ h => h) (Or.inl ⟨by rfl, ?_⟩) hH ?_
          rotate_left
          · intro w hSw; (try dsimp only at hSw); go_simp <;> with_reducible rfl
          try simp only [Act.put, List.setIfInBounds_toArray, List.set_cons_zero, List.set_cons_succ]
          refine wpAnyH_take (i := 10) (oi := { dst := some 89, op := Op.fieldAddr 86 (Operand.tmp 88) 0, type := 0, pos := "core.go:300", after := #[{ on := 9, ground := Ground.data }], guard := none }) (v := ?_) rfl (by kernel_rfl) (by kernel_rfl) (by kernel_rfl) (fun _ _ _ h => h) (Or.inl ⟨by rfl, ?_⟩) hH ?_
          rotate_left
          · intro w hSw; (try dsimp only at hSw); go_simp <;> with_reducible rfl
          try simp only [Act.put, List.setIfInBounds_toArray, List.set_cons_zero, List.set_cons_succ]
          refine wpAnyH_take (i := 11) (oi := { dst := some 90, op := Op.fieldAddr 39 (Operand.tmp 89) 0, type := 0, pos := "core.go:300", after := #[{ on := 10, ground := Ground.data }], guard := none }) (v := ?_) rfl (by kernel_rfl) (by kernel_rfl) (by kernel_rfl) (fun _ _ _ h => h) (Or.inl ⟨by rfl, ?_⟩) hH ?_
          rotate_left
          · intro w hSw; (try dsimp only at hSw); go_simp <;> with_reducible rfl
          try simp only [Act.put, List.setIfInBounds_toArray, List.set_cons_zero, List.set_cons_succ]
          refine wpAnyH_take (i := 12) (oi := { dst := some 91, op := Op.load 36 (Operand.tmp 90), type := 36, pos := "core.go:300", after := #[{ on := 11, ground := Ground.data }], guard := none }) (v := ?_) rfl (by kernel_rfl) (by kernel_rfl) (by kernel_rfl) (fun _ _ _ h => h) (Or.inl ⟨by rfl, ?_⟩) hH ?_
          rotate_left
          · intro w hSw; (try dsimp only at hSw); go_simp <;> with_reducible rfl
          try simp only [Act.put, List.setIfInBounds_toArray, List.set_cons_zero, List.set_cons_succ]
          refine wpAnyH_take (i := 13) (oi := { dst := some 92, op := Op.move (Operand.tmp 1), type := 3, pos := "core.go:300", after := #[], guard := none }) (v := ?_) rfl (by kernel_rfl) (by kernel_rfl) (by kernel_rfl) (fun _ _ _ h => h) (Or.inl ⟨by rfl, ?_⟩) hH ?_
          rotate_left
          · intro w hSw; (try dsimp only at hSw); go_simp <;> with_reducible rfl
          try simp only [Act.put, List.setIfInBounds_toArray, List.set_cons_zero, List.set_cons_succ]
          refine wpAnyH_take (i := 14) (oi := { dst := some 93, op := Op.binOp BinOp.add 3 (Operand.tmp 92) (Operand.const (Value.int IntKind.i64 1)) 3, type := 3, pos := "core.go:300", after := #[{ on := 13, ground := Ground.data }], guard := none }) (v := ?_) rfl (by kernel_rfl) (by kernel_rfl) (by kernel_rfl) (fun _ _ _ h => h) (Or.inl ⟨by rfl, ?_⟩) hH ?_
          rotate_left
          · intro w hSw; (try dsimp only at hSw); go_simp <;> with_reducible rfl
          try simp only [Act.put, List.setIfInBounds_toArray, List.set_cons_zero, List.set_cons_succ]
          refine wpAnyH_take (i := 17) (oi := { dst := some 96, op := Op.load 89 (Operand.tmp 5), type := 89, pos := "core.go:300", after := #[], guard := none }) (v := ?_) rfl (by kernel_rfl) (by kernel_rfl) (by kernel_rfl) (fun _ _ _ h => h) (Or.inl ⟨by rfl, ?_⟩) hH ?_
          rotate_left
          · intro w hSw; (try dsimp only at hSw); go_simp <;> with_reducible rfl
          try simp only [Act.put, List.setIfInBounds_toArray, List.set_cons_zero, List.set_cons_succ]
          refine wpAnyH_ready (rs := [4]) (by kernel_rfl) (by simp) ?_
          refine AllReadyH.cons (o := { dst := some 83, op := Op.call { callee := Callee.value (Operand.func 29), args := #[Operand.tmp 79, Operand.tmp 81, Operand.tmp 82], argTypes := #[83, 3, 89] }, type := 89, pos := "core.go:300", after := #[{ on := 0, ground := Ground.data }, { on := 2, ground := Ground.data }, { on := 3, ground := Ground.data }], guard := none }) rfl (fun K hK => ?_) AllReadyH.nil
          go_simp
          go_at_call 29
          refine (IHA.out _ (HRW.out _ (by first | exact hG | exact hG.drew)) (by first | exact hM | exact Memo.drew hM)).mono ?_
          rintro ev zA ⟨rfl, hf9, hm9⟩
          (first | replace hU := hf9.heap hU huM | replace hU := hf9.heap (k := u) hU huM)
          replace hM := hm9
          (first | replace hG := hG.trans hf9 (fun _ e => e) hsub | replace hG := hG.drew.trans hf9 (fun _ e => e) hsub)
          clear hf9 hm9
          go_simp
          refine hK.out _ _ ?_ (fun hH => ?_)
          · (first | exact HKR.out _ hG | exact HKR.out _ hG.drew | go_keep)
          clear hK K
          try simp only [Act.put, List.setIfInBounds_toArray, List.set_cons_zero, List.set_cons_succ]
          refine wpAnyH_ready (rs := [15]) (by kernel_rfl) (by simp) ?_
          refine AllReadyH.cons (o := { dst := some 94, op := Op.call { callee := Callee.value (Operand.func 34), args := #[Operand.tmp 91, Operand.tmp 93], argTypes := #[36, 3] }, type := 3, pos := "core.go:300", after := #[{ on := 12, ground := Ground.data }, { on := 14, ground := Ground.data }, { on := 4, ground := Ground.chain }], guard := none }) rfl (fun K hK => ?_) AllReadyH.nil
          go_simp
          go_at_call 34
          refine (SZ.out _ (HRW.out _ (by first | exact hG | exact hG.drew))).mono ?_
          rintro ev z4_Size ⟨rfl, hf0⟩
          (first | replace hU := hf0.heap hU (fun e => e) | replace hU := hf0.heap (k := u) hU (fun e => e))
          (first | replace hM := hM.fr hf0 | replace hM := (Memo.drew hM).fr hf0)
          (first | replace hG := hG.trans hf0 (fun _ e => e) (fun _ _ e => e.elim) | replace hG := hG.drew.trans hf0 (fun _ e => e) (fun _ _ e => e.elim))
          clear hf0
          go_simp
          refine hK.out _ _ ?_ (fun hH => ?_)
          · (first | exact HKR.out _ hG | exact HKR.out _ hG.drew | go_keep)
          clear hK K
          try simp only [Act.put, List.setIfInBounds_toArray, List.set_cons_zero, List.set_cons_succ]
          refine wpAnyH_take (i := 16) (oi := { dst := some 95, op := Op.binOp BinOp.add 3 (Operand.tmp 86) (Operand.tmp 94) 3, type := 3, pos := "core.go:300", after := #[{ on := 7, ground := Ground.data }, { on := 15, ground := Ground.data }], guard := none }) (v := ?_) rfl (by kernel_rfl) (by kernel_rfl) (by kernel_rfl) (fun _ _ _ h => h) (Or.inl ⟨by rfl, ?_⟩) hH ?_
          rotate_left
          · intro w hSw; (try dsimp only at hSw); go_simp <;> with_reducible rfl
          try simp only [Act.put, List.setIfInBounds_toArray, List.set_cons_zero, List.set_cons_succ]
          refine wpAnyH_ready (rs := [18]) (by kernel_rfl) (by simp) ?_
          refine AllReadyH.cons (o := { dst := some 97, op := Op.call { callee := Callee.value (Operand.func 29), args := #[Operand.tmp 84, Operand.tmp 95, Operand.tmp 96], argTypes := #[83, 3, 89] }, type := 89, pos := "core.go:300", after := #[{ on := 5, ground := Ground.data }, { on := 16, ground := Ground.data }, { on := 17, ground := Ground.data }, { on := 15, ground := Ground.chain }], guard := none }) rfl (fun K hK => ?_) AllReadyH.nil
          go_simp
          go_at_call 29
          refine (IHB.out _ (HRW.out _ (by first | exact hG | exact hG.drew)) (by first | exact hM | exact Memo.drew hM)).mono ?_
          rintro ev zB ⟨rfl, hf9, hm9⟩
          (first | replace hU := hf9.heap hU huM | replace hU := hf9.heap (k := u) hU huM)
          replace hM := hm9
          (first | replace hG := hG.trans hf9 (fun _ e => e) hsub | replace hG := hG.drew.trans hf9 (fun _ e => e) hsub)
          clear hf9 hm9
          go_simp
          refine hK.out _ _ ?_ (fun hH => ?_)
          · (first | exact HKR.out _ hG | exact HKR.out _ hG.drew | go_keep)
          clear hK K
          try simp only [Act.put, List.setIfInBounds_toArray, List.set_cons_zero, List.set_cons_succ]
          refine wpAnyH_ready (rs := [19]) (by kernel_rfl) (by simp) ?_
          refine AllReadyH.cons (o := { dst := some 98, op := Op.call { callee := Callee.value (Operand.func 41), args := #[Operand.tmp 83, Operand.tmp 97], argTypes := #[89, 89] }, type := 89, pos := "core.go:300", after := #[{ on := 4, ground := Ground.data }, { on := 18, ground := Ground.data }, { on := 18, ground := Ground.chain }], guard := none }) rfl (fun K hK => ?_) AllReadyH.nil
          go_simp
          go_at_call 41
          refine (MOR.out _).mono ?_
          rintro ev z4_15_18_mor ⟨rfl, hf0⟩
          (first | replace hU := hf0.heap hU (fun e => e) | replace hU := hf0.heap (k := u) hU (fun e => e))
          (first | replace hM := hM.fr hf0 | replace hM := (Memo.drew hM).fr hf0)
          (first | replace hG := hG.trans hf0 (fun _ e => e) (fun _ _ e => e.elim) | replace hG := hG.drew.trans hf0 (fun _ e => e) (fun _ _ e => e.elim))
          clear hf0
          go_simp
          refine hK.out _ _ ?_ (fun hH => ?_)
          · (first | exact HKR.out _ hG | exact HKR.out _ hG.drew | go_keep)
          clear hK K
          try simp only [Act.put, List.setIfInBounds_toArray, List.set_cons_zero, List.set_cons_succ]
          refine wpAnyH_ready (rs := [20]) (by kernel_rfl) (by simp) ?_
          refine AllReadyH.cons (o := { dst := none, op := Op.store 89 (Operand.tmp 11) (Operand.tmp 98), type := 0, pos := "core.go:300", after := #[{ on := 19, ground := Ground.data }, { on := 19, ground := Ground.chain }, { on := 0, ground := Ground.phase }, { on := 1, ground := Ground.phase }, { on := 2, ground := Ground.phase }, { on := 3, ground := Ground.phase }, { on := 4, ground := Ground.phase }, { on := 5, ground := Ground.phase }, { on := 6, ground := Ground.phase }, { on := 7, ground := Ground.phase }, { on := 8, ground := Ground.phase }, { on := 9, ground := Ground.phase }, { on := 10, ground := Ground.phase }, { on := 11, ground := Ground.phase }, { on := 12, ground := Ground.phase }, { on := 13, ground := Ground.phase }, { on := 14, ground := Ground.phase }, { on := 15, ground := Ground.phase }, { on := 16, ground := Ground.phase }, { on := 17, ground := Ground.phase }, { on := 18, ground := Ground.phase }, { on := 19, ground := Ground.phase }], guard := none }) rfl (fun K hK => ?_) AllReadyH.nil
          have x0 := cell_of hU 0 (v := .int .u64 (lo S)) rfl
          have x1 := cell_of hU 1 (v := .int .u64 (hi S)) rfl
          have x2 := free_of hU 0
          have x3 := free_of hU 1
          go_simp
          generalize hV9 : World.setCell _ _ _ = vE
          clear x0 x1 x2 x3
          replace hU : vE.heap[u]? = some (.cells #[.int .u64 (lo O), .int .u64 (hi O)] 89 (0, 0)) := by rw [← hV9]; exact set2 hU _ _
          replace hG : Fr (fun q => q = M ∨ q = u) W5 vE := by rw [← hV9]; exact hG.two (fun _ => Or.inr rfl) _ _
          replace hM : Memo vE M (c + cost ws.length A + cost ws.length B) N ws.length (hitW ws) := by rw [← hV9]; exact hM.two huM _ _
          clear hV9
          refine hK.out _ _ ?_ (fun hH => ?_)
          · (first | exact HKR.out _ hG | exact HKR.out _ hG.drew | go_keep)
          clear hK K
          refine wpAnyH_done (by kernel_rfl) ?_ _
          go_wp2_with fail
          go_meet
          exact HO.out ▸ HCK.out ▸ ⟨hU, (by first | exact hG | exact hG.drew), (by first | exact hM | exact Memo.drew hM)⟩
        | loop p A =>
          simp only [kindT, placeT] at hkd hpd
          subst hkd hpd
          have hdA : N.drop (a + 1) = A.flat ++ rest := by have := HD.out; simpa [kidsT] using this
          have hcc : c + (1 + (ws.length + 3) * cost ws.length A) ≤ 4611686018427387904 := HC.out
          have hw1 : IntKind.i64.wrap ((a : Int) + 1) = ((a + 1 : Nat) : Int) := by rw [IntWalk.i64_in _ (by omega)]; omega
          have hw3 : (a : Int) + 1 = ((a + 1 : Nat) : Int) := by omega
          have LP := Lib.hid fun (w' : World) (hR' : Rd w' R M (.slice (some ⟨ng, no, none⟩) n nc) pv wv wi mm bv N P ws) (hM' : Memo w' M c N ws.length (hitW ws)) => rloop_ok A (IH.out A (by simp [kidsT])) w' R M _ pv wv wi mm bv N P ws (a + 1) c rest S hR' hM' HS.out hdA HL.out hw (fun p hp => HLV.out p hp) (by omega)
          unfold mk at LP
          rw [← hw3] at LP
          obtain ⟨O, hO⟩ : ∃ O, O = sem ws.length (hitW ws) (.loop 0 A) S := ⟨_, rfl⟩
          rw [← hO] at LP
          have HO := hid (show sem ws.length (hitW ws) (.loop pd A) S = O from hO ▸ rfl)
          have k0 := cell_of GK5.out 0 (v := .int .u64 (lo S)) rfl
          have k1 := cell_of GK5.out 1 (v := .int .u64 (hi S)) rfl
          have RR := hid (HRW.out _ hG)
          have HMM := hid hM
          have HUU := hid hU
          clear hO hdA hcc hw1 hw3 hG hM hU
          go_wp2_with (go_at_call 42; refine (LP.out _ RR.out HMM.out).mono ?_; rintro ev z9 ⟨rfl, hf9, hm9⟩; have HU9 := hid (hf9.heap HUU.out huM); have HF9 := hid hf9; have HM9 := hid hm9; have x0 := cell_of HU9.out 0 (v := .int .u64 (lo S)) rfl; have x1 := cell_of HU9.out 1 (v := .int .u64 (hi S)) rfl; have x2 := free_of HU9.out 0; have x3 := free_of HU9.out 1; clear hf9 hm9)
          go_meet
          exact HO.out ▸ ⟨set2 HU9.out _ _, (HF9.out.mono hsub).two (fun _ => Or.inr rfl) _ _, HM9.out.two huM _ _⟩
      case rest =>
        unfold CutO at hcut
        obtain ⟨hU, hG, hM6⟩ := hcut
        obtain ⟨O, hO⟩ : ∃ O, O = sem ws.length (hitW ws) t S := ⟨_, rfl⟩
        rw [← hO] at hU hPut
        obtain ⟨wp, hrun, hMp, hfp⟩ := hPut.out wc.drew _ (Memo.drew hM6) (by have := HC.out; have := HCE.out; omega)
        have HO := hid hO
        have G6 := hid hG
        have GU6 := hid hU
        have GQ6 := hid (hG.heap GQ5.out (fun e => e.elim hqM hqu))
        have GR6 := hid (hG.heap GR5.out (fun e => e.elim hrM hru))
        have RR6 := hid (HRW.out _ hG).own
        have HMP := hid hMp
        have HFP := hid hfp
        have hs16 : wc.cell? ⟨R, 6, none⟩ = some (.map (some M)) ∧ wc.cell? ⟨q, 0, none⟩ = some (.int .i64 a) ∧ wc.cell? ⟨q, 1, none⟩ = some (.int .u64 (lo S)) ∧ wc.cell? ⟨q, 2, none⟩ = some (.int .u64 (hi S)) ∧ wc.cell? ⟨u, 0, none⟩ = some (.int .u64 (lo O)) ∧ wc.cell? ⟨u, 1, none⟩ = some (.int .u64 (hi O)) := ⟨cell_of RR6.out 6 rfl, cell_of GQ6.out 0 rfl, cell_of GQ6.out 1 rfl, cell_of GQ6.out 2 rfl, cell_of GU6.out 0 rfl, cell_of GU6.out 1 rfl⟩
        have hs16' : wp.cell? ⟨R, 6, none⟩ = some (.map (some M)) ∧ wp.cell? ⟨q, 0, none⟩ = some (.int .i64 a) ∧ wp.cell? ⟨q, 1, none⟩ = some (.int .u64 (lo S)) ∧ wp.cell? ⟨q, 2, none⟩ = some (.int .u64 (hi S)) ∧ wp.cell? ⟨u, 0, none⟩ = some (.int .u64 (lo O)) ∧ wp.cell? ⟨u, 1, none⟩ = some (.int .u64 (hi O)) := ⟨cell_of (HFP.out.heap (k := R) RR6.out HR.out.ne) 6 rfl, cell_of (HFP.out.heap (k := q) GQ6.out hqM) 0 rfl, cell_of (HFP.out.heap (k := q) GQ6.out hqM) 1 rfl, cell_of (HFP.out.heap (k := q) GQ6.out hqM) 2 rfl, cell_of (HFP.out.heap (k := u) GU6.out huM) 0 rfl, cell_of (HFP.out.heap (k := u) GU6.out huM) 1 rfl⟩
        have K16 := hid hs16
        have K16P := hid hs16'
        clear hs16 hs16' hU hG hM6 hO hMp hfp
        go_wp2_with fail
        refine wp_region_held_drew (S := (fun w' => w'.cell? ⟨R, 6, none⟩ = some (.map (some M)) ∧ w'.cell? ⟨q, 0, none⟩ = some (.int .i64 a) ∧ w'.cell? ⟨q, 1, none⟩ = some (.int .u64 (lo S)) ∧ w'.cell? ⟨q, 2, none⟩ = some (.int .u64 (hi S)) ∧ w'.cell? ⟨u, 0, none⟩ = some (.int .u64 (lo O)) ∧ w'.cell? ⟨u, 1, none⟩ = some (.int .u64 (hi O)))) (by kernel_rfl) ?_ (fun hH => ?_)
        · (first | exact K16.out | exact K16P.out | go_keep)
        refine wpAnyH_take (i := 0) (oi := { dst := some 106, op := Op.move (Operand.tmp 0), type := 83, pos := "core.go:304", after := #[], guard := none }) (v := ?_) rfl (by kernel_rfl) (by kernel_rfl) (by kernel_rfl) (fun _ _ _ h => h) (Or.inl ⟨by rfl, ?_⟩) hH ?_
        rotate_left
        · intro w hSw; (try dsimp only at hSw); go_simp <;> with_reducible rfl
        try simp only [Act.put, List.setIfInBounds_toArray, List.set_cons_zero, List.set_cons_succ]
        refine wpAnyH_take (i := 1) (oi := { dst := some 107, op := Op.nilCheck (Operand.tmp 106), type := 0, pos := "core.go:304", after := #[{ on := 0, ground := Ground.data }], guard := none }) (v := ?_) rfl (by kernel_rfl) (by kernel_rfl) (by kernel_rfl) (fun _ _ _ h => h) (Or.inl ⟨by rfl, ?_⟩) hH ?_
        rotate_left
        · intro w hSw; (try dsimp only at hSw); go_simp <;> with_reducible rfl
        try simp only [Act.put, List.setIfInBounds_toArray, List.set_cons_zero, List.set_cons_succ]
        refine wpAnyH_take (i := 2) (oi := { dst := some 108, op := Op.fieldAddr 86 (Operand.tmp 107) 2, type := 0, pos := "core.go:304", after := #[{ on := 1, ground := Ground.data }], guard := none }) (v := ?_) rfl (by kernel_rfl) (by kernel_rfl) (by kernel_rfl) (fun _ _ _ h => h) (Or.inl ⟨by rfl, ?_⟩) hH ?_
        rotate_left
        · intro w hSw; (try dsimp only at hSw); go_simp <;> with_reducible rfl
        try simp only [Act.put, List.setIfInBounds_toArray, List.set_cons_zero, List.set_cons_succ]
        refine wpAnyH_take (i := 3) (oi := { dst := some 109, op := Op.load 84 (Operand.tmp 108), type := 84, pos := "core.go:304", after := #[{ on := 2, ground := Ground.data }], guard := none }) (v := ?_) rfl (by kernel_rfl) (by kernel_rfl) (by kernel_rfl) (fun _ _ _ h => h) (Or.inl ⟨by rfl, ?_⟩) hH ?_
        rotate_left
        · intro w hSw; (try dsimp only at hSw); go_simp <;> with_reducible rfl
        try simp only [Act.put, List.setIfInBounds_toArray, List.set_cons_zero, List.set_cons_succ]
        refine wpAnyH_take (i := 4) (oi := { dst := some 110, op := Op.load 108 (Operand.tmp 7), type := 108, pos := "core.go:304", after := #[], guard := none }) (v := ?_) rfl (by kernel_rfl) (by kernel_rfl) (by kernel_rfl) (fun _ _ _ h => h) (Or.inl ⟨by rfl, ?_⟩) hH ?_
        rotate_left
        · intro w hSw; (try dsimp only at hSw); go_simp <;> with_reducible rfl
        try simp only [Act.put, List.setIfInBounds_toArray, List.set_cons_zero, List.set_cons_succ]
        refine wpAnyH_take (i := 5) (oi := { dst := some 111, op := Op.load 89 (Operand.tmp 11), type := 89, pos := "core.go:304", after := #[], guard := none }) (v := ?_) rfl (by kernel_rfl) (by kernel_rfl) (by kernel_rfl) (fun _ _ _ h => h) (Or.inl ⟨by rfl, ?_⟩) hH ?_
        rotate_left
        · intro w hSw; (try dsimp only at hSw); go_simp <;> with_reducible rfl
        try simp only [Act.put, List.setIfInBounds_toArray, List.set_cons_zero, List.set_cons_succ]
        refine wpAnyH_ready (rs := [6]) (by kernel_rfl) (by simp) ?_
        refine AllReadyH.cons (o := { dst := none, op := Op.mapUpdate 84 (Operand.tmp 109) (Operand.tmp 110) (Operand.tmp 111), type := 0, pos := "core.go:304", after := #[{ on := 3, ground := Ground.data }, { on := 4, ground := Ground.data }, { on := 5, ground := Ground.data }, { on := 0, ground := Ground.phase }, { on := 1, ground := Ground.phase }, { on := 2, ground := Ground.phase }, { on := 3, ground := Ground.phase }, { on := 4, ground := Ground.phase }, { on := 5, ground := Ground.phase }], guard := none }) rfl (fun K hK => ?_) AllReadyH.nil
        go_simp
        refine hK.out _ _ ?_ (fun hH => ?_)
        · (first | exact K16.out | exact K16P.out | go_keep)
        clear hK K
        refine wpAnyH_done (by kernel_rfl) ?_ _
        have u0 := cell_of (HFP.out.heap (k := u) GU6.out huM) 0 (v := .int .u64 (lo O)) rfl
        have u1 := cell_of (HFP.out.heap (k := u) GU6.out huM) 1 (v := .int .u64 (hi O)) rfl
        have GRP := hid (HFP.out.heap (k := r) GR6.out hrM)
        have r0 := cell_of GRP.out 0 (v := .int .u64 0) rfl
        have r1 := cell_of GRP.out 1 (v := .int .u64 0) rfl
        have rf0 := free_of GRP.out 0
        have rf1 := free_of GRP.out 1
        have hrw : ¬ r < w.heap.size := by omega
        have FP := hid ((HTW.out _ G6.out.drew).trans' HFP.out)
        have hce : c + costK ws.length t + 1 = c + cost ws.length t := by have := HCE.out; omega
        clear hrun
        go_wp2_with fail
        exact bodyPost_ret (v := .agg #[.int .u64 (lo O), .int .u64 (hi O)]) (by simp [results, Try.results29, go_sem, r0, r1, rf0, rf1, u0, u1]) rfl
          (by rw [← HO.out]; exact ⟨rfl, FP.out.two (fun h => absurd h hrw) _ _, hce ▸ HMP.out.two hrM _ _⟩)
end Go.Proofs.Ytceomkoecidoiaa
