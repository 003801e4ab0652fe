/-
  Own of layer 16 again: the rows that come back are its own.
-/
import Derived.Test.YtceomkoecidoiaaFolOwn
namespace Go.Proofs.Ytceomkoecidoiaa
open Go.RowKit

theorem own_nodes2 {w : World} {B : Nat} {v : Value} {N : List (Int × Int)} (h : w.ownsRow B 69 2 v N.length (nodeL N)) : NodesAt w (fun g => v.ownBlock = some g) v N := by
  rcases owns_form h with ⟨rfl, h0⟩ | ⟨g, cap, rfl, hc, hm, hb, hg⟩
  · exact ⟨none, 0, by rw [h0], by omega, by omega, fun h => by omega⟩
  · refine ⟨_, cap, rfl, hc, by have : maxLen = 9223372036854775807 := rfl; omega, fun _ => ⟨g, 0, rfl, rfl, hg, fun i x hi => ?_⟩⟩
    have hlt : i < N.length := (List.getElem?_eq_some_iff.1 hi).1
    have := nodeL_get N i x hi
    rw [Nat.zero_add]
    exact ⟨by rw [h.cellAt (i * 2) (by omega)]; exact this.1, by rw [h.cellAt (i * 2 + 1) (by omega)]; exact this.2⟩
/-- nodes and places in rows of their own -/
structure OwnTwo (w w' : World) (nv pv : Value) (N : List (Int × Int)) (P : Nat) : Prop where
  nodes : NodesAt w' (fun g => nv.ownBlock = some g) nv N
  new : ∀ q, nv.ownBlock = some q → w.heap.size ≤ q
  places : ∃ B xs, w.heap.size ≤ B ∧ w'.ownsRow B 59 4 pv P xs ∧ ∀ q, nv.ownBlock = some q → q < B

set_option maxRecDepth 100000 in
set_option maxHeartbeats 4000000 in
theorem own2_ok {w : World} {ok : Nat → Prop} {nv pv : Value} {L : List Nat} {wi : Int} {bv : ByteArray} {mm : Int} {N : List (Int × Int)} (hB : NodesAt w ok nv N) (hl : N.length ≤ 250) (hPv : PlacesV w pv L) (hL40 : L.length ≤ 40) (hT : ∀ (i n : Nat), L[i]? = some n → n ≤ 40) :
    Calls Try.prog 9 #[.agg #[nv, pv, .int .i64 wi, .string bv, .int .u8 mm]] w fun e w' => (∃ nv' pa' pc', e = .returned (coreV nv' pa' L.length pc' wi bv mm) ∧ OwnTwo w w' nv' (.slice pa' L.length pc') N L.length) ∧ Fr (fun _ => False) w w' := by
  obtain ⟨i0, z0, hi0, hz0, hz1, hz2, hz3⟩ := info_node
  obtain ⟨i1, z1, hj0, hy0, hy1, hy2, hy3⟩ := info_place
  have hB' := hB
  obtain ⟨ao, nc, rfl, _, _, _⟩ := hB'
  have hP' := hPv
  obtain ⟨pa, pc, rfl, _⟩ := hP'
  obtain ⟨n, hn⟩ : ∃ n, n = N.length := ⟨_, rfl⟩
  obtain ⟨P, hPl⟩ : ∃ P, P = L.length := ⟨_, rfl⟩
  have HB := hid hB
  have HPV := hid hPv
  have HT := hid hT
  rw [← hn] at hl HB ⊢
  rw [← hPl] at hL40 HPV ⊢
  have HN := hid hn
  have HPL := hid hPl
  clear hB hPv hT hn hPl
  go_enter Try.func9, Try.ntmps9
  go_upto_region 2 with fail
  obtain ⟨w1, hw1⟩ : ∃ w1, w1 = ((w.alloc (.cells #[.slice ao n nc, .slice pa P pc, .int .i64 wi, .string bv, .int .u8 mm] 25)).alloc (.cells #[.slice none 0 0, .slice none 0 0, .int .i64 0, .string ⟨#[]⟩, .int .u8 0] 39)).alloc (.cells #[.slice none 0 0, .slice none 0 0, .int .i64 wi, .string bv, .int .u8 mm] 39) := ⟨_, rfl⟩
  obtain ⟨k, hk⟩ : ∃ k, k = w.heap.size := ⟨_, rfl⟩
  obtain ⟨r, hr⟩ : ∃ r, r = w.heap.size + 1 := ⟨_, rfl⟩
  obtain ⟨so, hso⟩ : ∃ so, so = w.heap.size + 1 + 1 := ⟨_, rfl⟩
  rw [← hw1, ← hso, ← hr, ← hk]
  have K1 := hid (show core5 w1 k 25 (.slice ao n nc) (.slice pa P pc) wi bv mm by rw [hw1, hk]; exact heap_old (heap_old (heap_new w _) _) _)
  have R1 := hid (show core5 w1 r 39 (.slice none 0 0) (.slice none 0 0) 0 ⟨#[]⟩ 0 by rw [hw1, hr]; exact heap_old (by simpa [core5] using heap_new (w.alloc _) (.cells _ 39)) _)
  have S1 := hid (show core5 w1 so 39 (.slice none 0 0) (.slice none 0 0) wi bv mm by rw [hw1, hso]; simpa [core5] using heap_new ((w.alloc _).alloc _) (.cells _ 39))
  have F1 := hid (show Fr (fun _ => False) w w1 by rw [hw1]; exact (((Fr.refl _ w).alloc _).alloc _).alloc _)
  have hkr : k < r := by omega
  have hrs : r < so := by omega
  have hkw : w.heap.size ≤ k := by omega
  obtain ⟨B0, hB0⟩ : ∃ B0, B0 = w1.heap.size := ⟨_, rfl⟩
  have hsB : so < B0 := by have := lt_of_block S1.out; omega
  clear hw1 hk hr hso
  go_wp2_with fail
  go_loopw [4] (fun i wr => ∃ j : Nat, j ≤ n ∧ i = .int .i64 j ∧ ∃ v, wr.ownsRow B0 69 2 v j (nodeL (N.take j)) ∧ core5 wr so 39 v (.slice none 0 0) wi bv mm ∧ Fr (fun k => k = so) w1 wr) (fun i _ => n - (intOf i).toNat)
  case atStart => exact ⟨0, Nat.zero_le _, rfl, _, World.ownsRow_nil _ _ _ _, S1.out, Fr.refl _ _⟩
  case round =>
    obtain ⟨j, hj, rfl, v, hown, hS, hF⟩ := hrel
    have HF := hid hF
    have HS := hid hS
    have HOWN := hid hown
    have hFs := hF.size
    have HK := hid (show core5 wr k 25 (.slice ao n nc) (.slice pa P pc) wi bv mm from hF.heap K1.out (by omega))
    clear hF hS hown
    have k0 := cell_of HK.out 0 (v := .slice ao n nc) rfl
    by_cases hjn : j < n
    · have hBw := (HB.out.fr F1.out (fun _ _ e => e) (fun _ h _ => h) (ok' := ok))
      obtain ⟨ng, no, kx, px, rfl, hx, c0, c1, hngl⟩ := nodes_open HN.out HB.out hjn
      have HX := hid hx
      have hwl := F1.out.size
      have hown' : ∀ q, v.ownBlock = some q → B0 ≤ q := fun q e => (HOWN.out.lt q e).1
      have l1 : ∀ w', Fr (fun _ => False) wr w' → w'.cell? ⟨so, 0, none⟩ = some v := fun w' h => cell_of (h.heap HS.out (fun e => e)) 0 rfl
      have l2 : ∀ w', Fr (fun q => v.ownBlock = some q ∨ q = so) wr w' → w'.cell? ⟨k, 0, none⟩ = some (.slice (some ⟨ng, no, none⟩) n nc) := fun w' h => cell_of (h.heap HK.out (fun e => e.elim (fun e => by have := hown' _ e; omega) (fun e => by omega))) 0 rfl
      have l3 : ∀ w', Fr (fun q => v.ownBlock = some q ∨ q = so) wr w' → w'.cell? ⟨ng, no + j * 2, none⟩ = some (.int .u8 kx) := fun w' h => h.cell (HF.out.cell (F1.out.cell c0 (fun e => e)) (by simp only; omega)) (fun e => e.elim (fun e => by have := hown' _ e; simp only at this; omega) (fun e => by simp only at e; omega))
      have l4 : ∀ w', Fr (fun q => v.ownBlock = some q ∨ q = so) wr w' → w'.cell? ⟨ng, no + j * 2 + 1, none⟩ = some (.int .i64 px) := fun w' h => h.cell (HF.out.cell (F1.out.cell c1 (fun e => e)) (by simp only; omega)) (fun e => e.elim (fun e => by have := hown' _ e; simp only at this; omega) (fun e => by simp only at e; omega))
      have hjn' : (j : Int) < n := by omega
      have hj0 : (0 : Int) ≤ j := by omega
      have hq := (Fr.refl (fun _ => False) wr).drew
      have HL1 := hid l1
      clear hBw c0 c1 l1 hx
      go_upto_region 5 with fail
      refine wp_region_held_drew (S := (fun w' => Fr (fun q => v.ownBlock = some q ∨ q = so) wr w')) (by kernel_rfl) ?_ (fun hH => ?_)
      · exact hq.quiet
      refine wpAnyH_take (i := 0) (oi := { dst := some 21, op := Op.fieldAddr 39 (Operand.tmp 3) 0, type := 0, pos := "law.go:19", after := #[], guard := none }) (v := ?_) rfl (by kernel_rfl) (by kernel_rfl) (by kernel_rfl) (fun _ _ _ h => h) (Or.inl ⟨by rfl, ?_⟩) hH ?_
      rotate_left
      · intro w hSw; (try dsimp only at hSw); go_simp <;> with_reducible rfl
      try simp only [Act.put, List.setIfInBounds_toArray, List.set_cons_zero, List.set_cons_succ]
      refine wpAnyH_take (i := 2) (oi := { dst := some 23, op := Op.fieldAddr 25 (Operand.tmp 1) 0, type := 0, pos := "law.go:19", after := #[], guard := none }) (v := ?_) rfl (by kernel_rfl) (by kernel_rfl) (by kernel_rfl) (fun _ _ _ h => h) (Or.inl ⟨by rfl, ?_⟩) hH ?_
      rotate_left
      · intro w hSw; (try dsimp only at hSw); go_simp <;> with_reducible rfl
      try simp only [Act.put, List.setIfInBounds_toArray, List.set_cons_zero, List.set_cons_succ]
      refine wpAnyH_take (i := 3) (oi := { dst := some 24, op := Op.load 22 (Operand.tmp 23), type := 22, pos := "law.go:19", after := #[{ on := 2, ground := Ground.data }], guard := none }) (v := ?_) rfl (by kernel_rfl) (by kernel_rfl) (by kernel_rfl) (fun _ _ _ h => h) (Or.inl ⟨by rfl, ?_⟩) hH ?_
      rotate_left
      · intro w hSw; (try dsimp only at hSw); go_simp <;> with_reducible rfl
      try simp only [Act.put, List.setIfInBounds_toArray, List.set_cons_zero, List.set_cons_succ]
      refine wpAnyH_take (i := 4) (oi := { dst := some 25, op := Op.move (Operand.tmp 4), type := 3, pos := "law.go:19", after := #[], guard := none }) (v := ?_) rfl (by kernel_rfl) (by kernel_rfl) (by kernel_rfl) (fun _ _ _ h => h) (Or.inl ⟨by rfl, ?_⟩) hH ?_
      rotate_left
      · intro w hSw; (try dsimp only at hSw); go_simp <;> with_reducible rfl
      try simp only [Act.put, List.setIfInBounds_toArray, List.set_cons_zero, List.set_cons_succ]
      refine wpAnyH_take (i := 5) (oi := { dst := some 26, op := Op.indexAddr 22 (Operand.tmp 24) (Operand.tmp 25), type := 0, pos := "law.go:19", after := #[{ on := 3, ground := Ground.data }, { on := 4, ground := Ground.data }], guard := none }) (v := ?_) rfl (by kernel_rfl) (by kernel_rfl) (by kernel_rfl) (fun _ _ _ h => h) (Or.inl ⟨by rfl, ?_⟩) hH ?_
      rotate_left
      · intro w hSw; (try dsimp only at hSw); go_simp <;> with_reducible rfl
      try simp only [Act.put, List.setIfInBounds_toArray, List.set_cons_zero, List.set_cons_succ]
      refine wpAnyH_take (i := 6) (oi := { dst := some 27, op := Op.load 77 (Operand.tmp 26), type := 77, pos := "law.go:19", after := #[{ on := 5, ground := Ground.data }], guard := none }) (v := ?_) rfl (by kernel_rfl) (by kernel_rfl) (by kernel_rfl) (fun _ _ _ h => h) (Or.inl ⟨by rfl, ?_⟩) hH ?_
      rotate_left
      · intro w hSw; (try dsimp only at hSw); go_simp <;> with_reducible rfl
      try simp only [Act.put, List.setIfInBounds_toArray, List.set_cons_zero, List.set_cons_succ]
      refine wpAnyH_ready (rs := [1, 7]) (by kernel_rfl) (by simp) ?_
      refine AllReadyH.cons (o := { dst := some 22, op := Op.load 36 (Operand.tmp 21), type := 36, pos := "law.go:19", after := #[{ on := 0, ground := Ground.data }], guard := none }) rfl (fun K hK => ?_) ?_
      ·
        have l1 := HL1.out _ hq
        go_simp
        clear l1
        refine hK.out _ _ ?_ (fun hH => ?_)
        · exact hq.quiet
        clear hK K
        try simp only [Act.put, List.setIfInBounds_toArray, List.set_cons_zero, List.set_cons_succ]
        refine wpAnyH_ready (rs := [7]) (by kernel_rfl) (by simp) ?_
        refine AllReadyH.cons (o := { dst := some 28, op := Op.buildSlice 36 1 #[(0, Operand.tmp 27)], type := 36, pos := "law.go:19", after := #[{ on := 6, ground := Ground.data }], guard := none }) rfl (fun K hK => ?_) AllReadyH.nil
        go_simp
        obtain ⟨wz, hwz⟩ : ∃ wz, wz = (wr.alloc (.cells #[.int .u8 kx, .int .i64 px] 69)).drew := ⟨_, rfl⟩
        obtain ⟨e8, he8⟩ : ∃ e8, e8 = wr.heap.size := ⟨_, rfl⟩
        rw [← hwz, ← he8]
        have hN : wz.heap[e8]? = some (.cells #[.int .u8 kx, .int .i64 px] 69 (0, 0)) := by rw [hwz, he8]; exact heap_new wr _
        have hq : Fr (fun _ => False) wr wz := by rw [hwz]; exact ((Fr.refl _ wr).alloc _).drew
        clear hwz he8
        refine hK.out _ _ ?_ (fun hH => ?_)
        · exact hq.quiet
        clear hK K
        try simp only [Act.put, List.setIfInBounds_toArray, List.set_cons_zero, List.set_cons_succ]
        refine wpAnyH_ready (rs := [8]) (by kernel_rfl) (by simp) ?_
        refine AllReadyH.cons (o := { dst := some 29, op := Op.call { callee := Callee.builtin Builtin.append, args := #[Operand.tmp 22, Operand.tmp 28], argTypes := #[36, 36] }, type := 36, pos := "law.go:19", after := #[{ on := 1, ground := Ground.data }, { on := 7, ground := Ground.data }], guard := none }) rfl (fun K hK => ?_) AllReadyH.nil
        refine step_append_lies _ (by rfl) _ _ _ (by rfl) B0 69 i0 z0 2 16 Try.underlying36 hi0 hz0 hz1 hz2 hz3 (by omega) v j _ (by rfl) (hq.owns HOWN.out (fun _ _ e => e)) ⟨e8, 0, none⟩ 1 1 [.int .u8 kx, .int .i64 px] (by rfl) (by rfl) (World.news_of_block hN) (by simp [Value.oneCell']) (by omega) (by unfold maxLen; omega) (by omega) (by have := hq.size; omega) wz.heap.size rfl ?_
        intro gg cp w9 hown1 hgrow hat hlt9
        have hS9 : core5 w9 so 39 v (.slice none 0 0) wi bv mm := (hgrow.block so (by have := hq.size; omega) (fun e => by have := hown' so e.symm; omega)).trans (hq.heap HS.out (fun e => e))
        have hq9 := hq.quiet.grown (S := fun q => v.ownBlock = some q ∨ q = so) hgrow (fun q e _ => .inl e)
        have s3 := cell_of hS9 0 (v := v) rfl
        have t3 := free_of hS9 0
        refine hK.out _ _ ?_ (fun hH => ?_)
        · exact hq9
        clear hK K
        try simp only [Act.put, List.setIfInBounds_toArray, List.set_cons_zero, List.set_cons_succ]
        refine wpAnyH_take (i := 9) (oi := { dst := some 30, op := Op.fieldAddr 39 (Operand.tmp 3) 0, type := 0, pos := "law.go:19", after := #[{ on := 0, ground := Ground.phase }, { on := 1, ground := Ground.phase }, { on := 2, ground := Ground.phase }, { on := 3, ground := Ground.phase }, { on := 4, ground := Ground.phase }, { on := 5, ground := Ground.phase }, { on := 6, ground := Ground.phase }, { on := 7, ground := Ground.phase }, { on := 8, ground := Ground.phase }], guard := none }) (v := ?_) rfl (by kernel_rfl) (by kernel_rfl) (by kernel_rfl) (fun _ _ _ h => h) (Or.inl ⟨by rfl, ?_⟩) hH ?_
        rotate_left
        · intro w hSw; (try dsimp only at hSw); go_simp <;> with_reducible rfl
        try simp only [Act.put, List.setIfInBounds_toArray, List.set_cons_zero, List.set_cons_succ]
        refine wpAnyH_ready (rs := [10]) (by kernel_rfl) (by simp) ?_
        refine AllReadyH.cons (o := { dst := none, op := Op.store 36 (Operand.tmp 30) (Operand.tmp 29), type := 0, pos := "law.go:19", after := #[{ on := 9, ground := Ground.data }, { on := 8, ground := Ground.data }, { on := 8, ground := Ground.chain }, { on := 0, ground := Ground.phase }, { on := 1, ground := Ground.phase }, { on := 2, ground := Ground.phase }, { on := 3, ground := Ground.phase }, { on := 4, ground := Ground.phase }, { on := 5, ground := Ground.phase }, { on := 6, ground := Ground.phase }, { on := 7, ground := Ground.phase }, { on := 8, ground := Ground.phase }], guard := none }) rfl (fun K hK => ?_) AllReadyH.nil
        go_simp
        refine hK.out _ _ ?_ (fun hH => ?_)
        · exact hq9.setCell (p := ⟨so, 0, none⟩) (fun _ => .inr rfl) _
        clear hK K
        refine wpAnyH_done (by kernel_rfl) ?_ _
        go_wp2_with fail
        refine ⟨⟨j + 1, by omega, rfl, .slice (some ⟨gg, 0, none⟩) (j + 1) cp, ?_, ?_, ?_⟩, by simp [intOf]; omega⟩
        · exact (Fr.one so 0 _).owns (by rw [nodeL_take HX.out]; exact hown1) (fun q e => by have := (hown1.lt q e).1; omega)
        · show _ = _
          rw [heap_set hS9]; rfl
        · exact HF.out.trans hH (fun _ h => h) (fun i hi e => e.elim (fun e => by have := hown' i e; omega) id)
      refine AllReadyH.cons (o := { dst := some 28, op := Op.buildSlice 36 1 #[(0, Operand.tmp 27)], type := 36, pos := "law.go:19", after := #[{ on := 6, ground := Ground.data }], guard := none }) rfl (fun K hK => ?_) AllReadyH.nil
      go_simp
      obtain ⟨wz, hwz⟩ : ∃ wz, wz = (wr.alloc (.cells #[.int .u8 kx, .int .i64 px] 69)).drew := ⟨_, rfl⟩
      obtain ⟨e8, he8⟩ : ∃ e8, e8 = wr.heap.size := ⟨_, rfl⟩
      rw [← hwz, ← he8]
      have hN : wz.heap[e8]? = some (.cells #[.int .u8 kx, .int .i64 px] 69 (0, 0)) := by rw [hwz, he8]; exact heap_new wr _
      have hq : Fr (fun _ => False) wr wz := by rw [hwz]; exact ((Fr.refl _ wr).alloc _).drew
      clear hwz he8
      refine hK.out _ _ ?_ (fun hH => ?_)
      · exact hq.quiet
      clear hK K
      try simp only [Act.put, List.setIfInBounds_toArray, List.set_cons_zero, List.set_cons_succ]
      refine wpAnyH_ready (rs := [1]) (by kernel_rfl) (by simp) ?_
      refine AllReadyH.cons (o := { dst := some 22, op := Op.load 36 (Operand.tmp 21), type := 36, pos := "law.go:19", after := #[{ on := 0, ground := Ground.data }], guard := none }) rfl (fun K hK => ?_) AllReadyH.nil
      have l1 := HL1.out _ hq
      go_simp
      clear l1
      refine hK.out _ _ ?_ (fun hH => ?_)
      · exact hq.quiet
      clear hK K
      try simp only [Act.put, List.setIfInBounds_toArray, List.set_cons_zero, List.set_cons_succ]
      refine wpAnyH_ready (rs := [8]) (by kernel_rfl) (by simp) ?_
      refine AllReadyH.cons (o := { dst := some 29, op := Op.call { callee := Callee.builtin Builtin.append, args := #[Operand.tmp 22, Operand.tmp 28], argTypes := #[36, 36] }, type := 36, pos := "law.go:19", after := #[{ on := 1, ground := Ground.data }, { on := 7, ground := Ground.data }], guard := none }) rfl (fun K hK => ?_) AllReadyH.nil
      refine step_append_lies _ (by rfl) _ _ _ (by rfl) B0 69 i0 z0 2 16 Try.underlying36 hi0 hz0 hz1 hz2 hz3 (by omega) v j _ (by rfl) (hq.owns HOWN.out (fun _ _ e => e)) ⟨e8, 0, none⟩ 1 1 [.int .u8 kx, .int .i64 px] (by rfl) (by rfl) (World.news_of_block hN) (by simp [Value.oneCell']) (by omega) (by unfold maxLen; omega) (by omega) (by have := hq.size; omega) wz.heap.size rfl ?_
      intro gg cp w9 hown1 hgrow hat hlt9
      have hS9 : core5 w9 so 39 v (.slice none 0 0) wi bv mm := (hgrow.block so (by have := hq.size; omega) (fun e => by have := hown' so e.symm; omega)).trans (hq.heap HS.out (fun e => e))
      have hq9 := hq.quiet.grown (S := fun q => v.ownBlock = some q ∨ q = so) hgrow (fun q e _ => .inl e)
      have s3 := cell_of hS9 0 (v := v) rfl
      have t3 := free_of hS9 0
      refine hK.out _ _ ?_ (fun hH => ?_)
      · exact hq9
      clear hK K
      try simp only [Act.put, List.setIfInBounds_toArray, List.set_cons_zero, List.set_cons_succ]
      refine wpAnyH_take (i := 9) (oi := { dst := some 30, op := Op.fieldAddr 39 (Operand.tmp 3) 0, type := 0, pos := "law.go:19", after := #[{ on := 0, ground := Ground.phase }, { on := 1, ground := Ground.phase }, { on := 2, ground := Ground.phase }, { on := 3, ground := Ground.phase }, { on := 4, ground := Ground.phase }, { on := 5, ground := Ground.phase }, { on := 6, ground := Ground.phase }, { on := 7, ground := Ground.phase }, { on := 8, ground := Ground.phase }], guard := none }) (v := ?_) rfl (by kernel_rfl) (by kernel_rfl) (by kernel_rfl) (fun _ _ _ h => h) (Or.inl ⟨by rfl, ?_⟩) hH ?_
      rotate_left
      · intro w hSw; (try dsimp only at hSw); go_simp <;> with_reducible rfl
      try simp only [Act.put, List.setIfInBounds_toArray, List.set_cons_zero, List.set_cons_succ]
      refine wpAnyH_ready (rs := [10]) (by kernel_rfl) (by simp) ?_
      refine AllReadyH.cons (o := { dst := none, op := Op.store 36 (Operand.tmp 30) (Operand.tmp 29), type := 0, pos := "law.go:19", after := #[{ on := 9, ground := Ground.data }, { on := 8, ground := Ground.data }, { on := 8, ground := Ground.chain }, { on := 0, ground := Ground.phase }, { on := 1, ground := Ground.phase }, { on := 2, ground := Ground.phase }, { on := 3, ground := Ground.phase }, { on := 4, ground := Ground.phase }, { on := 5, ground := Ground.phase }, { on := 6, ground := Ground.phase }, { on := 7, ground := Ground.phase }, { on := 8, ground := Ground.phase }], guard := none }) rfl (fun K hK => ?_) AllReadyH.nil
      go_simp
      refine hK.out _ _ ?_ (fun hH => ?_)
      · exact hq9.setCell (p := ⟨so, 0, none⟩) (fun _ => .inr rfl) _
      clear hK K
      refine wpAnyH_done (by kernel_rfl) ?_ _
      go_wp2_with fail
      refine ⟨⟨j + 1, by omega, rfl, .slice (some ⟨gg, 0, none⟩) (j + 1) cp, ?_, ?_, ?_⟩, by simp [intOf]; omega⟩
      · exact (Fr.one so 0 _).owns (by rw [nodeL_take HX.out]; exact hown1) (fun q e => by have := (hown1.lt q e).1; omega)
      · show _ = _
        rw [heap_set hS9]; rfl
      · exact HF.out.trans hH (fun _ h => h) (fun i hi e => e.elim (fun e => by have := hown' i e; omega) id)
    · obtain rfl : j = n := by omega
      rw [show N.take j = N by rw [HN.out, List.take_length]] at HOWN
      go_wp2_with fail
      have hown' : ∀ q, v.ownBlock = some q → B0 ≤ q ∧ q < wr.heap.size := fun q e => HOWN.out.lt q e
      have FW := hid (F1.out.trans HF.out (fun _ e => e) (fun i hi e => by omega))
      have HR := hid (show core5 wr r 39 (.slice none 0 0) (.slice none 0 0) 0 ⟨#[]⟩ 0 from HF.out.heap R1.out (by omega))
      obtain ⟨w2, hw2⟩ : ∃ w2, w2 = wr := ⟨_, rfl⟩
      rw [← hw2] at HS HOWN HK HR FW hown' hFs ⊢
      obtain ⟨B1, hB1⟩ : ∃ B1, B1 = w2.heap.size := ⟨_, rfl⟩
      clear HF hw2 k0 K1 R1 S1
      go_loopw [5] (fun i wr => ∃ m : Nat, m ≤ P ∧ i = .int .i64 m ∧ ∃ v2 xs, wr.ownsRow B1 59 4 v2 m xs ∧ core5 wr so 39 v v2 wi bv mm ∧ Fr (fun k => k = so) w2 wr) (fun i _ => P - (intOf i).toNat)
      case atStart => exact ⟨0, Nat.zero_le _, rfl, _, [], World.ownsRow_nil _ _ _ _, HS.out, Fr.refl _ _⟩
      case round =>
        obtain ⟨m, hm, rfl, v2, xs, hO2, hS2, hF2⟩ := hrel
        have HF2 := hid hF2
        have HS2 := hid hS2
        have HO2 := hid hO2
        have hFs2 := hF2.size
        have HK2 := hid (show core5 wr k 25 (.slice ao j nc) (.slice pa P pc) wi bv mm from hF2.heap HK.out (by omega))
        clear hF2 hS2 hO2
        have k1 := cell_of HK2.out 1 (v := .slice pa P pc) rfl
        by_cases hmP : m < P
        · have hpv := HPV.out
          obtain ⟨pa', pc', hv, hp⟩ := hpv
          simp only [← HPL.out, Value.slice.injEq, true_and] at hv
          obtain ⟨rfl, rfl⟩ := hv
          obtain ⟨pg, po, rfl, hpl, hc⟩ := hp (by have := HPL.out; omega)
          obtain ⟨tn, htn⟩ : ∃ tn, L[m]? = some tn := ⟨L[m]'(by have := HPL.out; omega), List.getElem?_eq_getElem _⟩
          obtain ⟨ng, va, ty, tv, c0, c1, c2, c3, hTv⟩ := hc m tn htn
          have htn40 := HT.out m tn htn
          have hwl := FW.out.size
          have cc : ∀ (i : Nat) (x : Value), w.cell? ⟨pg, po + m * 4 + i, none⟩ = some x → wr.cell? ⟨pg, po + m * 4 + i, none⟩ = some x := fun i x h => HF2.out.cell (FW.out.cell h (fun e => e)) (by simp only; omega)
          have c0 := cc 0 _ c0
          have c1 := cc 1 _ c1
          have c2 := cc 2 _ c2
          have c3 := cc 3 _ c3
          simp only [Nat.add_zero] at c0
          have hmP' : (m : Int) < P := by omega
          have hm0 : (0 : Int) ≤ m := by omega
          have hpl2 : pg < wr.heap.size := by omega
          obtain ⟨ta, tc, rfl, _⟩ : ∃ ta tc, tv = .slice ta tn tc ∧ True := by obtain ⟨ta, tc, h, _⟩ := hTv; exact ⟨ta, tc, h, trivial⟩
          have hTvs := hid hTv
          clear hp hc cc hTv
          go_upto_region 10 with fail
          obtain ⟨w3, hw3⟩ : ∃ w3, w3 = wr.alloc (.cells #[.bool ng, .string va, .string ty, .slice ta tn tc] 64) := ⟨_, rfl⟩
          obtain ⟨pl, hpl⟩ : ∃ pl, pl = wr.heap.size := ⟨_, rfl⟩
          rw [← hw3, ← hpl]
          have hF3 : Fr (fun _ => False) wr w3 := by rw [hw3]; exact (Fr.refl _ wr).alloc _
          have HP3 := hid (show w3.heap[pl]? = some (.cells #[.bool ng, .string va, .string ty, .slice ta tn tc] 64 (0, 0)) by rw [hw3, hpl]; exact heap_new wr _)
          have HS3 := hid (show core5 w3 so 39 v v2 wi bv mm from hF3.heap HS2.out (fun e => e))
          have HO3 := hid (hF3.owns HO2.out (fun _ _ e => e))
          have hT3 := own11_ok (w := w3.drew) (tv := .slice ta tn tc) (n := tn) (hTvs.out.fr ((((FW.out.trans HF2.out (fun _ e => e) (fun i hi e => by omega)).trans' hF3)).trans' ((Fr.refl _ w3).drew))) htn40
          have HT3 := hid hT3
          have HF3 := hid (show Fr (fun k => k = so) w2 w3 from HF2.out.quiet' hF3)
          have hown2 : ∀ q, v2.ownBlock = some q → B1 ≤ q ∧ q < pl := fun q e => by have := HO2.out.lt q e; omega
          have hsp : so < pl := by omega
          have hB1p : B1 ≤ pl := by omega
          clear hw3 hF3 c0 c1 c2 c3 k1 hT3 hpl
          have l1 : ∀ w', Fr (fun _ => False) w3 w' → w'.cell? ⟨so, 1, none⟩ = some v2 := fun w' h => cell_of (h.heap HS3.out (fun e => e)) 1 rfl
          have hpx : ∀ w', Fr (fun q => v2.ownBlock = some q ∨ q = so) w3 w' → w'.heap[pl]? = some (.cells #[.bool ng, .string va, .string ty, .slice ta tn tc] 64 (0, 0)) := fun w' h => h.heap HP3.out (fun e => e.elim (fun e => by have := hown2 _ e; omega) (fun e => by omega))
          have p0 : ∀ w', Fr (fun q => v2.ownBlock = some q ∨ q = so) w3 w' → w'.cell? ⟨pl, 0, none⟩ = some (.bool ng) := fun w' h => cell_of (hpx w' h) 0 rfl
          have p1 : ∀ w', Fr (fun q => v2.ownBlock = some q ∨ q = so) w3 w' → w'.cell? ⟨pl, 1, none⟩ = some (.string va) := fun w' h => cell_of (hpx w' h) 1 rfl
          have p2 : ∀ w', Fr (fun q => v2.ownBlock = some q ∨ q = so) w3 w' → w'.cell? ⟨pl, 2, none⟩ = some (.string ty) := fun w' h => cell_of (hpx w' h) 2 rfl
          have p3 : ∀ w', Fr (fun q => v2.ownBlock = some q ∨ q = so) w3 w' → w'.cell? ⟨pl, 3, none⟩ = some (.slice ta tn tc) := fun w' h => cell_of (hpx w' h) 3 rfl
          have hq := (Fr.refl (fun _ => False) w3).drew
          have HL1 := hid l1
          clear l1 hpx
          refine wp_region_held_drew (S := (fun w' => Fr (fun q => v2.ownBlock = some q ∨ q = so) w3 w')) (by kernel_rfl) ?_ (fun hH => ?_)
          · exact hq.quiet
          refine wpAnyH_take (i := 0) (oi := { dst := some 43, op := Op.fieldAddr 39 (Operand.tmp 3) 1, type := 0, pos := "law.go:23", after := #[], guard := none }) (v := ?_) rfl (by kernel_rfl) (by kernel_rfl) (by kernel_rfl) (fun _ _ _ h => h) (Or.inl ⟨by rfl, ?_⟩) hH ?_
          rotate_left
          · intro w hSw; (try dsimp only at hSw); go_simp <;> with_reducible rfl
          try simp only [Act.put, List.setIfInBounds_toArray, List.set_cons_zero, List.set_cons_succ]
          refine wpAnyH_take (i := 2) (oi := { dst := some 45, op := Op.fieldAddr 64 (Operand.tmp 6) 0, type := 0, pos := "law.go:23", after := #[], guard := none }) (v := ?_) rfl (by kernel_rfl) (by kernel_rfl) (by kernel_rfl) (fun _ _ _ h => h) (Or.inl ⟨by rfl, ?_⟩) hH ?_
          rotate_left
          · intro w hSw; (try dsimp only at hSw); go_simp <;> with_reducible rfl
          try simp only [Act.put, List.setIfInBounds_toArray, List.set_cons_zero, List.set_cons_succ]
          refine wpAnyH_take (i := 3) (oi := { dst := some 46, op := Op.load 4 (Operand.tmp 45), type := 4, pos := "law.go:23", after := #[{ on := 2, ground := Ground.data }], guard := none }) (v := ?_) rfl (by kernel_rfl) (by kernel_rfl) (by kernel_rfl) (fun _ _ _ h => h) (Or.inl ⟨by rfl, ?_⟩) hH ?_
          rotate_left
          · intro w hSw; (try dsimp only at hSw); go_simp <;> with_reducible rfl
          try simp only [Act.put, List.setIfInBounds_toArray, List.set_cons_zero, List.set_cons_succ]
          refine wpAnyH_take (i := 4) (oi := { dst := some 47, op := Op.fieldAddr 64 (Operand.tmp 6) 1, type := 0, pos := "law.go:23", after := #[], guard := none }) (v := ?_) rfl (by kernel_rfl) (by kernel_rfl) (by kernel_rfl) (fun _ _ _ h => h) (Or.inl ⟨by rfl, ?_⟩) hH ?_
          rotate_left
          · intro w hSw; (try dsimp only at hSw); go_simp <;> with_reducible rfl
          try simp only [Act.put, List.setIfInBounds_toArray, List.set_cons_zero, List.set_cons_succ]
          refine wpAnyH_take (i := 5) (oi := { dst := some 48, op := Op.load 9 (Operand.tmp 47), type := 9, pos := "law.go:23", after := #[{ on := 4, ground := Ground.data }], guard := none }) (v := ?_) rfl (by kernel_rfl) (by kernel_rfl) (by kernel_rfl) (fun _ _ _ h => h) (Or.inl ⟨by rfl, ?_⟩) hH ?_
          rotate_left
          · intro w hSw; (try dsimp only at hSw); go_simp <;> with_reducible rfl
          try simp only [Act.put, List.setIfInBounds_toArray, List.set_cons_zero, List.set_cons_succ]
          refine wpAnyH_take (i := 6) (oi := { dst := some 49, op := Op.fieldAddr 64 (Operand.tmp 6) 2, type := 0, pos := "law.go:23", after := #[], guard := none }) (v := ?_) rfl (by kernel_rfl) (by kernel_rfl) (by kernel_rfl) (fun _ _ _ h => h) (Or.inl ⟨by rfl, ?_⟩) hH ?_
          rotate_left
          · intro w hSw; (try dsimp only at hSw); go_simp <;> with_reducible rfl
          try simp only [Act.put, List.setIfInBounds_toArray, List.set_cons_zero, List.set_cons_succ]
          refine wpAnyH_take (i := 7) (oi := { dst := some 50, op := Op.load 9 (Operand.tmp 49), type := 9, pos := "law.go:23", after := #[{ on := 6, ground := Ground.data }], guard := none }) (v := ?_) rfl (by kernel_rfl) (by kernel_rfl) (by kernel_rfl) (fun _ _ _ h => h) (Or.inl ⟨by rfl, ?_⟩) hH ?_
          rotate_left
          · intro w hSw; (try dsimp only at hSw); go_simp <;> with_reducible rfl
          try simp only [Act.put, List.setIfInBounds_toArray, List.set_cons_zero, List.set_cons_succ]
          refine wpAnyH_take (i := 8) (oi := { dst := some 51, op := Op.fieldAddr 64 (Operand.tmp 6) 3, type := 0, pos := "law.go:23", after := #[], guard := none }) (v := ?_) rfl (by kernel_rfl) (by kernel_rfl) (by kernel_rfl) (fun _ _ _ h => h) (Or.inl ⟨by rfl, ?_⟩) hH ?_
          rotate_left
          · intro w hSw; (try dsimp only at hSw); go_simp <;> with_reducible rfl
          try simp only [Act.put, List.setIfInBounds_toArray, List.set_cons_zero, List.set_cons_succ]
          refine wpAnyH_take (i := 9) (oi := { dst := some 52, op := Op.load 62 (Operand.tmp 51), type := 62, pos := "law.go:23", after := #[{ on := 8, ground := Ground.data }], guard := none }) (v := ?_) rfl (by kernel_rfl) (by kernel_rfl) (by kernel_rfl) (fun _ _ _ h => h) (Or.inl ⟨by rfl, ?_⟩) hH ?_
          rotate_left
          · intro w hSw; (try dsimp only at hSw); go_simp <;> with_reducible rfl
          try simp only [Act.put, List.setIfInBounds_toArray, List.set_cons_zero, List.set_cons_succ]
          refine wpAnyH_ready (rs := [1, 10]) (by kernel_rfl) (by simp) ?_
          refine AllReadyH.cons (o := { dst := some 44, op := Op.load 37 (Operand.tmp 43), type := 37, pos := "law.go:23", after := #[{ on := 0, ground := Ground.data }], guard := none }) rfl (fun K hK => ?_) ?_
          ·
            have l1 := HL1.out _ hq
            go_simp
            clear l1
            refine hK.out _ _ ?_ (fun hH => ?_)
            · exact hq.quiet
            clear hK K
            try simp only [Act.put, List.setIfInBounds_toArray, List.set_cons_zero, List.set_cons_succ]
            refine wpAnyH_ready (rs := [10]) (by kernel_rfl) (by simp) ?_
            refine AllReadyH.cons (o := { dst := some 53, op := Op.call { callee := Callee.value (Operand.func 23), args := #[Operand.tmp 52], argTypes := #[62] }, type := 57, pos := "law.go:23", after := #[{ on := 9, ground := Ground.data }], guard := none }) rfl (fun K hK => ?_) AllReadyH.nil
            go_simp
            go_at_call 23
            refine HT3.out.mono ?_
            rintro e w8 ⟨⟨xa, xn, xc, rfl⟩, hF8⟩
            have hq := hq.trans' hF8
            go_simp
            refine hK.out _ _ ?_ (fun hH => ?_)
            · exact hq.quiet
            clear hK K
            try simp only [Act.put, List.setIfInBounds_toArray, List.set_cons_zero, List.set_cons_succ]
            refine wpAnyH_take (i := 11) (oi := { dst := some 54, op := Op.build 59 #[(0, Operand.tmp 46), (1, Operand.tmp 48), (2, Operand.tmp 50), (3, Operand.tmp 53)], type := 59, pos := "law.go:23", after := #[{ on := 3, ground := Ground.data }, { on := 5, ground := Ground.data }, { on := 7, ground := Ground.data }, { on := 10, ground := Ground.data }], guard := none }) (v := ?_) rfl (by kernel_rfl) (by kernel_rfl) (by kernel_rfl) (fun _ _ _ h => h) (Or.inl ⟨by rfl, ?_⟩) hH ?_
            rotate_left
            · intro w hSw; (try dsimp only at hSw); go_simp <;> with_reducible rfl
            try simp only [Act.put, List.setIfInBounds_toArray, List.set_cons_zero, List.set_cons_succ]
            refine wpAnyH_ready (rs := [12]) (by kernel_rfl) (by simp) ?_
            refine AllReadyH.cons (o := { dst := some 55, op := Op.buildSlice 37 1 #[(0, Operand.tmp 54)], type := 37, pos := "law.go:23", after := #[{ on := 11, ground := Ground.data }], guard := none }) rfl (fun K hK => ?_) AllReadyH.nil
            go_simp
            obtain ⟨wz, hwz⟩ : ∃ wz, wz = w8.alloc (.cells #[.bool ng, .string va, .string ty, .slice xa xn xc] 59) := ⟨_, rfl⟩
            obtain ⟨e8, he8⟩ : ∃ e8, e8 = w8.heap.size := ⟨_, rfl⟩
            rw [← hwz, ← he8]
            have hN : wz.heap[e8]? = some (.cells #[.bool ng, .string va, .string ty, .slice xa xn xc] 59 (0, 0)) := by rw [hwz, he8]; exact heap_new w8 _
            have hq : Fr (fun _ => False) w3 wz := by rw [hwz]; exact hq.alloc _
            clear hwz he8
            refine hK.out _ _ ?_ (fun hH => ?_)
            · exact hq.quiet
            clear hK K
            try simp only [Act.put, List.setIfInBounds_toArray, List.set_cons_zero, List.set_cons_succ]
            refine wpAnyH_ready (rs := [13]) (by kernel_rfl) (by simp) ?_
            refine AllReadyH.cons (o := { dst := some 56, op := Op.call { callee := Callee.builtin Builtin.append, args := #[Operand.tmp 44, Operand.tmp 55], argTypes := #[37, 37] }, type := 37, pos := "law.go:23", after := #[{ on := 1, ground := Ground.data }, { on := 12, ground := Ground.data }, { on := 10, ground := Ground.chain }], guard := none }) rfl (fun K hK => ?_) AllReadyH.nil
            refine step_append_lies _ (by rfl) _ _ _ (by rfl) B1 59 i1 z1 4 64 Try.underlying37 hj0 hy0 hy1 hy2 hy3 (by omega) v2 m xs (by rfl) (hq.owns HO3.out (fun _ _ e => e)) ⟨e8, 0, none⟩ 1 1 [.bool ng, .string va, .string ty, .slice xa xn xc] (by rfl) (by rfl) (World.news_of_block hN) (by simp [Value.oneCell']) (by omega) (by unfold maxLen; omega) (by omega) (by have := hq.size; have := lt_of_block HP3.out; omega) wz.heap.size rfl ?_
            intro gg cp w9 hown9 hgrow hat hlt9
            have hS9 : core5 w9 so 39 v v2 wi bv mm := (hgrow.block so (by have := hq.size; have := lt_of_block HP3.out; omega) (fun e => by have := hown2 so e.symm; omega)).trans (hq.heap HS3.out (fun e => e))
            have hq9 := hq.quiet.grown (S := fun q => v2.ownBlock = some q ∨ q = so) hgrow (fun q e _ => .inl e)
            have s3 := cell_of hS9 1 (v := v2) rfl
            have t3 := free_of hS9 1
            refine hK.out _ _ ?_ (fun hH => ?_)
            · exact hq9
            clear hK K
            try simp only [Act.put, List.setIfInBounds_toArray, List.set_cons_zero, List.set_cons_succ]
            refine wpAnyH_take (i := 14) (oi := { dst := some 57, op := Op.fieldAddr 39 (Operand.tmp 3) 1, type := 0, pos := "law.go:23", after := #[{ on := 0, ground := Ground.phase }, { on := 1, ground := Ground.phase }, { on := 2, ground := Ground.phase }, { on := 3, ground := Ground.phase }, { on := 4, ground := Ground.phase }, { on := 5, ground := Ground.phase }, { on := 6, ground := Ground.phase }, { on := 7, ground := Ground.phase }, { on := 8, ground := Ground.phase }, { on := 9, ground := Ground.phase }, { on := 10, ground := Ground.phase }, { on := 11, ground := Ground.phase }, { on := 12, ground := Ground.phase }, { on := 13, ground := Ground.phase }], guard := none }) (v := ?_) rfl (by kernel_rfl) (by kernel_rfl) (by kernel_rfl) (fun _ _ _ h => h) (Or.inl ⟨by rfl, ?_⟩) hH ?_
            rotate_left
            · intro w hSw; (try dsimp only at hSw); go_simp <;> with_reducible rfl
            try simp only [Act.put, List.setIfInBounds_toArray, List.set_cons_zero, List.set_cons_succ]
            refine wpAnyH_ready (rs := [15]) (by kernel_rfl) (by simp) ?_
            refine AllReadyH.cons (o := { dst := none, op := Op.store 37 (Operand.tmp 57) (Operand.tmp 56), type := 0, pos := "law.go:23", after := #[{ on := 14, ground := Ground.data }, { on := 13, ground := Ground.data }, { on := 13, ground := Ground.chain }, { on := 0, ground := Ground.phase }, { on := 1, ground := Ground.phase }, { on := 2, ground := Ground.phase }, { on := 3, ground := Ground.phase }, { on := 4, ground := Ground.phase }, { on := 5, ground := Ground.phase }, { on := 6, ground := Ground.phase }, { on := 7, ground := Ground.phase }, { on := 8, ground := Ground.phase }, { on := 9, ground := Ground.phase }, { on := 10, ground := Ground.phase }, { on := 11, ground := Ground.phase }, { on := 12, ground := Ground.phase }, { on := 13, ground := Ground.phase }], guard := none }) rfl (fun K hK => ?_) AllReadyH.nil
            go_simp
            refine hK.out _ _ ?_ (fun hH => ?_)
            · exact hq9.setCell (p := ⟨so, 1, none⟩) (fun _ => .inr rfl) _
            clear hK K
            refine wpAnyH_done (by kernel_rfl) ?_ _
            go_wp2_with fail
            refine ⟨⟨m + 1, by omega, rfl, .slice (some ⟨gg, 0, none⟩) (m + 1) cp, xs ++ [.bool ng, .string va, .string ty, .slice xa xn xc], ?_, ?_, ?_⟩, by simp [intOf]; omega⟩
            · exact (Fr.one so 1 _).owns hown9 (fun q e => by have := (hown9.lt q e).1; omega)
            · show _ = _
              rw [heap_set hS9]; rfl
            · exact HF3.out.trans hH (fun _ h => h) (fun i hi e => e.elim (fun e => by have := hown2 i e; omega) id)
          refine AllReadyH.cons (o := { dst := some 53, op := Op.call { callee := Callee.value (Operand.func 23), args := #[Operand.tmp 52], argTypes := #[62] }, type := 57, pos := "law.go:23", after := #[{ on := 9, ground := Ground.data }], guard := none }) rfl (fun K hK => ?_) AllReadyH.nil
          go_simp
          go_at_call 23
          refine HT3.out.mono ?_
          rintro e w8 ⟨⟨xa, xn, xc, rfl⟩, hF8⟩
          have hq := hq.trans' hF8
          go_simp
          refine hK.out _ _ ?_ (fun hH => ?_)
          · exact hq.quiet
          clear hK K
          try simp only [Act.put, List.setIfInBounds_toArray, List.set_cons_zero, List.set_cons_succ]
          refine wpAnyH_take (i := 11) (oi := { dst := some 54, op := Op.build 59 #[(0, Operand.tmp 46), (1, Operand.tmp 48), (2, Operand.tmp 50), (3, Operand.tmp 53)], type := 59, pos := "law.go:23", after := #[{ on := 3, ground := Ground.data }, { on := 5, ground := Ground.data }, { on := 7, ground := Ground.data }, { on := 10, ground := Ground.data }], guard := none }) (v := ?_) rfl (by kernel_rfl) (by kernel_rfl) (by kernel_rfl) (fun _ _ _ h => h) (Or.inl ⟨by rfl, ?_⟩) hH ?_
          rotate_left
          · intro w hSw; (try dsimp only at hSw); go_simp <;> with_reducible rfl
          try simp only [Act.put, List.setIfInBounds_toArray, List.set_cons_zero, List.set_cons_succ]
          refine wpAnyH_ready (rs := [1, 12]) (by kernel_rfl) (by simp) ?_
          refine AllReadyH.cons (o := { dst := some 44, op := Op.load 37 (Operand.tmp 43), type := 37, pos := "law.go:23", after := #[{ on := 0, ground := Ground.data }], guard := none }) rfl (fun K hK => ?_) ?_
          ·
            have l1 := HL1.out _ hq
            go_simp
            clear l1
            refine hK.out _ _ ?_ (fun hH => ?_)
            · exact hq.quiet
            clear hK K
            try simp only [Act.put, List.setIfInBounds_toArray, List.set_cons_zero, List.set_cons_succ]
            refine wpAnyH_ready (rs := [12]) (by kernel_rfl) (by simp) ?_
            refine AllReadyH.cons (o := { dst := some 55, op := Op.buildSlice 37 1 #[(0, Operand.tmp 54)], type := 37, pos := "law.go:23", after := #[{ on := 11, ground := Ground.data }], guard := none }) rfl (fun K hK => ?_) AllReadyH.nil
            go_simp
            obtain ⟨wz, hwz⟩ : ∃ wz, wz = w8.alloc (.cells #[.bool ng, .string va, .string ty, .slice xa xn xc] 59) := ⟨_, rfl⟩
            obtain ⟨e8, he8⟩ : ∃ e8, e8 = w8.heap.size := ⟨_, rfl⟩
            rw [← hwz, ← he8]
            have hN : wz.heap[e8]? = some (.cells #[.bool ng, .string va, .string ty, .slice xa xn xc] 59 (0, 0)) := by rw [hwz, he8]; exact heap_new w8 _
            have hq : Fr (fun _ => False) w3 wz := by rw [hwz]; exact hq.alloc _
            clear hwz he8
            refine hK.out _ _ ?_ (fun hH => ?_)
            · exact hq.quiet
            clear hK K
            try simp only [Act.put, List.setIfInBounds_toArray, List.set_cons_zero, List.set_cons_succ]
            refine wpAnyH_ready (rs := [13]) (by kernel_rfl) (by simp) ?_
            refine AllReadyH.cons (o := { dst := some 56, op := Op.call { callee := Callee.builtin Builtin.append, args := #[Operand.tmp 44, Operand.tmp 55], argTypes := #[37, 37] }, type := 37, pos := "law.go:23", after := #[{ on := 1, ground := Ground.data }, { on := 12, ground := Ground.data }, { on := 10, ground := Ground.chain }], guard := none }) rfl (fun K hK => ?_) AllReadyH.nil
            refine step_append_lies _ (by rfl) _ _ _ (by rfl) B1 59 i1 z1 4 64 Try.underlying37 hj0 hy0 hy1 hy2 hy3 (by omega) v2 m xs (by rfl) (hq.owns HO3.out (fun _ _ e => e)) ⟨e8, 0, none⟩ 1 1 [.bool ng, .string va, .string ty, .slice xa xn xc] (by rfl) (by rfl) (World.news_of_block hN) (by simp [Value.oneCell']) (by omega) (by unfold maxLen; omega) (by omega) (by have := hq.size; have := lt_of_block HP3.out; omega) wz.heap.size rfl ?_
            intro gg cp w9 hown9 hgrow hat hlt9
            have hS9 : core5 w9 so 39 v v2 wi bv mm := (hgrow.block so (by have := hq.size; have := lt_of_block HP3.out; omega) (fun e => by have := hown2 so e.symm; omega)).trans (hq.heap HS3.out (fun e => e))
            have hq9 := hq.quiet.grown (S := fun q => v2.ownBlock = some q ∨ q = so) hgrow (fun q e _ => .inl e)
            have s3 := cell_of hS9 1 (v := v2) rfl
            have t3 := free_of hS9 1
            refine hK.out _ _ ?_ (fun hH => ?_)
            · exact hq9
            clear hK K
            try simp only [Act.put, List.setIfInBounds_toArray, List.set_cons_zero, List.set_cons_succ]
            refine wpAnyH_take (i := 14) (oi := { dst := some 57, op := Op.fieldAddr 39 (Operand.tmp 3) 1, type := 0, pos := "law.go:23", after := #[{ on := 0, ground := Ground.phase }, { on := 1, ground := Ground.phase }, { on := 2, ground := Ground.phase }, { on := 3, ground := Ground.phase }, { on := 4, ground := Ground.phase }, { on := 5, ground := Ground.phase }, { on := 6, ground := Ground.phase }, { on := 7, ground := Ground.phase }, { on := 8, ground := Ground.phase }, { on := 9, ground := Ground.phase }, { on := 10, ground := Ground.phase }, { on := 11, ground := Ground.phase }, { on := 12, ground := Ground.phase }, { on := 13, ground := Ground.phase }], guard := none }) (v := ?_) rfl (by kernel_rfl) (by kernel_rfl) (by kernel_rfl) (fun _ _ _ h => h) (Or.inl ⟨by rfl, ?_⟩) hH ?_
            rotate_left
            · intro w hSw; (try dsimp only at hSw); go_simp <;> with_reducible rfl
            try simp only [Act.put, List.setIfInBounds_toArray, List.set_cons_zero, List.set_cons_succ]
            refine wpAnyH_ready (rs := [15]) (by kernel_rfl) (by simp) ?_
            refine AllReadyH.cons (o := { dst := none, op := Op.store 37 (Operand.tmp 57) (Operand.tmp 56), type := 0, pos := "law.go:23", after := #[{ on := 14, ground := Ground.data }, { on := 13, ground := Ground.data }, { on := 13, ground := Ground.chain }, { on := 0, ground := Ground.phase }, { on := 1, ground := Ground.phase }, { on := 2, ground := Ground.phase }, { on := 3, ground := Ground.phase }, { on := 4, ground := Ground.phase }, { on := 5, ground := Ground.phase }, { on := 6, ground := Ground.phase }, { on := 7, ground := Ground.phase }, { on := 8, ground := Ground.phase }, { on := 9, ground := Ground.phase }, { on := 10, ground := Ground.phase }, { on := 11, ground := Ground.phase }, { on := 12, ground := Ground.phase }, { on := 13, ground := Ground.phase }], guard := none }) rfl (fun K hK => ?_) AllReadyH.nil
            go_simp
            refine hK.out _ _ ?_ (fun hH => ?_)
            · exact hq9.setCell (p := ⟨so, 1, none⟩) (fun _ => .inr rfl) _
            clear hK K
            refine wpAnyH_done (by kernel_rfl) ?_ _
            go_wp2_with fail
            refine ⟨⟨m + 1, by omega, rfl, .slice (some ⟨gg, 0, none⟩) (m + 1) cp, xs ++ [.bool ng, .string va, .string ty, .slice xa xn xc], ?_, ?_, ?_⟩, by simp [intOf]; omega⟩
            · exact (Fr.one so 1 _).owns hown9 (fun q e => by have := (hown9.lt q e).1; omega)
            · show _ = _
              rw [heap_set hS9]; rfl
            · exact HF3.out.trans hH (fun _ h => h) (fun i hi e => e.elim (fun e => by have := hown2 i e; omega) id)
          refine AllReadyH.cons (o := { dst := some 55, op := Op.buildSlice 37 1 #[(0, Operand.tmp 54)], type := 37, pos := "law.go:23", after := #[{ on := 11, ground := Ground.data }], guard := none }) rfl (fun K hK => ?_) AllReadyH.nil
          go_simp
          obtain ⟨wz, hwz⟩ : ∃ wz, wz = w8.alloc (.cells #[.bool ng, .string va, .string ty, .slice xa xn xc] 59) := ⟨_, rfl⟩
          obtain ⟨e8, he8⟩ : ∃ e8, e8 = w8.heap.size := ⟨_, rfl⟩
          rw [← hwz, ← he8]
          have hN : wz.heap[e8]? = some (.cells #[.bool ng, .string va, .string ty, .slice xa xn xc] 59 (0, 0)) := by rw [hwz, he8]; exact heap_new w8 _
          have hq : Fr (fun _ => False) w3 wz := by rw [hwz]; exact hq.alloc _
          clear hwz he8
          refine hK.out _ _ ?_ (fun hH => ?_)
          · exact hq.quiet
          clear hK K
          try simp only [Act.put, List.setIfInBounds_toArray, List.set_cons_zero, List.set_cons_succ]
          refine wpAnyH_ready (rs := [1]) (by kernel_rfl) (by simp) ?_
          refine AllReadyH.cons (o := { dst := some 44, op := Op.load 37 (Operand.tmp 43), type := 37, pos := "law.go:23", after := #[{ on := 0, ground := Ground.data }], guard := none }) rfl (fun K hK => ?_) AllReadyH.nil
          have l1 := HL1.out _ hq
          go_simp
          clear l1
          refine hK.out _ _ ?_ (fun hH => ?_)
          · exact hq.quiet
          clear hK K
          try simp only [Act.put, List.setIfInBounds_toArray, List.set_cons_zero, List.set_cons_succ]
          refine wpAnyH_ready (rs := [13]) (by kernel_rfl) (by simp) ?_
          refine AllReadyH.cons (o := { dst := some 56, op := Op.call { callee := Callee.builtin Builtin.append, args := #[Operand.tmp 44, Operand.tmp 55], argTypes := #[37, 37] }, type := 37, pos := "law.go:23", after := #[{ on := 1, ground := Ground.data }, { on := 12, ground := Ground.data }, { on := 10, ground := Ground.chain }], guard := none }) rfl (fun K hK => ?_) AllReadyH.nil
          refine step_append_lies _ (by rfl) _ _ _ (by rfl) B1 59 i1 z1 4 64 Try.underlying37 hj0 hy0 hy1 hy2 hy3 (by omega) v2 m xs (by rfl) (hq.owns HO3.out (fun _ _ e => e)) ⟨e8, 0, none⟩ 1 1 [.bool ng, .string va, .string ty, .slice xa xn xc] (by rfl) (by rfl) (World.news_of_block hN) (by simp [Value.oneCell']) (by omega) (by unfold maxLen; omega) (by omega) (by have := hq.size; have := lt_of_block HP3.out; omega) wz.heap.size rfl ?_
          intro gg cp w9 hown9 hgrow hat hlt9
          have hS9 : core5 w9 so 39 v v2 wi bv mm := (hgrow.block so (by have := hq.size; have := lt_of_block HP3.out; omega) (fun e => by have := hown2 so e.symm; omega)).trans (hq.heap HS3.out (fun e => e))
          have hq9 := hq.quiet.grown (S := fun q => v2.ownBlock = some q ∨ q = so) hgrow (fun q e _ => .inl e)
          have s3 := cell_of hS9 1 (v := v2) rfl
          have t3 := free_of hS9 1
          refine hK.out _ _ ?_ (fun hH => ?_)
          · exact hq9
          clear hK K
          try simp only [Act.put, List.setIfInBounds_toArray, List.set_cons_zero, List.set_cons_succ]
          refine wpAnyH_take (i := 14) (oi := { dst := some 57, op := Op.fieldAddr 39 (Operand.tmp 3) 1, type := 0, pos := "law.go:23", after := #[{ on := 0, ground := Ground.phase }, { on := 1, ground := Ground.phase }, { on := 2, ground := Ground.phase }, { on := 3, ground := Ground.phase }, { on := 4, ground := Ground.phase }, { on := 5, ground := Ground.phase }, { on := 6, ground := Ground.phase }, { on := 7, ground := Ground.phase }, { on := 8, ground := Ground.phase }, { on := 9, ground := Ground.phase }, { on := 10, ground := Ground.phase }, { on := 11, ground := Ground.phase }, { on := 12, ground := Ground.phase }, { on := 13, ground := Ground.phase }], guard := none }) (v := ?_) rfl (by kernel_rfl) (by kernel_rfl) (by kernel_rfl) (fun _ _ _ h => h) (Or.inl ⟨by rfl, ?_⟩) hH ?_
          rotate_left
          · intro w hSw; (try dsimp only at hSw); go_simp <;> with_reducible rfl
          try simp only [Act.put, List.setIfInBounds_toArray, List.set_cons_zero, List.set_cons_succ]
          refine wpAnyH_ready (rs := [15]) (by kernel_rfl) (by simp) ?_
          refine AllReadyH.cons (o := { dst := none, op := Op.store 37 (Operand.tmp 57) (Operand.tmp 56), type := 0, pos := "law.go:23", after := #[{ on := 14, ground := Ground.data }, { on := 13, ground := Ground.data }, { on := 13, ground := Ground.chain }, { on := 0, ground := Ground.phase }, { on := 1, ground := Ground.phase }, { on := 2, ground := Ground.phase }, { on := 3, ground := Ground.phase }, { on := 4, ground := Ground.phase }, { on := 5, ground := Ground.phase }, { on := 6, ground := Ground.phase }, { on := 7, ground := Ground.phase }, { on := 8, ground := Ground.phase }, { on := 9, ground := Ground.phase }, { on := 10, ground := Ground.phase }, { on := 11, ground := Ground.phase }, { on := 12, ground := Ground.phase }, { on := 13, ground := Ground.phase }], guard := none }) rfl (fun K hK => ?_) AllReadyH.nil
          go_simp
          refine hK.out _ _ ?_ (fun hH => ?_)
          · exact hq9.setCell (p := ⟨so, 1, none⟩) (fun _ => .inr rfl) _
          clear hK K
          refine wpAnyH_done (by kernel_rfl) ?_ _
          go_wp2_with fail
          refine ⟨⟨m + 1, by omega, rfl, .slice (some ⟨gg, 0, none⟩) (m + 1) cp, xs ++ [.bool ng, .string va, .string ty, .slice xa xn xc], ?_, ?_, ?_⟩, by simp [intOf]; omega⟩
          · exact (Fr.one so 1 _).owns hown9 (fun q e => by have := (hown9.lt q e).1; omega)
          · show _ = _
            rw [heap_set hS9]; rfl
          · exact HF3.out.trans hH (fun _ h => h) (fun i hi e => e.elim (fun e => by have := hown2 i e; omega) id)
        · obtain rfl : m = P := by omega
          have s0 := cell_of HS2.out 0 (v := v) rfl
          have s1 := cell_of HS2.out 1 (v := v2) rfl
          have s2 := cell_of HS2.out 2 (v := .int .i64 wi) rfl
          have s3 := cell_of HS2.out 3 (v := .string bv) rfl
          have s4 := cell_of HS2.out 4 (v := .int .u8 mm) rfl
          have HR2 := show core5 wr r 39 (.slice none 0 0) (.slice none 0 0) 0 ⟨#[]⟩ 0 from HF2.out.heap HR.out (by omega)
          have r0 := cell_of HR2 0 (v := .slice none 0 0) rfl
          have r1 := cell_of HR2 1 (v := .slice none 0 0) rfl
          have r2 := cell_of HR2 2 (v := .int .i64 0) rfl
          have r3 := cell_of HR2 3 (v := .string ⟨#[]⟩) rfl
          have r4 := cell_of HR2 4 (v := .int .u8 0) rfl
          have f0 := free_of HR2 0
          have f1 := free_of HR2 1
          have f2 := free_of HR2 2
          have f3 := free_of HR2 3
          have f4 := free_of HR2 4
          have hO1 := hid (HF2.out.owns HOWN.out (fun q e => by have := hown' q e; omega))
          have hrr : ∀ q, v.ownBlock = some q → q ≠ r := fun q e => by have := hown' q e; omega
          obtain ⟨va, vn, vc, hvv⟩ : ∃ va vn vc, v = .slice va vn vc := by
            rcases owns_form HOWN.out with ⟨rfl, _⟩ | ⟨_, _, rfl, _⟩ <;> exact ⟨_, _, _, rfl⟩
          obtain ⟨pa2, pc2, hv2⟩ : ∃ pa2 pc2, v2 = .slice pa2 m pc2 := by
            rcases owns_form HO2.out with ⟨rfl, h⟩ | ⟨_, _, rfl, _⟩
            · exact ⟨_, _, by rw [h]⟩
            · exact ⟨_, _, rfl⟩
          clear HR2
          subst hvv hv2
          go_wp2_with fail
          have h5 := Fr.five (Fr.refl (fun q => q = r) wr) (b := r) (fun _ => rfl) (.slice va vn vc) (.slice pa2 m pc2) (.int .i64 wi) (.string bv) (.int .u8 mm)
          refine bodyPost_ret (v := coreV (.slice va vn vc) pa2 m pc2 wi bv mm) (by simp [coreV, results, Try.results9, go_sem, r0, r1, r2, r3, r4]) rfl ⟨⟨_, _, _, rfl, ?_⟩, ?_⟩
          · have hO := h5.owns hO1.out (fun q e => hrr q e)
            have hO9 := h5.owns HO2.out (fun q e => by have := HO2.out.lt q e; show ¬ q = r; omega)
            rw [HN.out] at hO
            have hwB0 : w.heap.size ≤ B0 := by omega
            refine ⟨own_nodes2 hO, fun q e => by have := hown' q e; omega, B1, _, by omega, hO9, fun q e => by have := hown' q e; omega⟩
          · exact (FW.out.trans HF2.out (fun _ e => e) (fun i hi e => by omega)).five (by omega) _ _ _ _ _

end Go.Proofs.Ytceomkoecidoiaa
