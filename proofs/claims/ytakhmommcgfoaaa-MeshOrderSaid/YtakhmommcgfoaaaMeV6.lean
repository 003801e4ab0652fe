/-
  Parcels of the program's (Own), walked.
-/
import Derived.Test.YtakhmommcgfoaaaMeV5
namespace Go.Proofs.Ytakhmommcgfoaaa
open Go.RowKit

theorem info_par : (Try.prog.info? 69).map (fun i => (i.zero, i.size, i.bytes)) = some (some (.agg #[.int .i64 0, .int .i64 0, .int .i64 0, .string ⟨#[]⟩, .int .i64 0, .int .i64 0, .int .i64 0, .string ⟨#[]⟩, .slice none 0 0]), 9, 104) := by kernel_rfl
theorem flatP_take (P : List Pq) (x : Pq) : (P ++ [x]).flatMap encP = P.flatMap encP ++ encP x := by simp
/-- a message in a new block, in order -/
theorem msg_put {w w1 : World} {T : TypeId} {x : Mq} {C : Array Value} (hC : C.size = 7) (hw : (w.alloc (.cells C T)).setCells w.heap.size 0 (encM x) = w1) :
    w1.heap[w.heap.size]? = some (.cells (encM x).toArray T (0, 0)) ∧ Fr (fun _ => False) w w1 ∧ w1.heap.size = w.heap.size + 1 := by
  subst hw
  refine ⟨?_, ?_, ?_⟩
  · have h := heap_setCells (w := w.alloc (.cells C T)) (encM x) 0 (heap_new w (.cells C T))
    rw [encM_zero _ _ hC] at h
    exact h
  · exact ((Fr.refl (fun _ => False) w).alloc (.cells C T)).setCells (fun h => by omega) _ _
  · rw [size_setCells]; simp

attribute [local go_sem ↓] run_ldN run_stN
set_option maxRecDepth 100000 in
set_option maxHeartbeats 2000000 in
theorem lown_ok {w : World} {F : Nat → Prop} {s : Option Addr} {n c : Nat} {P : List Pq} (h : Pa w F s n P) :
    Calls Try.prog 14 #[.slice s n c] w fun e w' => ∃ v Q, e = .returned v ∧ w'.ownsRow w.heap.size 69 9 v Q.length (Q.flatMap encP) ∧ AlP w' (fun i => i < w.heap.size ∨ v.ownBlock = some i) (fun i => F i ∨ v.ownBlock = some i) Q P ∧ Below w.heap.size w w' := by
  obtain ⟨i0, hi0, hz0, hz1, hz2⟩ := info_parts info_par
  obtain ⟨rfl, hl, h3⟩ := h
  have H3 := hid h3
  clear h3
  go_enter Try.func14, Try.ntmps14
  go_wp2_with fail
  go_loopw [3, 4] (fun v i wr => ∃ k : Nat, k ≤ P.length ∧ i = .int .i64 k ∧ ∃ Q, wr.ownsRow w.heap.size 69 9 v k (Q.flatMap encP) ∧ AlP wr (fun i => i < w.heap.size ∨ v.ownBlock = some i) (fun i => F i ∨ v.ownBlock = some i) Q (P.take k) ∧ Below w.heap.size w wr) (fun _ i _ => P.length - (intOf i).toNat)
  case atStart => exact ⟨0, Nat.zero_le _, rfl, [], by simpa using World.ownsRow_nil _ _ _ _, AlP.nil _ _ _, Below.refl _ _⟩
  case round =>
    obtain ⟨k, hk, rfl, Q, hown, hal, hb⟩ := hrel
    by_cases hkl : k < P.length
    · obtain ⟨x, hx⟩ : ∃ x, P[k]? = some x := ⟨P[k], by simp [hkl]⟩
      obtain ⟨b, o, rfl, hFb, hr⟩ := H3.out.resolve_left (fun e => by subst e; simp at hx)
      obtain ⟨hpa, V, hV⟩ := hr k x hx
      have hbs : b < w.heap.size := World.block_lt_of_cell? _ _ (hpa 0 _ rfl)
      have hpw : ParAt wr b (o + k * 9) x := fun j u hu => (hb.cell (p := ⟨b, o + k * 9 + j, none⟩) hbs).trans (hpa j u hu)
      have HX := hid hx
      have HB := hid hb
      have HO := hid hown
      have HA := hid hal
      have HV := hid hV
      have hbz := hb.size
      have hQk : Q.length = k := by have := hal.1; rw [List.length_take] at this; omega
      have hov : ∀ j, u3.ownBlock = some j → w.heap.size ≤ j ∧ j < wr.heap.size := fun j e => HO.out.lt _ e
      clear hx hr hb hown hal hpa hV
      have hjb : (k : Int) < (P.length : Int) := by omega
      have L1 : ld 47 (.pointer (some ⟨b, o + k * 9 + 2, none⟩)) wr = _ := ld_rmsg hpw.msg
      have L2 : st 47 (.pointer (some ⟨wr.heap.size, 0, none⟩)) (msgV x.m) (wr.alloc (.cells #[.int .i64 0, .string ⟨#[]⟩, .int .i64 0, .int .i64 0, .int .i64 0, .string ⟨#[]⟩, .slice none 0 0] 47)) = _ := st_rmsg x.m (there_block (m := noM) (t := 47) (heap_new wr _))
      go_upto_region 6 with fail
      generalize hw9 : World.setCells _ _ _ _ = w9
      obtain ⟨G1, G2, G3⟩ := msg_put (T := 47) (x := x.m) (C := #[.int .i64 0, .string ⟨#[]⟩, .int .i64 0, .int .i64 0, .int .i64 0, .string ⟨#[]⟩, .slice none 0 0]) rfl hw9
      clear L1 L2
      generalize hy : wr.heap.size = y at *
      have HG2 := hid G2
      have HY := hid hy
      have hp9 : ParAt w9 b (o + k * 9) x := fun j u hu => G2.cell (hpw j u hu) (fun e => e)
      have hm9 := MsgAt.of_block G1
      have hVw : Va w9 F x.m.a x.m.n V := (HV.out.fr (Fr.of_below (S := F) HB.out (fun i h1 h2 => by omega)) (fun i e => e)).no G2
      have hVw' := hid hVw
      have U := hid fun w' (hf : Fr (fun _ => False) w9 w') => eown_ok x.m.t x.m.s x.m.q x.m.y x.m.c (hVw.no hf)
      have hyb : u3.ownBlock ≠ some y := fun e => by have := (hov _ e).2; omega
      have hbb : u3.ownBlock ≠ some b := fun e => by have := (hov _ e).1; omega
      have K0 := hid fun w' (hf : Fr (fun j => u3.ownBlock = some j) w9 w') => MsgAt.cells (w := w') (b := y) (o := 0) (m := x.m) (fun j v hv => hf.cell (hm9 j v hv) hyb)
      have a0 : ∀ w', Fr (fun j => u3.ownBlock = some j) w9 w' → w'.cell? ⟨y, 0, none⟩ = some (.int .i64 x.m.p) := fun w' hf => (K0.out w' hf).1
      have a1 : ∀ w', Fr (fun j => u3.ownBlock = some j) w9 w' → w'.cell? ⟨y, 1, none⟩ = some (.string x.m.k) := fun w' hf => (K0.out w' hf).2.1
      have a2 : ∀ w', Fr (fun j => u3.ownBlock = some j) w9 w' → w'.cell? ⟨y, 2, none⟩ = some (.int .i64 x.m.t) := fun w' hf => (K0.out w' hf).2.2.1
      have a3 : ∀ w', Fr (fun j => u3.ownBlock = some j) w9 w' → w'.cell? ⟨y, 3, none⟩ = some (.int .i64 x.m.s) := fun w' hf => (K0.out w' hf).2.2.2.1
      have a4 : ∀ w', Fr (fun j => u3.ownBlock = some j) w9 w' → w'.cell? ⟨y, 4, none⟩ = some (.int .i64 x.m.q) := fun w' hf => (K0.out w' hf).2.2.2.2.1
      have a5 : ∀ w', Fr (fun j => u3.ownBlock = some j) w9 w' → w'.cell? ⟨y, 5, none⟩ = some (.string x.m.y) := fun w' hf => (K0.out w' hf).2.2.2.2.2.1
      have a6 : ∀ w', Fr (fun j => u3.ownBlock = some j) w9 w' → w'.cell? ⟨y, 6, none⟩ = some (.slice x.m.a x.m.n x.m.c) := fun w' hf => (K0.out w' hf).2.2.2.2.2.2
      have b0 : ∀ w', Fr (fun j => u3.ownBlock = some j) w9 w' → w'.cell? ⟨b, o + k * 9, none⟩ = some (.int .i64 x.f) := fun w' hf => hf.cell hp9.c0 hbb
      have b1 : ∀ w', Fr (fun j => u3.ownBlock = some j) w9 w' → w'.cell? ⟨b, o + k * 9 + 1, none⟩ = some (.int .i64 x.d) := fun w' hf => hf.cell hp9.c1 hbb
      have HO9 := hid (G2.owns HO.out (fun _ _ e => e))
      unfold evV at U
      clear hp9 hm9 hVw hpw G1 G2 hw9 hy
      refine wp_region_held_drew (S := (fun w' => Fr (fun j => u3.ownBlock = some j) w9 w')) (by kernel_rfl) ?_ (fun hH => ?_)
      · exact (Fr.refl (fun j => u3.ownBlock = some j) w9).drew
      refine wpAnyH_take (i := 0) (oi := { dst := some 17, op := Op.move (Operand.tmp 3), type := 53, pos := "law.go:26", after := #[], guard := none }) (v := ?_) rfl (by kernel_rfl) (by kernel_rfl) (by kernel_rfl) (fun _ _ _ h => h) (Or.inl ⟨by rfl, ?_⟩) hH ?_
      rotate_left
      · intro w hSw; (try dsimp only at hSw); go_simp <;> with_reducible rfl
      try simp only [Act.put, List.setIfInBounds_toArray, List.set_cons_zero, List.set_cons_succ]
      refine wpAnyH_take (i := 1) (oi := { dst := some 18, op := Op.move (Operand.tmp 0), type := 30, pos := "law.go:26", after := #[], guard := none }) (v := ?_) rfl (by kernel_rfl) (by kernel_rfl) (by kernel_rfl) (fun _ _ _ h => h) (Or.inl ⟨by rfl, ?_⟩) hH ?_
      rotate_left
      · intro w hSw; (try dsimp only at hSw); go_simp <;> with_reducible rfl
      try simp only [Act.put, List.setIfInBounds_toArray, List.set_cons_zero, List.set_cons_succ]
      refine wpAnyH_take (i := 2) (oi := { dst := some 19, op := Op.move (Operand.tmp 4), type := 3, pos := "law.go:26", after := #[], guard := none }) (v := ?_) rfl (by kernel_rfl) (by kernel_rfl) (by kernel_rfl) (fun _ _ _ h => h) (Or.inl ⟨by rfl, ?_⟩) hH ?_
      rotate_left
      · intro w hSw; (try dsimp only at hSw); go_simp <;> with_reducible rfl
      try simp only [Act.put, List.setIfInBounds_toArray, List.set_cons_zero, List.set_cons_succ]
      refine wpAnyH_take (i := 3) (oi := { dst := some 20, op := Op.indexAddr 30 (Operand.tmp 18) (Operand.tmp 19), type := 0, pos := "law.go:26", after := #[{ on := 1, ground := Ground.data }, { on := 2, ground := Ground.data }], guard := none }) (v := ?_) rfl (by kernel_rfl) (by kernel_rfl) (by kernel_rfl) (fun _ _ _ h => h) (Or.inl ⟨by rfl, ?_⟩) hH ?_
      rotate_left
      · intro w hSw; (try dsimp only at hSw); go_simp <;> with_reducible rfl
      try simp only [Act.put, List.setIfInBounds_toArray, List.set_cons_zero, List.set_cons_succ]
      refine wpAnyH_take (i := 4) (oi := { dst := some 21, op := Op.fieldAddr 79 (Operand.tmp 20) 0, type := 0, pos := "law.go:26", after := #[{ on := 3, ground := Ground.data }], guard := none }) (v := ?_) rfl (by kernel_rfl) (by kernel_rfl) (by kernel_rfl) (fun _ _ _ h => h) (Or.inl ⟨by rfl, ?_⟩) hH ?_
      rotate_left
      · intro w hSw; (try dsimp only at hSw); go_simp <;> with_reducible rfl
      try simp only [Act.put, List.setIfInBounds_toArray, List.set_cons_zero, List.set_cons_succ]
      refine wpAnyH_take (i := 5) (oi := { dst := some 22, op := Op.load 3 (Operand.tmp 21), type := 3, pos := "law.go:26", after := #[{ on := 4, ground := Ground.data }], guard := none }) (v := ?_) rfl (by kernel_rfl) (by kernel_rfl) (by kernel_rfl) (fun _ _ _ h => h) (Or.inl ⟨by rfl, ?_⟩) hH ?_
      rotate_left
      · intro w hSw; (try dsimp only at hSw); go_simp <;> with_reducible rfl
      try simp only [Act.put, List.setIfInBounds_toArray, List.set_cons_zero, List.set_cons_succ]
      refine wpAnyH_take (i := 6) (oi := { dst := some 23, op := Op.move (Operand.tmp 0), type := 30, pos := "law.go:26", after := #[], guard := none }) (v := ?_) rfl (by kernel_rfl) (by kernel_rfl) (by kernel_rfl) (fun _ _ _ h => h) (Or.inl ⟨by rfl, ?_⟩) hH ?_
      rotate_left
      · intro w hSw; (try dsimp only at hSw); go_simp <;> with_reducible rfl
      try simp only [Act.put, List.setIfInBounds_toArray, List.set_cons_zero, List.set_cons_succ]
      refine wpAnyH_take (i := 7) (oi := { dst := some 24, op := Op.move (Operand.tmp 4), type := 3, pos := "law.go:26", after := #[], guard := none }) (v := ?_) rfl (by kernel_rfl) (by kernel_rfl) (by kernel_rfl) (fun _ _ _ h => h) (Or.inl ⟨by rfl, ?_⟩) hH ?_
      rotate_left
      · intro w hSw; (try dsimp only at hSw); go_simp <;> with_reducible rfl
      try simp only [Act.put, List.setIfInBounds_toArray, List.set_cons_zero, List.set_cons_succ]
      refine wpAnyH_take (i := 8) (oi := { dst := some 25, op := Op.indexAddr 30 (Operand.tmp 23) (Operand.tmp 24), type := 0, pos := "law.go:26", after := #[{ on := 6, ground := Ground.data }, { on := 7, ground := Ground.data }], guard := none }) (v := ?_) rfl (by kernel_rfl) (by kernel_rfl) (by kernel_rfl) (fun _ _ _ h => h) (Or.inl ⟨by rfl, ?_⟩) hH ?_
      rotate_left
      · intro w hSw; (try dsimp only at hSw); go_simp <;> with_reducible rfl
      try simp only [Act.put, List.setIfInBounds_toArray, List.set_cons_zero, List.set_cons_succ]
      refine wpAnyH_take (i := 9) (oi := { dst := some 26, op := Op.fieldAddr 79 (Operand.tmp 25) 1, type := 0, pos := "law.go:26", after := #[{ on := 8, ground := Ground.data }], guard := none }) (v := ?_) rfl (by kernel_rfl) (by kernel_rfl) (by kernel_rfl) (fun _ _ _ h => h) (Or.inl ⟨by rfl, ?_⟩) hH ?_
      rotate_left
      · intro w hSw; (try dsimp only at hSw); go_simp <;> with_reducible rfl
      try simp only [Act.put, List.setIfInBounds_toArray, List.set_cons_zero, List.set_cons_succ]
      refine wpAnyH_take (i := 10) (oi := { dst := some 27, op := Op.load 3 (Operand.tmp 26), type := 3, pos := "law.go:26", after := #[{ on := 9, ground := Ground.data }], guard := none }) (v := ?_) rfl (by kernel_rfl) (by kernel_rfl) (by kernel_rfl) (fun _ _ _ h => h) (Or.inl ⟨by rfl, ?_⟩) hH ?_
      rotate_left
      · intro w hSw; (try dsimp only at hSw); go_simp <;> with_reducible rfl
      try simp only [Act.put, List.setIfInBounds_toArray, List.set_cons_zero, List.set_cons_succ]
      refine wpAnyH_take (i := 11) (oi := { dst := some 28, op := Op.fieldAddr 47 (Operand.tmp 5) 0, type := 0, pos := "law.go:26", after := #[], guard := none }) (v := ?_) rfl (by kernel_rfl) (by kernel_rfl) (by kernel_rfl) (fun _ _ _ h => h) (Or.inl ⟨by rfl, ?_⟩) hH ?_
      rotate_left
      · intro w hSw; (try dsimp only at hSw); go_simp <;> with_reducible rfl
      try simp only [Act.put, List.setIfInBounds_toArray, List.set_cons_zero, List.set_cons_succ]
      refine wpAnyH_take (i := 12) (oi := { dst := some 29, op := Op.load 3 (Operand.tmp 28), type := 3, pos := "law.go:26", after := #[{ on := 11, ground := Ground.data }], guard := none }) (v := ?_) rfl (by kernel_rfl) (by kernel_rfl) (by kernel_rfl) (fun _ _ _ h => h) (Or.inl ⟨by rfl, ?_⟩) hH ?_
      rotate_left
      · intro w hSw; (try dsimp only at hSw); go_simp <;> with_reducible rfl
      try simp only [Act.put, List.setIfInBounds_toArray, List.set_cons_zero, List.set_cons_succ]
      refine wpAnyH_take (i := 13) (oi := { dst := some 30, op := Op.fieldAddr 47 (Operand.tmp 5) 1, type := 0, pos := "law.go:26", after := #[], guard := none }) (v := ?_) rfl (by kernel_rfl) (by kernel_rfl) (by kernel_rfl) (fun _ _ _ h => h) (Or.inl ⟨by rfl, ?_⟩) hH ?_
      rotate_left
      · intro w hSw; (try dsimp only at hSw); go_simp <;> with_reducible rfl
      try simp only [Act.put, List.setIfInBounds_toArray, List.set_cons_zero, List.set_cons_succ]
      refine wpAnyH_take (i := 14) (oi := { dst := some 31, op := Op.load 9 (Operand.tmp 30), type := 9, pos := "law.go:26", after := #[{ on := 13, ground := Ground.data }], guard := none }) (v := ?_) rfl (by kernel_rfl) (by kernel_rfl) (by kernel_rfl) (fun _ _ _ h => h) (Or.inl ⟨by rfl, ?_⟩) hH ?_
      rotate_left
      · intro w hSw; (try dsimp only at hSw); go_simp <;> with_reducible rfl
      try simp only [Act.put, List.setIfInBounds_toArray, List.set_cons_zero, List.set_cons_succ]
      refine wpAnyH_take (i := 15) (oi := { dst := some 32, op := Op.fieldAddr 47 (Operand.tmp 5) 2, type := 0, pos := "law.go:26", after := #[], guard := none }) (v := ?_) rfl (by kernel_rfl) (by kernel_rfl) (by kernel_rfl) (fun _ _ _ h => h) (Or.inl ⟨by rfl, ?_⟩) hH ?_
      rotate_left
      · intro w hSw; (try dsimp only at hSw); go_simp <;> with_reducible rfl
      try simp only [Act.put, List.setIfInBounds_toArray, List.set_cons_zero, List.set_cons_succ]
      refine wpAnyH_take (i := 16) (oi := { dst := some 33, op := Op.load 45 (Operand.tmp 32), type := 45, pos := "law.go:26", after := #[{ on := 15, ground := Ground.data }], guard := none }) (v := ?_) rfl (by kernel_rfl) (by kernel_rfl) (by kernel_rfl) (fun _ _ _ h => h) (Or.inl ⟨by rfl, ?_⟩) hH ?_
      rotate_left
      · intro w hSw; (try dsimp only at hSw); go_simp <;> with_reducible rfl
      try simp only [Act.put, List.setIfInBounds_toArray, List.set_cons_zero, List.set_cons_succ]
      refine wpAnyH_ready (rs := [17]) (by kernel_rfl) (by simp) ?_
      refine AllReadyH.cons (o := { dst := some 34, op := Op.call { callee := Callee.value (Operand.func 33), args := #[Operand.tmp 33], argTypes := #[45] }, type := 38, pos := "law.go:26", after := #[{ on := 16, ground := Ground.data }], guard := none }) rfl (fun K hK => ?_) AllReadyH.nil
      go_simp
      go_at_call 33
      refine (U.out _ ((Fr.refl (fun _ => False) w9).drewN _)).mono ?_
      rintro e w3 ⟨a', c', rfl, hV', hb'⟩
      have HV' := hid hV'
      have HB' := hid hb'
      clear hb' hV'
      go_simp
      refine hK.out _ _ ?_ (fun hH => ?_)
      · exact ((Fr.refl (fun j => u3.ownBlock = some j) w9).drewN _).trans HB'.out (fun _ h => h) (fun _ _ h => h.elim)
      clear hK K
      try simp only [Act.put, List.setIfInBounds_toArray, List.set_cons_zero, List.set_cons_succ]
      refine wpAnyH_take (i := 18) (oi := { dst := some 35, op := Op.build 40 #[(0, Operand.tmp 29), (1, Operand.tmp 31), (2, Operand.tmp 34)], type := 40, pos := "law.go:26", after := #[{ on := 12, ground := Ground.data }, { on := 14, ground := Ground.data }, { on := 17, ground := Ground.data }], guard := none }) (v := ?_) rfl (by kernel_rfl) (by kernel_rfl) (by kernel_rfl) (fun _ _ _ h => h) (Or.inl ⟨by rfl, ?_⟩) hH ?_
      rotate_left
      · intro w hSw; (try dsimp only at hSw); go_simp <;> with_reducible rfl
      try simp only [Act.put, List.setIfInBounds_toArray, List.set_cons_zero, List.set_cons_succ]
      refine wpAnyH_take (i := 19) (oi := { dst := some 36, op := Op.build 69 #[(0, Operand.tmp 22), (1, Operand.tmp 27), (2, Operand.tmp 35)], type := 69, pos := "law.go:26", after := #[{ on := 5, ground := Ground.data }, { on := 10, ground := Ground.data }, { on := 18, ground := Ground.data }], guard := none }) (v := ?_) rfl (by kernel_rfl) (by kernel_rfl) (by kernel_rfl) (fun _ _ _ h => h) (Or.inl ⟨by rfl, ?_⟩) hH ?_
      rotate_left
      · intro w hSw; (try dsimp only at hSw); go_simp <;> with_reducible rfl
      try simp only [Act.put, List.setIfInBounds_toArray, List.set_cons_zero, List.set_cons_succ]
      refine wpAnyH_ready (rs := [20]) (by kernel_rfl) (by simp) ?_
      refine AllReadyH.cons (o := { dst := some 37, op := Op.buildSlice 53 1 #[(0, Operand.tmp 36)], type := 53, pos := "law.go:26", after := #[{ on := 19, ground := Ground.data }], guard := none }) rfl (fun K hK => ?_) AllReadyH.nil
      go_simp
      refine hK.out _ _ ?_ (fun hH => ?_)
      · exact hH.alloc _
      clear hK K
      try simp only [Act.put, List.setIfInBounds_toArray, List.set_cons_zero, List.set_cons_succ]
      refine wpAnyH_ready (rs := [21]) (by kernel_rfl) (by simp) ?_
      refine AllReadyH.cons (o := { dst := some 38, op := Op.call { callee := Callee.builtin Builtin.append, args := #[Operand.tmp 17, Operand.tmp 37], argTypes := #[53, 53] }, type := 53, pos := "law.go:26", after := #[{ on := 0, ground := Ground.data }, { on := 20, ground := Ground.data }, { on := 17, ground := Ground.chain }], guard := none }) rfl (fun K hK => ?_) AllReadyH.nil
      have HO4 := HB'.out.owns (w := w9.drewN 1) (by exact HO9.out) (fun _ _ e => e)
      have hz3 := HB'.out.size
      have hz9 := HG2.out.size
      go_must (refine step_append_lies _ (by rfl) _ _ _ (by rfl) w.heap.size 69 i0 _ 9 104 Try.underlying53 hi0 hz0 hz1 hz2 rfl (by omega) u3 k _ (by rfl) (by exact HO4.alloc _) ⟨w3.heap.size, 0, none⟩ 1 1 (encP ⟨x.f, x.d, ⟨x.m.p, x.m.k, x.m.t, x.m.s, x.m.q, x.m.y, a', x.m.n, c'⟩⟩) (by rfl) (by rfl) (World.news_of_block (cs := (encP ⟨x.f, x.d, ⟨x.m.p, x.m.k, x.m.t, x.m.s, x.m.q, x.m.y, a', x.m.n, c'⟩⟩).toArray) (t := 69) (fr := (0, 0)) (by exact heap_new w3 _)) (encP_one _) (by omega) (by unfold maxLen; omega) (by omega) (by simp at hz3 ⊢; omega) (w3.heap.size + 1) (by simp) ?_)
      intro g cp w2 hown hgrow hat hlt
      have HG := hid hgrow
      have HOW := hid hown
      have HT := hid hat
      clear hgrow hown hat
      refine hK.out _ _ ?_ (fun hH => ?_)
      · exact hH.grown HG.out (fun x e _ => e)
      clear hK K
      try simp only [Act.put, List.setIfInBounds_toArray, List.set_cons_zero, List.set_cons_succ]
      refine wpAnyH_take (i := 22) (oi := { dst := some 3, op := Op.assign (Operand.tmp 38), type := 53, pos := "law.go:26", after := #[{ on := 21, ground := Ground.data }, { on := 21, ground := Ground.chain }, { on := 0, ground := Ground.phase }, { on := 1, ground := Ground.phase }, { on := 2, ground := Ground.phase }, { on := 3, ground := Ground.phase }, { on := 4, ground := Ground.phase }, { on := 5, ground := Ground.phase }, { on := 6, ground := Ground.phase }, { on := 7, ground := Ground.phase }, { on := 8, ground := Ground.phase }, { on := 9, ground := Ground.phase }, { on := 10, ground := Ground.phase }, { on := 11, ground := Ground.phase }, { on := 12, ground := Ground.phase }, { on := 13, ground := Ground.phase }, { on := 14, ground := Ground.phase }, { on := 15, ground := Ground.phase }, { on := 16, ground := Ground.phase }, { on := 17, ground := Ground.phase }, { on := 18, ground := Ground.phase }, { on := 19, ground := Ground.phase }, { on := 20, ground := Ground.phase }, { on := 21, ground := Ground.phase }], guard := none }) (v := ?_) rfl (by kernel_rfl) (by kernel_rfl) (by kernel_rfl) (fun _ _ _ h => h) (Or.inl ⟨by rfl, ?_⟩) hH ?_
      rotate_left
      · intro w hSw; (try dsimp only at hSw); go_simp <;> with_reducible rfl
      try simp only [Act.put, List.setIfInBounds_toArray, List.set_cons_zero, List.set_cons_succ]
      refine wpAnyH_done (by kernel_rfl) ?_ _
      have F2 : Fr (fun j => u3.ownBlock = some j) w3 w2 := (((Fr.refl (fun j => u3.ownBlock = some j) w3).alloc _)).grown HG.out (fun x e _ => e)
      have F13 : Fr (fun _ => False) wr w3 := (HG2.out.drewN 1).trans' HB'.out
      have hz := HY.out
      have hz1 : (w9.drewN 1).heap.size = w9.heap.size := by simp
      have hT : ∀ i, i = g → i < w3.heap.size → u3.ownBlock = some i := fun i e hi => by
        subst e
        rcases HT.out with h | h
        · exact h
        · omega
      have hgs := (HOW.out.lt g rfl).1
      have A4 : AlP w2 (fun i => i < w.heap.size ∨ i = g) (fun i => F i ∨ i = g) Q (P.take k) :=
        (((HA.out.fr F13 (fun _ e => e.elim) (fun _ e => e.elim)).of (F' := fun i => i < w.heap.size ∨ u3.ownBlock = some i ∨ i = g) (G' := fun i => F i ∨ u3.ownBlock = some i ∨ i = g)
          (fun i h hi => h.elim .inl (fun h => h.elim .inr (fun h => .inr (hT i h hi)))) (fun i h hi => h.elim .inl (fun h => h.elim .inr (fun h => .inr (hT i h hi))))).fr F2 (fun i e => .inr (.inl e)) (fun i e => .inr (.inl e))).of
          (fun i h _ => h.elim .inl (fun h => .inr (.inr h))) (fun i h _ => h.elim .inl (fun h => .inr (.inr h)))
      have BT : Below w.heap.size w w2 := HB.out.trans (((F13.trans F2 (S := fun j => u3.ownBlock = some j) (fun _ h => h.elim) (fun _ _ h => h)).below (by omega) (fun i hi e => by have := (hov i e).1; omega)))
      have V1 : Va w2 (fun i => F i ∨ i = g) x.m.a x.m.n V :=
        ((HV.out.of (F' := fun i => F i ∨ w.heap.size ≤ i) (fun i h hi => h.elim (fun h => h) (fun h => by omega))).fr (Fr.of_below (S := fun i => w.heap.size ≤ i) BT (fun i h _ => h)) (fun i h => .inr h)).of (fun i h _ => h.elim .inl (fun h => .inr (by omega)))
      have V2 : Va w2 (fun i => i < w.heap.size ∨ i = g) a' x.m.n V :=
        ((HV'.out.of (F' := fun i => i < w.heap.size ∨ u3.ownBlock = some i ∨ i = g) (fun i h hi => by
          rcases h with h | h | h
          · omega
          · have := (hov i h).2; omega
          · have := (hov i (hT i h hi)).2; omega)).fr F2 (fun i e => .inr (.inl e))).of (fun i h _ => h.elim .inl (fun h => .inr (.inr h)))
      have A5 := hid (show AlP w2 (fun i => i < w.heap.size ∨ i = g) (fun i => F i ∨ i = g) (Q ++ [⟨x.f, x.d, ⟨x.m.p, x.m.k, x.m.t, x.m.s, x.m.q, x.m.y, a', x.m.n, c'⟩⟩]) (P.take (k + 1)) by
        rw [take_snoc P k x HX.out]
        exact A4.snoc ⟨rfl, rfl, rfl, rfl, rfl, rfl, rfl, rfl, V, V2, V1⟩)
      have HBT := hid BT
      clear A4 V1 V2 BT F2 F13 a0 a1 a2 a3 a4 a5 a6 b0 b1 hH HO4
      go_wp2
      go_roundw
      case rel => exact ⟨k + 1, by omega, by go_num, Q ++ [⟨x.f, x.d, ⟨x.m.p, x.m.k, x.m.t, x.m.s, x.m.q, x.m.y, a', x.m.n, c'⟩⟩], by rw [flatP_take]; exact HOW.out, A5.out.of (fun i h _ => h.imp (fun h => h) (fun h => by simp [Value.ownBlock] at h; omega)) (fun i h _ => h.imp (fun h => h) (fun h => by simp [Value.ownBlock] at h; omega)), HBT.out⟩
      case measure => simp [intOf]; omega
    · obtain rfl : k = P.length := by omega
      rw [List.take_length] at hal
      have hQ := hal.1
      have R1 := hid (show wr.ownsRow w.heap.size 69 9 u3 Q.length (Q.flatMap encP) by rw [hQ]; exact hown)
      have R2 := hid hb
      have R3 := hid hal
      clear hown hb hal
      go_wp2_with fail
      go_ret
      exact ⟨_, Q, rfl, R1.out, R3.out, R2.out⟩

end Go.Proofs.Ytakhmommcgfoaaa
