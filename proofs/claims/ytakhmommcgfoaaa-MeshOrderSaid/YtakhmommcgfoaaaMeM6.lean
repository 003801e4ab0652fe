/-
  A mesh: Fork, walked.
-/
import Derived.Test.YtakhmommcgfoaaaMeM5
namespace Go.Proofs.Ytakhmommcgfoaaa
open Go.RowKit
attribute [local go_sem ↓] run_ldM run_stM

theorem mfork_nil (w : World) : Calls Try.prog 21 #[.pointer none] w fun e w' => e = .returned (.pointer none) ∧ w = w' := by
  go_enter Try.func21, Try.ntmps21
  go_wp2
  go_ret
  exact ⟨rfl, rfl⟩

set_option maxRecDepth 100000 in
set_option maxHeartbeats 1000000 in
theorem mfork_ok {w : World} {p W most : Nat} {R : Nat → List Mq} {F : Nat → Prop} (h : MeshAt w p W most R F) :
    Calls Try.prog 21 #[.pointer (some ⟨p, 0, none⟩)] w fun e w' => e = .returned (.pointer (some ⟨w.heap.size, 0, none⟩)) ∧ MeshAt w' w.heap.size W most R (fun x => w.heap.size ≤ x ∧ x < w'.heap.size) ∧ Fr (fun _ => False) w w' := by
  obtain ⟨i0, hi0, hz0, hz1, hz2⟩ := info_parts info_pbox
  obtain ⟨⟨h1, h2, h3, h4⟩, q, cap, bx, S, hm⟩ := h
  have c0 := hm.c0
  have c1 := hm.c1
  have hpw := hm.lt p hm.fp
  have hqw := hm.lt q hm.fq
  have hnn : W * W ≤ 256 := by have := Nat.mul_le_mul h2 h2; omega
  have hcap := hm.cap1
  have hcap2 := hm.cap2
  have HL := hid (fun k (hk : k < W * W) => hm.links k hk)
  have HV := hid (fun k (hk : k < W * W) => hm.live k hk)
  have HF := hid ((Fr.refl (fun _ => False) w).alloc (.cells #[.int .i64 W, .slice none 0 0] 74))
  have G0 := hid (show Grow (w.alloc (.cells #[.int .i64 W, .slice none 0 0] 74)) w.heap.size W most R 0 (.slice none 0 0) (fun _ => 0) (fun _ _ => False) from
    ⟨heap_new w _, World.ownsRow_nil _ _ _ _, fun i hi => by omega, fun i j hi => by omega, fun i hi => by omega⟩)
  have HD := hid (fun (w' : World) v bx S (h : Grow w' w.heap.size W most R (W * W) v bx S) => h.done h1 h2 h3 h4)
  clear hm
  generalize hN : W * W = n at *
  clear hN
  go_enter Try.func21, Try.ntmps21
  go_wp2_with fail
  go_loopw [19] (fun i wr => ∃ k : Nat, k ≤ n ∧ i = .int .i64 k ∧ (∃ v bx S, Grow wr w.heap.size W most R k v bx S) ∧ Fr (fun _ => False) w wr) (fun i _ => n - (intOf i).toNat)
  case atStart => exact ⟨0, Nat.zero_le _, rfl, ⟨_, _, _, G0.out⟩, HF.out⟩
  case round =>
    obtain ⟨k, hk, rfl, ⟨v, bx2, S2, hg⟩, hf⟩ := hrel
    have R1 := hid hf
    have R2 := hid hg
    clear hf hg
    by_cases hkn : k < n
    · have hkn' : (k : Int) < (n : Int) := by omega
      have how := lt_of_block R2.out.blk
      have c2 : wr.cell? ⟨q, k, none⟩ = some (.pointer (some ⟨bx k, 0, none⟩)) := R1.out.cell (HL.out k hkn) (fun e => e)
      have N1 := hid (fun (w' : World) (hf : Fr (fun _ => False) wr w') => fork_live ((HV.out k hkn).fr (R1.out.trans' hf) (fun _ _ e => e)))
      have hvo : v.ownBlock ≠ some w.heap.size := fun e => by have := (R2.out.row.lt _ e).1; omega
      have e0 : wr.cell? ⟨w.heap.size, 1, none⟩ = some v := cell_of R2.out.blk 1 rfl
      have e1 : ∀ w', Fr (fun _ => False) wr.drew w' → w'.cell? ⟨w.heap.size, 1, none⟩ = some v := fun w' hf => hf.cell (w := wr.drew) (cell_of R2.out.blk 1 rfl) (fun e => e)
      have f1 : ∀ w', Fr (fun _ => False) wr.drew w' → w'.frozen? ⟨w.heap.size, 1, none⟩ = false := fun w' hf => free_of (hf.heap (w := wr.drew) R2.out.blk (fun e => e)) 1
      have HN := hid (fun (w' : World) (hf : Fr (fun _ => False) wr.drew w') => (show Fr (fun _ => False) wr w' from ((Fr.refl (fun _ => False) wr).drew).trans' hf))
      go_upto_region 7 with fail
      refine wp_region_held_drew (S := (fun w' => Fr (fun x => x = w.heap.size ∨ v.ownBlock = some x) wr w')) (by kernel_rfl) ?_ (fun hH => ?_)
      · exact (Fr.refl (fun x => x = w.heap.size ∨ v.ownBlock = some x) wr).drew
      refine wpAnyH_take (i := 0) (oi := { dst := some 23, op := Op.move (Operand.tmp 3), type := 25, pos := "mesh.go:133", after := #[], guard := none }) (v := ?_) rfl (by kernel_rfl) (by kernel_rfl) (by kernel_rfl) (fun _ _ _ h => h) (Or.inl ⟨by rfl, ?_⟩) hH ?_
      rotate_left
      · intro w hSw; (try dsimp only at hSw); go_simp <;> with_reducible rfl
      try simp only [Act.put, List.setIfInBounds_toArray, List.set_cons_zero, List.set_cons_succ]
      refine wpAnyH_take (i := 1) (oi := { dst := some 24, op := Op.move (Operand.tmp 3), type := 25, pos := "mesh.go:133", after := #[], guard := none }) (v := ?_) rfl (by kernel_rfl) (by kernel_rfl) (by kernel_rfl) (fun _ _ _ h => h) (Or.inl ⟨by rfl, ?_⟩) hH ?_
      rotate_left
      · intro w hSw; (try dsimp only at hSw); go_simp <;> with_reducible rfl
      try simp only [Act.put, List.setIfInBounds_toArray, List.set_cons_zero, List.set_cons_succ]
      refine wpAnyH_take (i := 2) (oi := { dst := some 25, op := Op.nilCheck (Operand.tmp 24), type := 0, pos := "mesh.go:133", after := #[{ on := 1, ground := Ground.data }], guard := none }) (v := ?_) rfl (by kernel_rfl) (by kernel_rfl) (by kernel_rfl) (fun _ _ _ h => h) (Or.inl ⟨by rfl, ?_⟩) hH ?_
      rotate_left
      · intro w hSw; (try dsimp only at hSw); go_simp <;> with_reducible rfl
      try simp only [Act.put, List.setIfInBounds_toArray, List.set_cons_zero, List.set_cons_succ]
      refine wpAnyH_take (i := 3) (oi := { dst := some 26, op := Op.fieldAddr 74 (Operand.tmp 25) 1, type := 0, pos := "mesh.go:133", after := #[{ on := 2, ground := Ground.data }], guard := none }) (v := ?_) rfl (by kernel_rfl) (by kernel_rfl) (by kernel_rfl) (fun _ _ _ h => h) (Or.inl ⟨by rfl, ?_⟩) hH ?_
      rotate_left
      · intro w hSw; (try dsimp only at hSw); go_simp <;> with_reducible rfl
      try simp only [Act.put, List.setIfInBounds_toArray, List.set_cons_zero, List.set_cons_succ]
      refine wpAnyH_take (i := 5) (oi := { dst := some 28, op := Op.move (Operand.tmp 5), type := 75, pos := "mesh.go:133", after := #[], guard := none }) (v := ?_) rfl (by kernel_rfl) (by kernel_rfl) (by kernel_rfl) (fun _ _ _ h => h) (Or.inl ⟨by rfl, ?_⟩) hH ?_
      rotate_left
      · intro w hSw; (try dsimp only at hSw); go_simp <;> with_reducible rfl
      try simp only [Act.put, List.setIfInBounds_toArray, List.set_cons_zero, List.set_cons_succ]
      refine wpAnyH_ready (rs := [4, 6]) (by kernel_rfl) (by simp) ?_
      refine AllReadyH.cons (o := { dst := some 27, op := Op.load 72 (Operand.tmp 26), type := 72, pos := "mesh.go:133", after := #[{ on := 3, ground := Ground.data }], guard := none }) rfl (fun K hK => ?_) ?_
      ·
        go_simp
        refine hK.out _ _ ?_ (fun hH => ?_)
        · exact hH
        clear hK K
        try simp only [Act.put, List.setIfInBounds_toArray, List.set_cons_zero, List.set_cons_succ]
        refine wpAnyH_ready (rs := [6]) (by kernel_rfl) (by simp) ?_
        refine AllReadyH.cons (o := { dst := some 29, op := Op.call { callee := Callee.value (Operand.func 36), args := #[Operand.tmp 28], argTypes := #[75] }, type := 75, pos := "mesh.go:133", after := #[{ on := 5, ground := Ground.data }], guard := none }) rfl (fun K hK => ?_) AllReadyH.nil
        go_simp
        go_at_call 36
        refine (N1.out _ (by exact (Fr.refl (fun _ => False) wr).drew)).mono ?_
        rintro e w1 ⟨b, rfl, hl, hf1⟩
        have HL1 := hid hl
        have HF1 := hid hf1
        have q1 := e1 w1 hf1
        have z1 := hf1.size
        clear hl hf1
        go_simp
        refine hK.out _ _ ?_ (fun hH => ?_)
        · exact (Fr.refl (fun x => x = w.heap.size ∨ v.ownBlock = some x) wr).drew.trans HF1.out (fun _ h => h) (fun _ _ h => h.elim)
        clear hK K
        try simp only [Act.put, List.setIfInBounds_toArray, List.set_cons_zero, List.set_cons_succ]
        refine wpAnyH_ready (rs := [7]) (by kernel_rfl) (by simp) ?_
        refine AllReadyH.cons (o := { dst := some 30, op := Op.buildSlice 72 1 #[(0, Operand.tmp 29)], type := 72, pos := "mesh.go:133", after := #[{ on := 6, ground := Ground.data }], guard := none }) rfl (fun K hK => ?_) AllReadyH.nil
        have q2 := cell_alloc q1 (.cells #[.pointer (some ⟨b, 0, none⟩)] 75)
        go_simp
        refine hK.out _ _ ?_ (fun hH => ?_)
        · exact ((Fr.refl (fun x => x = w.heap.size ∨ v.ownBlock = some x) wr).drew.trans HF1.out (fun _ h => h) (fun _ _ h => h.elim)).alloc _
        clear hK K
        try simp only [Act.put, List.setIfInBounds_toArray, List.set_cons_zero, List.set_cons_succ]
        refine wpAnyH_ready (rs := [8]) (by kernel_rfl) (by simp) ?_
        refine AllReadyH.cons (o := { dst := some 31, op := Op.call { callee := Callee.builtin Builtin.append, args := #[Operand.tmp 27, Operand.tmp 30], argTypes := #[72, 72] }, type := 72, pos := "mesh.go:133", after := #[{ on := 4, ground := Ground.data }, { on := 7, ground := Ground.data }, { on := 6, ground := Ground.chain }], guard := none }) rfl (fun K hK => ?_) AllReadyH.nil
        have HO := HF1.out.owns (w := wr.drew) (by exact R2.out.row) (fun _ _ e => e)
        refine step_append_lies _ (by rfl) _ _ _ (by rfl) (w.heap.size + 1) 75 i0 _ 1 8 Try.underlying72 hi0 hz0 hz1 hz2 rfl (by omega) v k _ (by rfl) (by exact HO.alloc _) ⟨w1.heap.size, 0, none⟩ 1 1 [.pointer (some ⟨b, 0, none⟩)] (by rfl) (by rfl) (World.news_of_block (cs := #[.pointer (some ⟨b, 0, none⟩)]) (t := 75) (fr := (0, 0)) (by exact heap_new w1 _)) (by simp [Value.oneCell']) (by omega) (by unfold maxLen; omega) (by omega) (by simp only [World.size_alloc]; simp only [World.size_drew] at z1; omega) (w1.heap.size + 1) (by simp) ?_
        intro g cp w2 hown hgrow hat hlt
        have hz2' : w.heap.size < w1.heap.size := by simp only [World.size_drew] at z1; omega
        have e2 : w2.cell? ⟨w.heap.size, 1, none⟩ = some v := hgrow.cell (cell_alloc q1 _) (Ne.symm hvo)
        have f2 : w2.frozen? ⟨w.heap.size, 1, none⟩ = false := (hgrow.frozen_far ⟨w.heap.size, 1, none⟩ (by simp; omega) (Ne.symm hvo)).trans (frozen_alloc (f1 w1 HF1.out) hz2' _)
        have HG := hid hgrow
        have HOW := hid hown
        have HA := hid hat
        clear hgrow hown hat
        refine hK.out _ _ ?_ (fun hH => ?_)
        · exact (((Fr.refl (fun x => x = w.heap.size ∨ v.ownBlock = some x) wr).drew.trans HF1.out (fun _ h => h) (fun _ _ h => h.elim)).alloc _).grown HG.out (fun x e _ => .inr e)
        clear hK K
        try simp only [Act.put, List.setIfInBounds_toArray, List.set_cons_zero, List.set_cons_succ]
        refine wpAnyH_take (i := 9) (oi := { dst := some 32, op := Op.nilCheck (Operand.tmp 23), type := 0, pos := "mesh.go:133", after := #[{ on := 0, ground := Ground.data }, { on := 0, ground := Ground.phase }, { on := 1, ground := Ground.phase }, { on := 2, ground := Ground.phase }, { on := 3, ground := Ground.phase }, { on := 4, ground := Ground.phase }, { on := 5, ground := Ground.phase }, { on := 6, ground := Ground.phase }, { on := 7, ground := Ground.phase }, { on := 8, ground := Ground.phase }], guard := none }) (v := ?_) rfl (by kernel_rfl) (by kernel_rfl) (by kernel_rfl) (fun _ _ _ h => h) (Or.inl ⟨by rfl, ?_⟩) hH ?_
        rotate_left
        · intro w hSw; (try dsimp only at hSw); go_simp <;> with_reducible rfl
        try simp only [Act.put, List.setIfInBounds_toArray, List.set_cons_zero, List.set_cons_succ]
        refine wpAnyH_take (i := 10) (oi := { dst := some 33, op := Op.fieldAddr 74 (Operand.tmp 32) 1, type := 0, pos := "mesh.go:133", after := #[{ on := 9, ground := Ground.data }, { on := 0, ground := Ground.phase }, { on := 1, ground := Ground.phase }, { on := 2, ground := Ground.phase }, { on := 3, ground := Ground.phase }, { on := 4, ground := Ground.phase }, { on := 5, ground := Ground.phase }, { on := 6, ground := Ground.phase }, { on := 7, ground := Ground.phase }, { on := 8, ground := Ground.phase }], guard := none }) (v := ?_) rfl (by kernel_rfl) (by kernel_rfl) (by kernel_rfl) (fun _ _ _ h => h) (Or.inl ⟨by rfl, ?_⟩) hH ?_
        rotate_left
        · intro w hSw; (try dsimp only at hSw); go_simp <;> with_reducible rfl
        try simp only [Act.put, List.setIfInBounds_toArray, List.set_cons_zero, List.set_cons_succ]
        refine wpAnyH_ready (rs := [11]) (by kernel_rfl) (by simp) ?_
        refine AllReadyH.cons (o := { dst := none, op := Op.store 72 (Operand.tmp 33) (Operand.tmp 31), type := 0, pos := "mesh.go:133", after := #[{ on := 10, ground := Ground.data }, { on := 8, ground := Ground.data }, { on := 8, ground := Ground.chain }, { on := 0, ground := Ground.phase }, { on := 1, ground := Ground.phase }, { on := 2, ground := Ground.phase }, { on := 3, ground := Ground.phase }, { on := 4, ground := Ground.phase }, { on := 5, ground := Ground.phase }, { on := 6, ground := Ground.phase }, { on := 7, ground := Ground.phase }, { on := 8, ground := Ground.phase }], guard := none }) rfl (fun K hK => ?_) AllReadyH.nil
        go_simp
        refine hK.out _ _ ?_ (fun hH => ?_)
        · exact ((((Fr.refl (fun x => x = w.heap.size ∨ v.ownBlock = some x) wr).drew.trans HF1.out (fun _ h => h) (fun _ _ h => h.elim)).alloc _).grown HG.out (fun x e _ => .inr e)).setCell (fun _ => .inl rfl) _
        clear hK K
        refine wpAnyH_done (by kernel_rfl) ?_ _
        go_wp2
        go_roundw
        case rel =>
          obtain ⟨g1, g2⟩ := R2.out.step (b := b) (Sn := fun x => wr.heap.size ≤ x ∧ x < w1.heap.size) (w1 := w1) (HN.out w1 HF1.out) (by exact HL1.out) (fun x hx => hx) ((Fr.refl (fun _ => False) w1).alloc (.cells #[.pointer (some ⟨b, 0, none⟩)] 75)) HOW.out HG.out (HA.out.imp (fun e => e) (fun e => by simp; omega)) (w3 := w2.setCell ⟨w.heap.size, 1, none⟩ (.slice (some ⟨g, 0, none⟩) (k + 1) cp)) rfl rfl rfl rfl
          refine ⟨k + 1, by omega, by go_num, ⟨_, _, _, g1⟩, ?_⟩
          refine R1.out.trans g2 (fun _ h => h) (fun i hi h => ?_)
          rcases h with h | h
          · omega
          · have := (R2.out.row.lt _ h).1; omega
        case measure => simp [intOf]; omega
      refine AllReadyH.cons (o := { dst := some 29, op := Op.call { callee := Callee.value (Operand.func 36), args := #[Operand.tmp 28], argTypes := #[75] }, type := 75, pos := "mesh.go:133", after := #[{ on := 5, ground := Ground.data }], guard := none }) rfl (fun K hK => ?_) AllReadyH.nil
      go_simp
      go_at_call 36
      refine (N1.out _ (by exact (Fr.refl (fun _ => False) wr).drew)).mono ?_
      rintro e w1 ⟨b, rfl, hl, hf1⟩
      have HL1 := hid hl
      have HF1 := hid hf1
      have q1 := e1 w1 hf1
      have z1 := hf1.size
      clear hl hf1
      go_simp
      refine hK.out _ _ ?_ (fun hH => ?_)
      · exact (Fr.refl (fun x => x = w.heap.size ∨ v.ownBlock = some x) wr).drew.trans HF1.out (fun _ h => h) (fun _ _ h => h.elim)
      clear hK K
      try simp only [Act.put, List.setIfInBounds_toArray, List.set_cons_zero, List.set_cons_succ]
      refine wpAnyH_ready (rs := [4, 7]) (by kernel_rfl) (by simp) ?_
      refine AllReadyH.cons (o := { dst := some 27, op := Op.load 72 (Operand.tmp 26), type := 72, pos := "mesh.go:133", after := #[{ on := 3, ground := Ground.data }], guard := none }) rfl (fun K hK => ?_) ?_
      ·
        go_simp
        refine hK.out _ _ ?_ (fun hH => ?_)
        · exact hH
        clear hK K
        try simp only [Act.put, List.setIfInBounds_toArray, List.set_cons_zero, List.set_cons_succ]
        refine wpAnyH_ready (rs := [7]) (by kernel_rfl) (by simp) ?_
        refine AllReadyH.cons (o := { dst := some 30, op := Op.buildSlice 72 1 #[(0, Operand.tmp 29)], type := 72, pos := "mesh.go:133", after := #[{ on := 6, ground := Ground.data }], guard := none }) rfl (fun K hK => ?_) AllReadyH.nil
        have q2 := cell_alloc q1 (.cells #[.pointer (some ⟨b, 0, none⟩)] 75)
        go_simp
        refine hK.out _ _ ?_ (fun hH => ?_)
        · exact ((Fr.refl (fun x => x = w.heap.size ∨ v.ownBlock = some x) wr).drew.trans HF1.out (fun _ h => h) (fun _ _ h => h.elim)).alloc _
        clear hK K
        try simp only [Act.put, List.setIfInBounds_toArray, List.set_cons_zero, List.set_cons_succ]
        refine wpAnyH_ready (rs := [8]) (by kernel_rfl) (by simp) ?_
        refine AllReadyH.cons (o := { dst := some 31, op := Op.call { callee := Callee.builtin Builtin.append, args := #[Operand.tmp 27, Operand.tmp 30], argTypes := #[72, 72] }, type := 72, pos := "mesh.go:133", after := #[{ on := 4, ground := Ground.data }, { on := 7, ground := Ground.data }, { on := 6, ground := Ground.chain }], guard := none }) rfl (fun K hK => ?_) AllReadyH.nil
        have HO := HF1.out.owns (w := wr.drew) (by exact R2.out.row) (fun _ _ e => e)
        refine step_append_lies _ (by rfl) _ _ _ (by rfl) (w.heap.size + 1) 75 i0 _ 1 8 Try.underlying72 hi0 hz0 hz1 hz2 rfl (by omega) v k _ (by rfl) (by exact HO.alloc _) ⟨w1.heap.size, 0, none⟩ 1 1 [.pointer (some ⟨b, 0, none⟩)] (by rfl) (by rfl) (World.news_of_block (cs := #[.pointer (some ⟨b, 0, none⟩)]) (t := 75) (fr := (0, 0)) (by exact heap_new w1 _)) (by simp [Value.oneCell']) (by omega) (by unfold maxLen; omega) (by omega) (by simp only [World.size_alloc]; simp only [World.size_drew] at z1; omega) (w1.heap.size + 1) (by simp) ?_
        intro g cp w2 hown hgrow hat hlt
        have hz2' : w.heap.size < w1.heap.size := by simp only [World.size_drew] at z1; omega
        have e2 : w2.cell? ⟨w.heap.size, 1, none⟩ = some v := hgrow.cell (cell_alloc q1 _) (Ne.symm hvo)
        have f2 : w2.frozen? ⟨w.heap.size, 1, none⟩ = false := (hgrow.frozen_far ⟨w.heap.size, 1, none⟩ (by simp; omega) (Ne.symm hvo)).trans (frozen_alloc (f1 w1 HF1.out) hz2' _)
        have HG := hid hgrow
        have HOW := hid hown
        have HA := hid hat
        clear hgrow hown hat
        refine hK.out _ _ ?_ (fun hH => ?_)
        · exact (((Fr.refl (fun x => x = w.heap.size ∨ v.ownBlock = some x) wr).drew.trans HF1.out (fun _ h => h) (fun _ _ h => h.elim)).alloc _).grown HG.out (fun x e _ => .inr e)
        clear hK K
        try simp only [Act.put, List.setIfInBounds_toArray, List.set_cons_zero, List.set_cons_succ]
        refine wpAnyH_take (i := 9) (oi := { dst := some 32, op := Op.nilCheck (Operand.tmp 23), type := 0, pos := "mesh.go:133", after := #[{ on := 0, ground := Ground.data }, { on := 0, ground := Ground.phase }, { on := 1, ground := Ground.phase }, { on := 2, ground := Ground.phase }, { on := 3, ground := Ground.phase }, { on := 4, ground := Ground.phase }, { on := 5, ground := Ground.phase }, { on := 6, ground := Ground.phase }, { on := 7, ground := Ground.phase }, { on := 8, ground := Ground.phase }], guard := none }) (v := ?_) rfl (by kernel_rfl) (by kernel_rfl) (by kernel_rfl) (fun _ _ _ h => h) (Or.inl ⟨by rfl, ?_⟩) hH ?_
        rotate_left
        · intro w hSw; (try dsimp only at hSw); go_simp <;> with_reducible rfl
        try simp only [Act.put, List.setIfInBounds_toArray, List.set_cons_zero, List.set_cons_succ]
        refine wpAnyH_take (i := 10) (oi := { dst := some 33, op := Op.fieldAddr 74 (Operand.tmp 32) 1, type := 0, pos := "mesh.go:133", after := #[{ on := 9, ground := Ground.data }, { on := 0, ground := Ground.phase }, { on := 1, ground := Ground.phase }, { on := 2, ground := Ground.phase }, { on := 3, ground := Ground.phase }, { on := 4, ground := Ground.phase }, { on := 5, ground := Ground.phase }, { on := 6, ground := Ground.phase }, { on := 7, ground := Ground.phase }, { on := 8, ground := Ground.phase }], guard := none }) (v := ?_) rfl (by kernel_rfl) (by kernel_rfl) (by kernel_rfl) (fun _ _ _ h => h) (Or.inl ⟨by rfl, ?_⟩) hH ?_
        rotate_left
        · intro w hSw; (try dsimp only at hSw); go_simp <;> with_reducible rfl
        try simp only [Act.put, List.setIfInBounds_toArray, List.set_cons_zero, List.set_cons_succ]
        refine wpAnyH_ready (rs := [11]) (by kernel_rfl) (by simp) ?_
        refine AllReadyH.cons (o := { dst := none, op := Op.store 72 (Operand.tmp 33) (Operand.tmp 31), type := 0, pos := "mesh.go:133", after := #[{ on := 10, ground := Ground.data }, { on := 8, ground := Ground.data }, { on := 8, ground := Ground.chain }, { on := 0, ground := Ground.phase }, { on := 1, ground := Ground.phase }, { on := 2, ground := Ground.phase }, { on := 3, ground := Ground.phase }, { on := 4, ground := Ground.phase }, { on := 5, ground := Ground.phase }, { on := 6, ground := Ground.phase }, { on := 7, ground := Ground.phase }, { on := 8, ground := Ground.phase }], guard := none }) rfl (fun K hK => ?_) AllReadyH.nil
        go_simp
        refine hK.out _ _ ?_ (fun hH => ?_)
        · exact ((((Fr.refl (fun x => x = w.heap.size ∨ v.ownBlock = some x) wr).drew.trans HF1.out (fun _ h => h) (fun _ _ h => h.elim)).alloc _).grown HG.out (fun x e _ => .inr e)).setCell (fun _ => .inl rfl) _
        clear hK K
        refine wpAnyH_done (by kernel_rfl) ?_ _
        go_wp2
        go_roundw
        case rel =>
          obtain ⟨g1, g2⟩ := R2.out.step (b := b) (Sn := fun x => wr.heap.size ≤ x ∧ x < w1.heap.size) (w1 := w1) (HN.out w1 HF1.out) (by exact HL1.out) (fun x hx => hx) ((Fr.refl (fun _ => False) w1).alloc (.cells #[.pointer (some ⟨b, 0, none⟩)] 75)) HOW.out HG.out (HA.out.imp (fun e => e) (fun e => by simp; omega)) (w3 := w2.setCell ⟨w.heap.size, 1, none⟩ (.slice (some ⟨g, 0, none⟩) (k + 1) cp)) rfl rfl rfl rfl
          refine ⟨k + 1, by omega, by go_num, ⟨_, _, _, g1⟩, ?_⟩
          refine R1.out.trans g2 (fun _ h => h) (fun i hi h => ?_)
          rcases h with h | h
          · omega
          · have := (R2.out.row.lt _ h).1; omega
        case measure => simp [intOf]; omega
      refine AllReadyH.cons (o := { dst := some 30, op := Op.buildSlice 72 1 #[(0, Operand.tmp 29)], type := 72, pos := "mesh.go:133", after := #[{ on := 6, ground := Ground.data }], guard := none }) rfl (fun K hK => ?_) AllReadyH.nil
      have q2 := cell_alloc q1 (.cells #[.pointer (some ⟨b, 0, none⟩)] 75)
      go_simp
      refine hK.out _ _ ?_ (fun hH => ?_)
      · exact ((Fr.refl (fun x => x = w.heap.size ∨ v.ownBlock = some x) wr).drew.trans HF1.out (fun _ h => h) (fun _ _ h => h.elim)).alloc _
      clear hK K
      try simp only [Act.put, List.setIfInBounds_toArray, List.set_cons_zero, List.set_cons_succ]
      refine wpAnyH_ready (rs := [4]) (by kernel_rfl) (by simp) ?_
      refine AllReadyH.cons (o := { dst := some 27, op := Op.load 72 (Operand.tmp 26), type := 72, pos := "mesh.go:133", after := #[{ on := 3, ground := Ground.data }], guard := none }) rfl (fun K hK => ?_) AllReadyH.nil
      go_simp
      refine hK.out _ _ ?_ (fun hH => ?_)
      · exact hH
      clear hK K
      try simp only [Act.put, List.setIfInBounds_toArray, List.set_cons_zero, List.set_cons_succ]
      refine wpAnyH_ready (rs := [8]) (by kernel_rfl) (by simp) ?_
      refine AllReadyH.cons (o := { dst := some 31, op := Op.call { callee := Callee.builtin Builtin.append, args := #[Operand.tmp 27, Operand.tmp 30], argTypes := #[72, 72] }, type := 72, pos := "mesh.go:133", after := #[{ on := 4, ground := Ground.data }, { on := 7, ground := Ground.data }, { on := 6, ground := Ground.chain }], guard := none }) rfl (fun K hK => ?_) AllReadyH.nil
      have HO := HF1.out.owns (w := wr.drew) (by exact R2.out.row) (fun _ _ e => e)
      refine step_append_lies _ (by rfl) _ _ _ (by rfl) (w.heap.size + 1) 75 i0 _ 1 8 Try.underlying72 hi0 hz0 hz1 hz2 rfl (by omega) v k _ (by rfl) (by exact HO.alloc _) ⟨w1.heap.size, 0, none⟩ 1 1 [.pointer (some ⟨b, 0, none⟩)] (by rfl) (by rfl) (World.news_of_block (cs := #[.pointer (some ⟨b, 0, none⟩)]) (t := 75) (fr := (0, 0)) (by exact heap_new w1 _)) (by simp [Value.oneCell']) (by omega) (by unfold maxLen; omega) (by omega) (by simp only [World.size_alloc]; simp only [World.size_drew] at z1; omega) (w1.heap.size + 1) (by simp) ?_
      intro g cp w2 hown hgrow hat hlt
      have hz2' : w.heap.size < w1.heap.size := by simp only [World.size_drew] at z1; omega
      have e2 : w2.cell? ⟨w.heap.size, 1, none⟩ = some v := hgrow.cell (cell_alloc q1 _) (Ne.symm hvo)
      have f2 : w2.frozen? ⟨w.heap.size, 1, none⟩ = false := (hgrow.frozen_far ⟨w.heap.size, 1, none⟩ (by simp; omega) (Ne.symm hvo)).trans (frozen_alloc (f1 w1 HF1.out) hz2' _)
      have HG := hid hgrow
      have HOW := hid hown
      have HA := hid hat
      clear hgrow hown hat
      refine hK.out _ _ ?_ (fun hH => ?_)
      · exact (((Fr.refl (fun x => x = w.heap.size ∨ v.ownBlock = some x) wr).drew.trans HF1.out (fun _ h => h) (fun _ _ h => h.elim)).alloc _).grown HG.out (fun x e _ => .inr e)
      clear hK K
      try simp only [Act.put, List.setIfInBounds_toArray, List.set_cons_zero, List.set_cons_succ]
      refine wpAnyH_take (i := 9) (oi := { dst := some 32, op := Op.nilCheck (Operand.tmp 23), type := 0, pos := "mesh.go:133", after := #[{ on := 0, ground := Ground.data }, { on := 0, ground := Ground.phase }, { on := 1, ground := Ground.phase }, { on := 2, ground := Ground.phase }, { on := 3, ground := Ground.phase }, { on := 4, ground := Ground.phase }, { on := 5, ground := Ground.phase }, { on := 6, ground := Ground.phase }, { on := 7, ground := Ground.phase }, { on := 8, ground := Ground.phase }], guard := none }) (v := ?_) rfl (by kernel_rfl) (by kernel_rfl) (by kernel_rfl) (fun _ _ _ h => h) (Or.inl ⟨by rfl, ?_⟩) hH ?_
      rotate_left
      · intro w hSw; (try dsimp only at hSw); go_simp <;> with_reducible rfl
      try simp only [Act.put, List.setIfInBounds_toArray, List.set_cons_zero, List.set_cons_succ]
      refine wpAnyH_take (i := 10) (oi := { dst := some 33, op := Op.fieldAddr 74 (Operand.tmp 32) 1, type := 0, pos := "mesh.go:133", after := #[{ on := 9, ground := Ground.data }, { on := 0, ground := Ground.phase }, { on := 1, ground := Ground.phase }, { on := 2, ground := Ground.phase }, { on := 3, ground := Ground.phase }, { on := 4, ground := Ground.phase }, { on := 5, ground := Ground.phase }, { on := 6, ground := Ground.phase }, { on := 7, ground := Ground.phase }, { on := 8, ground := Ground.phase }], guard := none }) (v := ?_) rfl (by kernel_rfl) (by kernel_rfl) (by kernel_rfl) (fun _ _ _ h => h) (Or.inl ⟨by rfl, ?_⟩) hH ?_
      rotate_left
      · intro w hSw; (try dsimp only at hSw); go_simp <;> with_reducible rfl
      try simp only [Act.put, List.setIfInBounds_toArray, List.set_cons_zero, List.set_cons_succ]
      refine wpAnyH_ready (rs := [11]) (by kernel_rfl) (by simp) ?_
      refine AllReadyH.cons (o := { dst := none, op := Op.store 72 (Operand.tmp 33) (Operand.tmp 31), type := 0, pos := "mesh.go:133", after := #[{ on := 10, ground := Ground.data }, { on := 8, ground := Ground.data }, { on := 8, ground := Ground.chain }, { on := 0, ground := Ground.phase }, { on := 1, ground := Ground.phase }, { on := 2, ground := Ground.phase }, { on := 3, ground := Ground.phase }, { on := 4, ground := Ground.phase }, { on := 5, ground := Ground.phase }, { on := 6, ground := Ground.phase }, { on := 7, ground := Ground.phase }, { on := 8, ground := Ground.phase }], guard := none }) rfl (fun K hK => ?_) AllReadyH.nil
      go_simp
      refine hK.out _ _ ?_ (fun hH => ?_)
      · exact ((((Fr.refl (fun x => x = w.heap.size ∨ v.ownBlock = some x) wr).drew.trans HF1.out (fun _ h => h) (fun _ _ h => h.elim)).alloc _).grown HG.out (fun x e _ => .inr e)).setCell (fun _ => .inl rfl) _
      clear hK K
      refine wpAnyH_done (by kernel_rfl) ?_ _
      go_wp2
      go_roundw
      case rel =>
        obtain ⟨g1, g2⟩ := R2.out.step (b := b) (Sn := fun x => wr.heap.size ≤ x ∧ x < w1.heap.size) (w1 := w1) (HN.out w1 HF1.out) (by exact HL1.out) (fun x hx => hx) ((Fr.refl (fun _ => False) w1).alloc (.cells #[.pointer (some ⟨b, 0, none⟩)] 75)) HOW.out HG.out (HA.out.imp (fun e => e) (fun e => by simp; omega)) (w3 := w2.setCell ⟨w.heap.size, 1, none⟩ (.slice (some ⟨g, 0, none⟩) (k + 1) cp)) rfl rfl rfl rfl
        refine ⟨k + 1, by omega, by go_num, ⟨_, _, _, g1⟩, ?_⟩
        refine R1.out.trans g2 (fun _ h => h) (fun i hi h => ?_)
        rcases h with h | h
        · omega
        · have := (R2.out.row.lt _ h).1; omega
      case measure => simp [intOf]; omega
    · obtain rfl : k = n := by omega
      go_wp2_with fail
      go_ret
      exact ⟨rfl, HD.out _ _ _ _ R2.out, R1.out⟩

end Go.Proofs.Ytakhmommcgfoaaa
