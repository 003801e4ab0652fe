/-
  The box of messages: Push, walked.
-/
import Derived.Test.YtakhmommcgfoaaaMeB4
namespace Go.Proofs.Ytakhmommcgfoaaa
open Go.RowKit
attribute [local go_sem ↓] run_ldM run_stM

theorem box_push {w w1 : World} {B b : Nat} {g cap most h : Nat} {zs L : List Mq} (y : Mq)
    (x : BoxM w B b (.slice (some ⟨g, 0, none⟩) zs.length cap) most h zs L) (hl : L.length < zs.length)
    (hh : w1.heap = ((w.setCells g ((((h : Int) + (L.length : Int)) % (zs.length : Int)).toNat * 7) (encM y)).setCell ⟨b, 3, none⟩ (.int .i64 ((L.length : Int) + 1))).heap)
    (ho : w1.os = w.os) (ht : w1.tape = w.tape) (hp : w1.output = w.output) :
    BoxM w1 B b (.slice (some ⟨g, 0, none⟩) zs.length cap) most h (zs.set ((h + L.length) % zs.length) y) (L ++ [y]) ∧ Fr (fun k => k = b ∨ k = g) w w1 := by
  have hr := x.ring.push hl y
  have hgb : g ≠ b := fun e => x.ne (by rw [← e]; rfl)
  rw [toNat_mod7] at hh
  have hml : (h + L.length) % zs.length < zs.length := Nat.mod_lt _ (by omega)
  have hs := owns_put encM_len (by omega) x.own ((h + L.length) % zs.length) hml y
  have hfr : Fr (fun k => k = b ∨ k = g) w w1 := by
    have := (Fr.setCells (S := fun k => k = b ∨ k = g) (b := g) (fun _ => .inr rfl) (encM y) ((h + L.length) % zs.length * 7) (Fr.refl _ w)).setCell (p := ⟨b, 3, none⟩) (fun _ => .inl rfl) (.int .i64 ((L.length : Int) + 1))
    exact ⟨ho, ht, hp, by rw [hh]; exact this.size, by rw [hh]; exact this.block⟩
  refine ⟨⟨x.base, ?_, ?_, x.ne, x.m1, by simpa using x.le, hr⟩, hfr⟩
  · rw [hh, heap_set (heap_setCells_ne (fun e => hgb e.symm) _ _ x.blk) _]
    simp
  · have h2 := Go.ownsRow_setCell_other hs (a := ⟨b, 3, none⟩) (by simp [Value.ownBlock, hgb]) (.int .i64 ((L.length : Int) + 1))
    unfold World.ownsRow at h2 ⊢
    rw [hh]
    simpa using h2

theorem push_turn {w w1 : World} {B b : Nat} {g cap most h : Nat} {zs L : List Mq} (y : Mq)
    (x : BoxM w B b (.slice (some ⟨g, 0, none⟩) zs.length cap) most h zs L) (hl : L.length < zs.length)
    (hh : w1.heap = ((w.setCells g ((((h : Int) + (L.length : Int)) % (zs.length : Int)).toNat * 7) (encM y)).setCell ⟨b, 3, none⟩ (.int .i64 ((L.length : Int) + 1))).heap)
    (ho : w1.os = w.os) (ht : w1.tape = w.tape) (hp : w1.output = w.output) :
    Calls Try.prog 40 #[.pointer (some ⟨b, 0, none⟩)] w1 fun e w' => e = .returned (.tuple #[]) ∧ Hid ((∃ zs', BoxM w' B b (.slice (some ⟨g, 0, none⟩) zs.length cap) most h zs' (L ++ [y])) ∧ Fr (fun k => k = b ∨ k = g) w w') := by
  obtain ⟨hB, hF⟩ := box_push y x hl hh ho ht hp
  refine (turned_nil b (L ++ [y]).length _ _ _ w1 hB.blk).mono ?_
  rintro e w' ⟨rfl, rfl⟩
  exact ⟨rfl, ⟨_, hB⟩, hF⟩

theorem push_facts {w : World} {B b : Nat} {rv : Value} {most h : Nat} {zs L : List Mq} (x : BoxM w B b rv most h zs L) (hl : L.length < zs.length) :
    ∃ g cap, rv = .slice (some ⟨g, 0, none⟩) zs.length cap ∧ g ≠ b ∧ zs.length ≤ cap ∧ cap ≤ maxLen ∧ h < zs.length ∧
      w.there g ((((h : Int) + (L.length : Int)) % (zs.length : Int)).toNat * 7) 7 ∧
      (0 : Int) ≤ ((h : Int) + (L.length : Int)) % (zs.length : Int) ∧ ((h : Int) + (L.length : Int)) % (zs.length : Int) < zs.length := by
  have ho := x.own
  have hlt := x.ring.lt (by omega)
  rcases x.form with ⟨_, rfl⟩ | ⟨g, cap, rfl, hcap, hcm, _, _, hgb⟩
  · simp at hl
  have hml : (h + L.length) % zs.length < zs.length := Nat.mod_lt _ (by omega)
  obtain ⟨z, hz⟩ : ∃ z, zs[(h + L.length) % zs.length]? = some z := ⟨_, List.getElem?_eq_getElem hml⟩
  refine ⟨g, cap, rfl, hgb, hcap, hcm, hlt, ?_, Int.emod_nonneg _ (by omega), Int.emod_lt_of_pos _ (by omega)⟩
  rw [toNat_mod7]
  exact owns_there encM_len ho hz

theorem st_at {w w' : World} {g o : Nat} {S : Nat → Prop} (h : w.there g o 7) (hf : Fr S w w') (hg : ¬ S g) : w'.there g o 7 := by
  intro j hj
  have hc := (h j hj).1
  obtain ⟨v, hv⟩ := Option.isSome_iff_exists.1 hc
  have hlt : g < w.heap.size := World.block_lt_of_cell? w _ hv
  exact ⟨by rw [hf.cell hv hg]; rfl, (World.frozen?_of_block (hf.block g hlt hg)).trans (h j hj).2⟩

set_option maxRecDepth 100000 in
set_option maxHeartbeats 1000000 in
theorem push_room {w : World} {B b : Nat} {rv : Value} {most h : Nat} {zs L : List Mq} (y : Mq) (x : BoxM w B b rv most h zs L) (hl : L.length < zs.length) :
    Calls Try.prog 32 #[.pointer (some ⟨b, 0, none⟩), msgV y] w fun e w' => e = .returned (.int .i64 0) ∧
      (∃ zs', BoxM w' B b rv most h zs' (L ++ [y])) ∧ Fr (fun k => k = b ∨ rv.ownBlock = some k) w w' := by
  have hm := x.m1
  have hc := x.cnt
  have hle := x.le
  have hbw := lt_of_block x.blk
  have hgw := x.own.lt
  obtain ⟨g, cap, rfl, hgb, hcap, hcm, hlt, hth, i1, i2⟩ := push_facts x hl
  have hgw := (hgw g rfl).2
  have X := hid x
  have HT := hid hth
  clear x hth
  have hne : ((L.length : Int) == most) = false := by simp; omega
  have hne2 : ((L.length : Int) == zs.length) = false := by simp; omega
  unfold msgV
  go_enter Try.func32, Try.ntmps32
  go_upto_block 0 with fail
  generalize hw1 : World.alloc w _ = w1
  obtain ⟨P0, F1, z1⟩ := one_built hw1
  clear hw1
  have X1 := X.out.fr F1 (fun e => e) (fun _ _ e => e)
  have HX1 := hid X1
  have h3 := X1.c3
  have h1 := X1.c1
  have h0 := X1.c0
  generalize hp : w.heap.size = p at *
  have HP := hid P0
  have HF := hid F1
  clear P0 F1 X1
  go_upto_region 3 with fail
  go_quiet (fail)
  go_upto_region 5 with fail
  go_quiet (fail)
  go_upto_region 7 with fail
  generalize hw2 : World.drewN (World.drewN w1 _) _ = w2
  have F2 : Fr (fun _ => False) w1 w2 := by rw [← hw2]; exact ((Fr.refl (fun _ => False) w1).drewN _).drewN _
  clear hw2 h0 h1 h3
  have HX2 := hid (HX1.out.fr F2 (fun e => e) (fun _ _ e => e))
  have HP2 := hid (F2.heap HP.out (fun e => e))
  have HT2 := hid (st_at HT.out (HF.out.trans' F2) (fun e => e))
  have HF2 := hid (HF.out.trans' F2)
  clear F2
  have hpg : ¬ p = g := by omega
  have hgb' : ¬ b = g := fun e => hgb e.symm
  have j1 : ∀ w', Fr (fun k => k = g) w2 w' → w'.cell? ⟨b, 1, none⟩ = some (.slice (some ⟨g, 0, none⟩) zs.length cap) := fun w' h => h.cell HX2.out.c1 hgb'
  have j2 : ∀ w', Fr (fun k => k = g) w2 w' → w'.cell? ⟨b, 2, none⟩ = some (.int .i64 h) := fun w' h => h.cell HX2.out.c2 hgb'
  have j3 : ∀ w', Fr (fun k => k = g) w2 w' → w'.cell? ⟨b, 3, none⟩ = some (.int .i64 L.length) := fun w' h => h.cell HX2.out.c3 hgb'
  have j4 : ∀ w', Fr (fun k => k = g) w2 w' → ld 40 (.pointer (some ⟨p, 0, none⟩)) w' = .ok (.value (msgV y)) w' := fun w' h => ld_msg (fun j v hv => h.cell (MsgAt.of_block HP2.out j v hv) hpg)
  refine wp_region_held_drew (S := (fun w' => Fr (fun k => k = g) w2 w')) (by kernel_rfl) ?_ (fun hH => ?_)
  · exact (Fr.refl (fun k => k = g) w2).drew
  refine wpAnyH_take (i := 0) (oi := { dst := some 31, op := Op.move (Operand.tmp 0), type := 75, pos := "box.go:54", after := #[], guard := none }) (v := ?_) rfl (by kernel_rfl) (by kernel_rfl) (by kernel_rfl) (fun _ _ _ h => h) (Or.inl ⟨by rfl, ?_⟩) hH ?_
  rotate_left
  · intro w hSw; (try dsimp only at hSw); go_simp <;> with_reducible rfl
  try simp only [Act.put, List.setIfInBounds_toArray, List.set_cons_zero, List.set_cons_succ]
  refine wpAnyH_take (i := 1) (oi := { dst := some 32, op := Op.nilCheck (Operand.tmp 31), type := 0, pos := "box.go:54", after := #[{ on := 0, ground := Ground.data }], guard := none }) (v := ?_) rfl (by kernel_rfl) (by kernel_rfl) (by kernel_rfl) (fun _ _ _ h => h) (Or.inl ⟨by rfl, ?_⟩) hH ?_
  rotate_left
  · intro w hSw; (try dsimp only at hSw); go_simp <;> with_reducible rfl
  try simp only [Act.put, List.setIfInBounds_toArray, List.set_cons_zero, List.set_cons_succ]
  refine wpAnyH_take (i := 2) (oi := { dst := some 33, op := Op.fieldAddr 97 (Operand.tmp 32) 1, type := 0, pos := "box.go:54", after := #[{ on := 1, ground := Ground.data }], guard := none }) (v := ?_) rfl (by kernel_rfl) (by kernel_rfl) (by kernel_rfl) (fun _ _ _ h => h) (Or.inl ⟨by rfl, ?_⟩) hH ?_
  rotate_left
  · intro w hSw; (try dsimp only at hSw); go_simp <;> with_reducible rfl
  try simp only [Act.put, List.setIfInBounds_toArray, List.set_cons_zero, List.set_cons_succ]
  refine wpAnyH_take (i := 3) (oi := { dst := some 34, op := Op.load 91 (Operand.tmp 33), type := 91, pos := "box.go:54", after := #[{ on := 2, ground := Ground.data }], guard := none }) (v := ?_) rfl (by kernel_rfl) (by kernel_rfl) (by kernel_rfl) (fun _ _ _ h => h) (Or.inl ⟨by rfl, ?_⟩) hH ?_
  rotate_left
  · intro w hSw; (try dsimp only at hSw); go_simp <;> with_reducible rfl
  try simp only [Act.put, List.setIfInBounds_toArray, List.set_cons_zero, List.set_cons_succ]
  refine wpAnyH_take (i := 4) (oi := { dst := some 35, op := Op.move (Operand.tmp 0), type := 75, pos := "box.go:54", after := #[], guard := none }) (v := ?_) rfl (by kernel_rfl) (by kernel_rfl) (by kernel_rfl) (fun _ _ _ h => h) (Or.inl ⟨by rfl, ?_⟩) hH ?_
  rotate_left
  · intro w hSw; (try dsimp only at hSw); go_simp <;> with_reducible rfl
  try simp only [Act.put, List.setIfInBounds_toArray, List.set_cons_zero, List.set_cons_succ]
  refine wpAnyH_take (i := 5) (oi := { dst := some 36, op := Op.move (Operand.tmp 0), type := 75, pos := "box.go:54", after := #[], guard := none }) (v := ?_) rfl (by kernel_rfl) (by kernel_rfl) (by kernel_rfl) (fun _ _ _ h => h) (Or.inl ⟨by rfl, ?_⟩) hH ?_
  rotate_left
  · intro w hSw; (try dsimp only at hSw); go_simp <;> with_reducible rfl
  try simp only [Act.put, List.setIfInBounds_toArray, List.set_cons_zero, List.set_cons_succ]
  refine wpAnyH_take (i := 6) (oi := { dst := some 37, op := Op.nilCheck (Operand.tmp 36), type := 0, pos := "box.go:54", after := #[{ on := 5, ground := Ground.data }], guard := none }) (v := ?_) rfl (by kernel_rfl) (by kernel_rfl) (by kernel_rfl) (fun _ _ _ h => h) (Or.inl ⟨by rfl, ?_⟩) hH ?_
  rotate_left
  · intro w hSw; (try dsimp only at hSw); go_simp <;> with_reducible rfl
  try simp only [Act.put, List.setIfInBounds_toArray, List.set_cons_zero, List.set_cons_succ]
  refine wpAnyH_take (i := 7) (oi := { dst := some 38, op := Op.fieldAddr 97 (Operand.tmp 37) 3, type := 0, pos := "box.go:54", after := #[{ on := 6, ground := Ground.data }], guard := none }) (v := ?_) rfl (by kernel_rfl) (by kernel_rfl) (by kernel_rfl) (fun _ _ _ h => h) (Or.inl ⟨by rfl, ?_⟩) hH ?_
  rotate_left
  · intro w hSw; (try dsimp only at hSw); go_simp <;> with_reducible rfl
  try simp only [Act.put, List.setIfInBounds_toArray, List.set_cons_zero, List.set_cons_succ]
  refine wpAnyH_take (i := 8) (oi := { dst := some 39, op := Op.load 3 (Operand.tmp 38), type := 3, pos := "box.go:54", after := #[{ on := 7, ground := Ground.data }], guard := none }) (v := ?_) rfl (by kernel_rfl) (by kernel_rfl) (by kernel_rfl) (fun _ _ _ h => h) (Or.inl ⟨by rfl, ?_⟩) hH ?_
  rotate_left
  · intro w hSw; (try dsimp only at hSw); go_simp <;> with_reducible rfl
  try simp only [Act.put, List.setIfInBounds_toArray, List.set_cons_zero, List.set_cons_succ]
  refine wpAnyH_take (i := 10) (oi := { dst := some 41, op := Op.load 40 (Operand.tmp 3), type := 40, pos := "box.go:54", after := #[], guard := none }) (v := ?_) rfl (by kernel_rfl) (by kernel_rfl) (by kernel_rfl) (fun _ _ _ h => h) (Or.inl ⟨by rfl, ?_⟩) hH ?_
  rotate_left
  · intro w hSw; (try dsimp only at hSw); go_simp <;> with_reducible rfl
  try simp only [Act.put, List.setIfInBounds_toArray, List.set_cons_zero, List.set_cons_succ]
  refine wpAnyH_ready (rs := [9]) (by kernel_rfl) (by simp) ?_
  refine AllReadyH.cons (o := { dst := some 40, op := Op.call { callee := Callee.value (Operand.func 39), args := #[Operand.tmp 35, Operand.tmp 39], argTypes := #[75, 3] }, type := 3, pos := "box.go:54", after := #[{ on := 4, ground := Ground.data }, { on := 8, ground := Ground.data }], guard := none }) rfl (fun K hK => ?_) AllReadyH.nil
  go_simp
  go_at_call 39
  refine (at_walk b h zs.length cap L.length (some ⟨g, 0, none⟩) _ (by exact j1 _ hH) (by exact j2 _ hH) (by omega) (by omega) hlt (by omega) (by omega)).mono ?_
  rintro e w' ⟨rfl, m, rfl⟩
  go_simp
  refine hK.out _ _ ?_ (fun hH => ?_)
  · exact (Fr.refl (fun k => k = g) w2).drewN _
  clear hK K
  try simp only [Act.put, List.setIfInBounds_toArray, List.set_cons_zero, List.set_cons_succ]
  refine wpAnyH_take (i := 11) (oi := { dst := some 42, op := Op.indexAddr 91 (Operand.tmp 34) (Operand.tmp 40), type := 0, pos := "box.go:54", after := #[{ on := 3, ground := Ground.data }, { on := 9, ground := Ground.data }, { on := 0, ground := Ground.phase }, { on := 1, ground := Ground.phase }, { on := 2, ground := Ground.phase }, { on := 3, ground := Ground.phase }, { on := 4, ground := Ground.phase }, { on := 5, ground := Ground.phase }, { on := 6, ground := Ground.phase }, { on := 7, ground := Ground.phase }, { on := 8, ground := Ground.phase }, { on := 9, ground := Ground.phase }, { on := 10, ground := Ground.phase }], guard := none }) (v := ?_) rfl (by kernel_rfl) (by kernel_rfl) (by kernel_rfl) (fun _ _ _ h => h) (Or.inl ⟨by rfl, ?_⟩) hH ?_
  rotate_left
  · intro w hSw; (try dsimp only at hSw); go_simp <;> with_reducible rfl
  try simp only [Act.put, List.setIfInBounds_toArray, List.set_cons_zero, List.set_cons_succ]
  refine wpAnyH_ready (rs := [12]) (by kernel_rfl) (by simp) ?_
  refine AllReadyH.cons (o := { dst := none, op := Op.store 40 (Operand.tmp 42) (Operand.tmp 41), type := 0, pos := "box.go:54", after := #[{ on := 11, ground := Ground.data }, { on := 10, ground := Ground.data }, { on := 9, ground := Ground.chain }, { on := 0, ground := Ground.phase }, { on := 1, ground := Ground.phase }, { on := 2, ground := Ground.phase }, { on := 3, ground := Ground.phase }, { on := 4, ground := Ground.phase }, { on := 5, ground := Ground.phase }, { on := 6, ground := Ground.phase }, { on := 7, ground := Ground.phase }, { on := 8, ground := Ground.phase }, { on := 9, ground := Ground.phase }, { on := 10, ground := Ground.phase }], guard := none }) rfl (fun K hK => ?_) AllReadyH.nil
  have TS := st_msg y (st_at HT2.out ((Fr.refl (fun _ => False) w2).drewN (1 + m)) (fun e => e))
  go_simp
  generalize hw9 : World.setCells _ _ _ _ = w9
  refine hK.out _ _ ?_ (fun hH => ?_)
  · rw [← hw9]; exact Fr.setCells (S := fun k => k = g) (b := g) (fun _ => rfl) _ _ ((Fr.refl (fun k => k = g) w2).drewN _)
  clear hK K
  refine wpAnyH_done (by kernel_rfl) ?_ _
  have d3 := j3 _ hH
  have f3 : w9.frozen? ⟨b, 3, none⟩ = false := (World.frozen?_of_block (hH.block b (lt_of_block HX2.out.blk) hgb')).trans (HX2.out.fz 3)
  have HE9 := hid (show w9.os = (w2.drewN (1 + m)).os ∧ w9.tape = (w2.drewN (1 + m)).tape ∧ w9.output = (w2.drewN (1 + m)).output from ⟨hH.os, hH.tape, hH.output⟩)
  have HW9 := hid hw9
  have HX9 := hid (HX2.out.fr ((Fr.refl (fun _ => False) w2).drewN (1 + m)) (fun e => e) (fun _ _ e => e))
  clear j1 j2 j3 j4 TS hw9 hH
  go_wp2_with (go_at_call 40; refine (push_turn y HX9.out hl (by rw [HW9.out]) (by exact HE9.out.1) (by exact HE9.out.2.1) (by exact HE9.out.2.2)).mono ?_; rintro e w' ⟨rfl, hfin⟩)
  go_ret
  exact ⟨rfl, hfin.out.1, ((HF2.out.mono (S' := fun k => k = b ∨ (Value.slice (some ⟨g, 0, none⟩) zs.length cap).ownBlock = some k) (fun _ _ h => h.elim)).drewN (1 + m)).trans hfin.out.2 (fun k hk => hk) (fun k _ hk => hk.elim (fun e => .inl e) (fun e => .inr (by rw [e]; rfl)))⟩

set_option maxRecDepth 100000 in
set_option maxHeartbeats 1000000 in
theorem push_grow {w : World} {B b : Nat} {rv : Value} {most h : Nat} {zs L : List Mq} (y : Mq) (x : BoxM w B b rv most h zs L) (hl : L.length = zs.length) (hlm : L.length < most) (hBs : B ≤ w.heap.size) :
    Calls Try.prog 32 #[.pointer (some ⟨b, 0, none⟩), msgV y] w fun e w' => e = .returned (.int .i64 0) ∧
      (∃ rv' h' zs', BoxM w' B b rv' most h' zs' (L ++ [y]) ∧ ∀ k, rv'.ownBlock = some k → w.heap.size ≤ k) ∧ Fr (fun k => k = b) w w' := by
  have hm := x.m1
  have hc := x.cnt
  have hbw := lt_of_block x.blk
  obtain ⟨ao, n, cap0, rfl, hn⟩ : ∃ ao n cap, rv = .slice ao n cap ∧ n = L.length := by
    rcases x.form with ⟨rfl, rfl⟩ | ⟨g, cap, rfl, _⟩
    · exact ⟨_, _, _, rfl, by simpa using hl.symm⟩
    · exact ⟨_, _, _, rfl, hl.symm⟩
  subst hn
  have X := hid x
  have HL := hid hl
  clear x hl
  have hne : ((L.length : Int) == most) = false := by simp; omega
  unfold msgV
  go_enter Try.func32, Try.ntmps32
  go_upto_block 0 with fail
  generalize hw1 : World.alloc w _ = w1
  obtain ⟨P0, F1, z1⟩ := one_built hw1
  clear hw1
  have X1 := X.out.fr F1 (fun e => e) (fun _ _ e => e)
  have HX1 := hid X1
  have h3 := X1.c3
  have h1 := X1.c1
  have h0 := X1.c0
  generalize hp : w.heap.size = p at *
  have HP := hid P0
  have HF := hid F1
  clear P0 F1 X1
  go_upto_region 3 with fail
  go_quiet (fail)
  go_upto_region 5 with fail
  go_quiet (fail)
  go_upto_region 6 with fail
  generalize hw2 : World.drewN (World.drewN w1 _) _ = w2
  have F2 : Fr (fun _ => False) w1 w2 := by rw [← hw2]; exact ((Fr.refl (fun _ => False) w1).drewN _).drewN _
  have z2 : w2.heap.size = p + 1 := by rw [← hw2, ← z1]; rfl
  clear hw2 h0 h1 h3
  have HX2 := hid (HX1.out.fr F2 (fun e => e) (fun _ _ e => e))
  have HP2 := hid (F2.heap HP.out (fun e => e))
  have HF2 := hid (HF.out.trans' F2)
  clear F2 HX1 HP HF
  go_upto_region 7 with (go_at_call 41; refine (grow_ok HX2.out HL.out hlm (by omega)).mono ?_; rintro e w3 ⟨rfl, hg⟩; have HG := hid hg; clear hg)
  obtain ⟨rv2, h', zs2, x3, hl2, hF3, hfresh⟩ := HG.out
  clear HG
  obtain ⟨g, cap, rfl, hgb, hcap, hcm, hlt, hth, i1, i2⟩ := push_facts x3 hl2
  have hgf := hfresh g rfl
  have hle := x3.le
  have hpb : ¬ p = b := by omega
  have HX3 := hid x3
  have HT3 := hid hth
  have HP3 := hid (hF3.heap HP2.out hpb)
  have HF3 := hid (HF2.out.mono (S' := fun k => k = b) (fun _ _ h => h.elim) |>.trans' hF3)
  clear x3 hth hF3 hfresh HX2 HP2 HF2
  have hpg : ¬ p = g := by omega
  have hgb' : ¬ b = g := fun e => hgb e.symm
  have j1 : ∀ w', Fr (fun k => k = g) w3 w' → w'.cell? ⟨b, 1, none⟩ = some (.slice (some ⟨g, 0, none⟩) zs2.length cap) := fun w' h => h.cell HX3.out.c1 hgb'
  have j2 : ∀ w', Fr (fun k => k = g) w3 w' → w'.cell? ⟨b, 2, none⟩ = some (.int .i64 h') := fun w' h => h.cell HX3.out.c2 hgb'
  have j3 : ∀ w', Fr (fun k => k = g) w3 w' → w'.cell? ⟨b, 3, none⟩ = some (.int .i64 L.length) := fun w' h => h.cell HX3.out.c3 hgb'
  have j4 : ∀ w', Fr (fun k => k = g) w3 w' → ld 40 (.pointer (some ⟨p, 0, none⟩)) w' = .ok (.value (msgV y)) w' := fun w' h => ld_msg (fun j v hv => h.cell (MsgAt.of_block HP3.out j v hv) hpg)
  refine wp_region_held_drew (S := (fun w' => Fr (fun k => k = g) w3 w')) (by kernel_rfl) ?_ (fun hH => ?_)
  · exact (Fr.refl (fun k => k = g) w3).drew
  refine wpAnyH_take (i := 0) (oi := { dst := some 31, op := Op.move (Operand.tmp 0), type := 75, pos := "box.go:54", after := #[], guard := none }) (v := ?_) rfl (by kernel_rfl) (by kernel_rfl) (by kernel_rfl) (fun _ _ _ h => h) (Or.inl ⟨by rfl, ?_⟩) hH ?_
  rotate_left
  · intro w hSw; (try dsimp only at hSw); go_simp <;> with_reducible rfl
  try simp only [Act.put, List.setIfInBounds_toArray, List.set_cons_zero, List.set_cons_succ]
  refine wpAnyH_take (i := 1) (oi := { dst := some 32, op := Op.nilCheck (Operand.tmp 31), type := 0, pos := "box.go:54", after := #[{ on := 0, ground := Ground.data }], guard := none }) (v := ?_) rfl (by kernel_rfl) (by kernel_rfl) (by kernel_rfl) (fun _ _ _ h => h) (Or.inl ⟨by rfl, ?_⟩) hH ?_
  rotate_left
  · intro w hSw; (try dsimp only at hSw); go_simp <;> with_reducible rfl
  try simp only [Act.put, List.setIfInBounds_toArray, List.set_cons_zero, List.set_cons_succ]
  refine wpAnyH_take (i := 2) (oi := { dst := some 33, op := Op.fieldAddr 97 (Operand.tmp 32) 1, type := 0, pos := "box.go:54", after := #[{ on := 1, ground := Ground.data }], guard := none }) (v := ?_) rfl (by kernel_rfl) (by kernel_rfl) (by kernel_rfl) (fun _ _ _ h => h) (Or.inl ⟨by rfl, ?_⟩) hH ?_
  rotate_left
  · intro w hSw; (try dsimp only at hSw); go_simp <;> with_reducible rfl
  try simp only [Act.put, List.setIfInBounds_toArray, List.set_cons_zero, List.set_cons_succ]
  refine wpAnyH_take (i := 3) (oi := { dst := some 34, op := Op.load 91 (Operand.tmp 33), type := 91, pos := "box.go:54", after := #[{ on := 2, ground := Ground.data }], guard := none }) (v := ?_) rfl (by kernel_rfl) (by kernel_rfl) (by kernel_rfl) (fun _ _ _ h => h) (Or.inl ⟨by rfl, ?_⟩) hH ?_
  rotate_left
  · intro w hSw; (try dsimp only at hSw); go_simp <;> with_reducible rfl
  try simp only [Act.put, List.setIfInBounds_toArray, List.set_cons_zero, List.set_cons_succ]
  refine wpAnyH_take (i := 4) (oi := { dst := some 35, op := Op.move (Operand.tmp 0), type := 75, pos := "box.go:54", after := #[], guard := none }) (v := ?_) rfl (by kernel_rfl) (by kernel_rfl) (by kernel_rfl) (fun _ _ _ h => h) (Or.inl ⟨by rfl, ?_⟩) hH ?_
  rotate_left
  · intro w hSw; (try dsimp only at hSw); go_simp <;> with_reducible rfl
  try simp only [Act.put, List.setIfInBounds_toArray, List.set_cons_zero, List.set_cons_succ]
  refine wpAnyH_take (i := 5) (oi := { dst := some 36, op := Op.move (Operand.tmp 0), type := 75, pos := "box.go:54", after := #[], guard := none }) (v := ?_) rfl (by kernel_rfl) (by kernel_rfl) (by kernel_rfl) (fun _ _ _ h => h) (Or.inl ⟨by rfl, ?_⟩) hH ?_
  rotate_left
  · intro w hSw; (try dsimp only at hSw); go_simp <;> with_reducible rfl
  try simp only [Act.put, List.setIfInBounds_toArray, List.set_cons_zero, List.set_cons_succ]
  refine wpAnyH_take (i := 6) (oi := { dst := some 37, op := Op.nilCheck (Operand.tmp 36), type := 0, pos := "box.go:54", after := #[{ on := 5, ground := Ground.data }], guard := none }) (v := ?_) rfl (by kernel_rfl) (by kernel_rfl) (by kernel_rfl) (fun _ _ _ h => h) (Or.inl ⟨by rfl, ?_⟩) hH ?_
  rotate_left
  · intro w hSw; (try dsimp only at hSw); go_simp <;> with_reducible rfl
  try simp only [Act.put, List.setIfInBounds_toArray, List.set_cons_zero, List.set_cons_succ]
  refine wpAnyH_take (i := 7) (oi := { dst := some 38, op := Op.fieldAddr 97 (Operand.tmp 37) 3, type := 0, pos := "box.go:54", after := #[{ on := 6, ground := Ground.data }], guard := none }) (v := ?_) rfl (by kernel_rfl) (by kernel_rfl) (by kernel_rfl) (fun _ _ _ h => h) (Or.inl ⟨by rfl, ?_⟩) hH ?_
  rotate_left
  · intro w hSw; (try dsimp only at hSw); go_simp <;> with_reducible rfl
  try simp only [Act.put, List.setIfInBounds_toArray, List.set_cons_zero, List.set_cons_succ]
  refine wpAnyH_take (i := 8) (oi := { dst := some 39, op := Op.load 3 (Operand.tmp 38), type := 3, pos := "box.go:54", after := #[{ on := 7, ground := Ground.data }], guard := none }) (v := ?_) rfl (by kernel_rfl) (by kernel_rfl) (by kernel_rfl) (fun _ _ _ h => h) (Or.inl ⟨by rfl, ?_⟩) hH ?_
  rotate_left
  · intro w hSw; (try dsimp only at hSw); go_simp <;> with_reducible rfl
  try simp only [Act.put, List.setIfInBounds_toArray, List.set_cons_zero, List.set_cons_succ]
  refine wpAnyH_take (i := 10) (oi := { dst := some 41, op := Op.load 40 (Operand.tmp 3), type := 40, pos := "box.go:54", after := #[], guard := none }) (v := ?_) rfl (by kernel_rfl) (by kernel_rfl) (by kernel_rfl) (fun _ _ _ h => h) (Or.inl ⟨by rfl, ?_⟩) hH ?_
  rotate_left
  · intro w hSw; (try dsimp only at hSw); go_simp <;> with_reducible rfl
  try simp only [Act.put, List.setIfInBounds_toArray, List.set_cons_zero, List.set_cons_succ]
  refine wpAnyH_ready (rs := [9]) (by kernel_rfl) (by simp) ?_
  refine AllReadyH.cons (o := { dst := some 40, op := Op.call { callee := Callee.value (Operand.func 39), args := #[Operand.tmp 35, Operand.tmp 39], argTypes := #[75, 3] }, type := 3, pos := "box.go:54", after := #[{ on := 4, ground := Ground.data }, { on := 8, ground := Ground.data }], guard := none }) rfl (fun K hK => ?_) AllReadyH.nil
  go_simp
  go_at_call 39
  refine (at_walk b h' zs2.length cap L.length (some ⟨g, 0, none⟩) _ (by exact j1 _ hH) (by exact j2 _ hH) (by omega) (by omega) hlt (by omega) (by omega)).mono ?_
  rintro e w' ⟨rfl, m, rfl⟩
  go_simp
  refine hK.out _ _ ?_ (fun hH => ?_)
  · exact (Fr.refl (fun k => k = g) w3).drewN _
  clear hK K
  try simp only [Act.put, List.setIfInBounds_toArray, List.set_cons_zero, List.set_cons_succ]
  refine wpAnyH_take (i := 11) (oi := { dst := some 42, op := Op.indexAddr 91 (Operand.tmp 34) (Operand.tmp 40), type := 0, pos := "box.go:54", after := #[{ on := 3, ground := Ground.data }, { on := 9, ground := Ground.data }, { on := 0, ground := Ground.phase }, { on := 1, ground := Ground.phase }, { on := 2, ground := Ground.phase }, { on := 3, ground := Ground.phase }, { on := 4, ground := Ground.phase }, { on := 5, ground := Ground.phase }, { on := 6, ground := Ground.phase }, { on := 7, ground := Ground.phase }, { on := 8, ground := Ground.phase }, { on := 9, ground := Ground.phase }, { on := 10, ground := Ground.phase }], guard := none }) (v := ?_) rfl (by kernel_rfl) (by kernel_rfl) (by kernel_rfl) (fun _ _ _ h => h) (Or.inl ⟨by rfl, ?_⟩) hH ?_
  rotate_left
  · intro w hSw; (try dsimp only at hSw); go_simp <;> with_reducible rfl
  try simp only [Act.put, List.setIfInBounds_toArray, List.set_cons_zero, List.set_cons_succ]
  refine wpAnyH_ready (rs := [12]) (by kernel_rfl) (by simp) ?_
  refine AllReadyH.cons (o := { dst := none, op := Op.store 40 (Operand.tmp 42) (Operand.tmp 41), type := 0, pos := "box.go:54", after := #[{ on := 11, ground := Ground.data }, { on := 10, ground := Ground.data }, { on := 9, ground := Ground.chain }, { on := 0, ground := Ground.phase }, { on := 1, ground := Ground.phase }, { on := 2, ground := Ground.phase }, { on := 3, ground := Ground.phase }, { on := 4, ground := Ground.phase }, { on := 5, ground := Ground.phase }, { on := 6, ground := Ground.phase }, { on := 7, ground := Ground.phase }, { on := 8, ground := Ground.phase }, { on := 9, ground := Ground.phase }, { on := 10, ground := Ground.phase }], guard := none }) rfl (fun K hK => ?_) AllReadyH.nil
  have TS := st_msg y (st_at HT3.out ((Fr.refl (fun _ => False) w3).drewN (1 + m)) (fun e => e))
  go_simp
  generalize hw9 : World.setCells _ _ _ _ = w9
  refine hK.out _ _ ?_ (fun hH => ?_)
  · rw [← hw9]; exact Fr.setCells (S := fun k => k = g) (b := g) (fun _ => rfl) _ _ ((Fr.refl (fun k => k = g) w3).drewN _)
  clear hK K
  refine wpAnyH_done (by kernel_rfl) ?_ _
  have d3 := j3 _ hH
  have f3 : w9.frozen? ⟨b, 3, none⟩ = false := (World.frozen?_of_block (hH.block b (lt_of_block HX3.out.blk) hgb')).trans (HX3.out.fz 3)
  have HE9 := hid (show w9.os = (w3.drewN (1 + m)).os ∧ w9.tape = (w3.drewN (1 + m)).tape ∧ w9.output = (w3.drewN (1 + m)).output from ⟨hH.os, hH.tape, hH.output⟩)
  have HW9 := hid hw9
  have HX9 := hid (HX3.out.fr ((Fr.refl (fun _ => False) w3).drewN (1 + m)) (fun e => e) (fun _ _ e => e))
  clear j1 j2 j3 j4 TS hw9 hH
  go_wp2_with (go_at_call 40; refine (push_turn y HX9.out hl2 (by rw [HW9.out]) (by exact HE9.out.1) (by exact HE9.out.2.1) (by exact HE9.out.2.2)).mono ?_; rintro e w' ⟨rfl, hfin⟩)
  go_ret
  obtain ⟨⟨zs3, hb3⟩, hf3⟩ := hfin.out
  refine ⟨rfl, ⟨_, _, _, hb3, fun k hk => ?_⟩, ?_⟩
  · simp only [Value.ownBlock, Option.some.injEq] at hk
    omega
  · exact (HF3.out.drewN (1 + m)).trans hf3 (fun k hk => hk) (fun k hk h => h.elim (fun e => e) (fun e => by omega))

end Go.Proofs.Ytakhmommcgfoaaa
