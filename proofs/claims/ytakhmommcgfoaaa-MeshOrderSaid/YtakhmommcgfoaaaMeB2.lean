/-
  The box of messages: Pop, walked.
-/
import Derived.Test.YtakhmommcgfoaaaMeB1
import Derived.Deep.CutBlock
namespace Go.Proofs.Ytakhmommcgfoaaa
open Go.RowKit
attribute [local go_sem ↓] run_ldM run_stM

theorem results_msg {fn : Func} {p q : Tmp} (h : fn.results = #[.cell p 40, .tmp q]) {tmps : Array Value} {w : World} {b : Nat} {m : Mq} (ha : tmps.getD p undef = .pointer (some ⟨b, 0, none⟩)) (hm : MsgAt w b 0 m) :
    (results fn tmps).run Try.prog w = .ok (.tuple #[msgV m, tmps.getD q undef]) w := by
  simp only [Array.getD_eq_getD_getElem?] at ha ⊢
  simp only [results, h]
  simp [ha, asAddr, ld_var hm]

theorem there_block {w : World} {b : Nat} {m : Mq} {t : TypeId} (h : w.heap[b]? = some (.cells (encM m).toArray t (0, 0))) : w.there b 0 7 := by
  intro j hj
  refine ⟨?_, free_of h _⟩
  rw [Nat.zero_add, cell_of_row w b j _ t _ h]
  simp [encM]
  omega
theorem encM_zero (m : Mq) (C : Array Value) (h : C.size = 7) : ovl C 0 (encM m) = (encM m).toArray := by
  apply Array.ext_getElem?
  intro i
  rw [ovl_get _ _ _ _ (by rw [encM_len, h]; omega), encM_len]
  by_cases hi : i < 7
  · rw [if_pos (by omega)]; simp
  · rw [if_neg (by omega), Array.getElem?_eq_none (by omega), Array.getElem?_eq_none (by simp [encM]; omega)]
/-- two empty messages in new blocks -/
theorem two_new {w w1 : World} {T : TypeId} (hw : w1 = (w.alloc (.cells (encM noM).toArray T)).alloc (.cells (encM noM).toArray T)) :
    w1.heap[w.heap.size]? = some (.cells (encM noM).toArray T (0, 0)) ∧ w1.heap[w.heap.size + 1]? = some (.cells (encM noM).toArray T (0, 0)) ∧ Fr (fun _ => False) w w1 ∧ w1.heap.size = w.heap.size + 2 := by
  subst hw
  exact ⟨heap_old (heap_new w _) _, by simpa using heap_new (w.alloc _) (.cells (encM noM).toArray T), ((Fr.refl _ w).alloc _).alloc _, by simp⟩

theorem pop_none {w : World} {B b : Nat} {rv : Value} {most h : Nat} {zs : List Mq} (x : BoxM w B b rv most h zs []) :
    Calls Try.prog 27 #[.pointer (some ⟨b, 0, none⟩)] w fun e w' => e = .returned (.tuple #[msgV noM, .int .i64 16]) ∧ Fr (fun _ => False) w w' := by
  have X := hid x
  clear x
  go_enter Try.func27, Try.ntmps27
  go_upto_block 0 with fail
  generalize hw1 : World.alloc (World.alloc w _) _ = w1
  obtain ⟨P0, Q0, F1, z1⟩ := two_new hw1.symm
  clear hw1
  have h3 := (X.out.fr F1 (fun e => e) (fun _ _ e => e)).c3
  have L1 := ld_msg (MsgAt.of_block Q0)
  have S1 : ∀ m, st 40 (.pointer (some ⟨w.heap.size, 0, none⟩)) (msgV m) w1 = _ := fun m => st_msg m (there_block P0)
  generalize hp : w.heap.size = p at *
  generalize hq : p + 1 = q at *
  have HP := hid P0
  have HF := hid F1
  clear P0 Q0 F1
  go_wp2_with fail
  refine bodyPost_ret (results_msg Try.results27 (b := p) (m := noM) (by rfl) (MsgAt.of_block (t := 40) (fr := (0, 0)) ?_)) rfl ⟨rfl, ?_⟩
  · rw [heap_setCells _ _ HP.out, encM_zero _ _ rfl]
  · exact HF.out.setCells (fun h => by omega) _ _

theorem box_pop {w w1 : World} {B b : Nat} {g cap most h : Nat} {zs L : List Mq} {y : Mq}
    (x : BoxM w B b (.slice (some ⟨g, 0, none⟩) zs.length cap) most h zs (y :: L))
    (hh : w1.heap = (((w.setCells g (h * 7) (encM noM)).setCell ⟨b, 2, none⟩ (.int .i64 (((h : Int) + 1) % (zs.length : Int)))).setCell ⟨b, 3, none⟩ (.int .i64 L.length)).heap)
    (ho : w1.os = w.os) (ht : w1.tape = w.tape) (hp : w1.output = w.output) :
    BoxM w1 B b (.slice (some ⟨g, 0, none⟩) zs.length cap) most ((h + 1) % zs.length) (zs.set h noM) L ∧ Fr (fun k => k = b ∨ k = g) w w1 := by
  obtain ⟨hlt, hat, hr⟩ := x.ring.pop noM
  have hgb : g ≠ b := fun e => x.ne (by rw [← e]; rfl)
  have hs := owns_put encM_len (by omega) x.own h hlt noM
  have hfr : Fr (fun k => k = b ∨ k = g) w w1 := by
    have := ((Fr.setCells (S := fun k => k = b ∨ k = g) (b := g) (fun _ => .inr rfl) (encM noM) (h * 7) (Fr.refl _ w)).setCell (p := ⟨b, 2, none⟩) (fun _ => .inl rfl) (.int .i64 (((h : Int) + 1) % (zs.length : Int)))).setCell (p := ⟨b, 3, none⟩) (fun _ => .inl rfl) (.int .i64 L.length)
    exact ⟨ho, ht, hp, by rw [hh]; exact this.size, by rw [hh]; exact this.block⟩
  refine ⟨⟨x.base, ?_, ?_, x.ne, x.m1, by simpa using x.le, hr⟩, hfr⟩
  · rw [hh, heap_set (heap_set (heap_setCells_ne (fun e => hgb e.symm) _ _ x.blk) _) _]
    simp
  · have h2 := Go.ownsRow_setCell_other (Go.ownsRow_setCell_other hs (a := ⟨b, 2, none⟩) (by simp [Value.ownBlock, hgb]) (.int .i64 (((h : Int) + 1) % (zs.length : Int)))) (a := ⟨b, 3, none⟩) (by simp [Value.ownBlock, hgb]) (.int .i64 L.length)
    unfold World.ownsRow at h2 ⊢
    rw [hh]
    simpa using h2

/-- Pop's last call but the return -/
theorem pop_turn {w w1 : World} {B b : Nat} {g cap most h : Nat} {zs L : List Mq} {y : Mq}
    (x : BoxM w B b (.slice (some ⟨g, 0, none⟩) zs.length cap) most h zs (y :: L))
    (hh : w1.heap = (((w.setCells g (h * 7) (encM noM)).setCell ⟨b, 2, none⟩ (.int .i64 (((h : Int) + 1) % (zs.length : Int)))).setCell ⟨b, 3, none⟩ (.int .i64 L.length)).heap)
    (ho : w1.os = w.os) (ht : w1.tape = w.tape) (hp : w1.output = w.output) :
    Calls Try.prog 40 #[.pointer (some ⟨b, 0, none⟩)] w1 fun e w' => e = .returned (.tuple #[]) ∧ Hid ((∃ h' zs', BoxM w' B b (.slice (some ⟨g, 0, none⟩) zs.length cap) most h' zs' L) ∧ Fr (fun k => k = b ∨ k = g) w w') := by
  obtain ⟨hB, hF⟩ := box_pop x hh ho ht hp
  refine (turned_nil b L.length _ _ _ w1 hB.blk).mono ?_
  rintro e w' ⟨rfl, rfl⟩
  exact ⟨rfl, ⟨_, _, hB⟩, hF⟩

/-- a message in a new block behind others -/
theorem one_new {w w1 : World} {T : TypeId} {m : Mq} {C : Array Value} {x : Nat} (hC : C.size = 7) (hx : w.heap.size = x) (hw : w1 = (w.alloc (.cells C T)).drew.setCells x 0 (encM m)) :
    w1.heap[x]? = some (.cells (encM m).toArray T (0, 0)) ∧ Fr (fun _ => False) w w1 ∧ w1.heap.size = x + 1 := by
  subst hw hx
  refine ⟨?_, ?_, ?_⟩
  · have h := heap_setCells (w := (w.alloc (.cells C T)).drew) (encM m) 0 (heap_new w (.cells C T))
    rw [encM_zero _ _ hC] at h
    exact h
  · refine ((Fr.refl (fun _ => False) w).alloc (.cells C T)).drew.setCells (fun h => ?_) _ _
    omega
  · rw [size_setCells]; simp

set_option maxRecDepth 100000 in
set_option maxHeartbeats 1000000 in
theorem pop_some {w : World} {B b : Nat} {rv : Value} {most h : Nat} {zs L : List Mq} {y : Mq} (x : BoxM w B b rv most h zs (y :: L)) :
    Calls Try.prog 27 #[.pointer (some ⟨b, 0, none⟩)] w fun e w' => e = .returned (.tuple #[msgV y, .int .i64 0]) ∧
      (∃ h' zs', BoxM w' B b rv most h' zs' L) ∧ Fr (fun k => k = b ∨ rv.ownBlock = some k) w w' := by
  have hm := x.m1
  have hc := x.cnt
  have hle := x.le
  have hbw := lt_of_block x.blk
  obtain ⟨hlt, hat, _⟩ := x.ring.pop noM
  rcases x.form with ⟨_, rfl⟩ | ⟨g, cap, rfl, hcap, hcm, _, hgw, hgb⟩
  · simp at hlt
  simp only [List.length_cons] at hc
  have X := hid x
  have HAT := hid hat
  clear x hat
  have hL : (L.length : Int) + 1 ≤ 4096 := by omega
  have hne : ((L.length : Int) + 1 == 0) = false := by simp; omega
  go_enter Try.func27, Try.ntmps27
  go_upto_block 0 with fail
  generalize hw1 : World.alloc (World.alloc w _) _ = w1
  obtain ⟨P0, Q0, F1, z1⟩ := two_new hw1.symm
  clear hw1
  have hb : ((L.length + 1 : Nat) : Int) = (L.length : Int) + 1 := by omega
  have X1 := X.out.fr F1 (fun e => e) (fun _ _ e => e)
  have HX1 := hid X1
  have h3 := X1.c3
  rw [List.length_cons, hb] at h3
  clear hb X1
  generalize hp : w.heap.size = p at *
  generalize hq : p + 1 = q at *
  have HP := hid P0
  have HQ := hid Q0
  have HF := hid F1
  clear P0 Q0 F1
  go_upto_region 6 with fail
  have h1 : ∀ w', Fr (fun _ => False) w1 w' → w'.cell? ⟨b, 1, none⟩ = some (.slice (some ⟨g, 0, none⟩) zs.length cap) := fun w' h => (HX1.out.fr h (fun e => e) (fun _ _ e => e)).c1
  have h2 : ∀ w', Fr (fun _ => False) w1 w' → w'.cell? ⟨b, 2, none⟩ = some (.int .i64 h) := fun w' h => (HX1.out.fr h (fun e => e) (fun _ _ e => e)).c2
  have h4 : ∀ w', Fr (fun _ => False) w1 w' → ld 40 (.pointer (some ⟨g, h * 7, none⟩)) w' = .ok (.value (msgV y)) w' := fun w' h => ld_msg (owns_range encM_len (HX1.out.fr h (fun e => e) (fun _ _ e => e)).own HAT.out)
  refine wp_region_held_drew (S := (fun w' => Fr (fun _ => False) w1 w')) (by kernel_rfl) ?_ (fun hH => ?_)
  · exact (Fr.refl (fun _ => False) w1).drew
  refine wpAnyH_take (i := 0) (oi := { dst := some 17, op := Op.move (Operand.tmp 0), type := 75, pos := "box.go:69", after := #[], guard := none }) (v := ?_) rfl (by kernel_rfl) (by kernel_rfl) (by kernel_rfl) (fun _ _ _ h => h) (Or.inl ⟨by rfl, ?_⟩) hH ?_
  rotate_left
  · intro w hSw; (try dsimp only at hSw); go_simp <;> with_reducible rfl
  try simp only [Act.put, List.setIfInBounds_toArray, List.set_cons_zero, List.set_cons_succ]
  refine wpAnyH_take (i := 1) (oi := { dst := some 18, op := Op.nilCheck (Operand.tmp 17), type := 0, pos := "box.go:69", after := #[{ on := 0, ground := Ground.data }], guard := none }) (v := ?_) rfl (by kernel_rfl) (by kernel_rfl) (by kernel_rfl) (fun _ _ _ h => h) (Or.inl ⟨by rfl, ?_⟩) hH ?_
  rotate_left
  · intro w hSw; (try dsimp only at hSw); go_simp <;> with_reducible rfl
  try simp only [Act.put, List.setIfInBounds_toArray, List.set_cons_zero, List.set_cons_succ]
  refine wpAnyH_take (i := 2) (oi := { dst := some 19, op := Op.fieldAddr 97 (Operand.tmp 18) 1, type := 0, pos := "box.go:69", after := #[{ on := 1, ground := Ground.data }], guard := none }) (v := ?_) rfl (by kernel_rfl) (by kernel_rfl) (by kernel_rfl) (fun _ _ _ h => h) (Or.inl ⟨by rfl, ?_⟩) hH ?_
  rotate_left
  · intro w hSw; (try dsimp only at hSw); go_simp <;> with_reducible rfl
  try simp only [Act.put, List.setIfInBounds_toArray, List.set_cons_zero, List.set_cons_succ]
  refine wpAnyH_take (i := 3) (oi := { dst := some 20, op := Op.load 91 (Operand.tmp 19), type := 91, pos := "box.go:69", after := #[{ on := 2, ground := Ground.data }], guard := none }) (v := ?_) rfl (by kernel_rfl) (by kernel_rfl) (by kernel_rfl) (fun _ _ _ h => h) (Or.inl ⟨by rfl, ?_⟩) hH ?_
  rotate_left
  · intro w hSw; (try dsimp only at hSw); go_simp <;> with_reducible rfl
  try simp only [Act.put, List.setIfInBounds_toArray, List.set_cons_zero, List.set_cons_succ]
  refine wpAnyH_take (i := 4) (oi := { dst := some 21, op := Op.move (Operand.tmp 0), type := 75, pos := "box.go:69", after := #[], guard := none }) (v := ?_) rfl (by kernel_rfl) (by kernel_rfl) (by kernel_rfl) (fun _ _ _ h => h) (Or.inl ⟨by rfl, ?_⟩) hH ?_
  rotate_left
  · intro w hSw; (try dsimp only at hSw); go_simp <;> with_reducible rfl
  try simp only [Act.put, List.setIfInBounds_toArray, List.set_cons_zero, List.set_cons_succ]
  refine wpAnyH_take (i := 5) (oi := { dst := some 22, op := Op.nilCheck (Operand.tmp 21), type := 0, pos := "box.go:69", after := #[{ on := 4, ground := Ground.data }], guard := none }) (v := ?_) rfl (by kernel_rfl) (by kernel_rfl) (by kernel_rfl) (fun _ _ _ h => h) (Or.inl ⟨by rfl, ?_⟩) hH ?_
  rotate_left
  · intro w hSw; (try dsimp only at hSw); go_simp <;> with_reducible rfl
  try simp only [Act.put, List.setIfInBounds_toArray, List.set_cons_zero, List.set_cons_succ]
  refine wpAnyH_take (i := 6) (oi := { dst := some 23, op := Op.fieldAddr 97 (Operand.tmp 22) 2, type := 0, pos := "box.go:69", after := #[{ on := 5, ground := Ground.data }], guard := none }) (v := ?_) rfl (by kernel_rfl) (by kernel_rfl) (by kernel_rfl) (fun _ _ _ h => h) (Or.inl ⟨by rfl, ?_⟩) hH ?_
  rotate_left
  · intro w hSw; (try dsimp only at hSw); go_simp <;> with_reducible rfl
  try simp only [Act.put, List.setIfInBounds_toArray, List.set_cons_zero, List.set_cons_succ]
  refine wpAnyH_take (i := 7) (oi := { dst := some 24, op := Op.load 3 (Operand.tmp 23), type := 3, pos := "box.go:69", after := #[{ on := 6, ground := Ground.data }], guard := none }) (v := ?_) rfl (by kernel_rfl) (by kernel_rfl) (by kernel_rfl) (fun _ _ _ h => h) (Or.inl ⟨by rfl, ?_⟩) hH ?_
  rotate_left
  · intro w hSw; (try dsimp only at hSw); go_simp <;> with_reducible rfl
  try simp only [Act.put, List.setIfInBounds_toArray, List.set_cons_zero, List.set_cons_succ]
  refine wpAnyH_take (i := 8) (oi := { dst := some 25, op := Op.indexAddr 91 (Operand.tmp 20) (Operand.tmp 24), type := 0, pos := "box.go:69", after := #[{ on := 3, ground := Ground.data }, { on := 7, ground := Ground.data }], guard := none }) (v := ?_) rfl (by kernel_rfl) (by kernel_rfl) (by kernel_rfl) (fun _ _ _ h => h) (Or.inl ⟨by rfl, ?_⟩) hH ?_
  rotate_left
  · intro w hSw; (try dsimp only at hSw); go_simp <;> with_reducible rfl
  try simp only [Act.put, List.setIfInBounds_toArray, List.set_cons_zero, List.set_cons_succ]
  refine wpAnyH_take (i := 9) (oi := { dst := some 26, op := Op.load 40 (Operand.tmp 25), type := 40, pos := "box.go:69", after := #[{ on := 8, ground := Ground.data }], guard := none }) (v := ?_) rfl (by kernel_rfl) (by kernel_rfl) (by kernel_rfl) (fun _ _ _ h => h) (Or.inl ⟨by rfl, ?_⟩) hH ?_
  rotate_left
  · intro w hSw; (try dsimp only at hSw); go_simp <;> with_reducible rfl
  try simp only [Act.put, List.setIfInBounds_toArray, List.set_cons_zero, List.set_cons_succ]
  refine wpAnyH_ready (rs := [10]) (by kernel_rfl) (by simp) ?_
  refine AllReadyH.cons (o := { dst := some 5, op := Op.alloc 40, type := 0, pos := "box.go:69", after := #[], guard := none }) rfl (fun K hK => ?_) AllReadyH.nil
  go_simp
  refine hK.out _ _ ?_ (fun hH => ?_)
  · exact hH.alloc _
  clear hK K
  try simp only [Act.put, List.setIfInBounds_toArray, List.set_cons_zero, List.set_cons_succ]
  refine wpAnyH_ready (rs := [11]) (by kernel_rfl) (by simp) ?_
  refine AllReadyH.cons (o := { dst := none, op := Op.store 40 (Operand.tmp 5) (Operand.tmp 26), type := 0, pos := "box.go:69", after := #[{ on := 10, ground := Ground.data }, { on := 9, ground := Ground.data }, { on := 0, ground := Ground.phase }, { on := 1, ground := Ground.phase }, { on := 2, ground := Ground.phase }, { on := 3, ground := Ground.phase }, { on := 4, ground := Ground.phase }, { on := 5, ground := Ground.phase }, { on := 6, ground := Ground.phase }, { on := 7, ground := Ground.phase }, { on := 8, ground := Ground.phase }, { on := 9, ground := Ground.phase }, { on := 10, ground := Ground.phase }], guard := none }) rfl (fun K hK => ?_) AllReadyH.nil
  have TT : st 40 (.pointer (some ⟨p + 2, 0, none⟩)) (msgV y) (w1.alloc (.cells #[.int .i64 0, .string ⟨#[]⟩, .int .i64 0, .int .i64 0, .int .i64 0, .string ⟨#[]⟩, .slice none 0 0] 40)).drew = _ := st_msg y (there_block (m := noM) (t := 40) (by rw [← z1]; exact heap_new w1 _))
  go_simp
  generalize hw2 : World.setCells _ _ _ _ = w2
  obtain ⟨G1, G2, G3⟩ := one_new (w := w1) (m := y) (T := 40) (C := #[.int .i64 0, .string ⟨#[]⟩, .int .i64 0, .int .i64 0, .int .i64 0, .string ⟨#[]⟩, .slice none 0 0]) rfl z1 hw2.symm
  clear hw2 TT
  refine hK.out _ _ ?_ (fun hH => ?_)
  · exact G2
  clear hK K
  refine wpAnyH_done (by kernel_rfl) ?_ _
  rename World => w2
  have X2 := HX1.out.fr G2 (fun e => e) (fun _ _ e => e)
  have HX2 := hid (X2.fr ((Fr.refl (fun _ => False) w2).drew) (fun e => e) (fun _ _ e => e))
  have HG := hid G1
  have HG2 := hid G2
  have hq2 := hid (MsgAt.of_block (G2.heap HQ.out (fun e => e)))
  have i1 : ∀ w', Fr (fun k => k = g) w2 w' → w'.cell? ⟨b, 1, none⟩ = some (.slice (some ⟨g, 0, none⟩) zs.length cap) := fun w' h => h.cell X2.c1 (fun e => hgb e.symm)
  have i2 : ∀ w', Fr (fun k => k = g) w2 w' → w'.cell? ⟨b, 2, none⟩ = some (.int .i64 h) := fun w' h => h.cell X2.c2 (fun e => hgb e.symm)
  have i4 : ∀ w', Fr (fun k => k = g) w2 w' → ld 40 (.pointer (some ⟨q, 0, none⟩)) w' = .ok (.value (msgV noM)) w' := fun w' h => ld_msg (fun j v hv => h.cell (hq2.out j v hv) (fun e => by simp only at e; omega))
  have TS := st_msg noM (owns_there encM_len HX2.out.own HAT.out)
  clear h1 h2 h3 h4 hH G1 G2 X2
  go_upto_region 7 with fail
  refine wp_region_held_drew (S := (fun w' => Fr (fun k => k = g) w2 w')) (by kernel_rfl) ?_ (fun hH => ?_)
  · exact (Fr.refl (fun k => k = g) w2).drew
  refine wpAnyH_take (i := 0) (oi := { dst := some 27, op := Op.move (Operand.tmp 0), type := 75, pos := "box.go:70", after := #[], guard := none }) (v := ?_) rfl (by kernel_rfl) (by kernel_rfl) (by kernel_rfl) (fun _ _ _ h => h) (Or.inl ⟨by rfl, ?_⟩) hH ?_
  rotate_left
  · intro w hSw; (try dsimp only at hSw); go_simp <;> with_reducible rfl
  try simp only [Act.put, List.setIfInBounds_toArray, List.set_cons_zero, List.set_cons_succ]
  refine wpAnyH_take (i := 1) (oi := { dst := some 28, op := Op.nilCheck (Operand.tmp 27), type := 0, pos := "box.go:70", after := #[{ on := 0, ground := Ground.data }], guard := none }) (v := ?_) rfl (by kernel_rfl) (by kernel_rfl) (by kernel_rfl) (fun _ _ _ h => h) (Or.inl ⟨by rfl, ?_⟩) hH ?_
  rotate_left
  · intro w hSw; (try dsimp only at hSw); go_simp <;> with_reducible rfl
  try simp only [Act.put, List.setIfInBounds_toArray, List.set_cons_zero, List.set_cons_succ]
  refine wpAnyH_take (i := 2) (oi := { dst := some 29, op := Op.fieldAddr 97 (Operand.tmp 28) 1, type := 0, pos := "box.go:70", after := #[{ on := 1, ground := Ground.data }], guard := none }) (v := ?_) rfl (by kernel_rfl) (by kernel_rfl) (by kernel_rfl) (fun _ _ _ h => h) (Or.inl ⟨by rfl, ?_⟩) hH ?_
  rotate_left
  · intro w hSw; (try dsimp only at hSw); go_simp <;> with_reducible rfl
  try simp only [Act.put, List.setIfInBounds_toArray, List.set_cons_zero, List.set_cons_succ]
  refine wpAnyH_take (i := 3) (oi := { dst := some 30, op := Op.load 91 (Operand.tmp 29), type := 91, pos := "box.go:70", after := #[{ on := 2, ground := Ground.data }], guard := none }) (v := ?_) rfl (by kernel_rfl) (by kernel_rfl) (by kernel_rfl) (fun _ _ _ h => h) (Or.inl ⟨by rfl, ?_⟩) hH ?_
  rotate_left
  · intro w hSw; (try dsimp only at hSw); go_simp <;> with_reducible rfl
  try simp only [Act.put, List.setIfInBounds_toArray, List.set_cons_zero, List.set_cons_succ]
  refine wpAnyH_take (i := 4) (oi := { dst := some 31, op := Op.move (Operand.tmp 0), type := 75, pos := "box.go:70", after := #[], guard := none }) (v := ?_) rfl (by kernel_rfl) (by kernel_rfl) (by kernel_rfl) (fun _ _ _ h => h) (Or.inl ⟨by rfl, ?_⟩) hH ?_
  rotate_left
  · intro w hSw; (try dsimp only at hSw); go_simp <;> with_reducible rfl
  try simp only [Act.put, List.setIfInBounds_toArray, List.set_cons_zero, List.set_cons_succ]
  refine wpAnyH_take (i := 5) (oi := { dst := some 32, op := Op.nilCheck (Operand.tmp 31), type := 0, pos := "box.go:70", after := #[{ on := 4, ground := Ground.data }], guard := none }) (v := ?_) rfl (by kernel_rfl) (by kernel_rfl) (by kernel_rfl) (fun _ _ _ h => h) (Or.inl ⟨by rfl, ?_⟩) hH ?_
  rotate_left
  · intro w hSw; (try dsimp only at hSw); go_simp <;> with_reducible rfl
  try simp only [Act.put, List.setIfInBounds_toArray, List.set_cons_zero, List.set_cons_succ]
  refine wpAnyH_take (i := 6) (oi := { dst := some 33, op := Op.fieldAddr 97 (Operand.tmp 32) 2, type := 0, pos := "box.go:70", after := #[{ on := 5, ground := Ground.data }], guard := none }) (v := ?_) rfl (by kernel_rfl) (by kernel_rfl) (by kernel_rfl) (fun _ _ _ h => h) (Or.inl ⟨by rfl, ?_⟩) hH ?_
  rotate_left
  · intro w hSw; (try dsimp only at hSw); go_simp <;> with_reducible rfl
  try simp only [Act.put, List.setIfInBounds_toArray, List.set_cons_zero, List.set_cons_succ]
  refine wpAnyH_take (i := 7) (oi := { dst := some 34, op := Op.load 3 (Operand.tmp 33), type := 3, pos := "box.go:70", after := #[{ on := 6, ground := Ground.data }], guard := none }) (v := ?_) rfl (by kernel_rfl) (by kernel_rfl) (by kernel_rfl) (fun _ _ _ h => h) (Or.inl ⟨by rfl, ?_⟩) hH ?_
  rotate_left
  · intro w hSw; (try dsimp only at hSw); go_simp <;> with_reducible rfl
  try simp only [Act.put, List.setIfInBounds_toArray, List.set_cons_zero, List.set_cons_succ]
  refine wpAnyH_take (i := 8) (oi := { dst := some 35, op := Op.load 40 (Operand.tmp 4), type := 40, pos := "box.go:70", after := #[], guard := none }) (v := ?_) rfl (by kernel_rfl) (by kernel_rfl) (by kernel_rfl) (fun _ _ _ h => h) (Or.inl ⟨by rfl, ?_⟩) hH ?_
  rotate_left
  · intro w hSw; (try dsimp only at hSw); go_simp <;> with_reducible rfl
  try simp only [Act.put, List.setIfInBounds_toArray, List.set_cons_zero, List.set_cons_succ]
  refine wpAnyH_take (i := 9) (oi := { dst := some 36, op := Op.indexAddr 91 (Operand.tmp 30) (Operand.tmp 34), type := 0, pos := "box.go:70", after := #[{ on := 3, ground := Ground.data }, { on := 7, ground := Ground.data }, { on := 0, ground := Ground.phase }, { on := 1, ground := Ground.phase }, { on := 2, ground := Ground.phase }, { on := 3, ground := Ground.phase }, { on := 4, ground := Ground.phase }, { on := 5, ground := Ground.phase }, { on := 6, ground := Ground.phase }, { on := 7, ground := Ground.phase }, { on := 8, ground := Ground.phase }], guard := none }) (v := ?_) rfl (by kernel_rfl) (by kernel_rfl) (by kernel_rfl) (fun _ _ _ h => h) (Or.inl ⟨by rfl, ?_⟩) hH ?_
  rotate_left
  · intro w hSw; (try dsimp only at hSw); go_simp <;> with_reducible rfl
  try simp only [Act.put, List.setIfInBounds_toArray, List.set_cons_zero, List.set_cons_succ]
  refine wpAnyH_ready (rs := [10]) (by kernel_rfl) (by simp) ?_
  refine AllReadyH.cons (o := { dst := none, op := Op.store 40 (Operand.tmp 36) (Operand.tmp 35), type := 0, pos := "box.go:70", after := #[{ on := 9, ground := Ground.data }, { on := 8, ground := Ground.data }, { on := 0, ground := Ground.phase }, { on := 1, ground := Ground.phase }, { on := 2, ground := Ground.phase }, { on := 3, ground := Ground.phase }, { on := 4, ground := Ground.phase }, { on := 5, ground := Ground.phase }, { on := 6, ground := Ground.phase }, { on := 7, ground := Ground.phase }, { on := 8, ground := Ground.phase }], guard := none }) rfl (fun K hK => ?_) AllReadyH.nil
  go_simp
  generalize hw3 : World.setCells _ _ _ _ = w3
  refine hK.out _ _ ?_ (fun hH => ?_)
  · rw [← hw3]; exact Fr.setCells (S := fun k => k = g) (b := g) (fun _ => rfl) _ _ hH
  clear hK K
  refine wpAnyH_done (by kernel_rfl) ?_ _
  have b3 : w3.heap[b]? = some (.cells #[.int .i64 most, .slice (some ⟨g, 0, none⟩) zs.length cap, .int .i64 h, .int .i64 ((L.length : Int) + 1), .nilFunc] 97 (0, 0)) := by
    rw [← hw3]; exact heap_setCells_ne (fun e => hgb e.symm) _ _ (by have := HX2.out.blk; simpa using this)
  have d1 := cell_of b3 1 (v := .slice (some ⟨g, 0, none⟩) zs.length cap) rfl
  have d2 := cell_of b3 2 (v := .int .i64 h) rfl
  have d3 := cell_of b3 3 (v := .int .i64 ((L.length : Int) + 1)) rfl
  have f2 := free_of b3 2
  have f3 := free_of b3 3
  have HG3 := hid (hH.heap HG.out (by show ¬ p + 2 = g; omega))
  have HP3 := hid (hH.heap (HG2.out.heap HP.out (fun e => e)) (by show ¬ p = g; omega))
  have HW3 := hid hw3
  have HE3 := hid (show w3.os = w2.drew.os ∧ w3.tape = w2.drew.tape ∧ w3.output = w2.drew.output from ⟨hH.os, hH.tape, hH.output⟩)
  clear i1 i2 i4 TS hw3 b3 hH
  go_upto_region 11 with (first
    | (go_at_call 39; refine (at_walk b h zs.length cap 1 (some ⟨g, 0, none⟩) _ (by exact d1) (by exact d2) (by omega) (by omega) hlt (by omega) (by omega)).mono ?_; rintro e w' ⟨rfl, m, rfl⟩)
    | (go_at_call 40; refine (pop_turn HX2.out (by rw [HW3.out]; rfl) (by exact HE3.out.1) (by exact HE3.out.2.1) (by exact HE3.out.2.2)).mono ?_; rintro e w' ⟨rfl, hfin⟩))
  have FX := hfin.out.2
  have E5 := FX.heap (k := p + 2) HG.out (by rintro (e | e) <;> omega)
  have E6 := FX.heap (k := p) (HG2.out.heap HP.out (fun e => e)) (by rintro (e | e) <;> omega)
  have L5 := ld_msg (MsgAt.of_block E5)
  have S5 := st_msg y (there_block E6)
  have HE6 := hid E6
  clear E5 E6 FX
  go_wp2_with fail
  refine bodyPost_ret (results_msg Try.results27 (b := p) (m := y) (by rfl) (MsgAt.of_block (t := 40) (fr := (0, 0)) ?_)) rfl ⟨rfl, ?_⟩
  · rw [heap_setCells _ _ HE6.out, encM_zero _ _ rfl]
  · obtain ⟨⟨h', zs', hb'⟩, hf'⟩ := hfin.out
    have hpb : ¬ p = b := by omega
    have hpg : ¬ p = g := by omega
    have hfp : Fr (fun k => k = p) w' (w'.setCells p 0 (encM y)) := Fr.setCells (S := fun k => k = p) (b := p) (fun _ => rfl) _ _ (Fr.refl _ _)
    refine ⟨⟨h', zs', hb'.fr hfp (fun e => hpb e.symm) (fun k hk e => ?_)⟩, ?_⟩
    · simp only [Value.ownBlock, Option.some.injEq] at hk
      exact hpg (e ▸ hk.symm)
    · refine (((HF.out.trans' HG2.out).drew.mono (S' := fun k => k = b ∨ some g = some k) (fun _ _ h => h.elim)).trans hf' (fun k hk => hk) (fun k _ hk => ?_)).trans hfp (fun k hk => hk) (fun k hk e => ?_)
      · rcases hk with rfl | rfl
        · exact .inl rfl
        · exact .inr rfl
      · omega

end Go.Proofs.Ytakhmommcgfoaaa
