/-
  A message of the document's (Back); parcels of the program's (Own), walked.
-/
import Derived.Test.YtakhmommcgfoaaaMeV4
namespace Go.Proofs.Ytakhmommcgfoaaa
open Go.RowKit

theorem run_ldN (ρ : Operand → Value) (dst : Option Tmp) (x : Operand) (ty : TypeId) (pos : String) (after : Array Edge) (guard : Option (Nat × Bool)) (w : World) :
    (execOp ρ { dst, op := .load 47 x, type := ty, pos, after, guard }).run Try.prog w = ld 47 (ρ x) w := rfl
theorem run_stN (ρ : Operand → Value) (dst : Option Tmp) (x y : Operand) (ty : TypeId) (pos : String) (after : Array Edge) (guard : Option (Nat × Bool)) (w : World) :
    (execOp ρ { dst, op := .store 47 x y, type := ty, pos, after, guard }).run Try.prog w = st 47 (ρ x) (ρ y) w := rfl
theorem ld_rmsg {w : World} {b o : Nat} {m : Mq} (h : MsgAt w b o m) : ld 47 (.pointer (some ⟨b, o, none⟩)) w = .ok (.value (msgV m)) w := by
  have := run_loadAt_mid (P := Try.prog) w b o 47 (encM m) _ h Try.underlying47 rfl (by rw [encM_len]; kernel_rfl)
  simp only [ld, Sem.run_bind, this, Result.andThen_ok, Sem.run_pure]
  rfl
theorem st_rmsg {w : World} {b o : Nat} (m : Mq) (h : w.there b o 7) : st 47 (.pointer (some ⟨b, o, none⟩)) (msgV m) w = .ok .skip (w.setCells b o (encM m)) := by
  have := run_storeAt_mid (P := Try.prog) w b o 47 (encM m).toArray (by rw [encM_size]; exact h) (by rw [encM_size]; kernel_rfl) (encM_ones m)
  simp only [st, msgV, Sem.run_bind, this, Result.andThen_ok, Sem.run_pure]
theorem rmsg_var {w : World} {b : Nat} {m : Mq} (h : MsgAt w b 0 m) : (loadVar 47 ⟨b, 0, none⟩).run Try.prog w = .ok (msgV m) w :=
  run_loadVar_mid (P := Try.prog) w b 0 47 (encM m) _ h Try.underlying47 rfl (by rw [encM_len]; kernel_rfl)

theorem two_msgs' {w w1 : World} {T U : TypeId} {x y : Mq}
    (hw : (w.alloc (.cells (encM x).toArray T)).alloc (.cells (encM y).toArray U) = w1) :
    MsgAt w1 w.heap.size 0 x ∧ w1.heap[w.heap.size + 1]? = some (.cells (encM y).toArray U (0, 0)) ∧ Fr (fun _ => False) w w1 ∧ w1.heap.size = w.heap.size + 2 := by
  subst hw
  have e2 := heap_new (w.alloc (.cells (encM x).toArray T)) (.cells (encM y).toArray U)
  rw [World.size_alloc] at e2
  exact ⟨MsgAt.of_block (heap_old (heap_new w _) _), e2, ((Fr.refl _ w).alloc _).alloc _, by rw [World.size_alloc, World.size_alloc]⟩

section
attribute [local go_sem ↓] run_stN
set_option maxRecDepth 100000 in
set_option maxHeartbeats 1000000 in
theorem lback_ok {w : World} {F : Nat → Prop} (p : Int) (k : ByteArray) (t s q : Int) (y : ByteArray) {a : Option Addr} {n : Nat} (c : Nat) {V : List Vl} (h : Va w F a n V) :
    Calls Try.prog 12 #[msgV ⟨p, k, t, s, q, y, a, n, c⟩] w fun e w' => ∃ a' c', e = .returned (msgV ⟨p, k, t, s, q, y, a', n, c'⟩) ∧ Va w' (fun i => i < w.heap.size) a' n V ∧ Fr (fun _ => False) w w' := by
  obtain rfl : n = V.length := h.1
  have H := hid h
  have hl : V.length ≤ 12 := h.2.1
  clear h
  conv in #[msgV _] => unfold msgV encM
  go_enter Try.func12, Try.ntmps12
  go_upto_region 1 with fail
  generalize hw1 : World.alloc (World.alloc w _) _ = w1
  obtain ⟨E1, E2, F1, z1⟩ := two_msgs' (x := ⟨p, k, t, s, q, y, a, V.length, c⟩) (y := noM) hw1
  clear hw1
  generalize hp : w.heap.size = r at *
  have HP := hid hp
  have HZ := hid z1
  have HF := hid F1
  have HE := hid E2
  have K1 := hid fun w' (hf : Fr (fun k => k = r + 1) w1 w') => MsgAt.cells (w := w') (b := r) (o := 0) (m := ⟨p, k, t, s, q, y, a, V.length, c⟩) (fun j v hv => hf.cell (E1 j v hv) (by simp only; omega))
  have a0 : ∀ w', Fr (fun k => k = r + 1) w1 w' → w'.cell? ⟨r, 0, none⟩ = some (.int .i64 p) := fun w' hf => (K1.out w' hf).1
  have a1 : ∀ w', Fr (fun k => k = r + 1) w1 w' → w'.cell? ⟨r, 1, none⟩ = some (.string k) := fun w' hf => (K1.out w' hf).2.1
  have a2 : ∀ w', Fr (fun k => k = r + 1) w1 w' → w'.cell? ⟨r, 2, none⟩ = some (.int .i64 t) := fun w' hf => (K1.out w' hf).2.2.1
  have a3 : ∀ w', Fr (fun k => k = r + 1) w1 w' → w'.cell? ⟨r, 3, none⟩ = some (.int .i64 s) := fun w' hf => (K1.out w' hf).2.2.2.1
  have a4 : ∀ w', Fr (fun k => k = r + 1) w1 w' → w'.cell? ⟨r, 4, none⟩ = some (.int .i64 q) := fun w' hf => (K1.out w' hf).2.2.2.2.1
  have a5 : ∀ w', Fr (fun k => k = r + 1) w1 w' → w'.cell? ⟨r, 5, none⟩ = some (.string y) := fun w' hf => (K1.out w' hf).2.2.2.2.2.1
  have a6 : ∀ w', Fr (fun k => k = r + 1) w1 w' → w'.cell? ⟨r, 6, none⟩ = some (.slice a V.length c) := fun w' hf => (K1.out w' hf).2.2.2.2.2.2
  have U := hid fun w' (hf : Fr (fun _ => False) w w') => eback_ok t s q y c (H.out.no hf)
  unfold evV at U
  clear E1 E2 F1 hp
  refine wp_region_held_drew (S := (fun w' => Fr (fun k => k = r + 1) w1 w')) (by kernel_rfl) ?_ (fun hH => ?_)
  · exact (Fr.refl (fun k => k = r + 1) w1).drew
  refine wpAnyH_take (i := 0) (oi := { dst := some 3, op := Op.fieldAddr 40 (Operand.tmp 1) 0, type := 0, pos := "law.go:33", after := #[], guard := none }) (v := ?_) rfl (by kernel_rfl) (by kernel_rfl) (by kernel_rfl) (fun _ _ _ h => h) (Or.inl ⟨by rfl, ?_⟩) hH ?_
  rotate_left
  · intro w hSw; (try dsimp only at hSw); go_simp <;> with_reducible rfl
  try simp only [Act.put, List.setIfInBounds_toArray, List.set_cons_zero, List.set_cons_succ]
  refine wpAnyH_take (i := 1) (oi := { dst := some 4, op := Op.load 3 (Operand.tmp 3), type := 3, pos := "law.go:33", after := #[{ on := 0, ground := Ground.data }], guard := none }) (v := ?_) rfl (by kernel_rfl) (by kernel_rfl) (by kernel_rfl) (fun _ _ _ h => h) (Or.inl ⟨by rfl, ?_⟩) hH ?_
  rotate_left
  · intro w hSw; (try dsimp only at hSw); go_simp <;> with_reducible rfl
  try simp only [Act.put, List.setIfInBounds_toArray, List.set_cons_zero, List.set_cons_succ]
  refine wpAnyH_take (i := 2) (oi := { dst := some 5, op := Op.fieldAddr 40 (Operand.tmp 1) 1, type := 0, pos := "law.go:33", after := #[], guard := none }) (v := ?_) rfl (by kernel_rfl) (by kernel_rfl) (by kernel_rfl) (fun _ _ _ h => h) (Or.inl ⟨by rfl, ?_⟩) hH ?_
  rotate_left
  · intro w hSw; (try dsimp only at hSw); go_simp <;> with_reducible rfl
  try simp only [Act.put, List.setIfInBounds_toArray, List.set_cons_zero, List.set_cons_succ]
  refine wpAnyH_take (i := 3) (oi := { dst := some 6, op := Op.load 9 (Operand.tmp 5), type := 9, pos := "law.go:33", after := #[{ on := 2, ground := Ground.data }], guard := none }) (v := ?_) rfl (by kernel_rfl) (by kernel_rfl) (by kernel_rfl) (fun _ _ _ h => h) (Or.inl ⟨by rfl, ?_⟩) hH ?_
  rotate_left
  · intro w hSw; (try dsimp only at hSw); go_simp <;> with_reducible rfl
  try simp only [Act.put, List.setIfInBounds_toArray, List.set_cons_zero, List.set_cons_succ]
  refine wpAnyH_take (i := 4) (oi := { dst := some 7, op := Op.fieldAddr 40 (Operand.tmp 1) 2, type := 0, pos := "law.go:33", after := #[], guard := none }) (v := ?_) rfl (by kernel_rfl) (by kernel_rfl) (by kernel_rfl) (fun _ _ _ h => h) (Or.inl ⟨by rfl, ?_⟩) hH ?_
  rotate_left
  · intro w hSw; (try dsimp only at hSw); go_simp <;> with_reducible rfl
  try simp only [Act.put, List.setIfInBounds_toArray, List.set_cons_zero, List.set_cons_succ]
  refine wpAnyH_take (i := 5) (oi := { dst := some 8, op := Op.load 38 (Operand.tmp 7), type := 38, pos := "law.go:33", after := #[{ on := 4, ground := Ground.data }], guard := none }) (v := ?_) rfl (by kernel_rfl) (by kernel_rfl) (by kernel_rfl) (fun _ _ _ h => h) (Or.inl ⟨by rfl, ?_⟩) hH ?_
  rotate_left
  · intro w hSw; (try dsimp only at hSw); go_simp <;> with_reducible rfl
  try simp only [Act.put, List.setIfInBounds_toArray, List.set_cons_zero, List.set_cons_succ]
  refine wpAnyH_ready (rs := [6]) (by kernel_rfl) (by simp) ?_
  refine AllReadyH.cons (o := { dst := some 9, op := Op.call { callee := Callee.value (Operand.func 30), args := #[Operand.tmp 8], argTypes := #[38] }, type := 45, pos := "law.go:33", after := #[{ on := 5, ground := Ground.data }], guard := none }) rfl (fun K hK => ?_) AllReadyH.nil
  go_simp
  go_at_call 30
  refine (U.out _ (HF.out.drewN _)).mono ?_
  rintro e w3 ⟨a', c', rfl, hV, hb⟩
  have HV := hid hV
  have HB := hid hb
  clear hb hV
  have HG := hid (HB.out.heap (k := r + 1) HE.out (fun e => e))
  have TS := st_rmsg ⟨p, k, t, s, q, y, a', V.length, c'⟩ (there_block HG.out)
  unfold msgV at TS
  conv at TS => lhs; unfold encM
  go_simp
  refine hK.out _ _ ?_ (fun hH => ?_)
  · exact ((Fr.refl (fun k => k = r + 1) w1).drewN _).trans HB.out (fun _ h => h) (fun _ _ h => h.elim)
  clear hK K
  try simp only [Act.put, List.setIfInBounds_toArray, List.set_cons_zero, List.set_cons_succ]
  refine wpAnyH_take (i := 7) (oi := { dst := some 10, op := Op.build 47 #[(0, Operand.tmp 4), (1, Operand.tmp 6), (2, Operand.tmp 9)], type := 47, pos := "law.go:33", after := #[{ on := 1, ground := Ground.data }, { on := 3, ground := Ground.data }, { on := 6, ground := Ground.data }], guard := none }) (v := ?_) rfl (by kernel_rfl) (by kernel_rfl) (by kernel_rfl) (fun _ _ _ h => h) (Or.inl ⟨by rfl, ?_⟩) hH ?_
  rotate_left
  · intro w hSw; (try dsimp only at hSw); go_simp <;> with_reducible rfl
  try simp only [Act.put, List.setIfInBounds_toArray, List.set_cons_zero, List.set_cons_succ]
  refine wpAnyH_ready (rs := [8]) (by kernel_rfl) (by simp) ?_
  refine AllReadyH.cons (o := { dst := none, op := Op.store 47 (Operand.tmp 2) (Operand.tmp 10), type := 0, pos := "law.go:33", after := #[{ on := 7, ground := Ground.data }, { on := 6, ground := Ground.chain }, { on := 0, ground := Ground.phase }, { on := 1, ground := Ground.phase }, { on := 2, ground := Ground.phase }, { on := 3, ground := Ground.phase }, { on := 4, ground := Ground.phase }, { on := 5, ground := Ground.phase }, { on := 6, ground := Ground.phase }, { on := 7, ground := Ground.phase }], guard := none }) rfl (fun K hK => ?_) AllReadyH.nil
  go_simp
  generalize hw9 : World.setCells _ _ _ _ = w9
  refine hK.out _ _ ?_ (fun hH => ?_)
  · rw [← hw9]; exact Fr.setCells (S := fun k => k = r + 1) (b := r + 1) (fun _ => rfl) _ _ (((Fr.refl (fun k => k = r + 1) w1).drewN _).trans HB.out (fun _ h => h) (fun _ _ h => h.elim))
  clear hK K
  refine wpAnyH_done (by kernel_rfl) ?_ _
  have G9 := hole_put HG.out ⟨p, k, t, s, q, y, a', V.length, c'⟩
  rw [hw9] at G9
  have HH := hid hH
  clear a0 a1 a2 a3 a4 a5 a6 TS
  go_wp2
  refine bodyPost_ret (v := msgV ⟨p, k, t, s, q, y, a', V.length, c'⟩) ?_ rfl ⟨a', ⟨c', rfl⟩, ?_, ?_⟩
  · exact results_one Try.results12 _ _ (by rfl) (rmsg_var G9)
  · rw [← hw9]
    exact (HV.out.fr (Fr.setCells (S := fun k => k = r + 1) (b := r + 1) (fun _ => rfl) _ _ (Fr.refl _ _)) (fun i e => by have := HZ.out; simp; omega)).of (fun i h _ => by have := HZ.out; have := HP.out; simp; omega)
  · exact HF.out.trans HH.out (fun _ h => h) (fun i hi e => by have := HP.out; omega)

end

/-- the slice (s, n) holds the parcels P, each with its values in blocks that are not among F -/
def Pa (w : World) (F : Nat → Prop) (s : Option Addr) (n : Nat) (P : List Pq) : Prop :=
  n = P.length ∧ P.length ≤ 8 ∧ (P = [] ∨ ∃ b o, s = some ⟨b, o, none⟩ ∧ ¬ F b ∧ ∀ (i : Nat) (x : Pq), P[i]? = some x → ParAt w b (o + i * 9) x ∧ ∃ V, Va w F x.m.a x.m.n V)
theorem Pa.fr {w w' : World} {F T : Nat → Prop} {a : Option Addr} {n : Nat} {P : List Pq} (h : Pa w F a n P) (hf : Fr T w w') (hT : ∀ i, T i → F i) : Pa w' F a n P := by
  obtain ⟨h1, h2, h3⟩ := h
  refine ⟨h1, h2, h3.imp (fun e => e) ?_⟩
  rintro ⟨b, o, e, hb, hr⟩
  refine ⟨b, o, e, hb, fun i x hi => ⟨fun j c hc => hf.cell ((hr i x hi).1 j c hc) (fun hx => hb (hT _ hx)), ?_⟩⟩
  obtain ⟨V, hV⟩ := (hr i x hi).2
  exact ⟨V, hV.fr hf hT⟩

/-- alike parcels -/
def AlP (w : World) (F G : Nat → Prop) (P Q : List Pq) : Prop :=
  P.length = Q.length ∧ ∀ (i : Nat) (x y : Pq), P[i]? = some x → Q[i]? = some y → x.f = y.f ∧ x.d = y.d ∧ Al w F G x.m y.m
theorem Al.fr {w w' : World} {F G T : Nat → Prop} {x y : Mq} (h : Al w F G x y) (hf : Fr T w w') (h1 : ∀ i, T i → F i) (h2 : ∀ i, T i → G i) : Al w' F G x y := by
  obtain ⟨a, b, c, d, e, f, V, g, k⟩ := h
  exact ⟨a, b, c, d, e, f, V, g.fr hf h1, k.fr hf h2⟩
theorem Al.of {w : World} {F G F' G' : Nat → Prop} {x y : Mq} (h : Al w F G x y) (h1 : ∀ i, F' i → i < w.heap.size → F i) (h2 : ∀ i, G' i → i < w.heap.size → G i) : Al w F' G' x y := by
  obtain ⟨a, b, c, d, e, f, V, g, k⟩ := h
  exact ⟨a, b, c, d, e, f, V, g.of h1, k.of h2⟩
theorem AlP.fr {w w' : World} {F G T : Nat → Prop} {P Q : List Pq} (h : AlP w F G P Q) (hf : Fr T w w') (h1 : ∀ i, T i → F i) (h2 : ∀ i, T i → G i) : AlP w' F G P Q :=
  ⟨h.1, fun i x y hx hy => ⟨(h.2 i x y hx hy).1, (h.2 i x y hx hy).2.1, (h.2 i x y hx hy).2.2.fr hf h1 h2⟩⟩
theorem AlP.of {w : World} {F G F' G' : Nat → Prop} {P Q : List Pq} (h : AlP w F G P Q) (h1 : ∀ i, F' i → i < w.heap.size → F i) (h2 : ∀ i, G' i → i < w.heap.size → G i) : AlP w F' G' P Q :=
  ⟨h.1, fun i x y hx hy => ⟨(h.2 i x y hx hy).1, (h.2 i x y hx hy).2.1, (h.2 i x y hx hy).2.2.of h1 h2⟩⟩
theorem AlP.snoc {w : World} {F G : Nat → Prop} {P Q : List Pq} (h : AlP w F G P Q) {x y : Pq} (hxy : x.f = y.f ∧ x.d = y.d ∧ Al w F G x.m y.m) : AlP w F G (P ++ [x]) (Q ++ [y]) := by
  refine ⟨by simp [h.1], fun i a b ha hb => ?_⟩
  rcases Nat.lt_trichotomy i P.length with hi | hi | hi
  · rw [List.getElem?_append_left hi] at ha
    rw [List.getElem?_append_left (by have := h.1; omega)] at hb
    exact h.2 i a b ha hb
  · subst hi
    rw [List.getElem?_append_right (Nat.le_refl _), Nat.sub_self] at ha
    rw [h.1, List.getElem?_append_right (Nat.le_refl _), Nat.sub_self] at hb
    simp only [List.getElem?_cons_zero, Option.some.injEq] at ha hb
    subst ha hb
    exact hxy
  · rw [List.getElem?_eq_none (by simp; omega)] at ha
    simp at ha
theorem AlP.nil (w : World) (F G : Nat → Prop) : AlP w F G [] [] := ⟨rfl, fun i x y hx => by simp at hx⟩

end Go.Proofs.Ytakhmommcgfoaaa
