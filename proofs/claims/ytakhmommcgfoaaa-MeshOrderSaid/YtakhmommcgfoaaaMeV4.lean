/-
  Events of the program's (Own) and of the document's (Back), walked.
-/
import Derived.Test.YtakhmommcgfoaaaMeV3
namespace Go.Proofs.Ytakhmommcgfoaaa
open Go.RowKit

def encE (t s q : Int) (y : ByteArray) (a : Option Addr) (n c : Nat) : List Value := [.int .i64 t, .int .i64 s, .int .i64 q, .string y, .slice a n c]
theorem encE_one (t s q : Int) (y : ByteArray) (a : Option Addr) (n c : Nat) : (encE t s q y a n c).toArray.all (·.oneCell') = true := by
  apply all_oneCell_toArray
  intro v hv
  simp only [encE, List.mem_cons, List.not_mem_nil, or_false] at hv
  rcases hv with rfl | rfl | rfl | rfl | rfl <;> rfl
theorem run_stE (ρ : Operand → Value) (dst : Option Tmp) (x y : Operand) (ty : TypeId) (pos : String) (after : Array Edge) (guard : Option (Nat × Bool)) (w : World) :
    (execOp ρ { dst, op := .store 38 x y, type := ty, pos, after, guard }).run Try.prog w = st 38 (ρ x) (ρ y) w := rfl
theorem run_stF (ρ : Operand → Value) (dst : Option Tmp) (x y : Operand) (ty : TypeId) (pos : String) (after : Array Edge) (guard : Option (Nat × Bool)) (w : World) :
    (execOp ρ { dst, op := .store 45 x y, type := ty, pos, after, guard }).run Try.prog w = st 45 (ρ x) (ρ y) w := rfl
theorem st_ev {w : World} {b : Nat} (t s q : Int) (y : ByteArray) (a : Option Addr) (n c : Nat) (h : w.there b 0 5) : st 38 (.pointer (some ⟨b, 0, none⟩)) (evV t s q y a n c) w = .ok .skip (w.setCells b 0 (encE t s q y a n c)) := by
  have := run_storeAt_mid (P := Try.prog) w b 0 38 (encE t s q y a n c).toArray (by exact h) (by kernel_rfl) (encE_one t s q y a n c)
  simp only [st, Sem.run_bind]
  rw [show evV t s q y a n c = .agg (encE t s q y a n c).toArray from rfl, this]
  simp only [Result.andThen_ok, Sem.run_pure]
theorem st_rev {w : World} {b : Nat} (t s q : Int) (y : ByteArray) (a : Option Addr) (n c : Nat) (h : w.there b 0 5) : st 45 (.pointer (some ⟨b, 0, none⟩)) (evV t s q y a n c) w = .ok .skip (w.setCells b 0 (encE t s q y a n c)) := by
  have := run_storeAt_mid (P := Try.prog) w b 0 45 (encE t s q y a n c).toArray (by exact h) (by kernel_rfl) (encE_one t s q y a n c)
  simp only [st, Sem.run_bind]
  rw [show evV t s q y a n c = .agg (encE t s q y a n c).toArray from rfl, this]
  simp only [Result.andThen_ok, Sem.run_pure]
theorem there_ev {w : World} {b : Nat} {t s q : Int} {y : ByteArray} {a : Option Addr} {n c : Nat} {T : TypeId} (h : w.heap[b]? = some (.cells (encE t s q y a n c).toArray T (0, 0))) : w.there b 0 5 := by
  intro j hj
  refine ⟨?_, free_of h _⟩
  rw [Nat.zero_add, cell_of_row w b j _ T _ h]
  simp [encE]
  omega
theorem encE_put {w : World} {b : Nat} {t s q t' s' q' : Int} {y y' : ByteArray} {a a' : Option Addr} {n c n' c' : Nat} {T : TypeId} (h : w.heap[b]? = some (.cells (encE t s q y a n c).toArray T (0, 0))) :
    (w.setCells b 0 (encE t' s' q' y' a' n' c')).heap[b]? = some (.cells (encE t' s' q' y' a' n' c').toArray T (0, 0)) := by
  rw [heap_setCells _ _ h]
  have e : ovl (encE t s q y a n c).toArray 0 (encE t' s' q' y' a' n' c') = (encE t' s' q' y' a' n' c').toArray := by rfl
  rw [e]
theorem ev_var {w : World} {b : Nat} {t s q : Int} {y : ByteArray} {a : Option Addr} {n c : Nat} {T : TypeId} (h : w.heap[b]? = some (.cells (encE t s q y a n c).toArray T (0, 0))) : (loadVar 38 ⟨b, 0, none⟩).run Try.prog w = .ok (evV t s q y a n c) w :=
  run_loadVar_mid (P := Try.prog) w b 0 38 (encE t s q y a n c) _ (fun j v hv => by rw [Nat.zero_add, cell_of_row w b j _ _ _ h]; simpa using hv) Try.underlying38 rfl (by kernel_rfl)
theorem rev_var {w : World} {b : Nat} {t s q : Int} {y : ByteArray} {a : Option Addr} {n c : Nat} {T : TypeId} (h : w.heap[b]? = some (.cells (encE t s q y a n c).toArray T (0, 0))) : (loadVar 45 ⟨b, 0, none⟩).run Try.prog w = .ok (evV t s q y a n c) w :=
  run_loadVar_mid (P := Try.prog) w b 0 45 (encE t s q y a n c) _ (fun j v hv => by rw [Nat.zero_add, cell_of_row w b j _ _ _ h]; simpa using hv) Try.underlying45 rfl (by kernel_rfl)
theorem results_one {fn : Func} {p : Tmp} {ty : TypeId} (h : fn.results = #[.cell p ty]) (tmps : Array Value) (w : World) {a : Addr} (ha : tmps.getD p undef = .pointer (some a)) {v : Value} (hv : (loadVar ty a).run Try.prog w = .ok v w) :
    (results fn tmps).run Try.prog w = .ok v w := by
  simp only [Array.getD_eq_getD_getElem?] at ha
  simp only [results, h]
  simp [ha, asAddr, hv]

theorem EvAt.fr {S : Nat → Prop} {w w' : World} {p : Nat} {t s q : Int} {y : ByteArray} {a : Option Addr} {n c : Nat} (h : EvAt w p t s q y a n c) (hf : Fr S w w') (hp : ¬ S p) : EvAt w' p t s q y a n c :=
  ⟨hf.cell h.1 hp, hf.cell h.2.1 hp, hf.cell h.2.2.1 hp, hf.cell h.2.2.2.1 hp, hf.cell h.2.2.2.2 hp⟩
theorem two_evs' {w w1 : World} {T U : TypeId} {t s q t' s' q' : Int} {y y' : ByteArray} {a a' : Option Addr} {n c n' c' : Nat}
    (hw : (w.alloc (.cells (encE t s q y a n c).toArray T)).alloc (.cells (encE t' s' q' y' a' n' c').toArray U) = w1) :
    EvAt w1 w.heap.size t s q y a n c ∧ w1.heap[w.heap.size + 1]? = some (.cells (encE t' s' q' y' a' n' c').toArray U (0, 0)) ∧ Fr (fun _ => False) w w1 ∧ w1.heap.size = w.heap.size + 2 := by
  subst hw
  have e1 := heap_old (heap_new w (.cells (encE t s q y a n c).toArray T)) (.cells (encE t' s' q' y' a' n' c').toArray U)
  have e2 := heap_new (w.alloc (.cells (encE t s q y a n c).toArray T)) (.cells (encE t' s' q' y' a' n' c').toArray U)
  rw [World.size_alloc] at e2
  refine ⟨?_, e2, ((Fr.refl _ w).alloc _).alloc _, by rw [World.size_alloc, World.size_alloc]⟩
  unfold encE at e1
  exact EvAt.of e1

section
attribute [local go_sem ↓] run_stE
set_option maxRecDepth 100000 in
set_option maxHeartbeats 1000000 in
theorem eown_ok {w : World} {F : Nat → Prop} (t s q : Int) (y : ByteArray) {a : Option Addr} {n : Nat} (c : Nat) {V : List Vl} (h : Va w F a n V) :
    Calls Try.prog 33 #[evV t s q y a n c] w fun e w' => ∃ a' c', e = .returned (evV t s q y a' n c') ∧ Va w' (fun i => i < w.heap.size) a' n V ∧ Fr (fun _ => False) w w' := by
  obtain rfl : n = V.length := h.1
  have H := hid h
  have hl : V.length ≤ 12 := h.2.1
  clear h
  conv in evV t s q y a V.length c => unfold evV
  go_enter Try.func33, Try.ntmps33
  go_upto_region 1 with fail
  generalize hw1 : World.alloc (World.alloc w _) _ = w1
  obtain ⟨E1, E2, F1, z1⟩ := two_evs' (t' := 0) (s' := 0) (q' := 0) (y' := ⟨#[]⟩) (a' := none) (n' := 0) (c' := 0) hw1
  clear hw1
  generalize hp : w.heap.size = p at *
  have HP := hid hp
  have HZ := hid z1
  have HF := hid F1
  have HE := hid E2
  have K1 := hid fun w' (hf : Fr (fun k => k = p + 1) w1 w') => E1.fr hf (by omega)
  have a0 := fun w' hf => (K1.out w' hf).1
  have a1 := fun w' hf => (K1.out w' hf).2.1
  have a2 := fun w' hf => (K1.out w' hf).2.2.1
  have a3 := fun w' hf => (K1.out w' hf).2.2.2.1
  have a4 := fun w' hf => (K1.out w' hf).2.2.2.2
  clear E1 E2 F1 hp
  refine wp_region_held_drew (S := (fun w' => Fr (fun k => k = p + 1) w1 w')) (by kernel_rfl) ?_ (fun hH => ?_)
  · exact (Fr.refl (fun k => k = p + 1) w1).drew
  refine wpAnyH_take (i := 0) (oi := { dst := some 3, op := Op.fieldAddr 45 (Operand.tmp 1) 0, type := 0, pos := "law.go:18", after := #[], guard := none }) (v := ?_) rfl (by kernel_rfl) (by kernel_rfl) (by kernel_rfl) (fun _ _ _ h => h) (Or.inl ⟨by rfl, ?_⟩) hH ?_
  rotate_left
  · intro w hSw; (try dsimp only at hSw); go_simp <;> with_reducible rfl
  try simp only [Act.put, List.setIfInBounds_toArray, List.set_cons_zero, List.set_cons_succ]
  refine wpAnyH_take (i := 1) (oi := { dst := some 4, op := Op.load 3 (Operand.tmp 3), type := 3, pos := "law.go:18", after := #[{ on := 0, ground := Ground.data }], guard := none }) (v := ?_) rfl (by kernel_rfl) (by kernel_rfl) (by kernel_rfl) (fun _ _ _ h => h) (Or.inl ⟨by rfl, ?_⟩) hH ?_
  rotate_left
  · intro w hSw; (try dsimp only at hSw); go_simp <;> with_reducible rfl
  try simp only [Act.put, List.setIfInBounds_toArray, List.set_cons_zero, List.set_cons_succ]
  refine wpAnyH_take (i := 2) (oi := { dst := some 5, op := Op.fieldAddr 45 (Operand.tmp 1) 1, type := 0, pos := "law.go:18", after := #[], guard := none }) (v := ?_) rfl (by kernel_rfl) (by kernel_rfl) (by kernel_rfl) (fun _ _ _ h => h) (Or.inl ⟨by rfl, ?_⟩) hH ?_
  rotate_left
  · intro w hSw; (try dsimp only at hSw); go_simp <;> with_reducible rfl
  try simp only [Act.put, List.setIfInBounds_toArray, List.set_cons_zero, List.set_cons_succ]
  refine wpAnyH_take (i := 3) (oi := { dst := some 6, op := Op.load 3 (Operand.tmp 5), type := 3, pos := "law.go:18", after := #[{ on := 2, ground := Ground.data }], guard := none }) (v := ?_) rfl (by kernel_rfl) (by kernel_rfl) (by kernel_rfl) (fun _ _ _ h => h) (Or.inl ⟨by rfl, ?_⟩) hH ?_
  rotate_left
  · intro w hSw; (try dsimp only at hSw); go_simp <;> with_reducible rfl
  try simp only [Act.put, List.setIfInBounds_toArray, List.set_cons_zero, List.set_cons_succ]
  refine wpAnyH_take (i := 4) (oi := { dst := some 7, op := Op.fieldAddr 45 (Operand.tmp 1) 2, type := 0, pos := "law.go:18", after := #[], guard := none }) (v := ?_) rfl (by kernel_rfl) (by kernel_rfl) (by kernel_rfl) (fun _ _ _ h => h) (Or.inl ⟨by rfl, ?_⟩) hH ?_
  rotate_left
  · intro w hSw; (try dsimp only at hSw); go_simp <;> with_reducible rfl
  try simp only [Act.put, List.setIfInBounds_toArray, List.set_cons_zero, List.set_cons_succ]
  refine wpAnyH_take (i := 5) (oi := { dst := some 8, op := Op.load 3 (Operand.tmp 7), type := 3, pos := "law.go:18", after := #[{ on := 4, ground := Ground.data }], guard := none }) (v := ?_) rfl (by kernel_rfl) (by kernel_rfl) (by kernel_rfl) (fun _ _ _ h => h) (Or.inl ⟨by rfl, ?_⟩) hH ?_
  rotate_left
  · intro w hSw; (try dsimp only at hSw); go_simp <;> with_reducible rfl
  try simp only [Act.put, List.setIfInBounds_toArray, List.set_cons_zero, List.set_cons_succ]
  refine wpAnyH_take (i := 6) (oi := { dst := some 9, op := Op.fieldAddr 45 (Operand.tmp 1) 3, type := 0, pos := "law.go:18", after := #[], guard := none }) (v := ?_) rfl (by kernel_rfl) (by kernel_rfl) (by kernel_rfl) (fun _ _ _ h => h) (Or.inl ⟨by rfl, ?_⟩) hH ?_
  rotate_left
  · intro w hSw; (try dsimp only at hSw); go_simp <;> with_reducible rfl
  try simp only [Act.put, List.setIfInBounds_toArray, List.set_cons_zero, List.set_cons_succ]
  refine wpAnyH_take (i := 7) (oi := { dst := some 10, op := Op.load 9 (Operand.tmp 9), type := 9, pos := "law.go:18", after := #[{ on := 6, ground := Ground.data }], guard := none }) (v := ?_) rfl (by kernel_rfl) (by kernel_rfl) (by kernel_rfl) (fun _ _ _ h => h) (Or.inl ⟨by rfl, ?_⟩) hH ?_
  rotate_left
  · intro w hSw; (try dsimp only at hSw); go_simp <;> with_reducible rfl
  try simp only [Act.put, List.setIfInBounds_toArray, List.set_cons_zero, List.set_cons_succ]
  refine wpAnyH_take (i := 8) (oi := { dst := some 11, op := Op.fieldAddr 45 (Operand.tmp 1) 4, type := 0, pos := "law.go:18", after := #[], guard := none }) (v := ?_) rfl (by kernel_rfl) (by kernel_rfl) (by kernel_rfl) (fun _ _ _ h => h) (Or.inl ⟨by rfl, ?_⟩) hH ?_
  rotate_left
  · intro w hSw; (try dsimp only at hSw); go_simp <;> with_reducible rfl
  try simp only [Act.put, List.setIfInBounds_toArray, List.set_cons_zero, List.set_cons_succ]
  refine wpAnyH_take (i := 9) (oi := { dst := some 12, op := Op.load 43 (Operand.tmp 11), type := 43, pos := "law.go:18", after := #[{ on := 8, ground := Ground.data }], guard := none }) (v := ?_) rfl (by kernel_rfl) (by kernel_rfl) (by kernel_rfl) (fun _ _ _ h => h) (Or.inl ⟨by rfl, ?_⟩) hH ?_
  rotate_left
  · intro w hSw; (try dsimp only at hSw); go_simp <;> with_reducible rfl
  try simp only [Act.put, List.setIfInBounds_toArray, List.set_cons_zero, List.set_cons_succ]
  refine wpAnyH_ready (rs := [10]) (by kernel_rfl) (by simp) ?_
  refine AllReadyH.cons (o := { dst := some 13, op := Op.call { callee := Callee.value (Operand.func 42), args := #[Operand.tmp 12], argTypes := #[43] }, type := 36, pos := "law.go:18", after := #[{ on := 9, ground := Ground.data }], guard := none }) rfl (fun K hK => ?_) AllReadyH.nil
  go_simp
  go_at_call 42
  refine (vals_ok ((H.out.no HF.out).no ((Fr.refl (fun _ => False) w1).drewN _))).mono ?_
  rintro e w3 ⟨v, rfl, hv, hb⟩
  obtain ⟨a', c', rfl, hV⟩ := Va.of_own hv hl
  have HV := hid hV
  have HB := hid (Fr.of_below (S := fun _ => False) hb (fun i h1 h2 => by omega))
  clear hv hb hV
  have HG := hid (HB.out.heap (k := p + 1) HE.out (fun e => e))
  have TS := st_ev t s q y a' V.length c' (there_ev HG.out)
  unfold evV at TS
  go_simp
  refine hK.out _ _ ?_ (fun hH => ?_)
  · exact ((Fr.refl (fun k => k = p + 1) w1).drewN _).trans HB.out (fun _ h => h) (fun _ _ h => h.elim)
  clear hK K
  try simp only [Act.put, List.setIfInBounds_toArray, List.set_cons_zero, List.set_cons_succ]
  refine wpAnyH_take (i := 11) (oi := { dst := some 14, op := Op.build 38 #[(0, Operand.tmp 4), (1, Operand.tmp 6), (2, Operand.tmp 8), (3, Operand.tmp 10), (4, Operand.tmp 13)], type := 38, pos := "law.go:18", after := #[{ on := 1, ground := Ground.data }, { on := 3, ground := Ground.data }, { on := 5, ground := Ground.data }, { on := 7, ground := Ground.data }, { on := 10, ground := Ground.data }], guard := none }) (v := ?_) rfl (by kernel_rfl) (by kernel_rfl) (by kernel_rfl) (fun _ _ _ h => h) (Or.inl ⟨by rfl, ?_⟩) hH ?_
  rotate_left
  · intro w hSw; (try dsimp only at hSw); go_simp <;> with_reducible rfl
  try simp only [Act.put, List.setIfInBounds_toArray, List.set_cons_zero, List.set_cons_succ]
  refine wpAnyH_ready (rs := [12]) (by kernel_rfl) (by simp) ?_
  refine AllReadyH.cons (o := { dst := none, op := Op.store 38 (Operand.tmp 2) (Operand.tmp 14), type := 0, pos := "law.go:18", after := #[{ on := 11, ground := Ground.data }, { on := 10, ground := Ground.chain }, { on := 0, ground := Ground.phase }, { on := 1, ground := Ground.phase }, { on := 2, ground := Ground.phase }, { on := 3, ground := Ground.phase }, { on := 4, ground := Ground.phase }, { on := 5, ground := Ground.phase }, { on := 6, ground := Ground.phase }, { on := 7, ground := Ground.phase }, { on := 8, ground := Ground.phase }, { on := 9, ground := Ground.phase }, { on := 10, ground := Ground.phase }, { on := 11, ground := Ground.phase }], guard := none }) rfl (fun K hK => ?_) AllReadyH.nil
  go_simp
  generalize hw9 : World.setCells _ _ _ _ = w9
  refine hK.out _ _ ?_ (fun hH => ?_)
  · rw [← hw9]; exact Fr.setCells (S := fun k => k = p + 1) (b := p + 1) (fun _ => rfl) _ _ (((Fr.refl (fun k => k = p + 1) w1).drewN _).trans HB.out (fun _ h => h) (fun _ _ h => h.elim))
  clear hK K
  refine wpAnyH_done (by kernel_rfl) ?_ _
  have G9 : w9.heap[p + 1]? = some (.cells (encE t s q y a' V.length c').toArray 38 (0, 0)) := by rw [← hw9]; exact encE_put HG.out
  have HH := hid hH
  clear a0 a1 a2 a3 a4 TS
  go_wp2
  refine bodyPost_ret (v := evV t s q y a' V.length c') ?_ rfl ⟨a', c', rfl, ?_, ?_⟩
  · exact results_one Try.results33 _ _ (by rfl) (ev_var G9)
  · rw [← hw9]
    exact (HV.out.fr (Fr.setCells (S := fun k => k = p + 1) (b := p + 1) (fun _ => rfl) _ _ (Fr.refl _ _)) (fun i e => by have := HZ.out; simp; omega)).of (fun i h _ => by have := HZ.out; have := HP.out; simp; omega)
  · exact HF.out.trans HH.out (fun _ h => h) (fun i hi e => by have := HP.out; omega)

end
theorem info_rval : (Try.prog.info? 101).map (fun i => (i.zero, i.size, i.bytes)) = some (some (.agg #[.int .u8 0, .int .i64 0, .int .u64 0, .string ⟨#[]⟩]), 4, 40) := by kernel_rfl
theorem three_evs {w w1 : World} {T U Z : TypeId} {t s q t' s' q' : Int} {y y' : ByteArray} {a a' : Option Addr} {n c n' c' : Nat}
    (hw : (((w.alloc (.cells (encE t s q y a n c).toArray T)).alloc (.cells (encE t' s' q' y' a' n' c').toArray U)).alloc (.cells (encE t' s' q' y' a' n' c').toArray Z)).setCells (w.heap.size + 1 + 1) 0 (encE t s q y none 0 0) = w1) :
    EvAt w1 w.heap.size t s q y a n c ∧ w1.heap[w.heap.size + 1]? = some (.cells (encE t' s' q' y' a' n' c').toArray U (0, 0)) ∧ w1.heap[w.heap.size + 2]? = some (.cells (encE t s q y none 0 0).toArray Z (0, 0)) ∧ Fr (fun _ => False) w w1 ∧ w1.heap.size = w.heap.size + 3 := by
  obtain ⟨E1, E2, F1, z1⟩ := two_evs' (w := w) (T := T) (U := U) (t := t) (s := s) (q := q) (y := y) (a := a) (n := n) (c := c) (t' := t') (s' := s') (q' := q') (y' := y') (a' := a') (n' := n') (c' := c') rfl
  generalize (w.alloc (.cells (encE t s q y a n c).toArray T)).alloc (.cells (encE t' s' q' y' a' n' c').toArray U) = w0 at *
  subst hw
  have e2 := heap_new w0 (.cells (encE t' s' q' y' a' n' c').toArray Z)
  rw [z1] at e2
  have F2 : Fr (fun _ => False) w0 ((w0.alloc (.cells (encE t' s' q' y' a' n' c').toArray Z)).setCells (w.heap.size + 1 + 1) 0 (encE t s q y none 0 0)) := ((Fr.refl (fun _ => False) w0).alloc _).setCells (fun h => by omega) _ _
  exact ⟨E1.fr F2 (fun e => e), F2.heap E2 (fun e => e), encE_put e2, F1.trans' F2, by rw [size_setCells, World.size_alloc, z1]⟩

section
attribute [local go_sem ↓] run_stF

set_option maxRecDepth 100000 in
set_option maxHeartbeats 1000000 in
theorem eback_ok {w : World} {F : Nat → Prop} (t s q : Int) (y : ByteArray) {a : Option Addr} {n : Nat} (c : Nat) {V : List Vl} (h : Va w F a n V) :
    Calls Try.prog 30 #[evV t s q y a n c] w fun e w' => ∃ a' c', e = .returned (evV t s q y a' n c') ∧ Va w' (fun i => i < w.heap.size) a' n V ∧ Fr (fun _ => False) w w' := by
  obtain ⟨i0, hi0, hz0, hz1, hz2⟩ := info_parts info_rval
  obtain ⟨rfl, hl, h3⟩ := h
  have H3 := hid h3
  clear h3
  conv in evV t s q y a V.length c => unfold evV
  have T0 : st 45 (.pointer (some ⟨w.heap.size + 1 + 1, 0, none⟩)) (evV t s q y none 0 0) (((w.alloc (.cells (encE t s q y a V.length c).toArray 38)).alloc (.cells (encE 0 0 0 ⟨#[]⟩ none 0 0).toArray 45)).alloc (.cells (encE 0 0 0 ⟨#[]⟩ none 0 0).toArray 45)) = _ :=
    st_rev t s q y none 0 0 (there_ev (t := 0) (s := 0) (q := 0) (y := ⟨#[]⟩) (a := none) (n := 0) (c := 0) (T := 45) (by have h := heap_new ((w.alloc (.cells (encE t s q y a V.length c).toArray 38)).alloc (.cells (encE 0 0 0 ⟨#[]⟩ none 0 0).toArray 45)) (.cells (encE 0 0 0 ⟨#[]⟩ none 0 0).toArray 45); rw [World.size_alloc, World.size_alloc] at h; exact h))
  unfold evV at T0
  conv at T0 => lhs; unfold encE
  go_enter Try.func30, Try.ntmps30
  go_upto_region 2 with fail
  generalize hw1 : World.setCells _ _ _ _ = w1
  clear T0
  obtain ⟨E1, E2, E3, F1, z1⟩ := three_evs (t' := 0) (s' := 0) (q' := 0) (y' := ⟨#[]⟩) (a' := none) (n' := 0) (c' := 0) hw1
  clear hw1
  generalize hp : w.heap.size = p at *
  have HP := hid hp
  have HZ := hid z1
  have HF := hid F1
  have HE1 := hid E1
  have HE2 := hid E2
  have HE3 := hid E3
  clear E1 E2 E3 F1 hp
  go_wp2_with fail
  go_loopw [4] (fun i wr => ∃ k : Nat, k ≤ V.length ∧ i = .int .i64 k ∧ ∃ v, wr.heap[p + 2]? = some (.cells #[.int .i64 t, .int .i64 s, .int .i64 q, .string y, v] 45 (0, 0)) ∧ wr.ownsRow (p + 3) 101 4 v k ((V.take k).flatMap encV) ∧ Fr (fun j => j = p + 2) w1 wr) (fun i _ => V.length - (intOf i).toNat)
  case atStart => exact ⟨0, Nat.zero_le _, rfl, _, HE3.out, World.ownsRow_nil _ _ _ _, Fr.refl _ _⟩
  case round =>
    obtain ⟨k, hk, rfl, v, hbk, hown, hb⟩ := hrel
    have HX2 := hid hbk
    have HO := hid hown
    have HB := hid hb
    have hbz := hb.size
    obtain ⟨p0, p1, p2, p3, p4⟩ := HE1.out.fr hb (by omega)
    by_cases hkl : k < V.length
    · obtain ⟨x, hx⟩ : ∃ x, V[k]? = some x := ⟨V[k], by simp [hkl]⟩
      obtain ⟨b, o, rfl, _, hr⟩ := H3.out.resolve_left (fun e => by subst e; simp at hx)
      have hbs : b < w.heap.size := World.block_lt_of_cell? _ _ (hr k x hx 0 _ rfl)
      have hbp := HP.out
      have hVc := hid fun w' (hf : Fr (fun j => j = p + 2 ∨ v.ownBlock = some j) wr w') => cells_of_val (w := w') (b := b) (o := o + k * 4) (x := x) (fun j u hu => hf.cell (hb.cell (HF.out.cell (hr k x hx j u hu) (fun e => e)) (by simp only; omega)) (fun e => e.elim (fun e => by simp only at e; omega) (fun e => by have := (HO.out.lt _ e).1; simp only at this; omega)))
      have a0 := fun w' hf => (hVc.out w' hf).1
      have a1 := fun w' hf => (hVc.out w' hf).2.1
      have a2 := fun w' hf => (hVc.out w' hf).2.2.1
      have a3 := fun w' hf => (hVc.out w' hf).2.2.2
      have a4 : ∀ w', Fr (fun j => j = p + 2 ∨ v.ownBlock = some j) wr w' → w'.cell? ⟨p, 4, none⟩ = some (.slice (some ⟨b, o, none⟩) V.length c) := fun w' hf => hf.cell p4 (fun e => e.elim (fun e => by simp only at e; omega) (fun e => by have := (HO.out.lt _ e).1; simp only at this; omega))
      have e0 := cell_of HX2.out 4 (v := v) rfl
      have e0' := cell_alloc e0 (.cells (encV x).toArray 101)
      have f0 := free_of HX2.out 4
      have hpw := lt_of_block HX2.out
      unfold encV at e0'
      have HX := hid hx
      clear hx hr hb hown hbk p0 p1 p2 p3
      have hjb : (k : Int) < (V.length : Int) := by omega
      go_upto_region 5 with fail
      refine wp_region_held_drew (S := (fun w' => Fr (fun j => j = p + 2 ∨ v.ownBlock = some j) wr w')) (by kernel_rfl) ?_ (fun hH => ?_)
      · exact (Fr.refl (fun j => j = p + 2 ∨ v.ownBlock = some j) wr).drew
      refine wpAnyH_take (i := 0) (oi := { dst := some 21, op := Op.fieldAddr 45 (Operand.tmp 3) 4, type := 0, pos := "law.go:25", after := #[], guard := none }) (v := ?_) rfl (by kernel_rfl) (by kernel_rfl) (by kernel_rfl) (fun _ _ _ h => h) (Or.inl ⟨by rfl, ?_⟩) hH ?_
      rotate_left
      · intro w hSw; (try dsimp only at hSw); go_simp <;> with_reducible rfl
      try simp only [Act.put, List.setIfInBounds_toArray, List.set_cons_zero, List.set_cons_succ]
      refine wpAnyH_take (i := 2) (oi := { dst := some 23, op := Op.fieldAddr 38 (Operand.tmp 1) 4, type := 0, pos := "law.go:25", after := #[], guard := none }) (v := ?_) rfl (by kernel_rfl) (by kernel_rfl) (by kernel_rfl) (fun _ _ _ h => h) (Or.inl ⟨by rfl, ?_⟩) hH ?_
      rotate_left
      · intro w hSw; (try dsimp only at hSw); go_simp <;> with_reducible rfl
      try simp only [Act.put, List.setIfInBounds_toArray, List.set_cons_zero, List.set_cons_succ]
      refine wpAnyH_take (i := 3) (oi := { dst := some 24, op := Op.load 36 (Operand.tmp 23), type := 36, pos := "law.go:25", after := #[{ on := 2, ground := Ground.data }], guard := none }) (v := ?_) rfl (by kernel_rfl) (by kernel_rfl) (by kernel_rfl) (fun _ _ _ h => h) (Or.inl ⟨by rfl, ?_⟩) hH ?_
      rotate_left
      · intro w hSw; (try dsimp only at hSw); go_simp <;> with_reducible rfl
      try simp only [Act.put, List.setIfInBounds_toArray, List.set_cons_zero, List.set_cons_succ]
      refine wpAnyH_take (i := 4) (oi := { dst := some 25, op := Op.move (Operand.tmp 4), type := 3, pos := "law.go:25", after := #[], guard := none }) (v := ?_) rfl (by kernel_rfl) (by kernel_rfl) (by kernel_rfl) (fun _ _ _ h => h) (Or.inl ⟨by rfl, ?_⟩) hH ?_
      rotate_left
      · intro w hSw; (try dsimp only at hSw); go_simp <;> with_reducible rfl
      try simp only [Act.put, List.setIfInBounds_toArray, List.set_cons_zero, List.set_cons_succ]
      refine wpAnyH_take (i := 5) (oi := { dst := some 26, op := Op.indexAddr 36 (Operand.tmp 24) (Operand.tmp 25), type := 0, pos := "law.go:25", after := #[{ on := 3, ground := Ground.data }, { on := 4, ground := Ground.data }], guard := none }) (v := ?_) rfl (by kernel_rfl) (by kernel_rfl) (by kernel_rfl) (fun _ _ _ h => h) (Or.inl ⟨by rfl, ?_⟩) hH ?_
      rotate_left
      · intro w hSw; (try dsimp only at hSw); go_simp <;> with_reducible rfl
      try simp only [Act.put, List.setIfInBounds_toArray, List.set_cons_zero, List.set_cons_succ]
      refine wpAnyH_take (i := 6) (oi := { dst := some 27, op := Op.load 103 (Operand.tmp 26), type := 103, pos := "law.go:25", after := #[{ on := 5, ground := Ground.data }], guard := none }) (v := ?_) rfl (by kernel_rfl) (by kernel_rfl) (by kernel_rfl) (fun _ _ _ h => h) (Or.inl ⟨by rfl, ?_⟩) hH ?_
      rotate_left
      · intro w hSw; (try dsimp only at hSw); go_simp <;> with_reducible rfl
      try simp only [Act.put, List.setIfInBounds_toArray, List.set_cons_zero, List.set_cons_succ]
      refine wpAnyH_ready (rs := [1, 7]) (by kernel_rfl) (by simp) ?_
      refine AllReadyH.cons (o := { dst := some 22, op := Op.load 43 (Operand.tmp 21), type := 43, pos := "law.go:25", after := #[{ on := 0, ground := Ground.data }], guard := none }) rfl (fun K hK => ?_) ?_
      ·
        go_simp
        refine hK.out _ _ ?_ (fun hH => ?_)
        · exact hH
        clear hK K
        try simp only [Act.put, List.setIfInBounds_toArray, List.set_cons_zero, List.set_cons_succ]
        refine wpAnyH_ready (rs := [7]) (by kernel_rfl) (by simp) ?_
        refine AllReadyH.cons (o := { dst := some 28, op := Op.buildSlice 43 1 #[(0, Operand.tmp 27)], type := 43, pos := "law.go:25", after := #[{ on := 6, ground := Ground.data }], guard := none }) rfl (fun K hK => ?_) AllReadyH.nil
        go_simp
        refine hK.out _ _ ?_ (fun hH => ?_)
        · exact hH.alloc _
        clear hK K
        try simp only [Act.put, List.setIfInBounds_toArray, List.set_cons_zero, List.set_cons_succ]
        refine wpAnyH_ready (rs := [8]) (by kernel_rfl) (by simp) ?_
        refine AllReadyH.cons (o := { dst := some 29, op := Op.call { callee := Callee.builtin Builtin.append, args := #[Operand.tmp 22, Operand.tmp 28], argTypes := #[43, 43] }, type := 43, pos := "law.go:25", after := #[{ on := 1, ground := Ground.data }, { on := 7, ground := Ground.data }], guard := none }) rfl (fun K hK => ?_) AllReadyH.nil
        go_must (refine step_append_lies _ (by rfl) _ _ _ (by rfl) (p + 3) 101 i0 _ 4 40 Try.underlying43 hi0 hz0 hz1 hz2 rfl (by omega) v k _ (by rfl) (by exact HO.out.alloc _) ⟨wr.heap.size, 0, none⟩ 1 1 (encV x) (by rfl) (by rfl) (World.news_of_block (cs := (encV x).toArray) (t := 101) (fr := (0, 0)) (by exact heap_new wr _)) (encV_one x) (by omega) (by unfold maxLen; omega) (by omega) (by simp; omega) (wr.heap.size + 1) (by simp) ?_)
        intro g cp w2 hown hgrow hat hlt
        have hvo : v.ownBlock ≠ some (p + 2) := fun e => by (have := (HO.out.lt _ e).1; omega)
        have e2 : w2.cell? ⟨p + 2, 4, none⟩ = some v := hgrow.cell (cell_alloc e0 _) (Ne.symm hvo)
        have f2 : w2.frozen? ⟨p + 2, 4, none⟩ = false := (hgrow.frozen_far ⟨p + 2, 4, none⟩ (by simp; omega) (Ne.symm hvo)).trans (frozen_alloc f0 hpw _)
        have HG := hid hgrow
        have HOW := hid hown
        have HA := hid hat
        clear hgrow hown hat
        refine hK.out _ _ ?_ (fun hH => ?_)
        · exact hH.grown HG.out (fun x e _ => .inr e)
        clear hK K
        try simp only [Act.put, List.setIfInBounds_toArray, List.set_cons_zero, List.set_cons_succ]
        refine wpAnyH_take (i := 9) (oi := { dst := some 30, op := Op.fieldAddr 45 (Operand.tmp 3) 4, type := 0, pos := "law.go:25", after := #[{ on := 0, ground := Ground.phase }, { on := 1, ground := Ground.phase }, { on := 2, ground := Ground.phase }, { on := 3, ground := Ground.phase }, { on := 4, ground := Ground.phase }, { on := 5, ground := Ground.phase }, { on := 6, ground := Ground.phase }, { on := 7, ground := Ground.phase }, { on := 8, ground := Ground.phase }], guard := none }) (v := ?_) rfl (by kernel_rfl) (by kernel_rfl) (by kernel_rfl) (fun _ _ _ h => h) (Or.inl ⟨by rfl, ?_⟩) hH ?_
        rotate_left
        · intro w hSw; (try dsimp only at hSw); go_simp <;> with_reducible rfl
        try simp only [Act.put, List.setIfInBounds_toArray, List.set_cons_zero, List.set_cons_succ]
        refine wpAnyH_ready (rs := [10]) (by kernel_rfl) (by simp) ?_
        refine AllReadyH.cons (o := { dst := none, op := Op.store 43 (Operand.tmp 30) (Operand.tmp 29), type := 0, pos := "law.go:25", after := #[{ on := 9, ground := Ground.data }, { on := 8, ground := Ground.data }, { on := 8, ground := Ground.chain }, { on := 0, ground := Ground.phase }, { on := 1, ground := Ground.phase }, { on := 2, ground := Ground.phase }, { on := 3, ground := Ground.phase }, { on := 4, ground := Ground.phase }, { on := 5, ground := Ground.phase }, { on := 6, ground := Ground.phase }, { on := 7, ground := Ground.phase }, { on := 8, ground := Ground.phase }], guard := none }) rfl (fun K hK => ?_) AllReadyH.nil
        go_simp
        refine hK.out _ _ ?_ (fun hH => ?_)
        · exact ((((Fr.refl (fun j => j = p + 2 ∨ v.ownBlock = some j) wr).alloc _).drew).grown HG.out (fun x e _ => .inr e)).setCell (fun _ => .inl rfl) _
        clear hK K
        refine wpAnyH_done (by kernel_rfl) ?_ _
        have F2 : Fr (fun j => v.ownBlock = some j) wr w2 := (((Fr.refl (fun j => v.ownBlock = some j) wr).alloc _).drew).grown HG.out (fun x e _ => e)
        have b2 := heap_set (i := 4) (F2.heap HX2.out hvo) (.slice (some ⟨g, 0, none⟩) (k + 1) cp)
        have hgp := (HOW.out.lt g rfl).1
        have own2 := Go.ownsRow_setCell_other HOW.out (a := ⟨p + 2, 4, none⟩) (by simp [Value.ownBlock]; omega) (.slice (some ⟨g, 0, none⟩) (k + 1) cp)
        have R1 := hid b2
        have R2 := hid own2
        have R3 := hid (HB.out.trans hH (fun _ h => h) (fun i hi e => e.elim (fun e => e) (fun e => by have := (HO.out.lt _ e).1; omega)))
        clear b2 own2 hH
        go_wp2
        go_roundw
        case rel => exact ⟨k + 1, by omega, by go_num, _, R1.out, by rw [flatV_take V k x HX.out]; exact R2.out, R3.out⟩
        case measure => simp [intOf]; omega
      refine AllReadyH.cons (o := { dst := some 28, op := Op.buildSlice 43 1 #[(0, Operand.tmp 27)], type := 43, pos := "law.go:25", after := #[{ on := 6, ground := Ground.data }], guard := none }) rfl (fun K hK => ?_) AllReadyH.nil
      go_simp
      refine hK.out _ _ ?_ (fun hH => ?_)
      · exact hH.alloc _
      clear hK K
      try simp only [Act.put, List.setIfInBounds_toArray, List.set_cons_zero, List.set_cons_succ]
      refine wpAnyH_ready (rs := [1]) (by kernel_rfl) (by simp) ?_
      refine AllReadyH.cons (o := { dst := some 22, op := Op.load 43 (Operand.tmp 21), type := 43, pos := "law.go:25", after := #[{ on := 0, ground := Ground.data }], guard := none }) rfl (fun K hK => ?_) AllReadyH.nil
      go_simp
      refine hK.out _ _ ?_ (fun hH => ?_)
      · exact hH
      clear hK K
      try simp only [Act.put, List.setIfInBounds_toArray, List.set_cons_zero, List.set_cons_succ]
      refine wpAnyH_ready (rs := [8]) (by kernel_rfl) (by simp) ?_
      refine AllReadyH.cons (o := { dst := some 29, op := Op.call { callee := Callee.builtin Builtin.append, args := #[Operand.tmp 22, Operand.tmp 28], argTypes := #[43, 43] }, type := 43, pos := "law.go:25", after := #[{ on := 1, ground := Ground.data }, { on := 7, ground := Ground.data }], guard := none }) rfl (fun K hK => ?_) AllReadyH.nil
      go_must (refine step_append_lies _ (by rfl) _ _ _ (by rfl) (p + 3) 101 i0 _ 4 40 Try.underlying43 hi0 hz0 hz1 hz2 rfl (by omega) v k _ (by rfl) (by exact HO.out.alloc _) ⟨wr.heap.size, 0, none⟩ 1 1 (encV x) (by rfl) (by rfl) (World.news_of_block (cs := (encV x).toArray) (t := 101) (fr := (0, 0)) (by exact heap_new wr _)) (encV_one x) (by omega) (by unfold maxLen; omega) (by omega) (by simp; omega) (wr.heap.size + 1) (by simp) ?_)
      intro g cp w2 hown hgrow hat hlt
      have hvo : v.ownBlock ≠ some (p + 2) := fun e => by (have := (HO.out.lt _ e).1; omega)
      have e2 : w2.cell? ⟨p + 2, 4, none⟩ = some v := hgrow.cell (cell_alloc e0 _) (Ne.symm hvo)
      have f2 : w2.frozen? ⟨p + 2, 4, none⟩ = false := (hgrow.frozen_far ⟨p + 2, 4, none⟩ (by simp; omega) (Ne.symm hvo)).trans (frozen_alloc f0 hpw _)
      have HG := hid hgrow
      have HOW := hid hown
      have HA := hid hat
      clear hgrow hown hat
      refine hK.out _ _ ?_ (fun hH => ?_)
      · exact hH.grown HG.out (fun x e _ => .inr e)
      clear hK K
      try simp only [Act.put, List.setIfInBounds_toArray, List.set_cons_zero, List.set_cons_succ]
      refine wpAnyH_take (i := 9) (oi := { dst := some 30, op := Op.fieldAddr 45 (Operand.tmp 3) 4, type := 0, pos := "law.go:25", after := #[{ on := 0, ground := Ground.phase }, { on := 1, ground := Ground.phase }, { on := 2, ground := Ground.phase }, { on := 3, ground := Ground.phase }, { on := 4, ground := Ground.phase }, { on := 5, ground := Ground.phase }, { on := 6, ground := Ground.phase }, { on := 7, ground := Ground.phase }, { on := 8, ground := Ground.phase }], guard := none }) (v := ?_) rfl (by kernel_rfl) (by kernel_rfl) (by kernel_rfl) (fun _ _ _ h => h) (Or.inl ⟨by rfl, ?_⟩) hH ?_
      rotate_left
      · intro w hSw; (try dsimp only at hSw); go_simp <;> with_reducible rfl
      try simp only [Act.put, List.setIfInBounds_toArray, List.set_cons_zero, List.set_cons_succ]
      refine wpAnyH_ready (rs := [10]) (by kernel_rfl) (by simp) ?_
      refine AllReadyH.cons (o := { dst := none, op := Op.store 43 (Operand.tmp 30) (Operand.tmp 29), type := 0, pos := "law.go:25", after := #[{ on := 9, ground := Ground.data }, { on := 8, ground := Ground.data }, { on := 8, ground := Ground.chain }, { on := 0, ground := Ground.phase }, { on := 1, ground := Ground.phase }, { on := 2, ground := Ground.phase }, { on := 3, ground := Ground.phase }, { on := 4, ground := Ground.phase }, { on := 5, ground := Ground.phase }, { on := 6, ground := Ground.phase }, { on := 7, ground := Ground.phase }, { on := 8, ground := Ground.phase }], guard := none }) rfl (fun K hK => ?_) AllReadyH.nil
      go_simp
      refine hK.out _ _ ?_ (fun hH => ?_)
      · exact ((((Fr.refl (fun j => j = p + 2 ∨ v.ownBlock = some j) wr).alloc _).drew).grown HG.out (fun x e _ => .inr e)).setCell (fun _ => .inl rfl) _
      clear hK K
      refine wpAnyH_done (by kernel_rfl) ?_ _
      have F2 : Fr (fun j => v.ownBlock = some j) wr w2 := (((Fr.refl (fun j => v.ownBlock = some j) wr).alloc _).drew).grown HG.out (fun x e _ => e)
      have b2 := heap_set (i := 4) (F2.heap HX2.out hvo) (.slice (some ⟨g, 0, none⟩) (k + 1) cp)
      have hgp := (HOW.out.lt g rfl).1
      have own2 := Go.ownsRow_setCell_other HOW.out (a := ⟨p + 2, 4, none⟩) (by simp [Value.ownBlock]; omega) (.slice (some ⟨g, 0, none⟩) (k + 1) cp)
      have R1 := hid b2
      have R2 := hid own2
      have R3 := hid (HB.out.trans hH (fun _ h => h) (fun i hi e => e.elim (fun e => e) (fun e => by have := (HO.out.lt _ e).1; omega)))
      clear b2 own2 hH
      go_wp2
      go_roundw
      case rel => exact ⟨k + 1, by omega, by go_num, _, R1.out, by rw [flatV_take V k x HX.out]; exact R2.out, R3.out⟩
      case measure => simp [intOf]; omega
    · obtain rfl : k = V.length := by omega
      rw [List.take_length] at hown
      obtain ⟨a', c', rfl, hV⟩ := Va.of_own hown hl
      have HV := hid hV
      obtain ⟨x0, x1, x2, x3, x4⟩ : EvAt wr (p + 2) t s q y a' V.length c' := .of HX2.out
      have hr := hb.heap HE2.out (by omega)
      have HR := hid hr
      have TS := st_rev t s q y a' V.length c' (there_ev hr)
      unfold evV at TS
      clear hV hr hbk hown hb p0 p1 p2 p3
      go_wp2_with fail
      refine bodyPost_ret (v := evV t s q y a' V.length c') (results_one Try.results30 _ _ (by rfl) (rev_var (encE_put HR.out))) rfl ⟨a', c', rfl, ?_, ?_⟩
      · exact (HV.out.fr (Fr.setCells (S := fun k => k = p + 1) (b := p + 1) (fun _ => rfl) _ _ (Fr.refl _ _)) (fun i e => by (try simp only at e ⊢); omega)).of (fun i h _ => by have := HP.out; (try simp only at h ⊢); omega)
      · exact (HF.out.trans HB.out (fun _ h => h) (fun i hi e => by have := HP.out; omega)).setCells (fun h => by have := HP.out; omega) _ _

end
end Go.Proofs.Ytakhmommcgfoaaa
