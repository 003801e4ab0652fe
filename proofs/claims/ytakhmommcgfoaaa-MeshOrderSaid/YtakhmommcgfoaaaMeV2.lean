/-
  event.ID, event.Same, mesh.Same of alike messages, walked.
-/
import Derived.Test.YtakhmommcgfoaaaMeV1
namespace Go.Proofs.Ytakhmommcgfoaaa
open Go.RowKit

def evV (t s q : Int) (y : ByteArray) (a : Option Addr) (n c : Nat) : Value := .agg #[.int .i64 t, .int .i64 s, .int .i64 q, .string y, .slice a n c]
theorem eid_ok (t s q : Int) (y : ByteArray) (a : Option Addr) (n c : Nat) (w : World) :
    Calls Try.prog 44 #[evV t s q y a n c] w fun e w' => e = .returned (.agg #[.int .i64 t, .int .i64 s, .int .i64 q]) ∧ Fr (fun _ => False) w w' := by
  unfold evV
  go_enter Try.func44, Try.ntmps44
  go_wp2
  exact bodyPost_ret (v := .agg #[.int .i64 t, .int .i64 s, .int .i64 q]) (by simp [results, Try.results44, go_sem]) rfl ⟨rfl, ((Fr.refl _ w).alloc _).alloc _⟩

/-- the five cells of an event in block p -/
def EvAt (w : World) (p : Nat) (t s q : Int) (y : ByteArray) (a : Option Addr) (n c : Nat) : Prop :=
  w.cell? ⟨p, 0, none⟩ = some (.int .i64 t) ∧ w.cell? ⟨p, 1, none⟩ = some (.int .i64 s) ∧ w.cell? ⟨p, 2, none⟩ = some (.int .i64 q) ∧ w.cell? ⟨p, 3, none⟩ = some (.string y) ∧ w.cell? ⟨p, 4, none⟩ = some (.slice a n c)
theorem EvAt.of {w : World} {p : Nat} {t s q : Int} {y : ByteArray} {a : Option Addr} {n c : Nat} {T : TypeId} (h : w.heap[p]? = some (.cells #[.int .i64 t, .int .i64 s, .int .i64 q, .string y, .slice a n c] T (0, 0))) : EvAt w p t s q y a n c :=
  ⟨cell_of h 0 rfl, cell_of h 1 rfl, cell_of h 2 rfl, cell_of h 3 rfl, cell_of h 4 rfl⟩
theorem EvAt.no {w w' : World} {p : Nat} {t s q : Int} {y : ByteArray} {a : Option Addr} {n c : Nat} (h : EvAt w p t s q y a n c) (hf : Fr (fun _ => False) w w') : EvAt w' p t s q y a n c :=
  ⟨hf.cell h.1 (fun e => e), hf.cell h.2.1 (fun e => e), hf.cell h.2.2.1 (fun e => e), hf.cell h.2.2.2.1 (fun e => e), hf.cell h.2.2.2.2 (fun e => e)⟩
theorem two_evs {w w1 : World} {T U : TypeId} {t s q t' s' q' : Int} {y y' : ByteArray} {a a' : Option Addr} {n c n' c' : Nat}
    (hw : (w.alloc (.cells #[.int .i64 t, .int .i64 s, .int .i64 q, .string y, .slice a n c] T)).alloc (.cells #[.int .i64 t', .int .i64 s', .int .i64 q', .string y', .slice a' n' c'] U) = w1) :
    EvAt w1 w.heap.size t s q y a n c ∧ EvAt w1 (w.heap.size + 1) t' s' q' y' a' n' c' ∧ Fr (fun _ => False) w w1 := by
  subst hw
  exact ⟨.of (heap_old (heap_new w _) _), .of (T := U) (by simpa using heap_new (w.alloc _) (.cells #[.int .i64 t', .int .i64 s', .int .i64 q', .string y', .slice a' n' c'] U)), ((Fr.refl _ w).alloc _).alloc _⟩

set_option maxRecDepth 100000 in
set_option maxHeartbeats 1000000 in
theorem esame_ok {w : World} {F G : Nat → Prop} {t s q : Int} {y : ByteArray} {a a' : Option Addr} {n c n' c' : Nat} {V : List Vl} (h : Va w F a n V) (h2 : Va w G a' n' V) :
    Calls Try.prog 37 #[evV t s q y a n c, evV t s q y a' n' c'] w fun e w' => e = .returned (.bool true) ∧ Fr (fun _ => False) w w' := by
  have H1 := hid h
  have H2 := hid h2
  clear h h2
  have U := hid (fun w => eid_ok t s q y a n c w)
  have U' := hid (fun w => eid_ok t s q y a' n' c' w)
  unfold evV at *
  go_enter Try.func37, Try.ntmps37
  go_upto_region 1 with fail
  generalize hw1 : World.alloc (World.alloc w _) _ = w1
  obtain ⟨E1, E2, F1⟩ := two_evs hw1
  clear hw1
  generalize hp : w.heap.size = p at *
  have HF := hid F1
  have K1 := hid fun w' (hf : Fr (fun _ => False) w1 w') => E1.no hf
  have K2 := hid fun w' (hf : Fr (fun _ => False) w1 w') => E2.no hf
  have a0 := fun w' hf => (K1.out w' hf).1
  have a1 := fun w' hf => (K1.out w' hf).2.1
  have a2 := fun w' hf => (K1.out w' hf).2.2.1
  have a3 := fun w' hf => (K1.out w' hf).2.2.2.1
  have a4 := fun w' hf => (K1.out w' hf).2.2.2.2
  have b0 := fun w' hf => (K2.out w' hf).1
  have b1 := fun w' hf => (K2.out w' hf).2.1
  have b2 := fun w' hf => (K2.out w' hf).2.2.1
  have b3 := fun w' hf => (K2.out w' hf).2.2.2.1
  have b4 := fun w' hf => (K2.out w' hf).2.2.2.2
  clear E1 E2 F1
  refine wp_region_held_drew (S := (fun w' => Fr (fun _ => False) w1 w')) (by kernel_rfl) ?_ (fun hH => ?_)
  · exact (Fr.refl (fun _ => False) w1).drew
  refine wpAnyH_take (i := 0) (oi := { dst := some 5, op := Op.load 38 (Operand.tmp 2), type := 38, pos := "event.go:75", after := #[], guard := none }) (v := ?_) rfl (by kernel_rfl) (by kernel_rfl) (by kernel_rfl) (fun _ _ _ h => h) (Or.inl ⟨by rfl, ?_⟩) hH ?_
  rotate_left
  · intro w hSw; (try dsimp only at hSw); go_simp <;> with_reducible rfl
  try simp only [Act.put, List.setIfInBounds_toArray, List.set_cons_zero, List.set_cons_succ]
  refine wpAnyH_take (i := 2) (oi := { dst := some 7, op := Op.load 38 (Operand.tmp 3), type := 38, pos := "event.go:75", after := #[], guard := none }) (v := ?_) rfl (by kernel_rfl) (by kernel_rfl) (by kernel_rfl) (fun _ _ _ h => h) (Or.inl ⟨by rfl, ?_⟩) hH ?_
  rotate_left
  · intro w hSw; (try dsimp only at hSw); go_simp <;> with_reducible rfl
  try simp only [Act.put, List.setIfInBounds_toArray, List.set_cons_zero, List.set_cons_succ]
  refine wpAnyH_ready (rs := [1]) (by kernel_rfl) (by simp) ?_
  refine AllReadyH.cons (o := { dst := some 6, op := Op.call { callee := Callee.value (Operand.func 44), args := #[Operand.tmp 5], argTypes := #[38] }, type := 107, pos := "event.go:75", after := #[{ on := 0, ground := Ground.data }], guard := none }) rfl (fun K hK => ?_) AllReadyH.nil
  go_simp
  go_at_call 44
  refine (U.out _).mono ?_
  rintro e w' ⟨rfl, hf⟩
  go_simp
  refine hK.out _ _ ?_ (fun hH => ?_)
  · exact hH.trans' hf
  clear hK K
  try simp only [Act.put, List.setIfInBounds_toArray, List.set_cons_zero, List.set_cons_succ]
  refine wpAnyH_ready (rs := [3]) (by kernel_rfl) (by simp) ?_
  refine AllReadyH.cons (o := { dst := some 8, op := Op.call { callee := Callee.value (Operand.func 44), args := #[Operand.tmp 7], argTypes := #[38] }, type := 107, pos := "event.go:75", after := #[{ on := 2, ground := Ground.data }, { on := 1, ground := Ground.chain }], guard := none }) rfl (fun K hK => ?_) AllReadyH.nil
  go_simp
  go_at_call 44
  refine (U'.out _).mono ?_
  rintro e w' ⟨rfl, hf⟩
  go_simp
  refine hK.out _ _ ?_ (fun hH => ?_)
  · exact hH.trans' hf
  clear hK K
  try simp only [Act.put, List.setIfInBounds_toArray, List.set_cons_zero, List.set_cons_succ]
  refine wpAnyH_take (i := 4) (oi := { dst := some 9, op := Op.binOp BinOp.eql 107 (Operand.tmp 6) (Operand.tmp 8) 107, type := 4, pos := "event.go:75", after := #[{ on := 1, ground := Ground.data }, { on := 3, ground := Ground.data }], guard := none }) (v := ?_) rfl (by kernel_rfl) (by kernel_rfl) (by kernel_rfl) (fun _ _ _ h => h) (Or.inl ⟨by rfl, ?_⟩) hH ?_
  rotate_left
  · intro w hSw; (try dsimp only at hSw); go_simp <;> with_reducible rfl
  try simp only [Act.put, List.setIfInBounds_toArray, List.set_cons_zero, List.set_cons_succ]
  refine wpAnyH_take (i := 5) (oi := { dst := some 10, op := Op.move (Operand.tmp 9), type := 4, pos := "event.go:75", after := #[{ on := 4, ground := Ground.data }, { on := 3, ground := Ground.chain }], guard := none }) (v := ?_) rfl (by kernel_rfl) (by kernel_rfl) (by kernel_rfl) (fun _ _ _ h => h) (Or.inl ⟨by rfl, ?_⟩) hH ?_
  rotate_left
  · intro w hSw; (try dsimp only at hSw); go_simp <;> with_reducible rfl
  try simp only [Act.put, List.setIfInBounds_toArray, List.set_cons_zero, List.set_cons_succ]
  refine wpAnyH_take (i := 6) (oi := { dst := some 11, op := Op.fieldAddr 38 (Operand.tmp 2) 3, type := 0, pos := "event.go:75", after := #[{ on := 5, ground := Ground.guard }], guard := some (5, true) }) (v := ?_) rfl (by kernel_rfl) (by kernel_rfl) (by kernel_rfl) (fun _ _ _ h => h) (Or.inl ⟨by rfl, ?_⟩) hH ?_
  rotate_left
  · intro w hSw; (try dsimp only at hSw); go_simp <;> with_reducible rfl
  try simp only [Act.put, List.setIfInBounds_toArray, List.set_cons_zero, List.set_cons_succ]
  refine wpAnyH_take (i := 7) (oi := { dst := some 12, op := Op.load 9 (Operand.tmp 11), type := 9, pos := "event.go:75", after := #[{ on := 6, ground := Ground.data }, { on := 5, ground := Ground.guard }], guard := some (5, true) }) (v := ?_) rfl (by kernel_rfl) (by kernel_rfl) (by kernel_rfl) (fun _ _ _ h => h) (Or.inl ⟨by rfl, ?_⟩) hH ?_
  rotate_left
  · intro w hSw; (try dsimp only at hSw); go_simp <;> with_reducible rfl
  try simp only [Act.put, List.setIfInBounds_toArray, List.set_cons_zero, List.set_cons_succ]
  refine wpAnyH_take (i := 8) (oi := { dst := some 13, op := Op.fieldAddr 38 (Operand.tmp 3) 3, type := 0, pos := "event.go:75", after := #[{ on := 5, ground := Ground.guard }], guard := some (5, true) }) (v := ?_) rfl (by kernel_rfl) (by kernel_rfl) (by kernel_rfl) (fun _ _ _ h => h) (Or.inl ⟨by rfl, ?_⟩) hH ?_
  rotate_left
  · intro w hSw; (try dsimp only at hSw); go_simp <;> with_reducible rfl
  try simp only [Act.put, List.setIfInBounds_toArray, List.set_cons_zero, List.set_cons_succ]
  refine wpAnyH_take (i := 9) (oi := { dst := some 14, op := Op.load 9 (Operand.tmp 13), type := 9, pos := "event.go:75", after := #[{ on := 8, ground := Ground.data }, { on := 5, ground := Ground.guard }], guard := some (5, true) }) (v := ?_) rfl (by kernel_rfl) (by kernel_rfl) (by kernel_rfl) (fun _ _ _ h => h) (Or.inl ⟨by rfl, ?_⟩) hH ?_
  rotate_left
  · intro w hSw; (try dsimp only at hSw); go_simp <;> with_reducible rfl
  try simp only [Act.put, List.setIfInBounds_toArray, List.set_cons_zero, List.set_cons_succ]
  refine wpAnyH_take (i := 10) (oi := { dst := some 15, op := Op.binOp BinOp.eql 9 (Operand.tmp 12) (Operand.tmp 14) 9, type := 4, pos := "event.go:75", after := #[{ on := 7, ground := Ground.data }, { on := 9, ground := Ground.data }, { on := 5, ground := Ground.guard }], guard := some (5, true) }) (v := ?_) rfl (by kernel_rfl) (by kernel_rfl) (by kernel_rfl) (fun _ _ _ h => h) (Or.inl ⟨by rfl, ?_⟩) hH ?_
  rotate_left
  · intro w hSw; (try dsimp only at hSw); go_simp <;> with_reducible rfl
  try simp only [Act.put, List.setIfInBounds_toArray, List.set_cons_zero, List.set_cons_succ]
  refine wpAnyH_take (i := 11) (oi := { dst := some 16, op := Op.pick (Operand.tmp 10) (Operand.tmp 15) (Operand.const (Value.bool false)), type := 4, pos := "event.go:75", after := #[{ on := 5, ground := Ground.data }, { on := 10, ground := Ground.data }], guard := none }) (v := ?_) rfl (by kernel_rfl) (by kernel_rfl) (by kernel_rfl) (fun _ _ _ h => h) (Or.inl ⟨by rfl, ?_⟩) hH ?_
  rotate_left
  · intro w hSw; (try dsimp only at hSw); go_simp <;> with_reducible rfl
  try simp only [Act.put, List.setIfInBounds_toArray, List.set_cons_zero, List.set_cons_succ]
  refine wpAnyH_take (i := 12) (oi := { dst := some 17, op := Op.move (Operand.tmp 16), type := 4, pos := "event.go:75", after := #[{ on := 11, ground := Ground.data }, { on := 5, ground := Ground.chain }], guard := none }) (v := ?_) rfl (by kernel_rfl) (by kernel_rfl) (by kernel_rfl) (fun _ _ _ h => h) (Or.inl ⟨by rfl, ?_⟩) hH ?_
  rotate_left
  · intro w hSw; (try dsimp only at hSw); go_simp <;> with_reducible rfl
  try simp only [Act.put, List.setIfInBounds_toArray, List.set_cons_zero, List.set_cons_succ]
  refine wpAnyH_take (i := 13) (oi := { dst := some 18, op := Op.fieldAddr 38 (Operand.tmp 2) 4, type := 0, pos := "event.go:75", after := #[{ on := 12, ground := Ground.guard }], guard := some (12, true) }) (v := ?_) rfl (by kernel_rfl) (by kernel_rfl) (by kernel_rfl) (fun _ _ _ h => h) (Or.inl ⟨by rfl, ?_⟩) hH ?_
  rotate_left
  · intro w hSw; (try dsimp only at hSw); go_simp <;> with_reducible rfl
  try simp only [Act.put, List.setIfInBounds_toArray, List.set_cons_zero, List.set_cons_succ]
  refine wpAnyH_take (i := 14) (oi := { dst := some 19, op := Op.load 36 (Operand.tmp 18), type := 36, pos := "event.go:75", after := #[{ on := 13, ground := Ground.data }, { on := 12, ground := Ground.guard }], guard := some (12, true) }) (v := ?_) rfl (by kernel_rfl) (by kernel_rfl) (by kernel_rfl) (fun _ _ _ h => h) (Or.inl ⟨by rfl, ?_⟩) hH ?_
  rotate_left
  · intro w hSw; (try dsimp only at hSw); go_simp <;> with_reducible rfl
  try simp only [Act.put, List.setIfInBounds_toArray, List.set_cons_zero, List.set_cons_succ]
  refine wpAnyH_take (i := 15) (oi := { dst := some 20, op := Op.fieldAddr 38 (Operand.tmp 3) 4, type := 0, pos := "event.go:75", after := #[{ on := 12, ground := Ground.guard }], guard := some (12, true) }) (v := ?_) rfl (by kernel_rfl) (by kernel_rfl) (by kernel_rfl) (fun _ _ _ h => h) (Or.inl ⟨by rfl, ?_⟩) hH ?_
  rotate_left
  · intro w hSw; (try dsimp only at hSw); go_simp <;> with_reducible rfl
  try simp only [Act.put, List.setIfInBounds_toArray, List.set_cons_zero, List.set_cons_succ]
  refine wpAnyH_take (i := 16) (oi := { dst := some 21, op := Op.load 36 (Operand.tmp 20), type := 36, pos := "event.go:75", after := #[{ on := 15, ground := Ground.data }, { on := 12, ground := Ground.guard }], guard := some (12, true) }) (v := ?_) rfl (by kernel_rfl) (by kernel_rfl) (by kernel_rfl) (fun _ _ _ h => h) (Or.inl ⟨by rfl, ?_⟩) hH ?_
  rotate_left
  · intro w hSw; (try dsimp only at hSw); go_simp <;> with_reducible rfl
  try simp only [Act.put, List.setIfInBounds_toArray, List.set_cons_zero, List.set_cons_succ]
  refine wpAnyH_ready (rs := [17]) (by kernel_rfl) (by simp) ?_
  refine AllReadyH.cons (o := { dst := some 22, op := Op.call { callee := Callee.value (Operand.func 45), args := #[Operand.tmp 19, Operand.tmp 21], argTypes := #[36, 36] }, type := 4, pos := "event.go:75", after := #[{ on := 14, ground := Ground.data }, { on := 16, ground := Ground.data }, { on := 12, ground := Ground.chain }, { on := 12, ground := Ground.guard }], guard := some (12, true) }) rfl (fun K hK => ?_) AllReadyH.nil
  go_simp
  go_at_call 45
  refine (sequal_ok ((H1.out.no HF.out).no hH) ((H2.out.no HF.out).no hH)).mono ?_
  rintro e w' ⟨rfl, m, rfl⟩
  go_simp
  refine hK.out _ _ ?_ (fun hH => ?_)
  · exact hH.drewN _
  clear hK K
  try simp only [Act.put, List.setIfInBounds_toArray, List.set_cons_zero, List.set_cons_succ]
  refine wpAnyH_take (i := 18) (oi := { dst := some 23, op := Op.pick (Operand.tmp 17) (Operand.tmp 22) (Operand.const (Value.bool false)), type := 4, pos := "event.go:75", after := #[{ on := 12, ground := Ground.data }, { on := 17, ground := Ground.data }], guard := none }) (v := ?_) rfl (by kernel_rfl) (by kernel_rfl) (by kernel_rfl) (fun _ _ _ h => h) (Or.inl ⟨by rfl, ?_⟩) hH ?_
  rotate_left
  · intro w hSw; (try dsimp only at hSw); go_simp <;> with_reducible rfl
  try simp only [Act.put, List.setIfInBounds_toArray, List.set_cons_zero, List.set_cons_succ]
  refine wpAnyH_take (i := 19) (oi := { dst := some 4, op := Op.assign (Operand.tmp 23), type := 4, pos := "event.go:75", after := #[{ on := 18, ground := Ground.data }, { on := 17, ground := Ground.chain }, { on := 0, ground := Ground.phase }, { on := 1, ground := Ground.phase }, { on := 2, ground := Ground.phase }, { on := 3, ground := Ground.phase }, { on := 4, ground := Ground.phase }, { on := 5, ground := Ground.phase }, { on := 6, ground := Ground.phase }, { on := 7, ground := Ground.phase }, { on := 8, ground := Ground.phase }, { on := 9, ground := Ground.phase }, { on := 10, ground := Ground.phase }, { on := 11, ground := Ground.phase }, { on := 12, ground := Ground.phase }, { on := 13, ground := Ground.phase }, { on := 14, ground := Ground.phase }, { on := 15, ground := Ground.phase }, { on := 16, ground := Ground.phase }, { on := 17, ground := Ground.phase }, { on := 18, ground := Ground.phase }], guard := none }) (v := ?_) rfl (by kernel_rfl) (by kernel_rfl) (by kernel_rfl) (fun _ _ _ h => h) (Or.inl ⟨by rfl, ?_⟩) hH ?_
  rotate_left
  · intro w hSw; (try dsimp only at hSw); go_simp <;> with_reducible rfl
  try simp only [Act.put, List.setIfInBounds_toArray, List.set_cons_zero, List.set_cons_succ]
  refine wpAnyH_done (by kernel_rfl) ?_ _
  have HH := hid hH
  clear a0 a1 a2 a3 a4 b0 b1 b2 b3 b4
  go_wp2
  go_ret
  exact ⟨rfl, HF.out.trans' HH.out⟩

theorem two_msgs {w w1 : World} {T U : TypeId} {x y : Mq}
    (hw : (w.alloc (.cells (encM x).toArray T)).alloc (.cells (encM y).toArray U) = w1) :
    MsgAt w1 w.heap.size 0 x ∧ MsgAt w1 (w.heap.size + 1) 0 y ∧ Fr (fun _ => False) w w1 := by
  subst hw
  exact ⟨MsgAt.of_block (heap_old (heap_new w _) _), MsgAt.of_block (t := U) (by simpa using heap_new (w.alloc _) (.cells (encM y).toArray U)), ((Fr.refl _ w).alloc _).alloc _⟩

/-- alike messages: their values lie in blocks that are not among F, not among G -/
def Al (w : World) (F G : Nat → Prop) (x y : Mq) : Prop :=
  x.p = y.p ∧ x.k = y.k ∧ x.t = y.t ∧ x.s = y.s ∧ x.q = y.q ∧ x.y = y.y ∧ ∃ V, Va w F x.a x.n V ∧ Va w G y.a y.n V

set_option maxRecDepth 100000 in
set_option maxHeartbeats 1000000 in
theorem msame_ok {w : World} {F G : Nat → Prop} {x y : Mq} (h : Al w F G x y) :
    Calls Try.prog 23 #[msgV x, msgV y] w fun e w' => e = .returned (.bool true) ∧ Fr (fun _ => False) w w' := by
  obtain ⟨p, k, t, s, q, u, a, n, c⟩ := x
  obtain ⟨p', k', t', s', q', u', a', n', c'⟩ := y
  obtain ⟨h1, h2, h3, h4, h5, h6, V, h7, h8⟩ := h
  dsimp only at h1 h2 h3 h4 h5 h6 h7 h8
  subst h1 h2 h3 h4 h5 h6
  have U := hid (fun w' (hf : Fr (fun _ => False) w w') => esame_ok (t := t) (s := s) (q := q) (y := u) (c := c) (c' := c') (h7.no hf) (h8.no hf))
  clear h7 h8
  unfold evV at U
  unfold msgV encM
  go_enter Try.func23, Try.ntmps23
  go_upto_region 1 with fail
  generalize hw1 : World.alloc (World.alloc w _) _ = w1
  obtain ⟨E1, E2, F1⟩ := two_msgs (x := ⟨p, k, t, s, q, u, a, n, c⟩) (y := ⟨p, k, t, s, q, u, a', n', c'⟩) hw1
  clear hw1
  obtain ⟨a0, a1, a2, a3, a4, a5, a6⟩ := E1.cells
  obtain ⟨b0, b1, b2, b3, b4, b5, b6⟩ := E2.cells
  dsimp only at a0 a1 a2 a3 a4 a5 a6 b0 b1 b2 b3 b4 b5 b6
  generalize hp : w.heap.size = r at *
  have HF := hid F1
  clear E1 E2 F1
  go_wp2_with (go_at_call 37; refine (U.out _ (by first | exact HF.out | exact HF.out.drewN _)).mono ?_; rintro e w' ⟨rfl, hf⟩; have HG := hid hf; clear hf)
  go_ret
  exact ⟨rfl, HF.out.trans' HG.out⟩

end Go.Proofs.Ytakhmommcgfoaaa
