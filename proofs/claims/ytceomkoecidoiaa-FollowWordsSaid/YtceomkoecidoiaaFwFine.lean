/-
  ask of any tree; fine of the program's core, at a core that may be; Accepts: walked.
-/
import Derived.Test.YtceomkoecidoiaaFwTree
import Derived.Test.YtceomkoecidoiaaFolOf
namespace Go.Proofs.Ytceomkoecidoiaa
open Go.RowKit

theorem ask_ok (t : Tr) : AskSaid t := by
  induction t with
  | eps p => exact ask_step _ (fun x hx => by simp [kidsT] at hx)
  | leaf p => exact ask_step _ (fun x hx => by simp [kidsT] at hx)
  | cat p a b iha ihb => exact ask_step _ (fun x hx => by simp [kidsT] at hx; exact hx.elim (fun h => h ▸ iha) (fun h => h ▸ ihb))
  | alt p a b iha ihb => exact ask_step _ (fun x hx => by simp [kidsT] at hx; exact hx.elim (fun h => h ▸ iha) (fun h => h ▸ ihb))
  | loop p a iha => exact ask_step _ (fun x hx => by simp [kidsT] at hx; subst hx; exact iha)

/-- the closure that asks whether a node may not be -/
def bad1 (b : Nat) : Value := .func (.func 38) #[] #[.pointer (some ⟨b, 0, none⟩)]
theorem fine1_ok {w : World} {b : Nat} {nv : Value} {pa : Option Addr} {P pc : Nat} {wi : Int} {bv : ByteArray} {mm : Int} (hb : w.heap[b]? = some (.cells #[nv, .slice pa P pc, .int .i64 wi, .string bv, .int .u8 mm] 39 (0, 0))) (k p : Int) (hg : good P (k, p)) :
    Calls Try.prog 38 #[.agg #[.int .u8 k, .int .i64 p], .pointer (some ⟨b, 0, none⟩)] w fun e w' => e = .returned (.bool false) ∧ Fr (fun _ => False) w w' := by
  obtain ⟨h1, h2, h3⟩ := hg
  simp only at h1 h2 h3
  have c1 := cell_of hb 1 (v := .slice pa P pc) rfl
  have hbw := lt_of_block hb
  by_cases h : k = 2
  · subst h
    obtain ⟨h4, h5⟩ := h3 rfl
    have e1 := hid (show (decide (p < 0) || decide ((P : Int) ≤ p)) = false by simp; omega)
    clear h3 hb
    go_enter Try.func38, Try.ntmps38
    go_wp2
    go_ret
    exact ⟨by rw [e1.out]; rfl, (Fr.refl _ _).alloc _⟩
  · have hk : (k == 2) = false := by simpa using h
    have e1 := hid (show (decide (k < 1) || decide (5 < k)) = false by simp; omega)
    clear h3 hb h
    go_enter Try.func38, Try.ntmps38
    go_wp2
    go_ret
    exact ⟨by rw [e1.out]; rfl, (Fr.refl _ _).alloc _⟩
set_option maxRecDepth 100000 in
set_option maxHeartbeats 1000000 in
theorem index_ok {w : World} {ok : Nat → Prop} {b : Nat} {nv : Value} {pa : Option Addr} {P pc : Nat} {wi : Int} {bv : ByteArray} {mm : Int} {N : List (Int × Int)} (hb : w.heap[b]? = some (.cells #[nv, .slice pa P pc, .int .i64 wi, .string bv, .int .u8 mm] 39 (0, 0))) (hB : NodesAt w ok nv N) (hl : N.length ≤ 250) (hg : ∀ x ∈ N, good P x) :
    Calls Try.prog 44 #[nv, bad1 b] w fun e w' => e = .returned (.int .i64 (-1)) ∧ Fr (fun _ => False) w w' := by
  have hB' := hB
  obtain ⟨ao, nc, rfl, _, _, _⟩ := hB'
  obtain ⟨n, hn⟩ : ∃ n, n = N.length := ⟨_, rfl⟩
  have HB := hid hB
  have HBB := hid hb
  have HG := hid hg
  rw [← hn] at hl HB HBB ⊢
  have HN := hid hn
  clear hB hn hb hg
  unfold bad1
  go_enter Try.func44, Try.ntmps44
  go_wp2_with fail
  go_loopw [8] (fun i wr => ∃ j : Nat, j ≤ n ∧ i = .int .i64 j ∧ Fr (fun _ => False) w wr) (fun i _ => n - (intOf i).toNat)
  case atStart => exact ⟨0, Nat.zero_le _, rfl, Fr.refl _ _⟩
  case round =>
    obtain ⟨j, hj, rfl, hF⟩ := hrel
    have HF := hid hF
    have HBW := hid (HB.out.fr hF (fun _ _ e => e) (fun _ h _ => h) (ok' := ok))
    clear hF
    by_cases hjn : j < n
    · obtain ⟨ng, no, kx, px, rfl, hx, c0, c1, hngl⟩ := nodes_open HN.out HBW.out hjn
      have hgx := HG.out _ (List.mem_of_getElem? hx)
      have F1 := Lib.hid (fine1_ok (HF.out.heap HBB.out (fun e => e)) kx px hgx)
      clear hx hgx
      go_wp2_with (go_at_call 38; refine F1.out.mono ?_; rintro e w2 ⟨rfl, hf2⟩; have HF2 := hid (HF.out.trans' hf2); clear hf2)
      go_roundw
      case rel => exact ⟨j + 1, by omega, by go_num, HF2.out⟩
      case measure => simp [intOf]; omega
    · go_wp2_with fail
      go_ret
      exact ⟨rfl, HF.out⟩
theorem contains_ok {w : World} {ok : Nat → Prop} {b : Nat} {nv : Value} {pa : Option Addr} {P pc : Nat} {wi : Int} {bv : ByteArray} {mm : Int} {N : List (Int × Int)} (hb : w.heap[b]? = some (.cells #[nv, .slice pa P pc, .int .i64 wi, .string bv, .int .u8 mm] 39 (0, 0))) (hB : NodesAt w ok nv N) (hl : N.length ≤ 250) (hg : ∀ x ∈ N, good P x) :
    Calls Try.prog 37 #[nv, bad1 b] w fun e w' => e = .returned (.bool false) ∧ Fr (fun _ => False) w w' := by
  have I1 := Lib.hid (index_ok hb hB hl hg)
  clear hb hB hl hg
  unfold bad1 at *
  go_enter Try.func37, Try.ntmps37
  go_wp2_with (go_at_call 44; refine I1.out.mono ?_; rintro e w2 ⟨rfl, hf2⟩)
  go_ret
  exact ⟨rfl, hf2⟩
set_option maxRecDepth 100000 in
set_option maxHeartbeats 2000000 in
theorem cfine_ok {w : World} {ok : Nat → Prop} {nv : Value} {pa : Option Addr} {P pc : Nat} {wi : Int} {bv : ByteArray} {mm : Int} {N : List (Int × Int)} (hB : NodesAt w ok nv N) (hok : Ok16 N P) :
    Calls Try.prog 28 #[coreV nv pa P pc wi bv mm] w fun e w' => e = .returned (.bool true) ∧ Fr (fun _ => False) w w' := by
  have hB' := hB
  obtain ⟨ao, nc, rfl, hnc, hnc2, _⟩ := hB'
  obtain ⟨n, hn⟩ : ∃ n, n = N.length := ⟨_, rfl⟩
  have HB := hid hB
  have HOK := hid hok
  rw [← hn] at hnc HB ⊢
  have hn0 : ¬ n = 0 := by rw [hn]; exact hok.ne
  have hn2 : n ≤ 200 := by rw [hn]; exact hok.le
  have hn2' : decide ((200 : Int) < n) = false := by simp; omega
  have hn3' : decide (200 < n) = false := by simp; omega
  have hn0b : ((n : Int) == 0) = false := by simp; omega
  have HN := hid hn
  clear hB hn hok
  unfold coreV
  go_enter Try.func28, Try.ntmps28
  go_upto_region 1 with fail
  obtain ⟨w1, hw1⟩ : ∃ w1, w1 = w.alloc (.cells #[.slice ao n nc, .slice pa P pc, .int .i64 wi, .string bv, .int .u8 mm] 39) := ⟨_, rfl⟩
  obtain ⟨k, hk⟩ : ∃ k, k = w.heap.size := ⟨_, rfl⟩
  rw [← hw1, ← hk]
  have K1 := hid (show w1.heap[k]? = some (.cells #[.slice ao n nc, .slice pa P pc, .int .i64 wi, .string bv, .int .u8 mm] 39 (0, 0)) by rw [hw1, hk]; exact heap_new w _)
  have F1 := hid (show Fr (fun _ => False) w w1 by rw [hw1]; exact (Fr.refl _ w).alloc _)
  clear hw1 hk
  have k0 : ∀ w', Fr (fun _ => False) w1 w' → w'.cell? ⟨k, 0, none⟩ = some (.slice ao n nc) := fun w' h => cell_of (h.heap K1.out (fun e => e)) 0 rfl
  have HBW := Lib.hid fun (w' : World) (h : Fr (fun _ => False) w1 w') => HB.out.fr (F1.out.trans' h) (fun _ _ e => e) (fun _ h _ => h) (ok' := ok)
  have SZ := Lib.hid fun (w' : World) (h : Fr (fun _ => False) w1 w') => (show Calls Try.prog 34 #[.slice ao n nc, .int .i64 0] w' fun e w'' => e = .returned (.int .i64 (n : Nat)) ∧ Below w'.heap.size w' w'' by
    have h := size_ok (HBW.out w' h) (by have := HN.out; omega)
    rw [HOK.out.sz, Option.getD_some, ← HN.out] at h
    exact h)
  refine wp_region_held_drew (S := (fun w' => Fr (fun _ => False) w1 w')) (by kernel_rfl) ?_ (fun hH => ?_)
  · (exact (Fr.refl _ w1).drew)
  refine wpAnyH_take (i := 0) (oi := { dst := some 3, op := Op.fieldAddr 39 (Operand.tmp 1) 0, type := 0, pos := "core.go:231", after := #[], guard := none }) (v := ?_) rfl (by kernel_rfl) (by kernel_rfl) (by kernel_rfl) (fun _ _ _ h => h) (Or.inl ⟨by rfl, ?_⟩) hH ?_
  rotate_left
  · intro w hSw; (try dsimp only at hSw); go_simp <;> with_reducible rfl
  try simp only [Act.put, List.setIfInBounds_toArray, List.set_cons_zero, List.set_cons_succ]
  refine wpAnyH_take (i := 1) (oi := { dst := some 4, op := Op.load 36 (Operand.tmp 3), type := 36, pos := "core.go:231", after := #[{ on := 0, ground := Ground.data }], guard := none }) (v := ?_) rfl (by kernel_rfl) (by kernel_rfl) (by kernel_rfl) (fun _ _ _ h => h) (Or.inl ⟨by rfl, ?_⟩) hH ?_
  rotate_left
  · intro w hSw; (try dsimp only at hSw); go_simp <;> with_reducible rfl
  try simp only [Act.put, List.setIfInBounds_toArray, List.set_cons_zero, List.set_cons_succ]
  refine wpAnyH_take (i := 2) (oi := { dst := some 5, op := Op.call { callee := Callee.builtin Builtin.len, args := #[Operand.tmp 4], argTypes := #[36] }, type := 3, pos := "core.go:231", after := #[{ on := 1, ground := Ground.data }], guard := none }) (v := ?_) rfl (by kernel_rfl) (by kernel_rfl) (by kernel_rfl) (fun _ _ _ h => h) (Or.inl ⟨by rfl, ?_⟩) hH ?_
  rotate_left
  · intro w hSw; (try dsimp only at hSw); go_simp <;> with_reducible rfl
  try simp only [Act.put, List.setIfInBounds_toArray, List.set_cons_zero, List.set_cons_succ]
  refine wpAnyH_take (i := 3) (oi := { dst := some 6, op := Op.binOp BinOp.gtr 3 (Operand.tmp 5) (Operand.const (Value.int IntKind.i64 200)) 3, type := 4, pos := "core.go:231", after := #[{ on := 2, ground := Ground.data }], guard := none }) (v := ?_) rfl (by kernel_rfl) (by kernel_rfl) (by kernel_rfl) (fun _ _ _ h => h) (Or.inl ⟨by rfl, ?_⟩) hH ?_
  rotate_left
  · intro w hSw; (try dsimp only at hSw); go_simp <;> with_reducible rfl
  try simp only [Act.put, List.setIfInBounds_toArray, List.set_cons_zero, List.set_cons_succ]
  refine wpAnyH_take (i := 4) (oi := { dst := some 7, op := Op.move (Operand.tmp 6), type := 4, pos := "core.go:231", after := #[{ on := 3, ground := Ground.data }], guard := none }) (v := ?_) rfl (by kernel_rfl) (by kernel_rfl) (by kernel_rfl) (fun _ _ _ h => h) (Or.inl ⟨by rfl, ?_⟩) hH ?_
  rotate_left
  · intro w hSw; (try dsimp only at hSw); go_simp <;> with_reducible rfl
  try simp only [Act.put, List.setIfInBounds_toArray, List.set_cons_zero, List.set_cons_succ]
  refine wpAnyH_take (i := 5) (oi := { dst := some 8, op := Op.fieldAddr 39 (Operand.tmp 1) 0, type := 0, pos := "core.go:231", after := #[{ on := 4, ground := Ground.guard }], guard := some (4, false) }) (v := ?_) rfl (by kernel_rfl) (by kernel_rfl) (by kernel_rfl) (fun _ _ _ h => h) (Or.inl ⟨by rfl, ?_⟩) hH ?_
  rotate_left
  · intro w hSw; (try dsimp only at hSw); go_simp <;> with_reducible rfl
  try simp only [Act.put, List.setIfInBounds_toArray, List.set_cons_zero, List.set_cons_succ]
  refine wpAnyH_take (i := 6) (oi := { dst := some 9, op := Op.load 36 (Operand.tmp 8), type := 36, pos := "core.go:231", after := #[{ on := 5, ground := Ground.data }, { on := 4, ground := Ground.guard }], guard := some (4, false) }) (v := ?_) rfl (by kernel_rfl) (by kernel_rfl) (by kernel_rfl) (fun _ _ _ h => h) (Or.inl ⟨by rfl, ?_⟩) hH ?_
  rotate_left
  · intro w hSw; (try dsimp only at hSw); go_simp <;> with_reducible rfl
  try simp only [Act.put, List.setIfInBounds_toArray, List.set_cons_zero, List.set_cons_succ]
  refine wpAnyH_take (i := 8) (oi := { dst := some 11, op := Op.fieldAddr 39 (Operand.tmp 1) 0, type := 0, pos := "core.go:231", after := #[{ on := 4, ground := Ground.guard }], guard := some (4, false) }) (v := ?_) rfl (by kernel_rfl) (by kernel_rfl) (by kernel_rfl) (fun _ _ _ h => h) (Or.inl ⟨by rfl, ?_⟩) hH ?_
  rotate_left
  · intro w hSw; (try dsimp only at hSw); go_simp <;> with_reducible rfl
  try simp only [Act.put, List.setIfInBounds_toArray, List.set_cons_zero, List.set_cons_succ]
  refine wpAnyH_take (i := 9) (oi := { dst := some 12, op := Op.load 36 (Operand.tmp 11), type := 36, pos := "core.go:231", after := #[{ on := 8, ground := Ground.data }, { on := 4, ground := Ground.guard }], guard := some (4, false) }) (v := ?_) rfl (by kernel_rfl) (by kernel_rfl) (by kernel_rfl) (fun _ _ _ h => h) (Or.inl ⟨by rfl, ?_⟩) hH ?_
  rotate_left
  · intro w hSw; (try dsimp only at hSw); go_simp <;> with_reducible rfl
  try simp only [Act.put, List.setIfInBounds_toArray, List.set_cons_zero, List.set_cons_succ]
  refine wpAnyH_take (i := 10) (oi := { dst := some 13, op := Op.call { callee := Callee.builtin Builtin.len, args := #[Operand.tmp 12], argTypes := #[36] }, type := 3, pos := "core.go:231", after := #[{ on := 9, ground := Ground.data }, { on := 4, ground := Ground.guard }], guard := some (4, false) }) (v := ?_) rfl (by kernel_rfl) (by kernel_rfl) (by kernel_rfl) (fun _ _ _ h => h) (Or.inl ⟨by rfl, ?_⟩) hH ?_
  rotate_left
  · intro w hSw; (try dsimp only at hSw); go_simp <;> with_reducible rfl
  try simp only [Act.put, List.setIfInBounds_toArray, List.set_cons_zero, List.set_cons_succ]
  refine wpAnyH_ready (rs := [7]) (by kernel_rfl) (by simp) ?_
  refine AllReadyH.cons (o := { dst := some 10, op := Op.call { callee := Callee.value (Operand.func 34), args := #[Operand.tmp 9, Operand.const (Value.int IntKind.i64 0)], argTypes := #[36, 3] }, type := 3, pos := "core.go:231", after := #[{ on := 6, ground := Ground.data }, { on := 4, ground := Ground.chain }, { on := 4, ground := Ground.guard }], guard := some (4, false) }) rfl (fun K hK => ?_) AllReadyH.nil
  go_simp
  go_at_call 34
  refine (SZ.out _ (by first | exact hH | exact hG.drew)).mono ?_
  rintro ev z10 ⟨rfl, hf0⟩
  have hG := (show Fr (fun _ => False) w1 _ from hH).trans' (Fr.of_below hf0 (fun i h1 h2 => absurd h2 (Nat.not_lt.2 h1)))
  clear hf0
  go_simp
  refine hK.out _ _ ?_ (fun hH => ?_)
  · (exact hG)
  clear hK K
  try simp only [Act.put, List.setIfInBounds_toArray, List.set_cons_zero, List.set_cons_succ]
  refine wpAnyH_take (i := 11) (oi := { dst := some 14, op := Op.binOp BinOp.neq 3 (Operand.tmp 10) (Operand.tmp 13) 3, type := 4, pos := "core.go:231", after := #[{ on := 7, ground := Ground.data }, { on := 10, ground := Ground.data }, { on := 4, ground := Ground.guard }], guard := some (4, false) }) (v := ?_) rfl (by kernel_rfl) (by kernel_rfl) (by kernel_rfl) (fun _ _ _ h => h) (Or.inl ⟨by rfl, ?_⟩) hH ?_
  rotate_left
  · intro w hSw; (try dsimp only at hSw); go_simp <;> with_reducible rfl
  try simp only [Act.put, List.setIfInBounds_toArray, List.set_cons_zero, List.set_cons_succ]
  refine wpAnyH_take (i := 12) (oi := { dst := some 15, op := Op.pick (Operand.tmp 7) (Operand.const (Value.bool true)) (Operand.tmp 14), type := 4, pos := "core.go:231", after := #[{ on := 4, ground := Ground.data }, { on := 11, ground := Ground.data }], guard := none }) (v := ?_) rfl (by kernel_rfl) (by kernel_rfl) (by kernel_rfl) (fun _ _ _ h => h) (Or.inl ⟨by rfl, ?_⟩) hH ?_
  rotate_left
  · intro w hSw; (try dsimp only at hSw); go_simp <;> with_reducible rfl
  try simp only [Act.put, List.setIfInBounds_toArray, List.set_cons_zero, List.set_cons_succ]
  refine wpAnyH_take (i := 13) (oi := { dst := some 16, op := Op.move (Operand.tmp 15), type := 4, pos := "core.go:231", after := #[{ on := 12, ground := Ground.data }, { on := 7, ground := Ground.chain }], guard := none }) (v := ?_) rfl (by kernel_rfl) (by kernel_rfl) (by kernel_rfl) (fun _ _ _ h => h) (Or.inl ⟨by rfl, ?_⟩) hH ?_
  rotate_left
  · intro w hSw; (try dsimp only at hSw); go_simp <;> with_reducible rfl
  try simp only [Act.put, List.setIfInBounds_toArray, List.set_cons_zero, List.set_cons_succ]
  refine wpAnyH_take (i := 14) (oi := { dst := some 17, op := Op.fieldAddr 39 (Operand.tmp 1) 0, type := 0, pos := "core.go:231", after := #[{ on := 13, ground := Ground.guard }], guard := some (13, false) }) (v := ?_) rfl (by kernel_rfl) (by kernel_rfl) (by kernel_rfl) (fun _ _ _ h => h) (Or.inl ⟨by rfl, ?_⟩) hH ?_
  rotate_left
  · intro w hSw; (try dsimp only at hSw); go_simp <;> with_reducible rfl
  try simp only [Act.put, List.setIfInBounds_toArray, List.set_cons_zero, List.set_cons_succ]
  refine wpAnyH_take (i := 15) (oi := { dst := some 18, op := Op.load 36 (Operand.tmp 17), type := 36, pos := "core.go:231", after := #[{ on := 14, ground := Ground.data }, { on := 13, ground := Ground.guard }], guard := some (13, false) }) (v := ?_) rfl (by kernel_rfl) (by kernel_rfl) (by kernel_rfl) (fun _ _ _ h => h) (Or.inl ⟨by rfl, ?_⟩) hH ?_
  rotate_left
  · intro w hSw; (try dsimp only at hSw); go_simp <;> with_reducible rfl
  try simp only [Act.put, List.setIfInBounds_toArray, List.set_cons_zero, List.set_cons_succ]
  refine wpAnyH_take (i := 16) (oi := { dst := some 19, op := Op.call { callee := Callee.builtin Builtin.len, args := #[Operand.tmp 18], argTypes := #[36] }, type := 3, pos := "core.go:231", after := #[{ on := 15, ground := Ground.data }, { on := 13, ground := Ground.guard }], guard := some (13, false) }) (v := ?_) rfl (by kernel_rfl) (by kernel_rfl) (by kernel_rfl) (fun _ _ _ h => h) (Or.inl ⟨by rfl, ?_⟩) hH ?_
  rotate_left
  · intro w hSw; (try dsimp only at hSw); go_simp <;> with_reducible rfl
  try simp only [Act.put, List.setIfInBounds_toArray, List.set_cons_zero, List.set_cons_succ]
  refine wpAnyH_take (i := 17) (oi := { dst := some 20, op := Op.binOp BinOp.eql 3 (Operand.tmp 19) (Operand.const (Value.int IntKind.i64 0)) 3, type := 4, pos := "core.go:231", after := #[{ on := 16, ground := Ground.data }, { on := 13, ground := Ground.guard }], guard := some (13, false) }) (v := ?_) rfl (by kernel_rfl) (by kernel_rfl) (by kernel_rfl) (fun _ _ _ h => h) (Or.inl ⟨by rfl, ?_⟩) hH ?_
  rotate_left
  · intro w hSw; (try dsimp only at hSw); go_simp <;> with_reducible rfl
  try simp only [Act.put, List.setIfInBounds_toArray, List.set_cons_zero, List.set_cons_succ]
  refine wpAnyH_take (i := 18) (oi := { dst := some 21, op := Op.pick (Operand.tmp 16) (Operand.const (Value.bool true)) (Operand.tmp 20), type := 4, pos := "core.go:231", after := #[{ on := 13, ground := Ground.data }, { on := 17, ground := Ground.data }], guard := none }) (v := ?_) rfl (by kernel_rfl) (by kernel_rfl) (by kernel_rfl) (fun _ _ _ h => h) (Or.inl ⟨by rfl, ?_⟩) hH ?_
  rotate_left
  · intro w hSw; (try dsimp only at hSw); go_simp <;> with_reducible rfl
  try simp only [Act.put, List.setIfInBounds_toArray, List.set_cons_zero, List.set_cons_succ]
  refine wpAnyH_done (by kernel_rfl) ?_ _
  have G2 := hid (show Fr (fun _ => False) w1 z10 from hG)
  have k2 := k0 z10 G2.out
  have CT := Lib.hid (contains_ok (G2.out.heap K1.out (fun e => e)) (HBW.out _ G2.out) (by have := HN.out; omega) HOK.out.all)
  unfold bad1 at CT
  clear hG k0
  go_wp2_with (go_at_call 37; refine CT.out.mono ?_; rintro e w3 ⟨rfl, hf3⟩; have HF3 := hid ((F1.out.trans' G2.out).trans' hf3); clear hf3)
  go_ret
  exact ⟨rfl, HF3.out⟩
end Go.Proofs.Ytceomkoecidoiaa
