/-
  A mesh: Send, walked.
-/
import Derived.Test.YtakhmommcgfoaaaMeW1
namespace Go.Proofs.Ytakhmommcgfoaaa
open Go.RowKit
attribute [local go_sem ↓] run_ldM run_stM run_ldP run_stP

theorem send_nil (v : Value) (w : World) : Calls Try.prog 13 #[.pointer none, v] w fun e w' => e = .returned (.int .i64 1) ∧ w = w' := by
  go_enter Try.func13, Try.ntmps13
  go_wp2
  go_ret
  exact ⟨rfl, rfl⟩

/-- how many of the parcels go to link k -/
def cntP (W : Nat) (P : List Pq) (k : Nat) : Nat := (P.filter fun x => lk W x.f x.d == k).length
theorem cntP_snoc (W : Nat) (P : List Pq) (x : Pq) (k : Nat) : cntP W (P ++ [x]) k = cntP W P k + if lk W x.f x.d = k then 1 else 0 := by
  unfold cntP
  rw [List.filter_append, List.length_append]
  by_cases h : lk W x.f x.d = k
  · simp [h]
  · simp [h]
theorem cntP_le (W : Nat) (P : List Pq) (k : Nat) : cntP W P k ≤ P.length := List.length_filter_le _ _
def cnts (W n : Nat) (P : List Pq) : List Value := (List.range n).map fun k => .int .i64 (cntP W P k)
theorem cnts_get (W n : Nat) (P : List Pq) {k : Nat} (h : k < n) : (cnts W n P)[k]? = some (.int .i64 (cntP W P k)) := by simp [cnts, h]
theorem cnts_zero (W n : Nat) : cnts W n [] = List.replicate n (.int .i64 0) := by
  apply List.ext_getElem?
  intro i
  by_cases h : i < n
  · rw [cnts_get W n [] h, List.getElem?_replicate, if_pos h]; rfl
  · rw [List.getElem?_eq_none (by simp [cnts]; omega), List.getElem?_eq_none (by simp; omega)]
theorem cnts_put (W n : Nat) (P : List Pq) (x : Pq) (h : lk W x.f x.d < n) : (cnts W n P).toArray.setIfInBounds (lk W x.f x.d) (.int .i64 ((cntP W P (lk W x.f x.d) : Int) + 1)) = (cnts W n (P ++ [x])).toArray := by
  apply Array.ext'
  simp only [List.setIfInBounds_toArray]
  apply List.ext_getElem?
  intro i
  rw [List.getElem?_set]
  by_cases hi : lk W x.f x.d = i
  · subst hi
    rw [if_pos rfl, if_pos (by simp [cnts, h]), cnts_get W n _ h, cntP_snoc, if_pos rfl]
    simp
  · rw [if_neg hi]
    by_cases hn : i < n
    · rw [cnts_get W n _ hn, cnts_get W n _ hn, cntP_snoc, if_neg hi]
      simp
    · rw [List.getElem?_eq_none (by simp [cnts]; omega), List.getElem?_eq_none (by simp [cnts]; omega)]
theorem info_int : (Try.prog.info? 3).map (fun i => (i.zero, i.size, i.bytes)) = some (some (.int .i64 0), 1, 8) := by kernel_rfl
theorem make_need (W N : Nat) (z : Int) (hz : z = N) (hN : N ≤ 4096) (w : World) : (Instr.makeSlice 64 (.int .i64 z) (.int .i64 z)).run Try.prog w = .ok (.slice (some ⟨w.heap.size, 0, none⟩) N N) (w.alloc (.cells (cnts W N []).toArray 3)) := by
  subst hz
  have h := run_make_row' 64 3 (.int .i64 0) 8 Try.underlying64 info_int rfl .i64 .i64 N (by omega) (by omega) w
  have e : madeCells #[.int .i64 0] N = (cnts W N []).toArray := by
    apply Array.ext'
    rw [toList_madeCells_one, cnts_zero]
  rw [h, e]

def msgsTo (W : Nat) (P : List Pq) (k : Nat) : List Mq := (P.filter fun x => lk W x.f x.d == k).map Pq.m
def SendPost (w : World) (p W most : Nat) (R : Nat → List Mq) (F : Nat → Prop) (P : List Pq) (e : Ending) (w' : World) : Prop :=
  (¬ (∀ x ∈ P, thereI W x.f x.d) ∧ e = .returned (.int .i64 6) ∧ Fr (fun _ => False) w w') ∨
  ((∀ x ∈ P, thereI W x.f x.d) ∧ (∃ k, k < W * W ∧ most < (R k).length + cntP W P k) ∧ e = .returned (.int .i64 7) ∧ Fr (fun _ => False) w w') ∨
  ((∀ x ∈ P, thereI W x.f x.d) ∧ (∀ k, k < W * W → (R k).length + cntP W P k ≤ most) ∧ e = .returned (.int .i64 0) ∧
    ∃ F', MeshAt w' p W most (fun k => R k ++ msgsTo W P k) F' ∧ Fr F w w' ∧ ∀ i, F' i → F i ∨ w.heap.size ≤ i)

theorem msgsTo_len (W : Nat) (P : List Pq) (k : Nat) : (msgsTo W P k).length = cntP W P k := by simp [msgsTo, cntP]
theorem cntP_take (W : Nat) (P : List Pq) (j k : Nat) : cntP W (P.take j) k ≤ cntP W P k :=
  ((List.take_sublist j P).filter _).length_le
theorem msgsTo_next (W : Nat) (R : Nat → List Mq) (P : List Pq) (x : Pq) : (fun k => R k ++ msgsTo W (P ++ [x]) k) = upd (fun k => R k ++ msgsTo W P k) (lk W x.f x.d) ((R (lk W x.f x.d) ++ msgsTo W P (lk W x.f x.d)) ++ [x.m]) := by
  funext k
  by_cases h : k = lk W x.f x.d
  · subst h
    rw [upd_same]
    simp [msgsTo, List.filter_append]
  · rw [upd_ne _ _ h]
    have : (lk W x.f x.d == k) = false := by simp; exact fun e => h e.symm
    simp [msgsTo, List.filter_append, this]

set_option maxRecDepth 100000 in
set_option maxHeartbeats 2000000 in
theorem send_ok {w : World} {p W most : Nat} {R : Nat → List Mq} {F : Nat → Prop} (h : MeshAt w p W most R F) {B : Nat} {v : Value} {P : List Pq} (ho : w.ownsRow B 69 9 v P.length (P.flatMap encP)) (hv : ∀ x, v.ownBlock = some x → ¬ F x) (hP : P.length ≤ 4096) :
    Calls Try.prog 13 #[.pointer (some ⟨p, 0, none⟩), v] w fun e w' => SendPost w p W most R F P e w' := by
  obtain ⟨⟨h1, h2, h3, h4⟩, q, cap, bx, S, hm⟩ := h
  have c1 := hm.c1
  have hpw := hm.lt p hm.fp
  have hqw := hm.lt q hm.fq
  have hnn : W * W ≤ 256 := by have := Nat.mul_le_mul h2 h2; omega
  have hcap := hm.cap1
  have hcap2 := hm.cap2
  have HM := hid hm
  have HMK := hid (make_need W (W * W) (W * W : Nat) rfl (by omega))
  obtain ⟨sp, cp, rfl, _⟩ := owns_view ho
  have HO := hid ho
  clear hm ho
  have hmk := HMK.out
  generalize hN : W * W = n at *
  have HN := hid hN
  clear hN HMK
  go_enter Try.func13, Try.ntmps13
  go_upto_region 4 with fail
  generalize hw1 : World.alloc w _ = w1
  have G1 : w1.heap[w.heap.size]? = some (.cells (cnts W n []).toArray 3 (0, 0)) := by rw [← hw1]; exact heap_new w _
  have F1 : Fr (fun _ => False) w w1 := by rw [← hw1]; exact (Fr.refl _ w).alloc _
  generalize hg : w.heap.size = g at *
  have HG1 := hid G1
  have HF1 := hid F1
  clear hw1 G1 F1
  have HL0 := hid (show P.length ≤ 4096 from hP)
  go_wp2_with fail
  go_loopw [26] (fun i wr => ∃ j : Nat, j ≤ P.length ∧ i = .int .i64 j ∧ wr.heap[g]? = some (.cells (cnts W n (P.take j)).toArray 3 (0, 0)) ∧ Fr (fun _ => False) w wr ∧ (∀ x ∈ P.take j, thereI W x.f x.d)) (fun i _ => P.length - (intOf i).toNat)
  case atStart => exact ⟨0, Nat.zero_le _, rfl, HG1.out, HF1.out, by simp⟩
  case round =>
    obtain ⟨j, hj, rfl, hgj, hfj, hall⟩ := hrel
    have R1 := hid hgj
    have R2 := hid hfj
    have R3 := hid hall
    clear hgj hfj hall
    by_cases hjn : j < P.length
    · obtain ⟨x, hxj⟩ : ∃ x, P[j]? = some x := ⟨P[j], by simp [hjn]⟩
      have HX := hid hxj
      obtain ⟨gp, rfl, hgw⟩ : ∃ gp, sp = some ⟨gp, 0, none⟩ ∧ gp < w.heap.size := by
        rcases owns_form HO.out with ⟨_, hz⟩ | ⟨gp, cp, e, _, _, _, hgw⟩
        · omega
        · injection e with e1 e2 e3; exact ⟨gp, e1, hgw⟩
      have c3 := ld_par (show ParAt wr gp (j * 9) x from fun i v hv => R2.out.cell (owns_range encP_len HO.out hxj i v hv) (fun e => e))
      clear hxj
      have hjb : (j : Int) < (P.length : Int) := by omega
      have S1 : st 69 (.pointer (some ⟨wr.heap.size, 0, none⟩)) (parV x) (wr.alloc (.cells #[.int .i64 0, .int .i64 0, .int .i64 0, .string ⟨#[]⟩, .int .i64 0, .int .i64 0, .int .i64 0, .string ⟨#[]⟩, .slice none 0 0] 69)) = _ := st_par x (there_blockP (x := noP) (t := 69) (heap_new wr _))
      go_upto_region 7 with fail
      generalize hw9 : World.setCells _ _ _ _ = w9
      obtain ⟨G1, G2, G3⟩ := par_put (T := 69) (x := x) (C := #[.int .i64 0, .int .i64 0, .int .i64 0, .string ⟨#[]⟩, .int .i64 0, .int .i64 0, .int .i64 0, .string ⟨#[]⟩, .slice none 0 0]) rfl hw9.symm
      have hgwr : g < wr.heap.size := lt_of_block R1.out
      generalize hy : wr.heap.size = y at *
      have y0 := (ParAt.of_block G1).c0
      have y1 : w9.cell? ⟨y, 1, none⟩ = _ := (ParAt.of_block G1).c1
      have R4 := hid (R2.out.trans' G2)
      have R5 := hid (G2.heap R1.out (fun e => e))
      have R6 := hid G1
      clear hw9 G1 G2 S1 c3
      by_cases ht : thereI W x.f x.d
      · have L1 := hid (link_ok h2 (HM.out.fr R4.out (fun _ _ e => e)) x.f x.d ht)
        have hl := lk_lt ht
        have hi := lk_int ht
        rw [HN.out] at hl
        have htk : (x.f * (W : Int) + x.d).toNat = lk W x.f x.d := rfl
        have HPUT := hid (cnts_put W n (P.take j) x hl)
        have hcn := cntP_le W (P.take j) (lk W x.f x.d)
        have htl : (P.take j).length ≤ P.length := by rw [List.length_take]; omega
        have n0 := cell_of R5.out (lk W x.f x.d) (v := .int .i64 (cntP W (P.take j) (lk W x.f x.d))) (by simpa using cnts_get W n (P.take j) hl)
        have nf := free_of R5.out (lk W x.f x.d)
        have p0 : w9.cell? ⟨p, 0, none⟩ = some (.int .i64 W) := R4.out.cell HM.out.c0 (fun e => e)
        generalize hK : lk W x.f x.d = k at *
        generalize hC : cntP W (P.take j) k = c at *
        have HK := hid hK
        have HT := hid ht
        have t1 : (0 : Int) ≤ x.f * (W : Int) := Int.mul_nonneg ht.1 (by omega)
        have t2 : x.d ≥ 0 := ht.2.2.1
        clear hK hC ht
        have w1' : IntKind.i64.wrap (x.f * (W : Int)) = x.f * (W : Int) := IntWalk.i64_in _ (by omega)
        have w2' : IntKind.i64.wrap (x.f * (W : Int) + x.d) = x.f * (W : Int) + x.d := IntWalk.i64_in _ (by omega)
        have w3' : IntKind.i64.wrap ((c : Int) + 1) = (c : Int) + 1 := IntWalk.i64_in _ (by omega)
        have b1 : (0 : Int) ≤ x.f * (W : Int) + x.d := by omega
        have b2 : x.f * (W : Int) + x.d < (n : Int) := by omega
        go_upto_region 10 with (go_at_call 26; refine L1.out.mono ?_; rintro e w' ⟨rfl, m, rfl⟩)
        have hgy : ¬ y = g := by omega
        have hpg : ¬ p = g := by omega
        have s0 : ∀ w', Fr (fun z => z = g) (w9.drewN m) w' → w'.cell? ⟨y, 0, none⟩ = some (.int .i64 x.f) := fun w' hf => hf.cell (w := w9.drewN m) y0 hgy
        have s1 : ∀ w', Fr (fun z => z = g) (w9.drewN m) w' → w'.cell? ⟨y, 1, none⟩ = some (.int .i64 x.d) := fun w' hf => hf.cell (w := w9.drewN m) y1 hgy
        have s2 : ∀ w', Fr (fun z => z = g) (w9.drewN m) w' → w'.cell? ⟨p, 0, none⟩ = some (.int .i64 W) := fun w' hf => hf.cell (w := w9.drewN m) p0 hpg
        refine wp_region_held_drew (S := (fun w' => Fr (fun z => z = g) (w9.drewN m) w')) (by kernel_rfl) ?_ (fun hH => ?_)
        · exact (Fr.refl (fun z => z = g) (w9.drewN m)).drew
        refine wpAnyH_take (i := 0) (oi := { dst := some 41, op := Op.move (Operand.tmp 5), type := 64, pos := "mesh.go:64", after := #[], guard := none }) (v := ?_) rfl (by kernel_rfl) (by kernel_rfl) (by kernel_rfl) (fun _ _ _ h => h) (Or.inl ⟨by rfl, ?_⟩) hH ?_
        rotate_left
        · intro w hSw; (try dsimp only at hSw); go_simp <;> with_reducible rfl
        try simp only [Act.put, List.setIfInBounds_toArray, List.set_cons_zero, List.set_cons_succ]
        refine wpAnyH_take (i := 1) (oi := { dst := some 42, op := Op.fieldAddr 69 (Operand.tmp 7) 0, type := 0, pos := "mesh.go:64", after := #[], guard := none }) (v := ?_) rfl (by kernel_rfl) (by kernel_rfl) (by kernel_rfl) (fun _ _ _ h => h) (Or.inl ⟨by rfl, ?_⟩) hH ?_
        rotate_left
        · intro w hSw; (try dsimp only at hSw); go_simp <;> with_reducible rfl
        try simp only [Act.put, List.setIfInBounds_toArray, List.set_cons_zero, List.set_cons_succ]
        refine wpAnyH_take (i := 2) (oi := { dst := some 43, op := Op.load 3 (Operand.tmp 42), type := 3, pos := "mesh.go:64", after := #[{ on := 1, ground := Ground.data }], guard := none }) (v := ?_) rfl (by kernel_rfl) (by kernel_rfl) (by kernel_rfl) (fun _ _ _ h => h) (Or.inl ⟨by rfl, ?_⟩) hH ?_
        rotate_left
        · intro w hSw; (try dsimp only at hSw); go_simp <;> with_reducible rfl
        try simp only [Act.put, List.setIfInBounds_toArray, List.set_cons_zero, List.set_cons_succ]
        refine wpAnyH_take (i := 3) (oi := { dst := some 44, op := Op.move (Operand.tmp 0), type := 25, pos := "mesh.go:64", after := #[], guard := none }) (v := ?_) rfl (by kernel_rfl) (by kernel_rfl) (by kernel_rfl) (fun _ _ _ h => h) (Or.inl ⟨by rfl, ?_⟩) hH ?_
        rotate_left
        · intro w hSw; (try dsimp only at hSw); go_simp <;> with_reducible rfl
        try simp only [Act.put, List.setIfInBounds_toArray, List.set_cons_zero, List.set_cons_succ]
        refine wpAnyH_take (i := 4) (oi := { dst := some 45, op := Op.nilCheck (Operand.tmp 44), type := 0, pos := "mesh.go:64", after := #[{ on := 3, ground := Ground.data }], guard := none }) (v := ?_) rfl (by kernel_rfl) (by kernel_rfl) (by kernel_rfl) (fun _ _ _ h => h) (Or.inl ⟨by rfl, ?_⟩) hH ?_
        rotate_left
        · intro w hSw; (try dsimp only at hSw); go_simp <;> with_reducible rfl
        try simp only [Act.put, List.setIfInBounds_toArray, List.set_cons_zero, List.set_cons_succ]
        refine wpAnyH_take (i := 5) (oi := { dst := some 46, op := Op.fieldAddr 74 (Operand.tmp 45) 0, type := 0, pos := "mesh.go:64", after := #[{ on := 4, ground := Ground.data }], guard := none }) (v := ?_) rfl (by kernel_rfl) (by kernel_rfl) (by kernel_rfl) (fun _ _ _ h => h) (Or.inl ⟨by rfl, ?_⟩) hH ?_
        rotate_left
        · intro w hSw; (try dsimp only at hSw); go_simp <;> with_reducible rfl
        try simp only [Act.put, List.setIfInBounds_toArray, List.set_cons_zero, List.set_cons_succ]
        refine wpAnyH_take (i := 6) (oi := { dst := some 47, op := Op.load 3 (Operand.tmp 46), type := 3, pos := "mesh.go:64", after := #[{ on := 5, ground := Ground.data }], guard := none }) (v := ?_) rfl (by kernel_rfl) (by kernel_rfl) (by kernel_rfl) (fun _ _ _ h => h) (Or.inl ⟨by rfl, ?_⟩) hH ?_
        rotate_left
        · intro w hSw; (try dsimp only at hSw); go_simp <;> with_reducible rfl
        try simp only [Act.put, List.setIfInBounds_toArray, List.set_cons_zero, List.set_cons_succ]
        refine wpAnyH_take (i := 7) (oi := { dst := some 48, op := Op.binOp BinOp.mul 3 (Operand.tmp 43) (Operand.tmp 47) 3, type := 3, pos := "mesh.go:64", after := #[{ on := 2, ground := Ground.data }, { on := 6, ground := Ground.data }], guard := none }) (v := ?_) rfl (by kernel_rfl) (by kernel_rfl) (by kernel_rfl) (fun _ _ _ h => h) (Or.inl ⟨by rfl, ?_⟩) hH ?_
        rotate_left
        · intro w hSw; (try dsimp only at hSw); go_simp <;> with_reducible rfl
        try simp only [Act.put, List.setIfInBounds_toArray, List.set_cons_zero, List.set_cons_succ]
        refine wpAnyH_take (i := 8) (oi := { dst := some 49, op := Op.fieldAddr 69 (Operand.tmp 7) 1, type := 0, pos := "mesh.go:64", after := #[], guard := none }) (v := ?_) rfl (by kernel_rfl) (by kernel_rfl) (by kernel_rfl) (fun _ _ _ h => h) (Or.inl ⟨by rfl, ?_⟩) hH ?_
        rotate_left
        · intro w hSw; (try dsimp only at hSw); go_simp <;> with_reducible rfl
        try simp only [Act.put, List.setIfInBounds_toArray, List.set_cons_zero, List.set_cons_succ]
        refine wpAnyH_take (i := 9) (oi := { dst := some 50, op := Op.load 3 (Operand.tmp 49), type := 3, pos := "mesh.go:64", after := #[{ on := 8, ground := Ground.data }], guard := none }) (v := ?_) rfl (by kernel_rfl) (by kernel_rfl) (by kernel_rfl) (fun _ _ _ h => h) (Or.inl ⟨by rfl, ?_⟩) hH ?_
        rotate_left
        · intro w hSw; (try dsimp only at hSw); go_simp <;> with_reducible rfl
        try simp only [Act.put, List.setIfInBounds_toArray, List.set_cons_zero, List.set_cons_succ]
        refine wpAnyH_take (i := 10) (oi := { dst := some 51, op := Op.binOp BinOp.add 3 (Operand.tmp 48) (Operand.tmp 50) 3, type := 3, pos := "mesh.go:64", after := #[{ on := 7, ground := Ground.data }, { on := 9, ground := Ground.data }], guard := none }) (v := ?_) rfl (by kernel_rfl) (by kernel_rfl) (by kernel_rfl) (fun _ _ _ h => h) (Or.inl ⟨by rfl, ?_⟩) hH ?_
        rotate_left
        · intro w hSw; (try dsimp only at hSw); go_simp <;> with_reducible rfl
        try simp only [Act.put, List.setIfInBounds_toArray, List.set_cons_zero, List.set_cons_succ]
        refine wpAnyH_take (i := 11) (oi := { dst := some 52, op := Op.indexAddr 64 (Operand.tmp 41) (Operand.tmp 51), type := 0, pos := "mesh.go:64", after := #[{ on := 0, ground := Ground.data }, { on := 10, ground := Ground.data }], guard := none }) (v := ?_) rfl (by kernel_rfl) (by kernel_rfl) (by kernel_rfl) (fun _ _ _ h => h) (Or.inl ⟨by rfl, ?_⟩) hH ?_
        rotate_left
        · intro w hSw; (try dsimp only at hSw); go_simp <;> with_reducible rfl
        try simp only [Act.put, List.setIfInBounds_toArray, List.set_cons_zero, List.set_cons_succ]
        refine wpAnyH_ready (rs := [12]) (by kernel_rfl) (by simp) ?_
        refine AllReadyH.cons (o := { dst := some 53, op := Op.load 3 (Operand.tmp 52), type := 3, pos := "mesh.go:64", after := #[{ on := 11, ground := Ground.data }], guard := none }) rfl (fun K hK => ?_) AllReadyH.nil
        go_simp
        refine hK.out _ _ ?_ (fun hH => ?_)
        · exact hH
        clear hK K
        try simp only [Act.put, List.setIfInBounds_toArray, List.set_cons_zero, List.set_cons_succ]
        refine wpAnyH_take (i := 13) (oi := { dst := some 54, op := Op.binOp BinOp.add 3 (Operand.tmp 53) (Operand.const (Value.int IntKind.i64 1)) 3, type := 3, pos := "mesh.go:64", after := #[{ on := 12, ground := Ground.data }], guard := none }) (v := ?_) rfl (by kernel_rfl) (by kernel_rfl) (by kernel_rfl) (fun _ _ _ h => h) (Or.inl ⟨by rfl, ?_⟩) hH ?_
        rotate_left
        · intro w hSw; (try dsimp only at hSw); go_simp <;> with_reducible rfl
        try simp only [Act.put, List.setIfInBounds_toArray, List.set_cons_zero, List.set_cons_succ]
        refine wpAnyH_take (i := 14) (oi := { dst := some 55, op := Op.indexAddr 64 (Operand.tmp 41) (Operand.tmp 51), type := 0, pos := "mesh.go:64", after := #[{ on := 0, ground := Ground.data }, { on := 10, ground := Ground.data }, { on := 0, ground := Ground.phase }, { on := 1, ground := Ground.phase }, { on := 2, ground := Ground.phase }, { on := 3, ground := Ground.phase }, { on := 4, ground := Ground.phase }, { on := 5, ground := Ground.phase }, { on := 6, ground := Ground.phase }, { on := 7, ground := Ground.phase }, { on := 8, ground := Ground.phase }, { on := 9, ground := Ground.phase }, { on := 10, ground := Ground.phase }, { on := 11, ground := Ground.phase }, { on := 12, ground := Ground.phase }, { on := 13, ground := Ground.phase }], guard := none }) (v := ?_) rfl (by kernel_rfl) (by kernel_rfl) (by kernel_rfl) (fun _ _ _ h => h) (Or.inl ⟨by rfl, ?_⟩) hH ?_
        rotate_left
        · intro w hSw; (try dsimp only at hSw); go_simp <;> with_reducible rfl
        try simp only [Act.put, List.setIfInBounds_toArray, List.set_cons_zero, List.set_cons_succ]
        refine wpAnyH_ready (rs := [15]) (by kernel_rfl) (by simp) ?_
        refine AllReadyH.cons (o := { dst := none, op := Op.store 3 (Operand.tmp 55) (Operand.tmp 54), type := 0, pos := "mesh.go:64", after := #[{ on := 14, ground := Ground.data }, { on := 13, ground := Ground.data }, { on := 0, ground := Ground.phase }, { on := 1, ground := Ground.phase }, { on := 2, ground := Ground.phase }, { on := 3, ground := Ground.phase }, { on := 4, ground := Ground.phase }, { on := 5, ground := Ground.phase }, { on := 6, ground := Ground.phase }, { on := 7, ground := Ground.phase }, { on := 8, ground := Ground.phase }, { on := 9, ground := Ground.phase }, { on := 10, ground := Ground.phase }, { on := 11, ground := Ground.phase }, { on := 12, ground := Ground.phase }, { on := 13, ground := Ground.phase }], guard := none }) rfl (fun K hK => ?_) AllReadyH.nil
        go_simp
        refine hK.out _ _ ?_ (fun hH => ?_)
        · exact hH.setCell (fun _ => rfl) _
        clear hK K
        refine wpAnyH_done (by kernel_rfl) ?_ _
        have hts := take_snoc P j x HX.out
        have R7 := hid (show ((w9.drewN (m + 1)).setCell ⟨g, k, none⟩ (.int .i64 ((c : Int) + 1))).heap[g]? = some (.cells (cnts W n (P.take (j + 1))).toArray 3 (0, 0)) by
          rw [heap_set (w := w9.drewN (m + 1)) R5.out _, HPUT.out, hts])
        have R8 := hid (show Fr (fun _ => False) w ((w9.drewN (m + 1)).setCell ⟨g, k, none⟩ (.int .i64 ((c : Int) + 1))) from (R4.out.drewN (m + 1)).setCell (p := ⟨g, k, none⟩) (fun h => by simp only at h; omega) _)
        have R9 := hid (show ∀ z ∈ P.take (j + 1), thereI W z.f z.d by
          rw [hts]
          intro z hz
          rcases List.mem_append.1 hz with hz | hz
          · exact R3.out z hz
          · rw [List.mem_singleton.1 hz]; exact HT.out)
        clear hts hH
        go_wp2
        go_roundw
        case rel => exact ⟨j + 1, by omega, by go_num, R7.out, R8.out, R9.out⟩
        case measure => simp [intOf]; omega
      · have L1 := hid (link_no (⟨⟨h1, h2, h3, h4⟩, q, cap, bx, S, HM.out.fr R4.out (fun _ _ e => e)⟩ : MeshAt w9 p W most R F) x.f x.d ht)
        have HT := hid ht
        clear ht
        go_wp2_with (go_at_call 26; refine L1.out.mono ?_; rintro e w' ⟨rfl, rfl⟩)
        go_ret
        exact .inl ⟨fun h => HT.out (h x (List.mem_of_getElem? HX.out)), rfl, R4.out⟩
    · obtain rfl : j = P.length := by omega
      rw [List.take_length] at R1 R3
      have hcq := hid (fun k => cntP_le W P k)
      go_wp2_with fail
      go_loopw [59] (fun i wr => ∃ j : Nat, j ≤ n ∧ i = .int .i64 j ∧ wr.heap[g]? = some (.cells (cnts W n P).toArray 3 (0, 0)) ∧ Fr (fun _ => False) w wr ∧ (∀ k, k < j → (R k).length + cntP W P k ≤ most)) (fun i _ => n - (intOf i).toNat)
      case atStart => exact ⟨0, Nat.zero_le _, rfl, R1.out, R2.out, fun k hk => by omega⟩
      case round =>
        obtain ⟨j, hj2, rfl, hgj, hfj, hall⟩ := hrel
        have Q1 := hid hgj
        have Q2 := hid hfj
        have Q3 := hid hall
        clear hgj hfj hall
        by_cases hjm : j < n
        · have n0 := cell_of Q1.out j (v := .int .i64 (cntP W P j)) (by simpa using cnts_get W n P hjm)
          have hm2 := HM.out.fr Q2.out (fun _ _ e => e)
          have c1' := hm2.c1
          rw [HN.out] at c1'
          have c2 := hm2.links j (by rw [HN.out]; exact hjm)
          have hv2 := hm2.live j (by rw [HN.out]; exact hjm)
          have L1 := hid (room_live hv2)
          have hcn := hcq.out j
          have hrc := hv2.cnt.1
          clear hm2 hv2
          have hjb : (j : Int) < (n : Int) := by omega
          by_cases hgt : most < (R j).length + cntP W P j
          · have HGT := hid hgt
            have hd : (most : Int) - ((R j).length : Int) < (cntP W P j : Int) := by omega
            clear hgt
            go_wp2_with (go_at_call 31; refine L1.out.mono ?_; rintro e w' ⟨rfl, m, rfl⟩)
            go_ret
            exact .inr (.inl ⟨R3.out, ⟨j, by rw [HN.out]; exact hjm, HGT.out⟩, rfl, Q2.out.drewN _⟩)
          · have HGT := hid hgt
            have hd : ¬ (most : Int) - ((R j).length : Int) < (cntP W P j : Int) := by omega
            clear hgt
            go_wp2_with (go_at_call 31; refine L1.out.mono ?_; rintro e w' ⟨rfl, m, rfl⟩)
            go_roundw
            case rel =>
              refine ⟨j + 1, by omega, by go_num, Q1.out, Q2.out.drewN _, fun k hk => ?_⟩
              by_cases e : k = j
              · subst e; have := HGT.out; omega
              · exact Q3.out k (by omega)
            case measure => simp [intOf]; omega
        · obtain rfl : j = n := by omega
          have HB := hid (show ∀ k, k < W * W → (R k).length + cntP W P k ≤ most from fun k hk => Q3.out k (by rw [← HN.out]; exact hk))
          have M0 := hid (show MeshAt wr p W most (fun k => R k ++ msgsTo W (P.take 0) k) F by
            have e : (fun k => R k ++ msgsTo W (P.take 0) k) = R := by funext k; simp [msgsTo]
            rw [e]
            exact ⟨⟨h1, h2, h3, h4⟩, q, cap, bx, S, HM.out.fr Q2.out (fun _ _ e => e)⟩)
          have HFW := hid (Q2.out.mono (S' := F) (fun _ _ e => e.elim))
          go_wp2_with fail
          go_loopw [77] (fun i wr => ∃ j : Nat, j ≤ P.length ∧ i = .int .i64 j ∧ (∃ F', MeshAt wr p W most (fun k => R k ++ msgsTo W (P.take j) k) F' ∧ ∀ i, F' i → F i ∨ w.heap.size ≤ i) ∧ Fr F w wr) (fun i _ => P.length - (intOf i).toNat)
          case atStart => exact ⟨0, Nat.zero_le _, rfl, ⟨F, M0.out, fun i hi => .inl hi⟩, HFW.out⟩
          case round =>
            obtain ⟨j, hj3, rfl, ⟨F', hM, hF'⟩, hfj⟩ := hrel
            have T1 := hid hM
            have T2 := hid hF'
            have T3 := hid hfj
            clear hM hF' hfj
            by_cases hjl : j < P.length
            · obtain ⟨x, hxj⟩ : ∃ x, P[j]? = some x := ⟨P[j], by simp [hjl]⟩
              have HX := hid hxj
              obtain ⟨gp, rfl, hgw⟩ : ∃ gp, sp = some ⟨gp, 0, none⟩ ∧ gp < w.heap.size := by
                rcases owns_form HO.out with ⟨_, hz⟩ | ⟨gp, cp, e, _, _, _, hgw⟩
                · omega
                · injection e with e1 e2 e3; exact ⟨gp, e1, hgw⟩
              have c3 := ld_par (show ParAt wr gp (j * 9) x from fun i v hv' => T3.out.cell (owns_range encP_len HO.out hxj i v hv') (hv gp rfl))
              clear hxj
              have hjb : (j : Int) < (P.length : Int) := by omega
              have S1 : st 69 (.pointer (some ⟨wr.heap.size, 0, none⟩)) (parV x) (wr.alloc (.cells #[.int .i64 0, .int .i64 0, .int .i64 0, .string ⟨#[]⟩, .int .i64 0, .int .i64 0, .int .i64 0, .string ⟨#[]⟩, .slice none 0 0] 69)) = _ := st_par x (there_blockP (x := noP) (t := 69) (heap_new wr _))
              go_upto_region 21 with fail
              generalize hw9 : World.setCells _ _ _ _ = w9
              obtain ⟨G1, G2, G3⟩ := par_put (T := 69) (x := x) (C := #[.int .i64 0, .int .i64 0, .int .i64 0, .string ⟨#[]⟩, .int .i64 0, .int .i64 0, .int .i64 0, .string ⟨#[]⟩, .slice none 0 0]) rfl hw9.symm
              generalize hy : wr.heap.size = y at *
              have y0 := (ParAt.of_block G1).c0
              have y1 : w9.cell? ⟨y, 1, none⟩ = _ := (ParAt.of_block G1).c1
              have R4 := hid (T3.out.trans G2 (fun _ h => h) (fun _ _ h => h.elim))
              have R6 := hid G1
              have ht := R3.out x (List.mem_of_getElem? HX.out)
              have hl := lk_lt ht
              obtain ⟨_, q', cap', bx', S', hI⟩ := T1.out.no G2
              have hlt : (R (lk W x.f x.d) ++ msgsTo W (P.take j) (lk W x.f x.d)).length < most := by
                have a1 := HB.out _ hl
                have a2 := cntP_take W P (j + 1) (lk W x.f x.d)
                rw [take_snoc P j x HX.out, cntP_snoc, if_pos rfl] at a2
                rw [List.length_append, msgsTo_len]
                omega
              have L1 := hid (link_ok h2 hI x.f x.d ht)
              have L2 := hid (fun (m : Nat) => push_live ((hI.live _ hl).fr ((Fr.refl (fun _ => False) w9).drewN m) (fun _ _ e => e)) x.m hlt)
              have HI := hid hI
              have HL := hid hl
              have HNX := hid (msgsTo_next W R (P.take j) x)
              have lm : ∀ m : Nat, ld 40 (.pointer (some ⟨y, 2, none⟩)) (w9.drewN m) = .ok (.value (msgV x.m)) (w9.drewN m) := fun m => ld_msg (fun i v hv' => (ParAt.of_block G1).msg i v hv')
              clear hw9 G1 S1 c3 hI hl hlt ht
              go_wp2_with (first
                | (go_at_call 26; refine L1.out.mono ?_; rintro e w' ⟨rfl, m, rfl⟩; have lm' := lm m)
                | (go_at_call 32; refine (L2.out _).mono ?_; rintro e w2 ⟨rfl, Sn, hl2, hf2, hs2⟩; have HL2 := hid hl2; have HF2 := hid hf2; have HS2 := hid hs2; clear hl2 hf2 hs2))
              go_roundw
              case rel =>
                have hmz := (HI.out.fr ((Fr.refl (fun _ => False) w9).drewN _) (fun _ _ e => e)).put HL.out HL2.out HF2.out HS2.out (F' := fun i => F' i ∨ Sn i) (fun i hi => .inl hi) (fun i hi => .inr hi) (fun i hi => hi.elim (fun h => Nat.lt_of_lt_of_le (HI.out.lt i h) HF2.out.size) (fun h => HL2.out.lt i h))
                have hz9 := R4.out.size
                have hSF : ∀ i, S' (lk W x.f x.d) i → F i ∨ w.heap.size ≤ i := fun i hi => T2.out i (HI.out.sub _ HL.out i hi).1
                refine ⟨j + 1, by omega, by go_num, ⟨fun i => F' i ∨ Sn i, ?_, fun i hi => ?_⟩, ?_⟩
                · rw [take_snoc P j x HX.out, HNX.out]
                  exact ⟨⟨h1, h2, h3, h4⟩, _, _, _, _, hmz⟩
                · rcases hi with hi | hi
                  · exact T2.out i hi
                  · rcases HS2.out i hi with h | h
                    · exact hSF i h
                    · exact .inr (Nat.le_trans hz9 h)
                · refine (R4.out.drewN _).trans HF2.out (fun _ h => h) (fun i hi h => ?_)
                  rcases hSF i h with h | h
                  · exact h
                  · omega
              case measure => simp [intOf]; omega
            · obtain rfl : j = P.length := by omega
              have T4 := T1.out
              rw [List.take_length] at T4
              have HT4 := hid T4
              clear T4
              go_wp2_with fail
              go_ret
              exact .inr (.inr ⟨R3.out, HB.out, rfl, F', HT4.out, T3.out, T2.out⟩)

end Go.Proofs.Ytakhmommcgfoaaa
