/-
  The document's Recv, walked.
-/
import Derived.Test.YtakhmommcgfoaaaMeS3
namespace Go.Proofs.Ytakhmommcgfoaaa
open Go.RowKit

theorem flatP_upto (A : List Pq) : ∀ j, (A.flatMap encP).take (j * 9) = (A.take j).flatMap encP := by
  induction A with
  | nil => simp
  | cons a l ih =>
    intro j
    cases j with
    | zero => simp
    | succ j =>
      rw [List.flatMap_cons, List.take_succ_cons, List.flatMap_cons, List.take_append, encP_len, show (j + 1) * 9 - 9 = j * 9 by omega, ih, List.take_of_length_le (by rw [encP_len]; omega)]
theorem flatP_from (A : List Pq) : ∀ j, (A.flatMap encP).drop (j * 9) = (A.drop j).flatMap encP := by
  induction A with
  | nil => simp
  | cons a l ih =>
    intro j
    cases j with
    | zero => simp
    | succ j =>
      rw [List.flatMap_cons, List.drop_succ_cons, List.drop_append, encP_len, show (j + 1) * 9 - 9 = j * 9 by omega, ih, List.drop_of_length_le (by rw [encP_len]; omega), List.nil_append]
theorem Reads.upto {w : World} {B size n : Nat} {A : Option Addr} {xs : List Value} (h : Reads w B size A n xs) {k : Nat} (hk : k ≤ n) : Reads w B size A k (xs.take (k * size)) := by
  have hle : k * size ≤ n * size := Nat.mul_le_mul_right _ hk
  refine ⟨by rw [List.length_take, h.1]; omega, fun hn => ?_⟩
  obtain ⟨ad, rfl, hb, hcell⟩ := h.2 (by omega)
  refine ⟨ad, rfl, hb, fun j u hu => hcell j u ?_⟩
  rw [List.getElem?_take] at hu
  split at hu
  · exact hu
  · simp at hu
theorem results_trio {fn : Func} {p q u : Tmp} (h : fn.results = #[.cell p 47, .cell q 32, .tmp u]) (tmps : Array Value) (w : World) {b c : Nat} (ha : tmps.getD p undef = .pointer (some ⟨b, 0, none⟩)) (hc : tmps.getD q undef = .pointer (some ⟨c, 0, none⟩)) {m : Mq} (hm : MsgAt w b 0 m) {v : Value}
    (hv : (loadVar 32 ⟨c, 0, none⟩).run Try.prog w = .ok v w) {x : Value} (hx : tmps.getD u undef = x) :
    (results fn tmps).run Try.prog w = .ok (.tuple #[msgV m, v, x]) w := by
  simp only [Array.getD_eq_getD_getElem?] at ha hc hx
  simp only [results, h]
  simp [ha, hc, asAddr, rmsg_var hm, hv, hx]
theorem msg_over {w : World} {b : Nat} {m : Mq} {T : TypeId} (h : w.heap[b]? = some (.cells (encM m).toArray T (0, 0))) (y : Mq) : (w.setCells b 0 (encM y)).heap[b]? = some (.cells (encM y).toArray T (0, 0)) := by
  rw [heap_setCells _ _ h, encM_zero _ _ rfl]
theorem three_rc {w w1 : World} {T U Z : TypeId} {W c W' c' : Int} {s s' : Option Addr} {n k n' k' : Nat} {m : Mq}
    (hw : ((w.alloc (.cells (encR W c s n k).toArray T)).alloc (.cells (encM m).toArray Z)).alloc (.cells (encR W' c' s' n' k').toArray U) = w1) :
    w1.heap[w.heap.size]? = some (.cells (encR W c s n k).toArray T (0, 0)) ∧ w1.heap[w.heap.size + 1]? = some (.cells (encM m).toArray Z (0, 0)) ∧ w1.heap[w.heap.size + 2]? = some (.cells (encR W' c' s' n' k').toArray U (0, 0)) ∧ Fr (fun _ => False) w w1 ∧ w1.heap.size = w.heap.size + 3 := by
  subst hw
  have e2 := heap_new (w.alloc (.cells (encR W c s n k).toArray T)) (.cells (encM m).toArray Z)
  have e3 := heap_new ((w.alloc (.cells (encR W c s n k).toArray T)).alloc (.cells (encM m).toArray Z)) (.cells (encR W' c' s' n' k').toArray U)
  rw [World.size_alloc] at e2
  rw [World.size_alloc, World.size_alloc] at e3
  exact ⟨heap_old (heap_old (heap_new w _) _) _, heap_old e2 _, e3, (((Fr.refl _ w).alloc _).alloc _).alloc _, by rw [World.size_alloc, World.size_alloc, World.size_alloc]⟩

def RRecvPost (w : World) (W cap : Nat) (s : Option Addr) (n k : Nat) (A : List Pq) (a b : Int) (e : Ending) (w' : World) : Prop :=
  Fr (fun _ => False) w w' ∧
  ((¬ thereI W a b ∧ e = .returned (.tuple #[msgV noM, rmV W cap (.slice s n k), .int .i64 6])) ∨
   (thereI W a b ∧ (∀ y ∈ A, ¬ (y.f = a ∧ y.d = b)) ∧ e = .returned (.tuple #[msgV noM, rmV W cap (.slice s n k), .int .i64 16])) ∨
   (thereI W a b ∧ ∃ i x, A[i]? = some x ∧ x.f = a ∧ x.d = b ∧ (∀ y ∈ A.take i, ¬ (y.f = a ∧ y.d = b)) ∧
     ∃ s' n' k', e = .returned (.tuple #[msgV x.m, rmV W cap (.slice s' n' k'), .int .i64 0]) ∧ RowA w' s' n' k' (A.take i ++ A.drop (i + 1)) ∧
       ∀ i, (Value.slice s' n' k').ownBlock = some i → w.heap.size ≤ i))

/-- a slice of parcels that is cut, kept shut -/
noncomputable def sl (t : TypeId) (x : Value) (lo hi mx : Option Value) (w : World) : Result Next := (do pure (.value (← Instr.sliceAt t x lo hi mx)) : Sem Next).run Try.prog w
theorem run_slQ (ρ : Operand → Value) (dst : Option Tmp) (x : Operand) (lo hi mx : Option Operand) (ty : TypeId) (pos : String) (after : Array Edge) (guard : Option (Nat × Bool)) (w : World) :
    (execOp ρ { dst, op := .slice 30 x lo hi mx, type := ty, pos, after, guard }).run Try.prog w = sl 30 (ρ x) (lo.map ρ) (hi.map ρ) (mx.map ρ) w := rfl
theorem sl_from (gp o n k : Nat) (i : Nat) (hi : i ≤ n) (w : World) :
    sl 30 (.slice (some ⟨gp, o, none⟩) n k) (some (.int .i64 (i : Nat))) none none w = .ok (.value (.slice (if k = i then some ⟨gp, o, none⟩ else (some (⟨gp, o, none⟩ : Addr)).map (·.add (i * 9))) (n - i) (k - i))) w := by
  unfold sl
  go_simp
theorem sl_upto (gp o n k j : Nat) (hj : j ≤ k) (w : World) :
    sl 30 (.slice (some ⟨gp, o, none⟩) n k) none (some (.int .i64 (j : Nat))) none w = .ok (.value (.slice (some ⟨gp, o, none⟩) j k)) w := by
  unfold sl
  go_simp
attribute [local go_sem ↓] run_stR run_stN run_ldN run_slQ
set_option maxRecDepth 100000 in
set_option maxHeartbeats 4000000 in
theorem refRecv_ok {w : World} {W cap : Nat} {s : Option Addr} {n k : Nat} {A : List Pq} (hr : RowA w s n k A) (hA : A.length ≤ 4000) (a b : Int) :
    Calls Try.prog 10 #[rmV W cap (.slice s n k), .int .i64 a, .int .i64 b] w fun e w' => RRecvPost w W cap s n k A a b e w' := by
  obtain ⟨i0, hi0, hz0, hz1, hz2⟩ := info_parts info_rpar
  obtain rfl := hr.n
  have HR := hid hr
  clear hr
  have U := hid (fun w' => refThere_ok W cap a b s A.length k w')
  unfold rmV at U
  have HL0 := hid (show RRecvPost w W cap s A.length k A a b = RRecvPost w W cap s A.length k A a b from rfl)
  conv in rmV W cap _ => unfold rmV
  go_enter Try.func10, Try.ntmps10
  go_upto_region 1 with fail
  generalize hw1 : World.alloc (World.alloc (World.alloc w _) _) _ = w1
  obtain ⟨E1, E2, E3, F1, z1⟩ := three_rc (W := W) (c := cap) (s := s) (n := A.length) (k := k) (m := noM) (W' := 0) (c' := 0) (s' := none) (n' := 0) (k' := 0) hw1
  clear hw1
  generalize hp : w.heap.size = p at *
  have HP := hid hp
  have HZ := hid z1
  have HF := hid F1
  have HE1 := hid E1
  have HE2 := hid E2
  have HE3 := hid E3
  have p0 := cell_of E1 0 (v := .int .i64 W) rfl
  have p1 := cell_of E1 1 (v := .int .i64 cap) rfl
  have p2 := cell_of E1 2 (v := .slice s A.length k) rfl
  clear E1 E2 E3 F1 hp z1
  by_cases ht : thereI W a b
  · have hd : decide (thereI W a b) = true := by simpa using ht
    have HTX := hid ht
    clear ht
    go_wp2_with (go_at_call 28; refine (U.out _).mono ?_; rintro e w3 ⟨rfl, hb'⟩; rw [hd]; have HB := hid hb'; clear hb')
    have H6 := hid (HB.out.heap HE2.out (fun e => e))
    have H7 := hid (HB.out.heap HE3.out (fun e => e))
    go_loopw [9] (fun i wr => ∃ j : Nat, j ≤ A.length ∧ i = .int .i64 j ∧ (∀ y ∈ A.take j, ¬ (y.f = a ∧ y.d = b)) ∧ wr = w3) (fun i _ => A.length - (intOf i).toNat)
    case atStart => exact ⟨0, Nat.zero_le _, rfl, by simp, rfl⟩
    case round =>
      obtain ⟨j, hj, rfl, hno, rfl⟩ := hrel
      have HNJ := hid hno
      clear hno
      have c2 := HB.out.cell p2 (fun e => e)
      by_cases hjl : j < A.length
      · obtain ⟨x, hxj⟩ : ∃ x, A[j]? = some x := ⟨A[j], by simp [hjl]⟩
        have HX := hid hxj
        obtain ⟨gp, rfl, hgw⟩ : ∃ gp, s = some ⟨gp, 0, none⟩ ∧ gp < p := by
          obtain ⟨B, h⟩ := HR.out
          rcases owns_form h with ⟨_, hz⟩ | ⟨gp, cp, e, _, _, _, hgw⟩
          · omega
          · injection e with e1 e2 e3
            exact ⟨gp, e1, by have := HP.out; omega⟩
        have hpa : ParAt wr gp (j * 9) x := fun i v hv' => HB.out.cell (HF.out.cell (HR.out.elim fun B h => owns_range encP_len h hxj i v hv') (fun e => e)) (fun e => e)
        have x0 := hpa.c0
        have x1 := hpa.c1
        have HPA := hid hpa
        have hjb : (j : Int) < (A.length : Int) := by omega
        clear hpa hxj
        by_cases e1 : x.f = a
        · by_cases e2 : x.d = b
          · have t1 : (x.f == a) = true := by simpa using e1
            have t2 : (x.d == b) = true := by simpa using e2
            have HE12 := hid (And.intro e1 e2)
            clear e1 e2
            have L1 : ld 47 (.pointer (some ⟨gp, j * 9 + 2, none⟩)) wr = _ := ld_rmsg HPA.out.msg
            have L2 : st 47 (.pointer (some ⟨wr.heap.size, 0, none⟩)) (msgV x.m) (wr.alloc (.cells #[.int .i64 0, .string ⟨#[]⟩, .int .i64 0, .int .i64 0, .int .i64 0, .string ⟨#[]⟩, .slice none 0 0] 47)) = _ := st_rmsg x.m (there_block (m := noM) (t := 47) (heap_new wr _))
            go_upto_region 8 with fail
            generalize hw9 : World.setCells _ _ _ _ = w9
            obtain ⟨G1, G2, G3⟩ := msg_put (T := 47) (x := x.m) (C := #[.int .i64 0, .string ⟨#[]⟩, .int .i64 0, .int .i64 0, .int .i64 0, .string ⟨#[]⟩, .slice none 0 0]) rfl hw9
            clear L1 L2 x0 x1 t1 t2 hw9
            clear p0 p1 p2
            generalize hy : wr.heap.size = y at *
            have HG2 := hid G2
            have HG1 := hid G1
            have e20 : w9.cell? ⟨p, 2, none⟩ = some (.slice (some ⟨gp, 0, none⟩) A.length k) := G2.cell c2 (fun e => e)
            have HX3 := hid (G2.heap (HB.out.heap HE1.out (fun e => e)) (fun e => e))
            have HN0 := hid (Fr.refl (fun _ => False) w9)
            have hAk : A.length ≤ k := by
              obtain ⟨B, h⟩ := HR.out
              rcases owns_form h with ⟨_, hz⟩ | ⟨_, cp, e, h1, _⟩
              · omega
              · injection e with e1 e2 e3; omega
            have hrd : Reads w9 w9.heap.size 9 (some ⟨gp, 0, none⟩) A.length (A.flatMap encP) := by
              have h := (HR.out.fr ((HF.out.trans' HB.out).trans' G2) (fun _ _ e => e))
              obtain ⟨B, h⟩ := h
              exact Reads.of_own h
            have HRU := hid (show Reads w9 w9.heap.size 9 (some ⟨gp, 0, none⟩) j ((A.take j).flatMap encP) by have h := hrd.upto (k := j) (by omega); rwa [flatP_upto] at h)
            obtain ⟨A2, hA2, hR2⟩ : ∃ A2, (∀ w', sl 30 (.slice (some ⟨gp, 0, none⟩) A.length k) (some (.int .i64 ((j : Int) + 1))) none none w' = .ok (.value (.slice A2 (A.length - (j + 1)) (k - (j + 1)))) w') ∧ Reads w9 w9.heap.size 9 A2 (A.length - (j + 1)) ((A.drop (j + 1)).flatMap encP) := by
              have h := hrd.cut (k := j + 1) (cap := k) (by omega) hAk
              rw [flatP_from] at h
              exact ⟨_, fun w' => sl_from _ _ _ _ (j + 1) (by omega) w', h⟩
            have HRF := hid hR2
            have hU : ∀ w', sl 30 (.slice (some ⟨gp, 0, none⟩) A.length k) none (some (.int .i64 (j : Int))) none w' = .ok (.value (.slice (some ⟨gp, 0, none⟩) j k)) w' := fun w' => sl_upto _ _ _ _ _ (by omega) w'
            have hwr : IntKind.i64.wrap ((j : Int) + 1) = (j : Int) + 1 := IntWalk.i64_in _ (by omega)
            have hpy : p < y := by have := lt_of_block HE1.out; have := HB.out.size; omega
            have HPY := hid hpy
            have HPZ := hid (show p + 3 ≤ y by have := HZ.out; have := HB.out.size; omega)
            have HYZ := hid (show y + 1 = w9.heap.size from G3.symm)
            clear hrd hR2 G1 G2 G3 c2 hpy hy
            refine wp_region_held_drew (S := (fun w' => Fr (fun q => q = p) w9 w')) (by kernel_rfl) ?_ (fun hH => ?_)
            · exact (Fr.refl (fun q => q = p) w9).drew
            refine wpAnyH_take (i := 1) (oi := { dst := some 50, op := Op.fieldAddr 32 (Operand.tmp 3) 2, type := 0, pos := "ref.go:83", after := #[], guard := none }) (v := ?_) rfl (by kernel_rfl) (by kernel_rfl) (by kernel_rfl) (fun _ _ _ h => h) (Or.inl ⟨by rfl, ?_⟩) hH ?_
            rotate_left
            · intro w hSw; (try dsimp only at hSw); go_simp <;> with_reducible rfl
            try simp only [Act.put, List.setIfInBounds_toArray, List.set_cons_zero, List.set_cons_succ]
            refine wpAnyH_take (i := 3) (oi := { dst := some 52, op := Op.move (Operand.tmp 9), type := 3, pos := "ref.go:83", after := #[], guard := none }) (v := ?_) rfl (by kernel_rfl) (by kernel_rfl) (by kernel_rfl) (fun _ _ _ h => h) (Or.inl ⟨by rfl, ?_⟩) hH ?_
            rotate_left
            · intro w hSw; (try dsimp only at hSw); go_simp <;> with_reducible rfl
            try simp only [Act.put, List.setIfInBounds_toArray, List.set_cons_zero, List.set_cons_succ]
            refine wpAnyH_take (i := 6) (oi := { dst := some 55, op := Op.fieldAddr 32 (Operand.tmp 3) 2, type := 0, pos := "ref.go:83", after := #[], guard := none }) (v := ?_) rfl (by kernel_rfl) (by kernel_rfl) (by kernel_rfl) (fun _ _ _ h => h) (Or.inl ⟨by rfl, ?_⟩) hH ?_
            rotate_left
            · intro w hSw; (try dsimp only at hSw); go_simp <;> with_reducible rfl
            try simp only [Act.put, List.setIfInBounds_toArray, List.set_cons_zero, List.set_cons_succ]
            refine wpAnyH_take (i := 8) (oi := { dst := some 57, op := Op.move (Operand.tmp 9), type := 3, pos := "ref.go:83", after := #[], guard := none }) (v := ?_) rfl (by kernel_rfl) (by kernel_rfl) (by kernel_rfl) (fun _ _ _ h => h) (Or.inl ⟨by rfl, ?_⟩) hH ?_
            rotate_left
            · intro w hSw; (try dsimp only at hSw); go_simp <;> with_reducible rfl
            try simp only [Act.put, List.setIfInBounds_toArray, List.set_cons_zero, List.set_cons_succ]
            refine wpAnyH_take (i := 9) (oi := { dst := some 58, op := Op.binOp BinOp.add 3 (Operand.tmp 57) (Operand.const (Value.int IntKind.i64 1)) 3, type := 3, pos := "ref.go:83", after := #[{ on := 8, ground := Ground.data }], guard := none }) (v := ?_) rfl (by kernel_rfl) (by kernel_rfl) (by kernel_rfl) (fun _ _ _ h => h) (Or.inl ⟨by rfl, ?_⟩) hH ?_
            rotate_left
            · intro w hSw; (try dsimp only at hSw); go_simp <;> with_reducible rfl
            try simp only [Act.put, List.setIfInBounds_toArray, List.set_cons_zero, List.set_cons_succ]
            refine wpAnyH_ready (rs := [0, 2, 7]) (by kernel_rfl) (by simp) ?_
            refine AllReadyH.cons (o := { dst := some 49, op := Op.buildSlice 30 0 #[], type := 30, pos := "ref.go:83", after := #[], guard := none }) rfl (fun K hK => ?_) ?_
            ·
              go_simp
              refine genw (K := K) (fun x1 hx => ?_)
              have f0 : Fr (fun _ => False) (w9.alloc (.cells #[] 79)) x1 := by rw [hx]; exact ⟨rfl, rfl, rfl, Nat.le_refl _, fun _ _ _ => rfl⟩
              have f0' : Fr (fun _ => False) w9 x1 := ((Fr.refl _ w9).alloc _).trans' f0
              have HZ1 := hid (show x1.heap.size = w9.heap.size + 1 by rw [hx]; simp)
              have HN1 := hid (HN0.out.trans' f0')
              have hle0 := HN0.out.size
              have HE1 := hid (empty_own (B := w9.heap.size) (E := 79) (sz := 9) rfl f0 hle0 rfl)
              clear f0 f0' hx hle0
              refine hK.out _ _ ?_ (fun hH => ?_)
              · exact HN1.out.mono (fun _ _ e => e.elim)
              clear hK K
              try simp only [Act.put, List.setIfInBounds_toArray, List.set_cons_zero, List.set_cons_succ]
              refine wpAnyH_ready (rs := [2, 7]) (by kernel_rfl) (by simp) ?_
              refine AllReadyH.cons (o := { dst := some 51, op := Op.load 30 (Operand.tmp 50), type := 30, pos := "ref.go:83", after := #[{ on := 1, ground := Ground.data }], guard := none }) rfl (fun K hK => ?_) ?_
              ·
                have e2 := HN1.out.cell e20 (fun e => e)
                go_simp
                clear e2
                refine genw (K := K) (fun x2 hx => ?_)
                have f1' : Fr (fun _ => False) x1 x2 := by rw [hx]; exact ⟨rfl, rfl, rfl, Nat.le_refl _, fun _ _ _ => rfl⟩
                have HZ2 := hid (show x2.heap.size = x1.heap.size by rw [hx]; try rfl)
                have HN2 := hid (HN1.out.trans' f1')
                have HE2 := hid (Fr.owns f1' HE1.out (fun _ _ e => e))
                clear f1' hx
                refine hK.out _ _ ?_ (fun hH => ?_)
                · exact HN2.out.mono (fun _ _ e => e.elim)
                clear hK K
                try simp only [Act.put, List.setIfInBounds_toArray, List.set_cons_zero, List.set_cons_succ]
                refine wpAnyH_take (i := 4) (oi := { dst := some 53, op := Op.slice 30 (Operand.tmp 51) none (some (Operand.tmp 52)) none, type := 30, pos := "ref.go:83", after := #[{ on := 2, ground := Ground.data }, { on := 3, ground := Ground.data }], guard := none }) (v := ?_) rfl (by kernel_rfl) (by kernel_rfl) (by kernel_rfl) (fun _ _ _ h => h) (Or.inl ⟨by rfl, ?_⟩) hH ?_
                rotate_left
                · intro w hSw; (try dsimp only at hSw); go_simp <;> with_reducible rfl
                try simp only [Act.put, List.setIfInBounds_toArray, List.set_cons_zero, List.set_cons_succ]
                refine wpAnyH_ready (rs := [5, 7]) (by kernel_rfl) (by simp) ?_
                refine AllReadyH.cons (o := { dst := some 54, op := Op.call { callee := Callee.builtin Builtin.append, args := #[Operand.tmp 49, Operand.tmp 53], argTypes := #[30, 30] }, type := 30, pos := "ref.go:83", after := #[{ on := 0, ground := Ground.data }, { on := 4, ground := Ground.data }], guard := none }) rfl (fun K hK => ?_) ?_
                ·
                  have qz1 := HZ1.out
                  have qz2 := HZ2.out
                  have hle2 := HN2.out.size
                  have hlE : w9.heap.size ≤ w9.heap.size := by omega
                  go_must (refine step_append_any _ (by rfl) _ _ _ (by rfl) w9.heap.size 79 i0 _ 9 104 Try.underlying30 hi0 hz0 hz1 hz2 rfl (by omega) (.slice (some ⟨w9.heap.size, 0, none⟩) 0 0) 0 [] (by rfl) (by exact HE2.out) w9.heap.size (some ⟨gp, 0, none⟩) j k ((A.take j).flatMap encP) (by rfl) (by exact HRU.out.fr HN2.out (Nat.le_refl _) (fun _ _ e => e)) (flatP_one _) (by unfold maxLen; omega) (by omega) (by omega) ?_)
                  intro v1 x3 hown hgrow hat
                  have f2' : Fr (fun q => q = w9.heap.size) x2 x3 := (Fr.refl _ x2).grown hgrow (fun q e _ => by simp [Value.ownBlock] at e; omega)
                  have HZ3 := hid (show x2.heap.size ≤ x3.heap.size from f2'.size)
                  have HN3 := hid (HN2.out.trans f2' (fun _ h => h) (fun i hi h => by omega))
                  have HR3 := hid (show x3.ownsRow w9.heap.size 79 9 v1 (j) ((A.take j).flatMap encP) by rw [Nat.zero_add, List.nil_append] at hown; exact hown)
                  clear f2' hown hgrow hat hlE hle2 qz1 qz2
                  refine hK.out _ _ ?_ (fun hH => ?_)
                  · exact HN3.out.mono (fun _ _ e => e.elim)
                  clear hK K
                  try simp only [Act.put, List.setIfInBounds_toArray, List.set_cons_zero, List.set_cons_succ]
                  refine wpAnyH_ready (rs := [7]) (by kernel_rfl) (by simp) ?_
                  refine AllReadyH.cons (o := { dst := some 56, op := Op.load 30 (Operand.tmp 55), type := 30, pos := "ref.go:83", after := #[{ on := 6, ground := Ground.data }], guard := none }) rfl (fun K hK => ?_) AllReadyH.nil
                  have e2 := HN3.out.cell e20 (fun e => e)
                  go_simp
                  clear e2
                  refine genw (K := K) (fun x4 hx => ?_)
                  have f3' : Fr (fun _ => False) x3 x4 := by rw [hx]; exact ⟨rfl, rfl, rfl, Nat.le_refl _, fun _ _ _ => rfl⟩
                  have HZ4 := hid (show x4.heap.size = x3.heap.size by rw [hx]; try rfl)
                  have HN4 := hid (HN3.out.trans' f3')
                  have HR4 := hid (Fr.owns f3' HR3.out (fun _ _ e => e))
                  clear f3' hx
                  refine hK.out _ _ ?_ (fun hH => ?_)
                  · exact HN4.out.mono (fun _ _ e => e.elim)
                  clear hK K
                  try simp only [Act.put, List.setIfInBounds_toArray, List.set_cons_zero, List.set_cons_succ]
                  refine wpAnyH_take (i := 10) (oi := { dst := some 59, op := Op.slice 30 (Operand.tmp 56) (some (Operand.tmp 58)) none none, type := 30, pos := "ref.go:83", after := #[{ on := 7, ground := Ground.data }, { on := 9, ground := Ground.data }], guard := none }) (v := ?_) rfl (by kernel_rfl) (by kernel_rfl) (by kernel_rfl) (fun _ _ _ h => h) (Or.inl ⟨by rfl, ?_⟩) hH ?_
                  rotate_left
                  · intro w hSw; (try dsimp only at hSw); go_simp <;> with_reducible rfl
                  try simp only [Act.put, List.setIfInBounds_toArray, List.set_cons_zero, List.set_cons_succ]
                  refine wpAnyH_ready (rs := [11]) (by kernel_rfl) (by simp) ?_
                  refine AllReadyH.cons (o := { dst := some 60, op := Op.call { callee := Callee.builtin Builtin.append, args := #[Operand.tmp 54, Operand.tmp 59], argTypes := #[30, 30] }, type := 30, pos := "ref.go:83", after := #[{ on := 5, ground := Ground.data }, { on := 10, ground := Ground.data }, { on := 5, ground := Ground.chain }], guard := none }) rfl (fun K hK => ?_) AllReadyH.nil
                  have hle4 := HN4.out.size
                  have qz1 := HZ1.out
                  have qz2 := HZ2.out
                  have qz3 := HZ3.out
                  have qz4 := HZ4.out
                  go_must (refine step_append_any _ (by rfl) _ _ _ (by rfl) w9.heap.size 79 i0 _ 9 104 Try.underlying30 hi0 hz0 hz1 hz2 rfl (by omega) v1 (j) _ (by rfl) (by exact HR4.out) w9.heap.size A2 (A.length - (j + 1)) (k - (j + 1)) ((A.drop (j + 1)).flatMap encP) (by rfl) (by exact HRF.out.fr HN4.out (Nat.le_refl _) (fun _ _ e => e)) (flatP_one _) (by unfold maxLen; omega) (by omega) (by omega) ?_)
                  intro v2 x5 hown hgrow hat
                  have f4' : Fr (fun q => w9.heap.size ≤ q) x4 x5 := (Fr.refl _ x4).grown hgrow (fun q e _ => (HR4.out.lt q e).1)
                  have HN5 := hid (HN4.out.trans f4' (fun _ h => h) (fun i hi h => by omega))
                  have HOW := hid hown
                  clear f4' hown hgrow hat hle4 qz1 qz2 qz3 qz4
                  refine hK.out _ _ ?_ (fun hH => ?_)
                  · exact HN5.out.mono (fun _ _ e => e.elim)
                  clear hK K
                  try simp only [Act.put, List.setIfInBounds_toArray, List.set_cons_zero, List.set_cons_succ]
                  refine wpAnyH_take (i := 12) (oi := { dst := some 61, op := Op.fieldAddr 32 (Operand.tmp 3) 2, type := 0, pos := "ref.go:83", after := #[{ on := 0, ground := Ground.phase }, { on := 1, ground := Ground.phase }, { on := 2, ground := Ground.phase }, { on := 3, ground := Ground.phase }, { on := 4, ground := Ground.phase }, { on := 5, ground := Ground.phase }, { on := 6, ground := Ground.phase }, { on := 7, ground := Ground.phase }, { on := 8, ground := Ground.phase }, { on := 9, ground := Ground.phase }, { on := 10, ground := Ground.phase }, { on := 11, ground := Ground.phase }], guard := none }) (v := ?_) rfl (by kernel_rfl) (by kernel_rfl) (by kernel_rfl) (fun _ _ _ h => h) (Or.inl ⟨by rfl, ?_⟩) hH ?_
                  rotate_left
                  · intro w hSw; (try dsimp only at hSw); go_simp <;> with_reducible rfl
                  try simp only [Act.put, List.setIfInBounds_toArray, List.set_cons_zero, List.set_cons_succ]
                  refine wpAnyH_ready (rs := [13]) (by kernel_rfl) (by simp) ?_
                  refine AllReadyH.cons (o := { dst := none, op := Op.store 30 (Operand.tmp 61) (Operand.tmp 60), type := 0, pos := "ref.go:83", after := #[{ on := 12, ground := Ground.data }, { on := 11, ground := Ground.data }, { on := 11, ground := Ground.chain }, { on := 0, ground := Ground.phase }, { on := 1, ground := Ground.phase }, { on := 2, ground := Ground.phase }, { on := 3, ground := Ground.phase }, { on := 4, ground := Ground.phase }, { on := 5, ground := Ground.phase }, { on := 6, ground := Ground.phase }, { on := 7, ground := Ground.phase }, { on := 8, ground := Ground.phase }, { on := 9, ground := Ground.phase }, { on := 10, ground := Ground.phase }, { on := 11, ground := Ground.phase }], guard := none }) rfl (fun K hK => ?_) AllReadyH.nil
                  obtain ⟨s2, cs2, rfl, _⟩ := owns_view HOW.out
                  have e2 := HN5.out.cell e20 (fun e => e)
                  have f2 := free_of (HN5.out.heap HX3.out (fun e => e)) 2
                  go_simp
                  refine hK.out _ _ ?_ (fun hH => ?_)
                  · exact (HN5.out.mono (S' := fun q => q = p) (fun _ _ e => e.elim)).setCell (p := ⟨p, 2, none⟩) (fun _ => rfl) _
                  clear hK K
                  refine wpAnyH_done (by kernel_rfl) ?_ _
                  have HXN := hid (heap_set (i := 2) (HN5.out.heap HX3.out (fun e => e)) (.slice s2 (j + (A.length - (j + 1))) cs2))
                  have hgp : ∀ i, (Value.slice s2 (j + (A.length - (j + 1))) cs2).ownBlock = some i → w9.heap.size ≤ i := fun i e => (HOW.out.lt i e).1
                  have HGP := hid hgp
                  have own2 := Go.ownsRow_setCell_other HOW.out (a := ⟨p, 2, none⟩) (fun e => by have h1 := HGP.out _ e; have h2 := HPY.out; have h3 := HYZ.out; simp only at h1; omega) (.slice s2 (j + (A.length - (j + 1))) cs2)
                  have HO2 := hid own2
                  have HF9 := hid hH
                  clear own2 hH e2 f2 e20 hgp
                  generalize hw5 : World.setCell _ _ _ = w5 at *
                  clear hw5
                  have hxn : w5.heap[p]? = some (.cells (encR W cap s2 (j + (A.length - (j + 1))) cs2).toArray 32 (0, 0)) := HXN.out
                  have hyp : ¬ y = p := by have := HPY.out; omega
                  have hy1 : ¬ (y = p + 1 ∨ y = p + 1 + 1) := by have := HPZ.out; omega
                  have H6 := hid (HF9.out.heap (HG2.out.heap H6.out (fun e => e)) (by omega))
                  have H7 := hid (HF9.out.heap (HG2.out.heap H7.out (fun e => e)) (by omega))
                  have hnp : ¬ (p = p + 1 ∨ p = p + 1 + 1) := by omega
                  have p0 : ∀ w', Fr (fun q => q = p + 1 ∨ q = p + 1 + 1) w5 w' → w'.cell? ⟨p, 0, none⟩ = some (.int .i64 W) := fun w' hf => hf.cell (cell_of hxn 0 rfl) hnp
                  have p1 : ∀ w', Fr (fun q => q = p + 1 ∨ q = p + 1 + 1) w5 w' → w'.cell? ⟨p, 1, none⟩ = some (.int .i64 cap) := fun w' hf => hf.cell (cell_of hxn 1 rfl) hnp
                  have p2 : ∀ w', Fr (fun q => q = p + 1 ∨ q = p + 1 + 1) w5 w' → w'.cell? ⟨p, 2, none⟩ = some (.slice s2 (j + (A.length - (j + 1))) cs2) := fun w' hf => hf.cell (cell_of hxn 2 rfl) hnp
                  have lm : ∀ w', Fr (fun q => q = p + 1 ∨ q = p + 1 + 1) w5 w' → ld 47 (.pointer (some ⟨y, 0, none⟩)) w' = .ok (.value (msgV x.m)) w' := fun w' hf => ld_rmsg (MsgAt.of_block (hf.heap (HF9.out.heap HG1.out hyp) hy1))
                  clear hxn
                  go_upto_region 9 with fail
                  refine wp_region_held_drew (S := (fun w' => Fr (fun q => q = p + 1 ∨ q = p + 1 + 1) w5 w')) (by kernel_rfl) ?_ (fun hH => ?_)
                  · exact (Fr.refl (fun q => q = p + 1 ∨ q = p + 1 + 1) w5).drew
                  refine wpAnyH_take (i := 0) (oi := { dst := some 62, op := Op.load 47 (Operand.tmp 10), type := 47, pos := "ref.go:84", after := #[], guard := none }) (v := ?_) rfl (by kernel_rfl) (by kernel_rfl) (by kernel_rfl) (fun _ _ _ h => h) (Or.inl ⟨by rfl, ?_⟩) hH ?_
                  rotate_left
                  · intro w hSw; (try dsimp only at hSw); go_simp <;> with_reducible rfl
                  try simp only [Act.put, List.setIfInBounds_toArray, List.set_cons_zero, List.set_cons_succ]
                  refine wpAnyH_take (i := 1) (oi := { dst := some 63, op := Op.load 32 (Operand.tmp 3), type := 32, pos := "ref.go:84", after := #[{ on := 2, ground := Ground.gcOnly Departure.lateStores }], guard := none }) (v := ?_) rfl (by kernel_rfl) (by kernel_rfl) (by kernel_rfl) (fun _ _ _ h => h) (Or.inl ⟨by rfl, ?_⟩) hH ?_
                  rotate_left
                  · intro w hSw; (try dsimp only at hSw); go_simp <;> with_reducible rfl
                  try simp only [Act.put, List.setIfInBounds_toArray, List.set_cons_zero, List.set_cons_succ]
                  refine wpAnyH_ready (rs := [2]) (by kernel_rfl) (by simp) ?_
                  refine AllReadyH.cons (o := { dst := none, op := Op.store 47 (Operand.tmp 6) (Operand.tmp 62), type := 0, pos := "ref.go:84", after := #[{ on := 0, ground := Ground.data }, { on := 0, ground := Ground.phase }, { on := 1, ground := Ground.textOnly Departure.lateStores }], guard := none }) rfl (fun K hK => ?_) AllReadyH.nil
                  have TS : ∀ m, st 47 (.pointer (some ⟨p + 1, 0, none⟩)) (msgV x.m) (World.drewN w5 m) = .ok .skip (World.setCells (World.drewN w5 m) (p + 1) 0 (encM (x.m))) := fun m => st_rmsg (x.m) (there_block (by exact H6.out))
                  have TS0 : st 47 (.pointer (some ⟨p + 1, 0, none⟩)) (msgV x.m) (World.drew w5) = .ok .skip (World.setCells (World.drew w5) (p + 1) 0 (encM (x.m))) := st_rmsg (x.m) (there_block (by exact H6.out))
                  go_simp
                  clear TS TS0
                  refine genw (K := K) (fun x1 hx => ?_)
                  have f0 : Fr (fun q => q = p + 1) w5 x1 := by rw [hx]; exact Fr.setCells (S := fun q => q = p + 1) (b := p + 1) (fun _ => rfl) _ _ (by first | exact Fr.refl _ _ | exact (Fr.refl _ _).drewN _ | exact (Fr.refl _ _).drew)
                  have H61 := hid (show x1.heap[p + 1]? = some (.cells (encM (x.m)).toArray _ (0, 0)) by rw [hx]; exact msg_over H6.out (x.m))
                  have H71 := hid (f0.heap H7.out (by omega))
                  clear f0
                  refine hK.out _ _ ?_ (fun hH => ?_)
                  · rw [hx]; exact Fr.setCells (S := (fun q => q = p + 1 ∨ q = p + 1 + 1)) (b := p + 1) (fun _ => .inl rfl) _ _ hH
                  clear hK K
                  refine wpAnyH_ready (rs := [3]) (by kernel_rfl) (by simp) ?_
                  refine AllReadyH.cons (o := { dst := none, op := Op.store 32 (Operand.tmp 7) (Operand.tmp 63), type := 0, pos := "ref.go:84", after := #[{ on := 1, ground := Ground.data }, { on := 2, ground := Ground.chain }, { on := 0, ground := Ground.phase }, { on := 1, ground := Ground.phase }, { on := 2, ground := Ground.phase }], guard := none }) rfl (fun K hK => ?_) AllReadyH.nil
                  clear hx
                  have TS : st 32 (.pointer (some ⟨p + 1 + 1, 0, none⟩)) (.agg #[.int .i64 W, .int .i64 cap, .slice (s2) (j + (A.length - (j + 1))) (cs2)]) x1 = .ok .skip (World.setCells x1 (p + 1 + 1) 0 (encR W cap (s2) (j + (A.length - (j + 1))) (cs2))) := st_rm W cap (s2) (j + (A.length - (j + 1))) (cs2) (there_rm (by exact H71.out))
                  go_simp
                  clear TS
                  refine genw (K := K) (fun x2 hx => ?_)
                  have f1 : Fr (fun q => q = p + 1 + 1) x1 x2 := by rw [hx]; exact Fr.setCells (S := fun q => q = p + 1 + 1) (b := p + 1 + 1) (fun _ => rfl) _ _ (by first | exact Fr.refl _ _ | exact (Fr.refl _ _).drewN _ | exact (Fr.refl _ _).drew)
                  have H72 := hid (show x2.heap[p + 1 + 1]? = some (.cells (encR W cap (s2) (j + (A.length - (j + 1))) (cs2)).toArray _ (0, 0)) by rw [hx]; exact encR_put (W' := W) (c' := cap) (s' := s2) (n' := j + (A.length - (j + 1))) (k' := cs2) H71.out)
                  have H62 := hid (f1.heap H61.out (by omega))
                  clear f1
                  refine hK.out _ _ ?_ (fun hH => ?_)
                  · rw [hx]; exact Fr.setCells (S := (fun q => q = p + 1 ∨ q = p + 1 + 1)) (b := p + 1 + 1) (fun _ => .inr rfl) _ _ hH
                  clear hK K
                  refine wpAnyH_take (i := 4) (oi := { dst := some 8, op := Op.assign (Operand.const (Value.int IntKind.i64 0)), type := 3, pos := "ref.go:84", after := #[{ on := 3, ground := Ground.chain }, { on := 0, ground := Ground.phase }, { on := 1, ground := Ground.phase }, { on := 2, ground := Ground.phase }, { on := 3, ground := Ground.phase }], guard := none }) (v := ?_) rfl (by kernel_rfl) (by kernel_rfl) (by kernel_rfl) (fun _ _ _ h => h) (Or.inl ⟨by rfl, ?_⟩) hH ?_
                  rotate_left
                  · intro w hSw; (try dsimp only at hSw); go_simp <;> with_reducible rfl
                  try simp only [Act.put, List.setIfInBounds_toArray, List.set_cons_zero, List.set_cons_succ]
                  refine wpAnyH_done (by kernel_rfl) ?_ _
                  clear p0 p1 p2 hx lm
                  go_wp2
                  refine bodyPost_ret (v := .tuple #[msgV x.m, rmV W cap (.slice s2 (j + (A.length - (j + 1))) cs2), .int .i64 0]) (results_trio Try.results10 _ _ (by rfl) (by rfl) (MsgAt.of_block H62.out) (rm_var H72.out) (by rfl)) rfl ⟨?_, .inr (.inr ⟨HTX.out, j, x, HX.out, HE12.out.1, HE12.out.2, HNJ.out, s2, _, cs2, rfl, ?_, fun i e => ?_⟩)⟩
                  · have hz := HZ.out
                    have hp := HP.out
                    refine ((((HF.out.trans' HB.out).trans' HG2.out).trans HF9.out (fun _ h => h) (fun i hi e => by omega))).trans hH (fun _ h => h) (fun i hi e => by omega)
                  · refine RowA.fr (w := w5) ⟨w9.heap.size, ?_⟩ hH (fun i e h => ?_)
                    · have h := HO2.out
                      rw [← List.flatMap_append] at h
                      have hl : (A.take j ++ A.drop (j + 1)).length = j + (A.length - (j + 1)) := by rw [List.length_append, List.length_take, List.length_drop]; omega
                      rw [hl]
                      exact h
                    · have := HGP.out i e
                      have := HPZ.out
                      have := HYZ.out
                      omega
                  · have := HGP.out i e
                    have := HP.out
                    have := HPY.out
                    have := HYZ.out
                    omega
                refine AllReadyH.cons (o := { dst := some 56, op := Op.load 30 (Operand.tmp 55), type := 30, pos := "ref.go:83", after := #[{ on := 6, ground := Ground.data }], guard := none }) rfl (fun K hK => ?_) AllReadyH.nil
                have e2 := HN2.out.cell e20 (fun e => e)
                go_simp
                clear e2
                refine genw (K := K) (fun x3 hx => ?_)
                have f2' : Fr (fun _ => False) x2 x3 := by rw [hx]; exact ⟨rfl, rfl, rfl, Nat.le_refl _, fun _ _ _ => rfl⟩
                have HZ3 := hid (show x3.heap.size = x2.heap.size by rw [hx]; try rfl)
                have HN3 := hid (HN2.out.trans' f2')
                have HE3 := hid (Fr.owns f2' HE2.out (fun _ _ e => e))
                clear f2' hx
                refine hK.out _ _ ?_ (fun hH => ?_)
                · exact HN3.out.mono (fun _ _ e => e.elim)
                clear hK K
                try simp only [Act.put, List.setIfInBounds_toArray, List.set_cons_zero, List.set_cons_succ]
                refine wpAnyH_take (i := 10) (oi := { dst := some 59, op := Op.slice 30 (Operand.tmp 56) (some (Operand.tmp 58)) none none, type := 30, pos := "ref.go:83", after := #[{ on := 7, ground := Ground.data }, { on := 9, ground := Ground.data }], guard := none }) (v := ?_) rfl (by kernel_rfl) (by kernel_rfl) (by kernel_rfl) (fun _ _ _ h => h) (Or.inl ⟨by rfl, ?_⟩) hH ?_
                rotate_left
                · intro w hSw; (try dsimp only at hSw); go_simp <;> with_reducible rfl
                try simp only [Act.put, List.setIfInBounds_toArray, List.set_cons_zero, List.set_cons_succ]
                refine wpAnyH_ready (rs := [5]) (by kernel_rfl) (by simp) ?_
                refine AllReadyH.cons (o := { dst := some 54, op := Op.call { callee := Callee.builtin Builtin.append, args := #[Operand.tmp 49, Operand.tmp 53], argTypes := #[30, 30] }, type := 30, pos := "ref.go:83", after := #[{ on := 0, ground := Ground.data }, { on := 4, ground := Ground.data }], guard := none }) rfl (fun K hK => ?_) AllReadyH.nil
                have qz1 := HZ1.out
                have qz2 := HZ2.out
                have qz3 := HZ3.out
                have hle3 := HN3.out.size
                have hlE : w9.heap.size ≤ w9.heap.size := by omega
                go_must (refine step_append_any _ (by rfl) _ _ _ (by rfl) w9.heap.size 79 i0 _ 9 104 Try.underlying30 hi0 hz0 hz1 hz2 rfl (by omega) (.slice (some ⟨w9.heap.size, 0, none⟩) 0 0) 0 [] (by rfl) (by exact HE3.out) w9.heap.size (some ⟨gp, 0, none⟩) j k ((A.take j).flatMap encP) (by rfl) (by exact HRU.out.fr HN3.out (Nat.le_refl _) (fun _ _ e => e)) (flatP_one _) (by unfold maxLen; omega) (by omega) (by omega) ?_)
                intro v1 x4 hown hgrow hat
                have f3' : Fr (fun q => q = w9.heap.size) x3 x4 := (Fr.refl _ x3).grown hgrow (fun q e _ => by simp [Value.ownBlock] at e; omega)
                have HZ4 := hid (show x3.heap.size ≤ x4.heap.size from f3'.size)
                have HN4 := hid (HN3.out.trans f3' (fun _ h => h) (fun i hi h => by omega))
                have HR4 := hid (show x4.ownsRow w9.heap.size 79 9 v1 (j) ((A.take j).flatMap encP) by rw [Nat.zero_add, List.nil_append] at hown; exact hown)
                clear f3' hown hgrow hat hlE hle3 qz1 qz2 qz3
                refine hK.out _ _ ?_ (fun hH => ?_)
                · exact HN4.out.mono (fun _ _ e => e.elim)
                clear hK K
                try simp only [Act.put, List.setIfInBounds_toArray, List.set_cons_zero, List.set_cons_succ]
                refine wpAnyH_ready (rs := [11]) (by kernel_rfl) (by simp) ?_
                refine AllReadyH.cons (o := { dst := some 60, op := Op.call { callee := Callee.builtin Builtin.append, args := #[Operand.tmp 54, Operand.tmp 59], argTypes := #[30, 30] }, type := 30, pos := "ref.go:83", after := #[{ on := 5, ground := Ground.data }, { on := 10, ground := Ground.data }, { on := 5, ground := Ground.chain }], guard := none }) rfl (fun K hK => ?_) AllReadyH.nil
                have hle4 := HN4.out.size
                have qz1 := HZ1.out
                have qz2 := HZ2.out
                have qz3 := HZ3.out
                have qz4 := HZ4.out
                go_must (refine step_append_any _ (by rfl) _ _ _ (by rfl) w9.heap.size 79 i0 _ 9 104 Try.underlying30 hi0 hz0 hz1 hz2 rfl (by omega) v1 (j) _ (by rfl) (by exact HR4.out) w9.heap.size A2 (A.length - (j + 1)) (k - (j + 1)) ((A.drop (j + 1)).flatMap encP) (by rfl) (by exact HRF.out.fr HN4.out (Nat.le_refl _) (fun _ _ e => e)) (flatP_one _) (by unfold maxLen; omega) (by omega) (by omega) ?_)
                intro v2 x5 hown hgrow hat
                have f4' : Fr (fun q => w9.heap.size ≤ q) x4 x5 := (Fr.refl _ x4).grown hgrow (fun q e _ => (HR4.out.lt q e).1)
                have HN5 := hid (HN4.out.trans f4' (fun _ h => h) (fun i hi h => by omega))
                have HOW := hid hown
                clear f4' hown hgrow hat hle4 qz1 qz2 qz3 qz4
                refine hK.out _ _ ?_ (fun hH => ?_)
                · exact HN5.out.mono (fun _ _ e => e.elim)
                clear hK K
                try simp only [Act.put, List.setIfInBounds_toArray, List.set_cons_zero, List.set_cons_succ]
                refine wpAnyH_take (i := 12) (oi := { dst := some 61, op := Op.fieldAddr 32 (Operand.tmp 3) 2, type := 0, pos := "ref.go:83", after := #[{ on := 0, ground := Ground.phase }, { on := 1, ground := Ground.phase }, { on := 2, ground := Ground.phase }, { on := 3, ground := Ground.phase }, { on := 4, ground := Ground.phase }, { on := 5, ground := Ground.phase }, { on := 6, ground := Ground.phase }, { on := 7, ground := Ground.phase }, { on := 8, ground := Ground.phase }, { on := 9, ground := Ground.phase }, { on := 10, ground := Ground.phase }, { on := 11, ground := Ground.phase }], guard := none }) (v := ?_) rfl (by kernel_rfl) (by kernel_rfl) (by kernel_rfl) (fun _ _ _ h => h) (Or.inl ⟨by rfl, ?_⟩) hH ?_
                rotate_left
                · intro w hSw; (try dsimp only at hSw); go_simp <;> with_reducible rfl
                try simp only [Act.put, List.setIfInBounds_toArray, List.set_cons_zero, List.set_cons_succ]
                refine wpAnyH_ready (rs := [13]) (by kernel_rfl) (by simp) ?_
                refine AllReadyH.cons (o := { dst := none, op := Op.store 30 (Operand.tmp 61) (Operand.tmp 60), type := 0, pos := "ref.go:83", after := #[{ on := 12, ground := Ground.data }, { on := 11, ground := Ground.data }, { on := 11, ground := Ground.chain }, { on := 0, ground := Ground.phase }, { on := 1, ground := Ground.phase }, { on := 2, ground := Ground.phase }, { on := 3, ground := Ground.phase }, { on := 4, ground := Ground.phase }, { on := 5, ground := Ground.phase }, { on := 6, ground := Ground.phase }, { on := 7, ground := Ground.phase }, { on := 8, ground := Ground.phase }, { on := 9, ground := Ground.phase }, { on := 10, ground := Ground.phase }, { on := 11, ground := Ground.phase }], guard := none }) rfl (fun K hK => ?_) AllReadyH.nil
                obtain ⟨s2, cs2, rfl, _⟩ := owns_view HOW.out
                have e2 := HN5.out.cell e20 (fun e => e)
                have f2 := free_of (HN5.out.heap HX3.out (fun e => e)) 2
                go_simp
                refine hK.out _ _ ?_ (fun hH => ?_)
                · exact (HN5.out.mono (S' := fun q => q = p) (fun _ _ e => e.elim)).setCell (p := ⟨p, 2, none⟩) (fun _ => rfl) _
                clear hK K
                refine wpAnyH_done (by kernel_rfl) ?_ _
                have HXN := hid (heap_set (i := 2) (HN5.out.heap HX3.out (fun e => e)) (.slice s2 (j + (A.length - (j + 1))) cs2))
                have hgp : ∀ i, (Value.slice s2 (j + (A.length - (j + 1))) cs2).ownBlock = some i → w9.heap.size ≤ i := fun i e => (HOW.out.lt i e).1
                have HGP := hid hgp
                have own2 := Go.ownsRow_setCell_other HOW.out (a := ⟨p, 2, none⟩) (fun e => by have h1 := HGP.out _ e; have h2 := HPY.out; have h3 := HYZ.out; simp only at h1; omega) (.slice s2 (j + (A.length - (j + 1))) cs2)
                have HO2 := hid own2
                have HF9 := hid hH
                clear own2 hH e2 f2 e20 hgp
                generalize hw5 : World.setCell _ _ _ = w5 at *
                clear hw5
                have hxn : w5.heap[p]? = some (.cells (encR W cap s2 (j + (A.length - (j + 1))) cs2).toArray 32 (0, 0)) := HXN.out
                have hyp : ¬ y = p := by have := HPY.out; omega
                have hy1 : ¬ (y = p + 1 ∨ y = p + 1 + 1) := by have := HPZ.out; omega
                have H6 := hid (HF9.out.heap (HG2.out.heap H6.out (fun e => e)) (by omega))
                have H7 := hid (HF9.out.heap (HG2.out.heap H7.out (fun e => e)) (by omega))
                have hnp : ¬ (p = p + 1 ∨ p = p + 1 + 1) := by omega
                have p0 : ∀ w', Fr (fun q => q = p + 1 ∨ q = p + 1 + 1) w5 w' → w'.cell? ⟨p, 0, none⟩ = some (.int .i64 W) := fun w' hf => hf.cell (cell_of hxn 0 rfl) hnp
                have p1 : ∀ w', Fr (fun q => q = p + 1 ∨ q = p + 1 + 1) w5 w' → w'.cell? ⟨p, 1, none⟩ = some (.int .i64 cap) := fun w' hf => hf.cell (cell_of hxn 1 rfl) hnp
                have p2 : ∀ w', Fr (fun q => q = p + 1 ∨ q = p + 1 + 1) w5 w' → w'.cell? ⟨p, 2, none⟩ = some (.slice s2 (j + (A.length - (j + 1))) cs2) := fun w' hf => hf.cell (cell_of hxn 2 rfl) hnp
                have lm : ∀ w', Fr (fun q => q = p + 1 ∨ q = p + 1 + 1) w5 w' → ld 47 (.pointer (some ⟨y, 0, none⟩)) w' = .ok (.value (msgV x.m)) w' := fun w' hf => ld_rmsg (MsgAt.of_block (hf.heap (HF9.out.heap HG1.out hyp) hy1))
                clear hxn
                go_upto_region 9 with fail
                refine wp_region_held_drew (S := (fun w' => Fr (fun q => q = p + 1 ∨ q = p + 1 + 1) w5 w')) (by kernel_rfl) ?_ (fun hH => ?_)
                · exact (Fr.refl (fun q => q = p + 1 ∨ q = p + 1 + 1) w5).drew
                refine wpAnyH_take (i := 0) (oi := { dst := some 62, op := Op.load 47 (Operand.tmp 10), type := 47, pos := "ref.go:84", after := #[], guard := none }) (v := ?_) rfl (by kernel_rfl) (by kernel_rfl) (by kernel_rfl) (fun _ _ _ h => h) (Or.inl ⟨by rfl, ?_⟩) hH ?_
                rotate_left
                · intro w hSw; (try dsimp only at hSw); go_simp <;> with_reducible rfl
                try simp only [Act.put, List.setIfInBounds_toArray, List.set_cons_zero, List.set_cons_succ]
                refine wpAnyH_take (i := 1) (oi := { dst := some 63, op := Op.load 32 (Operand.tmp 3), type := 32, pos := "ref.go:84", after := #[{ on := 2, ground := Ground.gcOnly Departure.lateStores }], guard := none }) (v := ?_) rfl (by kernel_rfl) (by kernel_rfl) (by kernel_rfl) (fun _ _ _ h => h) (Or.inl ⟨by rfl, ?_⟩) hH ?_
                rotate_left
                · intro w hSw; (try dsimp only at hSw); go_simp <;> with_reducible rfl
                try simp only [Act.put, List.setIfInBounds_toArray, List.set_cons_zero, List.set_cons_succ]
                refine wpAnyH_ready (rs := [2]) (by kernel_rfl) (by simp) ?_
                refine AllReadyH.cons (o := { dst := none, op := Op.store 47 (Operand.tmp 6) (Operand.tmp 62), type := 0, pos := "ref.go:84", after := #[{ on := 0, ground := Ground.data }, { on := 0, ground := Ground.phase }, { on := 1, ground := Ground.textOnly Departure.lateStores }], guard := none }) rfl (fun K hK => ?_) AllReadyH.nil
                have TS : ∀ m, st 47 (.pointer (some ⟨p + 1, 0, none⟩)) (msgV x.m) (World.drewN w5 m) = .ok .skip (World.setCells (World.drewN w5 m) (p + 1) 0 (encM (x.m))) := fun m => st_rmsg (x.m) (there_block (by exact H6.out))
                have TS0 : st 47 (.pointer (some ⟨p + 1, 0, none⟩)) (msgV x.m) (World.drew w5) = .ok .skip (World.setCells (World.drew w5) (p + 1) 0 (encM (x.m))) := st_rmsg (x.m) (there_block (by exact H6.out))
                go_simp
                clear TS TS0
                refine genw (K := K) (fun x1 hx => ?_)
                have f0 : Fr (fun q => q = p + 1) w5 x1 := by rw [hx]; exact Fr.setCells (S := fun q => q = p + 1) (b := p + 1) (fun _ => rfl) _ _ (by first | exact Fr.refl _ _ | exact (Fr.refl _ _).drewN _ | exact (Fr.refl _ _).drew)
                have H61 := hid (show x1.heap[p + 1]? = some (.cells (encM (x.m)).toArray _ (0, 0)) by rw [hx]; exact msg_over H6.out (x.m))
                have H71 := hid (f0.heap H7.out (by omega))
                clear f0
                refine hK.out _ _ ?_ (fun hH => ?_)
                · rw [hx]; exact Fr.setCells (S := (fun q => q = p + 1 ∨ q = p + 1 + 1)) (b := p + 1) (fun _ => .inl rfl) _ _ hH
                clear hK K
                refine wpAnyH_ready (rs := [3]) (by kernel_rfl) (by simp) ?_
                refine AllReadyH.cons (o := { dst := none, op := Op.store 32 (Operand.tmp 7) (Operand.tmp 63), type := 0, pos := "ref.go:84", after := #[{ on := 1, ground := Ground.data }, { on := 2, ground := Ground.chain }, { on := 0, ground := Ground.phase }, { on := 1, ground := Ground.phase }, { on := 2, ground := Ground.phase }], guard := none }) rfl (fun K hK => ?_) AllReadyH.nil
                clear hx
                have TS : st 32 (.pointer (some ⟨p + 1 + 1, 0, none⟩)) (.agg #[.int .i64 W, .int .i64 cap, .slice (s2) (j + (A.length - (j + 1))) (cs2)]) x1 = .ok .skip (World.setCells x1 (p + 1 + 1) 0 (encR W cap (s2) (j + (A.length - (j + 1))) (cs2))) := st_rm W cap (s2) (j + (A.length - (j + 1))) (cs2) (there_rm (by exact H71.out))
                go_simp
                clear TS
                refine genw (K := K) (fun x2 hx => ?_)
                have f1 : Fr (fun q => q = p + 1 + 1) x1 x2 := by rw [hx]; exact Fr.setCells (S := fun q => q = p + 1 + 1) (b := p + 1 + 1) (fun _ => rfl) _ _ (by first | exact Fr.refl _ _ | exact (Fr.refl _ _).drewN _ | exact (Fr.refl _ _).drew)
                have H72 := hid (show x2.heap[p + 1 + 1]? = some (.cells (encR W cap (s2) (j + (A.length - (j + 1))) (cs2)).toArray _ (0, 0)) by rw [hx]; exact encR_put (W' := W) (c' := cap) (s' := s2) (n' := j + (A.length - (j + 1))) (k' := cs2) H71.out)
                have H62 := hid (f1.heap H61.out (by omega))
                clear f1
                refine hK.out _ _ ?_ (fun hH => ?_)
                · rw [hx]; exact Fr.setCells (S := (fun q => q = p + 1 ∨ q = p + 1 + 1)) (b := p + 1 + 1) (fun _ => .inr rfl) _ _ hH
                clear hK K
                refine wpAnyH_take (i := 4) (oi := { dst := some 8, op := Op.assign (Operand.const (Value.int IntKind.i64 0)), type := 3, pos := "ref.go:84", after := #[{ on := 3, ground := Ground.chain }, { on := 0, ground := Ground.phase }, { on := 1, ground := Ground.phase }, { on := 2, ground := Ground.phase }, { on := 3, ground := Ground.phase }], guard := none }) (v := ?_) rfl (by kernel_rfl) (by kernel_rfl) (by kernel_rfl) (fun _ _ _ h => h) (Or.inl ⟨by rfl, ?_⟩) hH ?_
                rotate_left
                · intro w hSw; (try dsimp only at hSw); go_simp <;> with_reducible rfl
                try simp only [Act.put, List.setIfInBounds_toArray, List.set_cons_zero, List.set_cons_succ]
                refine wpAnyH_done (by kernel_rfl) ?_ _
                clear p0 p1 p2 hx lm
                go_wp2
                refine bodyPost_ret (v := .tuple #[msgV x.m, rmV W cap (.slice s2 (j + (A.length - (j + 1))) cs2), .int .i64 0]) (results_trio Try.results10 _ _ (by rfl) (by rfl) (MsgAt.of_block H62.out) (rm_var H72.out) (by rfl)) rfl ⟨?_, .inr (.inr ⟨HTX.out, j, x, HX.out, HE12.out.1, HE12.out.2, HNJ.out, s2, _, cs2, rfl, ?_, fun i e => ?_⟩)⟩
                · have hz := HZ.out
                  have hp := HP.out
                  refine ((((HF.out.trans' HB.out).trans' HG2.out).trans HF9.out (fun _ h => h) (fun i hi e => by omega))).trans hH (fun _ h => h) (fun i hi e => by omega)
                · refine RowA.fr (w := w5) ⟨w9.heap.size, ?_⟩ hH (fun i e h => ?_)
                  · have h := HO2.out
                    rw [← List.flatMap_append] at h
                    have hl : (A.take j ++ A.drop (j + 1)).length = j + (A.length - (j + 1)) := by rw [List.length_append, List.length_take, List.length_drop]; omega
                    rw [hl]
                    exact h
                  · have := HGP.out i e
                    have := HPZ.out
                    have := HYZ.out
                    omega
                · have := HGP.out i e
                  have := HP.out
                  have := HPY.out
                  have := HYZ.out
                  omega
              refine AllReadyH.cons (o := { dst := some 56, op := Op.load 30 (Operand.tmp 55), type := 30, pos := "ref.go:83", after := #[{ on := 6, ground := Ground.data }], guard := none }) rfl (fun K hK => ?_) AllReadyH.nil
              have e2 := HN1.out.cell e20 (fun e => e)
              go_simp
              clear e2
              refine genw (K := K) (fun x2 hx => ?_)
              have f1' : Fr (fun _ => False) x1 x2 := by rw [hx]; exact ⟨rfl, rfl, rfl, Nat.le_refl _, fun _ _ _ => rfl⟩
              have HZ2 := hid (show x2.heap.size = x1.heap.size by rw [hx]; try rfl)
              have HN2 := hid (HN1.out.trans' f1')
              have HE2 := hid (Fr.owns f1' HE1.out (fun _ _ e => e))
              clear f1' hx
              refine hK.out _ _ ?_ (fun hH => ?_)
              · exact HN2.out.mono (fun _ _ e => e.elim)
              clear hK K
              try simp only [Act.put, List.setIfInBounds_toArray, List.set_cons_zero, List.set_cons_succ]
              refine wpAnyH_take (i := 10) (oi := { dst := some 59, op := Op.slice 30 (Operand.tmp 56) (some (Operand.tmp 58)) none none, type := 30, pos := "ref.go:83", after := #[{ on := 7, ground := Ground.data }, { on := 9, ground := Ground.data }], guard := none }) (v := ?_) rfl (by kernel_rfl) (by kernel_rfl) (by kernel_rfl) (fun _ _ _ h => h) (Or.inl ⟨by rfl, ?_⟩) hH ?_
              rotate_left
              · intro w hSw; (try dsimp only at hSw); go_simp <;> with_reducible rfl
              try simp only [Act.put, List.setIfInBounds_toArray, List.set_cons_zero, List.set_cons_succ]
              refine wpAnyH_ready (rs := [2]) (by kernel_rfl) (by simp) ?_
              refine AllReadyH.cons (o := { dst := some 51, op := Op.load 30 (Operand.tmp 50), type := 30, pos := "ref.go:83", after := #[{ on := 1, ground := Ground.data }], guard := none }) rfl (fun K hK => ?_) AllReadyH.nil
              have e2 := HN2.out.cell e20 (fun e => e)
              go_simp
              clear e2
              refine genw (K := K) (fun x3 hx => ?_)
              have f2' : Fr (fun _ => False) x2 x3 := by rw [hx]; exact ⟨rfl, rfl, rfl, Nat.le_refl _, fun _ _ _ => rfl⟩
              have HZ3 := hid (show x3.heap.size = x2.heap.size by rw [hx]; try rfl)
              have HN3 := hid (HN2.out.trans' f2')
              have HE3 := hid (Fr.owns f2' HE2.out (fun _ _ e => e))
              clear f2' hx
              refine hK.out _ _ ?_ (fun hH => ?_)
              · exact HN3.out.mono (fun _ _ e => e.elim)
              clear hK K
              try simp only [Act.put, List.setIfInBounds_toArray, List.set_cons_zero, List.set_cons_succ]
              refine wpAnyH_take (i := 4) (oi := { dst := some 53, op := Op.slice 30 (Operand.tmp 51) none (some (Operand.tmp 52)) none, type := 30, pos := "ref.go:83", after := #[{ on := 2, ground := Ground.data }, { on := 3, ground := Ground.data }], guard := none }) (v := ?_) rfl (by kernel_rfl) (by kernel_rfl) (by kernel_rfl) (fun _ _ _ h => h) (Or.inl ⟨by rfl, ?_⟩) hH ?_
              rotate_left
              · intro w hSw; (try dsimp only at hSw); go_simp <;> with_reducible rfl
              try simp only [Act.put, List.setIfInBounds_toArray, List.set_cons_zero, List.set_cons_succ]
              refine wpAnyH_ready (rs := [5]) (by kernel_rfl) (by simp) ?_
              refine AllReadyH.cons (o := { dst := some 54, op := Op.call { callee := Callee.builtin Builtin.append, args := #[Operand.tmp 49, Operand.tmp 53], argTypes := #[30, 30] }, type := 30, pos := "ref.go:83", after := #[{ on := 0, ground := Ground.data }, { on := 4, ground := Ground.data }], guard := none }) rfl (fun K hK => ?_) AllReadyH.nil
              have qz1 := HZ1.out
              have qz2 := HZ2.out
              have qz3 := HZ3.out
              have hle3 := HN3.out.size
              have hlE : w9.heap.size ≤ w9.heap.size := by omega
              go_must (refine step_append_any _ (by rfl) _ _ _ (by rfl) w9.heap.size 79 i0 _ 9 104 Try.underlying30 hi0 hz0 hz1 hz2 rfl (by omega) (.slice (some ⟨w9.heap.size, 0, none⟩) 0 0) 0 [] (by rfl) (by exact HE3.out) w9.heap.size (some ⟨gp, 0, none⟩) j k ((A.take j).flatMap encP) (by rfl) (by exact HRU.out.fr HN3.out (Nat.le_refl _) (fun _ _ e => e)) (flatP_one _) (by unfold maxLen; omega) (by omega) (by omega) ?_)
              intro v1 x4 hown hgrow hat
              have f3' : Fr (fun q => q = w9.heap.size) x3 x4 := (Fr.refl _ x3).grown hgrow (fun q e _ => by simp [Value.ownBlock] at e; omega)
              have HZ4 := hid (show x3.heap.size ≤ x4.heap.size from f3'.size)
              have HN4 := hid (HN3.out.trans f3' (fun _ h => h) (fun i hi h => by omega))
              have HR4 := hid (show x4.ownsRow w9.heap.size 79 9 v1 (j) ((A.take j).flatMap encP) by rw [Nat.zero_add, List.nil_append] at hown; exact hown)
              clear f3' hown hgrow hat hlE hle3 qz1 qz2 qz3
              refine hK.out _ _ ?_ (fun hH => ?_)
              · exact HN4.out.mono (fun _ _ e => e.elim)
              clear hK K
              try simp only [Act.put, List.setIfInBounds_toArray, List.set_cons_zero, List.set_cons_succ]
              refine wpAnyH_ready (rs := [11]) (by kernel_rfl) (by simp) ?_
              refine AllReadyH.cons (o := { dst := some 60, op := Op.call { callee := Callee.builtin Builtin.append, args := #[Operand.tmp 54, Operand.tmp 59], argTypes := #[30, 30] }, type := 30, pos := "ref.go:83", after := #[{ on := 5, ground := Ground.data }, { on := 10, ground := Ground.data }, { on := 5, ground := Ground.chain }], guard := none }) rfl (fun K hK => ?_) AllReadyH.nil
              have hle4 := HN4.out.size
              have qz1 := HZ1.out
              have qz2 := HZ2.out
              have qz3 := HZ3.out
              have qz4 := HZ4.out
              go_must (refine step_append_any _ (by rfl) _ _ _ (by rfl) w9.heap.size 79 i0 _ 9 104 Try.underlying30 hi0 hz0 hz1 hz2 rfl (by omega) v1 (j) _ (by rfl) (by exact HR4.out) w9.heap.size A2 (A.length - (j + 1)) (k - (j + 1)) ((A.drop (j + 1)).flatMap encP) (by rfl) (by exact HRF.out.fr HN4.out (Nat.le_refl _) (fun _ _ e => e)) (flatP_one _) (by unfold maxLen; omega) (by omega) (by omega) ?_)
              intro v2 x5 hown hgrow hat
              have f4' : Fr (fun q => w9.heap.size ≤ q) x4 x5 := (Fr.refl _ x4).grown hgrow (fun q e _ => (HR4.out.lt q e).1)
              have HN5 := hid (HN4.out.trans f4' (fun _ h => h) (fun i hi h => by omega))
              have HOW := hid hown
              clear f4' hown hgrow hat hle4 qz1 qz2 qz3 qz4
              refine hK.out _ _ ?_ (fun hH => ?_)
              · exact HN5.out.mono (fun _ _ e => e.elim)
              clear hK K
              try simp only [Act.put, List.setIfInBounds_toArray, List.set_cons_zero, List.set_cons_succ]
              refine wpAnyH_take (i := 12) (oi := { dst := some 61, op := Op.fieldAddr 32 (Operand.tmp 3) 2, type := 0, pos := "ref.go:83", after := #[{ on := 0, ground := Ground.phase }, { on := 1, ground := Ground.phase }, { on := 2, ground := Ground.phase }, { on := 3, ground := Ground.phase }, { on := 4, ground := Ground.phase }, { on := 5, ground := Ground.phase }, { on := 6, ground := Ground.phase }, { on := 7, ground := Ground.phase }, { on := 8, ground := Ground.phase }, { on := 9, ground := Ground.phase }, { on := 10, ground := Ground.phase }, { on := 11, ground := Ground.phase }], guard := none }) (v := ?_) rfl (by kernel_rfl) (by kernel_rfl) (by kernel_rfl) (fun _ _ _ h => h) (Or.inl ⟨by rfl, ?_⟩) hH ?_
              rotate_left
              · intro w hSw; (try dsimp only at hSw); go_simp <;> with_reducible rfl
              try simp only [Act.put, List.setIfInBounds_toArray, List.set_cons_zero, List.set_cons_succ]
              refine wpAnyH_ready (rs := [13]) (by kernel_rfl) (by simp) ?_
              refine AllReadyH.cons (o := { dst := none, op := Op.store 30 (Operand.tmp 61) (Operand.tmp 60), type := 0, pos := "ref.go:83", after := #[{ on := 12, ground := Ground.data }, { on := 11, ground := Ground.data }, { on := 11, ground := Ground.chain }, { on := 0, ground := Ground.phase }, { on := 1, ground := Ground.phase }, { on := 2, ground := Ground.phase }, { on := 3, ground := Ground.phase }, { on := 4, ground := Ground.phase }, { on := 5, ground := Ground.phase }, { on := 6, ground := Ground.phase }, { on := 7, ground := Ground.phase }, { on := 8, ground := Ground.phase }, { on := 9, ground := Ground.phase }, { on := 10, ground := Ground.phase }, { on := 11, ground := Ground.phase }], guard := none }) rfl (fun K hK => ?_) AllReadyH.nil
              obtain ⟨s2, cs2, rfl, _⟩ := owns_view HOW.out
              have e2 := HN5.out.cell e20 (fun e => e)
              have f2 := free_of (HN5.out.heap HX3.out (fun e => e)) 2
              go_simp
              refine hK.out _ _ ?_ (fun hH => ?_)
              · exact (HN5.out.mono (S' := fun q => q = p) (fun _ _ e => e.elim)).setCell (p := ⟨p, 2, none⟩) (fun _ => rfl) _
              clear hK K
              refine wpAnyH_done (by kernel_rfl) ?_ _
              have HXN := hid (heap_set (i := 2) (HN5.out.heap HX3.out (fun e => e)) (.slice s2 (j + (A.length - (j + 1))) cs2))
              have hgp : ∀ i, (Value.slice s2 (j + (A.length - (j + 1))) cs2).ownBlock = some i → w9.heap.size ≤ i := fun i e => (HOW.out.lt i e).1
              have HGP := hid hgp
              have own2 := Go.ownsRow_setCell_other HOW.out (a := ⟨p, 2, none⟩) (fun e => by have h1 := HGP.out _ e; have h2 := HPY.out; have h3 := HYZ.out; simp only at h1; omega) (.slice s2 (j + (A.length - (j + 1))) cs2)
              have HO2 := hid own2
              have HF9 := hid hH
              clear own2 hH e2 f2 e20 hgp
              generalize hw5 : World.setCell _ _ _ = w5 at *
              clear hw5
              have hxn : w5.heap[p]? = some (.cells (encR W cap s2 (j + (A.length - (j + 1))) cs2).toArray 32 (0, 0)) := HXN.out
              have hyp : ¬ y = p := by have := HPY.out; omega
              have hy1 : ¬ (y = p + 1 ∨ y = p + 1 + 1) := by have := HPZ.out; omega
              have H6 := hid (HF9.out.heap (HG2.out.heap H6.out (fun e => e)) (by omega))
              have H7 := hid (HF9.out.heap (HG2.out.heap H7.out (fun e => e)) (by omega))
              have hnp : ¬ (p = p + 1 ∨ p = p + 1 + 1) := by omega
              have p0 : ∀ w', Fr (fun q => q = p + 1 ∨ q = p + 1 + 1) w5 w' → w'.cell? ⟨p, 0, none⟩ = some (.int .i64 W) := fun w' hf => hf.cell (cell_of hxn 0 rfl) hnp
              have p1 : ∀ w', Fr (fun q => q = p + 1 ∨ q = p + 1 + 1) w5 w' → w'.cell? ⟨p, 1, none⟩ = some (.int .i64 cap) := fun w' hf => hf.cell (cell_of hxn 1 rfl) hnp
              have p2 : ∀ w', Fr (fun q => q = p + 1 ∨ q = p + 1 + 1) w5 w' → w'.cell? ⟨p, 2, none⟩ = some (.slice s2 (j + (A.length - (j + 1))) cs2) := fun w' hf => hf.cell (cell_of hxn 2 rfl) hnp
              have lm : ∀ w', Fr (fun q => q = p + 1 ∨ q = p + 1 + 1) w5 w' → ld 47 (.pointer (some ⟨y, 0, none⟩)) w' = .ok (.value (msgV x.m)) w' := fun w' hf => ld_rmsg (MsgAt.of_block (hf.heap (HF9.out.heap HG1.out hyp) hy1))
              clear hxn
              go_upto_region 9 with fail
              refine wp_region_held_drew (S := (fun w' => Fr (fun q => q = p + 1 ∨ q = p + 1 + 1) w5 w')) (by kernel_rfl) ?_ (fun hH => ?_)
              · exact (Fr.refl (fun q => q = p + 1 ∨ q = p + 1 + 1) w5).drew
              refine wpAnyH_take (i := 0) (oi := { dst := some 62, op := Op.load 47 (Operand.tmp 10), type := 47, pos := "ref.go:84", after := #[], guard := none }) (v := ?_) rfl (by kernel_rfl) (by kernel_rfl) (by kernel_rfl) (fun _ _ _ h => h) (Or.inl ⟨by rfl, ?_⟩) hH ?_
              rotate_left
              · intro w hSw; (try dsimp only at hSw); go_simp <;> with_reducible rfl
              try simp only [Act.put, List.setIfInBounds_toArray, List.set_cons_zero, List.set_cons_succ]
              refine wpAnyH_take (i := 1) (oi := { dst := some 63, op := Op.load 32 (Operand.tmp 3), type := 32, pos := "ref.go:84", after := #[{ on := 2, ground := Ground.gcOnly Departure.lateStores }], guard := none }) (v := ?_) rfl (by kernel_rfl) (by kernel_rfl) (by kernel_rfl) (fun _ _ _ h => h) (Or.inl ⟨by rfl, ?_⟩) hH ?_
              rotate_left
              · intro w hSw; (try dsimp only at hSw); go_simp <;> with_reducible rfl
              try simp only [Act.put, List.setIfInBounds_toArray, List.set_cons_zero, List.set_cons_succ]
              refine wpAnyH_ready (rs := [2]) (by kernel_rfl) (by simp) ?_
              refine AllReadyH.cons (o := { dst := none, op := Op.store 47 (Operand.tmp 6) (Operand.tmp 62), type := 0, pos := "ref.go:84", after := #[{ on := 0, ground := Ground.data }, { on := 0, ground := Ground.phase }, { on := 1, ground := Ground.textOnly Departure.lateStores }], guard := none }) rfl (fun K hK => ?_) AllReadyH.nil
              have TS : ∀ m, st 47 (.pointer (some ⟨p + 1, 0, none⟩)) (msgV x.m) (World.drewN w5 m) = .ok .skip (World.setCells (World.drewN w5 m) (p + 1) 0 (encM (x.m))) := fun m => st_rmsg (x.m) (there_block (by exact H6.out))
              have TS0 : st 47 (.pointer (some ⟨p + 1, 0, none⟩)) (msgV x.m) (World.drew w5) = .ok .skip (World.setCells (World.drew w5) (p + 1) 0 (encM (x.m))) := st_rmsg (x.m) (there_block (by exact H6.out))
              go_simp
              clear TS TS0
              refine genw (K := K) (fun x1 hx => ?_)
              have f0 : Fr (fun q => q = p + 1) w5 x1 := by rw [hx]; exact Fr.setCells (S := fun q => q = p + 1) (b := p + 1) (fun _ => rfl) _ _ (by first | exact Fr.refl _ _ | exact (Fr.refl _ _).drewN _ | exact (Fr.refl _ _).drew)
              have H61 := hid (show x1.heap[p + 1]? = some (.cells (encM (x.m)).toArray _ (0, 0)) by rw [hx]; exact msg_over H6.out (x.m))
              have H71 := hid (f0.heap H7.out (by omega))
              clear f0
              refine hK.out _ _ ?_ (fun hH => ?_)
              · rw [hx]; exact Fr.setCells (S := (fun q => q = p + 1 ∨ q = p + 1 + 1)) (b := p + 1) (fun _ => .inl rfl) _ _ hH
              clear hK K
              refine wpAnyH_ready (rs := [3]) (by kernel_rfl) (by simp) ?_
              refine AllReadyH.cons (o := { dst := none, op := Op.store 32 (Operand.tmp 7) (Operand.tmp 63), type := 0, pos := "ref.go:84", after := #[{ on := 1, ground := Ground.data }, { on := 2, ground := Ground.chain }, { on := 0, ground := Ground.phase }, { on := 1, ground := Ground.phase }, { on := 2, ground := Ground.phase }], guard := none }) rfl (fun K hK => ?_) AllReadyH.nil
              clear hx
              have TS : st 32 (.pointer (some ⟨p + 1 + 1, 0, none⟩)) (.agg #[.int .i64 W, .int .i64 cap, .slice (s2) (j + (A.length - (j + 1))) (cs2)]) x1 = .ok .skip (World.setCells x1 (p + 1 + 1) 0 (encR W cap (s2) (j + (A.length - (j + 1))) (cs2))) := st_rm W cap (s2) (j + (A.length - (j + 1))) (cs2) (there_rm (by exact H71.out))
              go_simp
              clear TS
              refine genw (K := K) (fun x2 hx => ?_)
              have f1 : Fr (fun q => q = p + 1 + 1) x1 x2 := by rw [hx]; exact Fr.setCells (S := fun q => q = p + 1 + 1) (b := p + 1 + 1) (fun _ => rfl) _ _ (by first | exact Fr.refl _ _ | exact (Fr.refl _ _).drewN _ | exact (Fr.refl _ _).drew)
              have H72 := hid (show x2.heap[p + 1 + 1]? = some (.cells (encR W cap (s2) (j + (A.length - (j + 1))) (cs2)).toArray _ (0, 0)) by rw [hx]; exact encR_put (W' := W) (c' := cap) (s' := s2) (n' := j + (A.length - (j + 1))) (k' := cs2) H71.out)
              have H62 := hid (f1.heap H61.out (by omega))
              clear f1
              refine hK.out _ _ ?_ (fun hH => ?_)
              · rw [hx]; exact Fr.setCells (S := (fun q => q = p + 1 ∨ q = p + 1 + 1)) (b := p + 1 + 1) (fun _ => .inr rfl) _ _ hH
              clear hK K
              refine wpAnyH_take (i := 4) (oi := { dst := some 8, op := Op.assign (Operand.const (Value.int IntKind.i64 0)), type := 3, pos := "ref.go:84", after := #[{ on := 3, ground := Ground.chain }, { on := 0, ground := Ground.phase }, { on := 1, ground := Ground.phase }, { on := 2, ground := Ground.phase }, { on := 3, ground := Ground.phase }], guard := none }) (v := ?_) rfl (by kernel_rfl) (by kernel_rfl) (by kernel_rfl) (fun _ _ _ h => h) (Or.inl ⟨by rfl, ?_⟩) hH ?_
              rotate_left
              · intro w hSw; (try dsimp only at hSw); go_simp <;> with_reducible rfl
              try simp only [Act.put, List.setIfInBounds_toArray, List.set_cons_zero, List.set_cons_succ]
              refine wpAnyH_done (by kernel_rfl) ?_ _
              clear p0 p1 p2 hx lm
              go_wp2
              refine bodyPost_ret (v := .tuple #[msgV x.m, rmV W cap (.slice s2 (j + (A.length - (j + 1))) cs2), .int .i64 0]) (results_trio Try.results10 _ _ (by rfl) (by rfl) (MsgAt.of_block H62.out) (rm_var H72.out) (by rfl)) rfl ⟨?_, .inr (.inr ⟨HTX.out, j, x, HX.out, HE12.out.1, HE12.out.2, HNJ.out, s2, _, cs2, rfl, ?_, fun i e => ?_⟩)⟩
              · have hz := HZ.out
                have hp := HP.out
                refine ((((HF.out.trans' HB.out).trans' HG2.out).trans HF9.out (fun _ h => h) (fun i hi e => by omega))).trans hH (fun _ h => h) (fun i hi e => by omega)
              · refine RowA.fr (w := w5) ⟨w9.heap.size, ?_⟩ hH (fun i e h => ?_)
                · have h := HO2.out
                  rw [← List.flatMap_append] at h
                  have hl : (A.take j ++ A.drop (j + 1)).length = j + (A.length - (j + 1)) := by rw [List.length_append, List.length_take, List.length_drop]; omega
                  rw [hl]
                  exact h
                · have := HGP.out i e
                  have := HPZ.out
                  have := HYZ.out
                  omega
              · have := HGP.out i e
                have := HP.out
                have := HPY.out
                have := HYZ.out
                omega
            refine AllReadyH.cons (o := { dst := some 51, op := Op.load 30 (Operand.tmp 50), type := 30, pos := "ref.go:83", after := #[{ on := 1, ground := Ground.data }], guard := none }) rfl (fun K hK => ?_) ?_
            ·
              have e2 := HN0.out.cell e20 (fun e => e)
              go_simp
              clear e2
              refine genw (K := K) (fun x1 hx => ?_)
              have f0' : Fr (fun _ => False) w9 x1 := by rw [hx]; exact ⟨rfl, rfl, rfl, Nat.le_refl _, fun _ _ _ => rfl⟩
              have HZ1 := hid (show x1.heap.size = w9.heap.size by rw [hx]; try rfl)
              have HN1 := hid (HN0.out.trans' f0')
              clear f0' hx
              refine hK.out _ _ ?_ (fun hH => ?_)
              · exact HN1.out.mono (fun _ _ e => e.elim)
              clear hK K
              try simp only [Act.put, List.setIfInBounds_toArray, List.set_cons_zero, List.set_cons_succ]
              refine wpAnyH_take (i := 4) (oi := { dst := some 53, op := Op.slice 30 (Operand.tmp 51) none (some (Operand.tmp 52)) none, type := 30, pos := "ref.go:83", after := #[{ on := 2, ground := Ground.data }, { on := 3, ground := Ground.data }], guard := none }) (v := ?_) rfl (by kernel_rfl) (by kernel_rfl) (by kernel_rfl) (fun _ _ _ h => h) (Or.inl ⟨by rfl, ?_⟩) hH ?_
              rotate_left
              · intro w hSw; (try dsimp only at hSw); go_simp <;> with_reducible rfl
              try simp only [Act.put, List.setIfInBounds_toArray, List.set_cons_zero, List.set_cons_succ]
              refine wpAnyH_ready (rs := [0, 7]) (by kernel_rfl) (by simp) ?_
              refine AllReadyH.cons (o := { dst := some 49, op := Op.buildSlice 30 0 #[], type := 30, pos := "ref.go:83", after := #[], guard := none }) rfl (fun K hK => ?_) ?_
              ·
                go_simp
                refine genw (K := K) (fun x2 hx => ?_)
                have f1 : Fr (fun _ => False) (x1.alloc (.cells #[] 79)) x2 := by rw [hx]; exact ⟨rfl, rfl, rfl, Nat.le_refl _, fun _ _ _ => rfl⟩
                have f1' : Fr (fun _ => False) x1 x2 := ((Fr.refl _ x1).alloc _).trans' f1
                have HZ2 := hid (show x2.heap.size = x1.heap.size + 1 by rw [hx]; simp)
                have HN2 := hid (HN1.out.trans' f1')
                have hle1 := HN1.out.size
                have HE2 := hid (empty_own (B := w9.heap.size) (E := 79) (sz := 9) rfl f1 hle1 rfl)
                clear f1 f1' hx hle1
                refine hK.out _ _ ?_ (fun hH => ?_)
                · exact HN2.out.mono (fun _ _ e => e.elim)
                clear hK K
                try simp only [Act.put, List.setIfInBounds_toArray, List.set_cons_zero, List.set_cons_succ]
                refine wpAnyH_ready (rs := [5, 7]) (by kernel_rfl) (by simp) ?_
                refine AllReadyH.cons (o := { dst := some 54, op := Op.call { callee := Callee.builtin Builtin.append, args := #[Operand.tmp 49, Operand.tmp 53], argTypes := #[30, 30] }, type := 30, pos := "ref.go:83", after := #[{ on := 0, ground := Ground.data }, { on := 4, ground := Ground.data }], guard := none }) rfl (fun K hK => ?_) ?_
                ·
                  have qz1 := HZ1.out
                  have qz2 := HZ2.out
                  have hle2 := HN2.out.size
                  have hlE : w9.heap.size ≤ x1.heap.size := by omega
                  go_must (refine step_append_any _ (by rfl) _ _ _ (by rfl) w9.heap.size 79 i0 _ 9 104 Try.underlying30 hi0 hz0 hz1 hz2 rfl (by omega) (.slice (some ⟨x1.heap.size, 0, none⟩) 0 0) 0 [] (by rfl) (by exact HE2.out) w9.heap.size (some ⟨gp, 0, none⟩) j k ((A.take j).flatMap encP) (by rfl) (by exact HRU.out.fr HN2.out (Nat.le_refl _) (fun _ _ e => e)) (flatP_one _) (by unfold maxLen; omega) (by omega) (by omega) ?_)
                  intro v1 x3 hown hgrow hat
                  have f2' : Fr (fun q => q = x1.heap.size) x2 x3 := (Fr.refl _ x2).grown hgrow (fun q e _ => by simp [Value.ownBlock] at e; omega)
                  have HZ3 := hid (show x2.heap.size ≤ x3.heap.size from f2'.size)
                  have HN3 := hid (HN2.out.trans f2' (fun _ h => h) (fun i hi h => by omega))
                  have HR3 := hid (show x3.ownsRow w9.heap.size 79 9 v1 (j) ((A.take j).flatMap encP) by rw [Nat.zero_add, List.nil_append] at hown; exact hown)
                  clear f2' hown hgrow hat hlE hle2 qz1 qz2
                  refine hK.out _ _ ?_ (fun hH => ?_)
                  · exact HN3.out.mono (fun _ _ e => e.elim)
                  clear hK K
                  try simp only [Act.put, List.setIfInBounds_toArray, List.set_cons_zero, List.set_cons_succ]
                  refine wpAnyH_ready (rs := [7]) (by kernel_rfl) (by simp) ?_
                  refine AllReadyH.cons (o := { dst := some 56, op := Op.load 30 (Operand.tmp 55), type := 30, pos := "ref.go:83", after := #[{ on := 6, ground := Ground.data }], guard := none }) rfl (fun K hK => ?_) AllReadyH.nil
                  have e2 := HN3.out.cell e20 (fun e => e)
                  go_simp
                  clear e2
                  refine genw (K := K) (fun x4 hx => ?_)
                  have f3' : Fr (fun _ => False) x3 x4 := by rw [hx]; exact ⟨rfl, rfl, rfl, Nat.le_refl _, fun _ _ _ => rfl⟩
                  have HZ4 := hid (show x4.heap.size = x3.heap.size by rw [hx]; try rfl)
                  have HN4 := hid (HN3.out.trans' f3')
                  have HR4 := hid (Fr.owns f3' HR3.out (fun _ _ e => e))
                  clear f3' hx
                  refine hK.out _ _ ?_ (fun hH => ?_)
                  · exact HN4.out.mono (fun _ _ e => e.elim)
                  clear hK K
                  try simp only [Act.put, List.setIfInBounds_toArray, List.set_cons_zero, List.set_cons_succ]
                  refine wpAnyH_take (i := 10) (oi := { dst := some 59, op := Op.slice 30 (Operand.tmp 56) (some (Operand.tmp 58)) none none, type := 30, pos := "ref.go:83", after := #[{ on := 7, ground := Ground.data }, { on := 9, ground := Ground.data }], guard := none }) (v := ?_) rfl (by kernel_rfl) (by kernel_rfl) (by kernel_rfl) (fun _ _ _ h => h) (Or.inl ⟨by rfl, ?_⟩) hH ?_
                  rotate_left
                  · intro w hSw; (try dsimp only at hSw); go_simp <;> with_reducible rfl
                  try simp only [Act.put, List.setIfInBounds_toArray, List.set_cons_zero, List.set_cons_succ]
                  refine wpAnyH_ready (rs := [11]) (by kernel_rfl) (by simp) ?_
                  refine AllReadyH.cons (o := { dst := some 60, op := Op.call { callee := Callee.builtin Builtin.append, args := #[Operand.tmp 54, Operand.tmp 59], argTypes := #[30, 30] }, type := 30, pos := "ref.go:83", after := #[{ on := 5, ground := Ground.data }, { on := 10, ground := Ground.data }, { on := 5, ground := Ground.chain }], guard := none }) rfl (fun K hK => ?_) AllReadyH.nil
                  have hle4 := HN4.out.size
                  have qz1 := HZ1.out
                  have qz2 := HZ2.out
                  have qz3 := HZ3.out
                  have qz4 := HZ4.out
                  go_must (refine step_append_any _ (by rfl) _ _ _ (by rfl) w9.heap.size 79 i0 _ 9 104 Try.underlying30 hi0 hz0 hz1 hz2 rfl (by omega) v1 (j) _ (by rfl) (by exact HR4.out) w9.heap.size A2 (A.length - (j + 1)) (k - (j + 1)) ((A.drop (j + 1)).flatMap encP) (by rfl) (by exact HRF.out.fr HN4.out (Nat.le_refl _) (fun _ _ e => e)) (flatP_one _) (by unfold maxLen; omega) (by omega) (by omega) ?_)
                  intro v2 x5 hown hgrow hat
                  have f4' : Fr (fun q => w9.heap.size ≤ q) x4 x5 := (Fr.refl _ x4).grown hgrow (fun q e _ => (HR4.out.lt q e).1)
                  have HN5 := hid (HN4.out.trans f4' (fun _ h => h) (fun i hi h => by omega))
                  have HOW := hid hown
                  clear f4' hown hgrow hat hle4 qz1 qz2 qz3 qz4
                  refine hK.out _ _ ?_ (fun hH => ?_)
                  · exact HN5.out.mono (fun _ _ e => e.elim)
                  clear hK K
                  try simp only [Act.put, List.setIfInBounds_toArray, List.set_cons_zero, List.set_cons_succ]
                  refine wpAnyH_take (i := 12) (oi := { dst := some 61, op := Op.fieldAddr 32 (Operand.tmp 3) 2, type := 0, pos := "ref.go:83", after := #[{ on := 0, ground := Ground.phase }, { on := 1, ground := Ground.phase }, { on := 2, ground := Ground.phase }, { on := 3, ground := Ground.phase }, { on := 4, ground := Ground.phase }, { on := 5, ground := Ground.phase }, { on := 6, ground := Ground.phase }, { on := 7, ground := Ground.phase }, { on := 8, ground := Ground.phase }, { on := 9, ground := Ground.phase }, { on := 10, ground := Ground.phase }, { on := 11, ground := Ground.phase }], guard := none }) (v := ?_) rfl (by kernel_rfl) (by kernel_rfl) (by kernel_rfl) (fun _ _ _ h => h) (Or.inl ⟨by rfl, ?_⟩) hH ?_
                  rotate_left
                  · intro w hSw; (try dsimp only at hSw); go_simp <;> with_reducible rfl
                  try simp only [Act.put, List.setIfInBounds_toArray, List.set_cons_zero, List.set_cons_succ]
                  refine wpAnyH_ready (rs := [13]) (by kernel_rfl) (by simp) ?_
                  refine AllReadyH.cons (o := { dst := none, op := Op.store 30 (Operand.tmp 61) (Operand.tmp 60), type := 0, pos := "ref.go:83", after := #[{ on := 12, ground := Ground.data }, { on := 11, ground := Ground.data }, { on := 11, ground := Ground.chain }, { on := 0, ground := Ground.phase }, { on := 1, ground := Ground.phase }, { on := 2, ground := Ground.phase }, { on := 3, ground := Ground.phase }, { on := 4, ground := Ground.phase }, { on := 5, ground := Ground.phase }, { on := 6, ground := Ground.phase }, { on := 7, ground := Ground.phase }, { on := 8, ground := Ground.phase }, { on := 9, ground := Ground.phase }, { on := 10, ground := Ground.phase }, { on := 11, ground := Ground.phase }], guard := none }) rfl (fun K hK => ?_) AllReadyH.nil
                  obtain ⟨s2, cs2, rfl, _⟩ := owns_view HOW.out
                  have e2 := HN5.out.cell e20 (fun e => e)
                  have f2 := free_of (HN5.out.heap HX3.out (fun e => e)) 2
                  go_simp
                  refine hK.out _ _ ?_ (fun hH => ?_)
                  · exact (HN5.out.mono (S' := fun q => q = p) (fun _ _ e => e.elim)).setCell (p := ⟨p, 2, none⟩) (fun _ => rfl) _
                  clear hK K
                  refine wpAnyH_done (by kernel_rfl) ?_ _
                  have HXN := hid (heap_set (i := 2) (HN5.out.heap HX3.out (fun e => e)) (.slice s2 (j + (A.length - (j + 1))) cs2))
                  have hgp : ∀ i, (Value.slice s2 (j + (A.length - (j + 1))) cs2).ownBlock = some i → w9.heap.size ≤ i := fun i e => (HOW.out.lt i e).1
                  have HGP := hid hgp
                  have own2 := Go.ownsRow_setCell_other HOW.out (a := ⟨p, 2, none⟩) (fun e => by have h1 := HGP.out _ e; have h2 := HPY.out; have h3 := HYZ.out; simp only at h1; omega) (.slice s2 (j + (A.length - (j + 1))) cs2)
                  have HO2 := hid own2
                  have HF9 := hid hH
                  clear own2 hH e2 f2 e20 hgp
                  generalize hw5 : World.setCell _ _ _ = w5 at *
                  clear hw5
                  have hxn : w5.heap[p]? = some (.cells (encR W cap s2 (j + (A.length - (j + 1))) cs2).toArray 32 (0, 0)) := HXN.out
                  have hyp : ¬ y = p := by have := HPY.out; omega
                  have hy1 : ¬ (y = p + 1 ∨ y = p + 1 + 1) := by have := HPZ.out; omega
                  have H6 := hid (HF9.out.heap (HG2.out.heap H6.out (fun e => e)) (by omega))
                  have H7 := hid (HF9.out.heap (HG2.out.heap H7.out (fun e => e)) (by omega))
                  have hnp : ¬ (p = p + 1 ∨ p = p + 1 + 1) := by omega
                  have p0 : ∀ w', Fr (fun q => q = p + 1 ∨ q = p + 1 + 1) w5 w' → w'.cell? ⟨p, 0, none⟩ = some (.int .i64 W) := fun w' hf => hf.cell (cell_of hxn 0 rfl) hnp
                  have p1 : ∀ w', Fr (fun q => q = p + 1 ∨ q = p + 1 + 1) w5 w' → w'.cell? ⟨p, 1, none⟩ = some (.int .i64 cap) := fun w' hf => hf.cell (cell_of hxn 1 rfl) hnp
                  have p2 : ∀ w', Fr (fun q => q = p + 1 ∨ q = p + 1 + 1) w5 w' → w'.cell? ⟨p, 2, none⟩ = some (.slice s2 (j + (A.length - (j + 1))) cs2) := fun w' hf => hf.cell (cell_of hxn 2 rfl) hnp
                  have lm : ∀ w', Fr (fun q => q = p + 1 ∨ q = p + 1 + 1) w5 w' → ld 47 (.pointer (some ⟨y, 0, none⟩)) w' = .ok (.value (msgV x.m)) w' := fun w' hf => ld_rmsg (MsgAt.of_block (hf.heap (HF9.out.heap HG1.out hyp) hy1))
                  clear hxn
                  go_upto_region 9 with fail
                  refine wp_region_held_drew (S := (fun w' => Fr (fun q => q = p + 1 ∨ q = p + 1 + 1) w5 w')) (by kernel_rfl) ?_ (fun hH => ?_)
                  · exact (Fr.refl (fun q => q = p + 1 ∨ q = p + 1 + 1) w5).drew
                  refine wpAnyH_take (i := 0) (oi := { dst := some 62, op := Op.load 47 (Operand.tmp 10), type := 47, pos := "ref.go:84", after := #[], guard := none }) (v := ?_) rfl (by kernel_rfl) (by kernel_rfl) (by kernel_rfl) (fun _ _ _ h => h) (Or.inl ⟨by rfl, ?_⟩) hH ?_
                  rotate_left
                  · intro w hSw; (try dsimp only at hSw); go_simp <;> with_reducible rfl
                  try simp only [Act.put, List.setIfInBounds_toArray, List.set_cons_zero, List.set_cons_succ]
                  refine wpAnyH_take (i := 1) (oi := { dst := some 63, op := Op.load 32 (Operand.tmp 3), type := 32, pos := "ref.go:84", after := #[{ on := 2, ground := Ground.gcOnly Departure.lateStores }], guard := none }) (v := ?_) rfl (by kernel_rfl) (by kernel_rfl) (by kernel_rfl) (fun _ _ _ h => h) (Or.inl ⟨by rfl, ?_⟩) hH ?_
                  rotate_left
                  · intro w hSw; (try dsimp only at hSw); go_simp <;> with_reducible rfl
                  try simp only [Act.put, List.setIfInBounds_toArray, List.set_cons_zero, List.set_cons_succ]
                  refine wpAnyH_ready (rs := [2]) (by kernel_rfl) (by simp) ?_
                  refine AllReadyH.cons (o := { dst := none, op := Op.store 47 (Operand.tmp 6) (Operand.tmp 62), type := 0, pos := "ref.go:84", after := #[{ on := 0, ground := Ground.data }, { on := 0, ground := Ground.phase }, { on := 1, ground := Ground.textOnly Departure.lateStores }], guard := none }) rfl (fun K hK => ?_) AllReadyH.nil
                  have TS : ∀ m, st 47 (.pointer (some ⟨p + 1, 0, none⟩)) (msgV x.m) (World.drewN w5 m) = .ok .skip (World.setCells (World.drewN w5 m) (p + 1) 0 (encM (x.m))) := fun m => st_rmsg (x.m) (there_block (by exact H6.out))
                  have TS0 : st 47 (.pointer (some ⟨p + 1, 0, none⟩)) (msgV x.m) (World.drew w5) = .ok .skip (World.setCells (World.drew w5) (p + 1) 0 (encM (x.m))) := st_rmsg (x.m) (there_block (by exact H6.out))
                  go_simp
                  clear TS TS0
                  refine genw (K := K) (fun x1 hx => ?_)
                  have f0 : Fr (fun q => q = p + 1) w5 x1 := by rw [hx]; exact Fr.setCells (S := fun q => q = p + 1) (b := p + 1) (fun _ => rfl) _ _ (by first | exact Fr.refl _ _ | exact (Fr.refl _ _).drewN _ | exact (Fr.refl _ _).drew)
                  have H61 := hid (show x1.heap[p + 1]? = some (.cells (encM (x.m)).toArray _ (0, 0)) by rw [hx]; exact msg_over H6.out (x.m))
                  have H71 := hid (f0.heap H7.out (by omega))
                  clear f0
                  refine hK.out _ _ ?_ (fun hH => ?_)
                  · rw [hx]; exact Fr.setCells (S := (fun q => q = p + 1 ∨ q = p + 1 + 1)) (b := p + 1) (fun _ => .inl rfl) _ _ hH
                  clear hK K
                  refine wpAnyH_ready (rs := [3]) (by kernel_rfl) (by simp) ?_
                  refine AllReadyH.cons (o := { dst := none, op := Op.store 32 (Operand.tmp 7) (Operand.tmp 63), type := 0, pos := "ref.go:84", after := #[{ on := 1, ground := Ground.data }, { on := 2, ground := Ground.chain }, { on := 0, ground := Ground.phase }, { on := 1, ground := Ground.phase }, { on := 2, ground := Ground.phase }], guard := none }) rfl (fun K hK => ?_) AllReadyH.nil
                  clear hx
                  have TS : st 32 (.pointer (some ⟨p + 1 + 1, 0, none⟩)) (.agg #[.int .i64 W, .int .i64 cap, .slice (s2) (j + (A.length - (j + 1))) (cs2)]) x1 = .ok .skip (World.setCells x1 (p + 1 + 1) 0 (encR W cap (s2) (j + (A.length - (j + 1))) (cs2))) := st_rm W cap (s2) (j + (A.length - (j + 1))) (cs2) (there_rm (by exact H71.out))
                  go_simp
                  clear TS
                  refine genw (K := K) (fun x2 hx => ?_)
                  have f1 : Fr (fun q => q = p + 1 + 1) x1 x2 := by rw [hx]; exact Fr.setCells (S := fun q => q = p + 1 + 1) (b := p + 1 + 1) (fun _ => rfl) _ _ (by first | exact Fr.refl _ _ | exact (Fr.refl _ _).drewN _ | exact (Fr.refl _ _).drew)
                  have H72 := hid (show x2.heap[p + 1 + 1]? = some (.cells (encR W cap (s2) (j + (A.length - (j + 1))) (cs2)).toArray _ (0, 0)) by rw [hx]; exact encR_put (W' := W) (c' := cap) (s' := s2) (n' := j + (A.length - (j + 1))) (k' := cs2) H71.out)
                  have H62 := hid (f1.heap H61.out (by omega))
                  clear f1
                  refine hK.out _ _ ?_ (fun hH => ?_)
                  · rw [hx]; exact Fr.setCells (S := (fun q => q = p + 1 ∨ q = p + 1 + 1)) (b := p + 1 + 1) (fun _ => .inr rfl) _ _ hH
                  clear hK K
                  refine wpAnyH_take (i := 4) (oi := { dst := some 8, op := Op.assign (Operand.const (Value.int IntKind.i64 0)), type := 3, pos := "ref.go:84", after := #[{ on := 3, ground := Ground.chain }, { on := 0, ground := Ground.phase }, { on := 1, ground := Ground.phase }, { on := 2, ground := Ground.phase }, { on := 3, ground := Ground.phase }], guard := none }) (v := ?_) rfl (by kernel_rfl) (by kernel_rfl) (by kernel_rfl) (fun _ _ _ h => h) (Or.inl ⟨by rfl, ?_⟩) hH ?_
                  rotate_left
                  · intro w hSw; (try dsimp only at hSw); go_simp <;> with_reducible rfl
                  try simp only [Act.put, List.setIfInBounds_toArray, List.set_cons_zero, List.set_cons_succ]
                  refine wpAnyH_done (by kernel_rfl) ?_ _
                  clear p0 p1 p2 hx lm
                  go_wp2
                  refine bodyPost_ret (v := .tuple #[msgV x.m, rmV W cap (.slice s2 (j + (A.length - (j + 1))) cs2), .int .i64 0]) (results_trio Try.results10 _ _ (by rfl) (by rfl) (MsgAt.of_block H62.out) (rm_var H72.out) (by rfl)) rfl ⟨?_, .inr (.inr ⟨HTX.out, j, x, HX.out, HE12.out.1, HE12.out.2, HNJ.out, s2, _, cs2, rfl, ?_, fun i e => ?_⟩)⟩
                  · have hz := HZ.out
                    have hp := HP.out
                    refine ((((HF.out.trans' HB.out).trans' HG2.out).trans HF9.out (fun _ h => h) (fun i hi e => by omega))).trans hH (fun _ h => h) (fun i hi e => by omega)
                  · refine RowA.fr (w := w5) ⟨w9.heap.size, ?_⟩ hH (fun i e h => ?_)
                    · have h := HO2.out
                      rw [← List.flatMap_append] at h
                      have hl : (A.take j ++ A.drop (j + 1)).length = j + (A.length - (j + 1)) := by rw [List.length_append, List.length_take, List.length_drop]; omega
                      rw [hl]
                      exact h
                    · have := HGP.out i e
                      have := HPZ.out
                      have := HYZ.out
                      omega
                  · have := HGP.out i e
                    have := HP.out
                    have := HPY.out
                    have := HYZ.out
                    omega
                refine AllReadyH.cons (o := { dst := some 56, op := Op.load 30 (Operand.tmp 55), type := 30, pos := "ref.go:83", after := #[{ on := 6, ground := Ground.data }], guard := none }) rfl (fun K hK => ?_) AllReadyH.nil
                have e2 := HN2.out.cell e20 (fun e => e)
                go_simp
                clear e2
                refine genw (K := K) (fun x3 hx => ?_)
                have f2' : Fr (fun _ => False) x2 x3 := by rw [hx]; exact ⟨rfl, rfl, rfl, Nat.le_refl _, fun _ _ _ => rfl⟩
                have HZ3 := hid (show x3.heap.size = x2.heap.size by rw [hx]; try rfl)
                have HN3 := hid (HN2.out.trans' f2')
                have HE3 := hid (Fr.owns f2' HE2.out (fun _ _ e => e))
                clear f2' hx
                refine hK.out _ _ ?_ (fun hH => ?_)
                · exact HN3.out.mono (fun _ _ e => e.elim)
                clear hK K
                try simp only [Act.put, List.setIfInBounds_toArray, List.set_cons_zero, List.set_cons_succ]
                refine wpAnyH_take (i := 10) (oi := { dst := some 59, op := Op.slice 30 (Operand.tmp 56) (some (Operand.tmp 58)) none none, type := 30, pos := "ref.go:83", after := #[{ on := 7, ground := Ground.data }, { on := 9, ground := Ground.data }], guard := none }) (v := ?_) rfl (by kernel_rfl) (by kernel_rfl) (by kernel_rfl) (fun _ _ _ h => h) (Or.inl ⟨by rfl, ?_⟩) hH ?_
                rotate_left
                · intro w hSw; (try dsimp only at hSw); go_simp <;> with_reducible rfl
                try simp only [Act.put, List.setIfInBounds_toArray, List.set_cons_zero, List.set_cons_succ]
                refine wpAnyH_ready (rs := [5]) (by kernel_rfl) (by simp) ?_
                refine AllReadyH.cons (o := { dst := some 54, op := Op.call { callee := Callee.builtin Builtin.append, args := #[Operand.tmp 49, Operand.tmp 53], argTypes := #[30, 30] }, type := 30, pos := "ref.go:83", after := #[{ on := 0, ground := Ground.data }, { on := 4, ground := Ground.data }], guard := none }) rfl (fun K hK => ?_) AllReadyH.nil
                have qz1 := HZ1.out
                have qz2 := HZ2.out
                have qz3 := HZ3.out
                have hle3 := HN3.out.size
                have hlE : w9.heap.size ≤ x1.heap.size := by omega
                go_must (refine step_append_any _ (by rfl) _ _ _ (by rfl) w9.heap.size 79 i0 _ 9 104 Try.underlying30 hi0 hz0 hz1 hz2 rfl (by omega) (.slice (some ⟨x1.heap.size, 0, none⟩) 0 0) 0 [] (by rfl) (by exact HE3.out) w9.heap.size (some ⟨gp, 0, none⟩) j k ((A.take j).flatMap encP) (by rfl) (by exact HRU.out.fr HN3.out (Nat.le_refl _) (fun _ _ e => e)) (flatP_one _) (by unfold maxLen; omega) (by omega) (by omega) ?_)
                intro v1 x4 hown hgrow hat
                have f3' : Fr (fun q => q = x1.heap.size) x3 x4 := (Fr.refl _ x3).grown hgrow (fun q e _ => by simp [Value.ownBlock] at e; omega)
                have HZ4 := hid (show x3.heap.size ≤ x4.heap.size from f3'.size)
                have HN4 := hid (HN3.out.trans f3' (fun _ h => h) (fun i hi h => by omega))
                have HR4 := hid (show x4.ownsRow w9.heap.size 79 9 v1 (j) ((A.take j).flatMap encP) by rw [Nat.zero_add, List.nil_append] at hown; exact hown)
                clear f3' hown hgrow hat hlE hle3 qz1 qz2 qz3
                refine hK.out _ _ ?_ (fun hH => ?_)
                · exact HN4.out.mono (fun _ _ e => e.elim)
                clear hK K
                try simp only [Act.put, List.setIfInBounds_toArray, List.set_cons_zero, List.set_cons_succ]
                refine wpAnyH_ready (rs := [11]) (by kernel_rfl) (by simp) ?_
                refine AllReadyH.cons (o := { dst := some 60, op := Op.call { callee := Callee.builtin Builtin.append, args := #[Operand.tmp 54, Operand.tmp 59], argTypes := #[30, 30] }, type := 30, pos := "ref.go:83", after := #[{ on := 5, ground := Ground.data }, { on := 10, ground := Ground.data }, { on := 5, ground := Ground.chain }], guard := none }) rfl (fun K hK => ?_) AllReadyH.nil
                have hle4 := HN4.out.size
                have qz1 := HZ1.out
                have qz2 := HZ2.out
                have qz3 := HZ3.out
                have qz4 := HZ4.out
                go_must (refine step_append_any _ (by rfl) _ _ _ (by rfl) w9.heap.size 79 i0 _ 9 104 Try.underlying30 hi0 hz0 hz1 hz2 rfl (by omega) v1 (j) _ (by rfl) (by exact HR4.out) w9.heap.size A2 (A.length - (j + 1)) (k - (j + 1)) ((A.drop (j + 1)).flatMap encP) (by rfl) (by exact HRF.out.fr HN4.out (Nat.le_refl _) (fun _ _ e => e)) (flatP_one _) (by unfold maxLen; omega) (by omega) (by omega) ?_)
                intro v2 x5 hown hgrow hat
                have f4' : Fr (fun q => w9.heap.size ≤ q) x4 x5 := (Fr.refl _ x4).grown hgrow (fun q e _ => (HR4.out.lt q e).1)
                have HN5 := hid (HN4.out.trans f4' (fun _ h => h) (fun i hi h => by omega))
                have HOW := hid hown
                clear f4' hown hgrow hat hle4 qz1 qz2 qz3 qz4
                refine hK.out _ _ ?_ (fun hH => ?_)
                · exact HN5.out.mono (fun _ _ e => e.elim)
                clear hK K
                try simp only [Act.put, List.setIfInBounds_toArray, List.set_cons_zero, List.set_cons_succ]
                refine wpAnyH_take (i := 12) (oi := { dst := some 61, op := Op.fieldAddr 32 (Operand.tmp 3) 2, type := 0, pos := "ref.go:83", after := #[{ on := 0, ground := Ground.phase }, { on := 1, ground := Ground.phase }, { on := 2, ground := Ground.phase }, { on := 3, ground := Ground.phase }, { on := 4, ground := Ground.phase }, { on := 5, ground := Ground.phase }, { on := 6, ground := Ground.phase }, { on := 7, ground := Ground.phase }, { on := 8, ground := Ground.phase }, { on := 9, ground := Ground.phase }, { on := 10, ground := Ground.phase }, { on := 11, ground := Ground.phase }], guard := none }) (v := ?_) rfl (by kernel_rfl) (by kernel_rfl) (by kernel_rfl) (fun _ _ _ h => h) (Or.inl ⟨by rfl, ?_⟩) hH ?_
                rotate_left
                · intro w hSw; (try dsimp only at hSw); go_simp <;> with_reducible rfl
                try simp only [Act.put, List.setIfInBounds_toArray, List.set_cons_zero, List.set_cons_succ]
                refine wpAnyH_ready (rs := [13]) (by kernel_rfl) (by simp) ?_
                refine AllReadyH.cons (o := { dst := none, op := Op.store 30 (Operand.tmp 61) (Operand.tmp 60), type := 0, pos := "ref.go:83", after := #[{ on := 12, ground := Ground.data }, { on := 11, ground := Ground.data }, { on := 11, ground := Ground.chain }, { on := 0, ground := Ground.phase }, { on := 1, ground := Ground.phase }, { on := 2, ground := Ground.phase }, { on := 3, ground := Ground.phase }, { on := 4, ground := Ground.phase }, { on := 5, ground := Ground.phase }, { on := 6, ground := Ground.phase }, { on := 7, ground := Ground.phase }, { on := 8, ground := Ground.phase }, { on := 9, ground := Ground.phase }, { on := 10, ground := Ground.phase }, { on := 11, ground := Ground.phase }], guard := none }) rfl (fun K hK => ?_) AllReadyH.nil
                obtain ⟨s2, cs2, rfl, _⟩ := owns_view HOW.out
                have e2 := HN5.out.cell e20 (fun e => e)
                have f2 := free_of (HN5.out.heap HX3.out (fun e => e)) 2
                go_simp
                refine hK.out _ _ ?_ (fun hH => ?_)
                · exact (HN5.out.mono (S' := fun q => q = p) (fun _ _ e => e.elim)).setCell (p := ⟨p, 2, none⟩) (fun _ => rfl) _
                clear hK K
                refine wpAnyH_done (by kernel_rfl) ?_ _
                have HXN := hid (heap_set (i := 2) (HN5.out.heap HX3.out (fun e => e)) (.slice s2 (j + (A.length - (j + 1))) cs2))
                have hgp : ∀ i, (Value.slice s2 (j + (A.length - (j + 1))) cs2).ownBlock = some i → w9.heap.size ≤ i := fun i e => (HOW.out.lt i e).1
                have HGP := hid hgp
                have own2 := Go.ownsRow_setCell_other HOW.out (a := ⟨p, 2, none⟩) (fun e => by have h1 := HGP.out _ e; have h2 := HPY.out; have h3 := HYZ.out; simp only at h1; omega) (.slice s2 (j + (A.length - (j + 1))) cs2)
                have HO2 := hid own2
                have HF9 := hid hH
                clear own2 hH e2 f2 e20 hgp
                generalize hw5 : World.setCell _ _ _ = w5 at *
                clear hw5
                have hxn : w5.heap[p]? = some (.cells (encR W cap s2 (j + (A.length - (j + 1))) cs2).toArray 32 (0, 0)) := HXN.out
                have hyp : ¬ y = p := by have := HPY.out; omega
                have hy1 : ¬ (y = p + 1 ∨ y = p + 1 + 1) := by have := HPZ.out; omega
                have H6 := hid (HF9.out.heap (HG2.out.heap H6.out (fun e => e)) (by omega))
                have H7 := hid (HF9.out.heap (HG2.out.heap H7.out (fun e => e)) (by omega))
                have hnp : ¬ (p = p + 1 ∨ p = p + 1 + 1) := by omega
                have p0 : ∀ w', Fr (fun q => q = p + 1 ∨ q = p + 1 + 1) w5 w' → w'.cell? ⟨p, 0, none⟩ = some (.int .i64 W) := fun w' hf => hf.cell (cell_of hxn 0 rfl) hnp
                have p1 : ∀ w', Fr (fun q => q = p + 1 ∨ q = p + 1 + 1) w5 w' → w'.cell? ⟨p, 1, none⟩ = some (.int .i64 cap) := fun w' hf => hf.cell (cell_of hxn 1 rfl) hnp
                have p2 : ∀ w', Fr (fun q => q = p + 1 ∨ q = p + 1 + 1) w5 w' → w'.cell? ⟨p, 2, none⟩ = some (.slice s2 (j + (A.length - (j + 1))) cs2) := fun w' hf => hf.cell (cell_of hxn 2 rfl) hnp
                have lm : ∀ w', Fr (fun q => q = p + 1 ∨ q = p + 1 + 1) w5 w' → ld 47 (.pointer (some ⟨y, 0, none⟩)) w' = .ok (.value (msgV x.m)) w' := fun w' hf => ld_rmsg (MsgAt.of_block (hf.heap (HF9.out.heap HG1.out hyp) hy1))
                clear hxn
                go_upto_region 9 with fail
                refine wp_region_held_drew (S := (fun w' => Fr (fun q => q = p + 1 ∨ q = p + 1 + 1) w5 w')) (by kernel_rfl) ?_ (fun hH => ?_)
                · exact (Fr.refl (fun q => q = p + 1 ∨ q = p + 1 + 1) w5).drew
                refine wpAnyH_take (i := 0) (oi := { dst := some 62, op := Op.load 47 (Operand.tmp 10), type := 47, pos := "ref.go:84", after := #[], guard := none }) (v := ?_) rfl (by kernel_rfl) (by kernel_rfl) (by kernel_rfl) (fun _ _ _ h => h) (Or.inl ⟨by rfl, ?_⟩) hH ?_
                rotate_left
                · intro w hSw; (try dsimp only at hSw); go_simp <;> with_reducible rfl
                try simp only [Act.put, List.setIfInBounds_toArray, List.set_cons_zero, List.set_cons_succ]
                refine wpAnyH_take (i := 1) (oi := { dst := some 63, op := Op.load 32 (Operand.tmp 3), type := 32, pos := "ref.go:84", after := #[{ on := 2, ground := Ground.gcOnly Departure.lateStores }], guard := none }) (v := ?_) rfl (by kernel_rfl) (by kernel_rfl) (by kernel_rfl) (fun _ _ _ h => h) (Or.inl ⟨by rfl, ?_⟩) hH ?_
                rotate_left
                · intro w hSw; (try dsimp only at hSw); go_simp <;> with_reducible rfl
                try simp only [Act.put, List.setIfInBounds_toArray, List.set_cons_zero, List.set_cons_succ]
                refine wpAnyH_ready (rs := [2]) (by kernel_rfl) (by simp) ?_
                refine AllReadyH.cons (o := { dst := none, op := Op.store 47 (Operand.tmp 6) (Operand.tmp 62), type := 0, pos := "ref.go:84", after := #[{ on := 0, ground := Ground.data }, { on := 0, ground := Ground.phase }, { on := 1, ground := Ground.textOnly Departure.lateStores }], guard := none }) rfl (fun K hK => ?_) AllReadyH.nil
                have TS : ∀ m, st 47 (.pointer (some ⟨p + 1, 0, none⟩)) (msgV x.m) (World.drewN w5 m) = .ok .skip (World.setCells (World.drewN w5 m) (p + 1) 0 (encM (x.m))) := fun m => st_rmsg (x.m) (there_block (by exact H6.out))
                have TS0 : st 47 (.pointer (some ⟨p + 1, 0, none⟩)) (msgV x.m) (World.drew w5) = .ok .skip (World.setCells (World.drew w5) (p + 1) 0 (encM (x.m))) := st_rmsg (x.m) (there_block (by exact H6.out))
                go_simp
                clear TS TS0
                refine genw (K := K) (fun x1 hx => ?_)
                have f0 : Fr (fun q => q = p + 1) w5 x1 := by rw [hx]; exact Fr.setCells (S := fun q => q = p + 1) (b := p + 1) (fun _ => rfl) _ _ (by first | exact Fr.refl _ _ | exact (Fr.refl _ _).drewN _ | exact (Fr.refl _ _).drew)
                have H61 := hid (show x1.heap[p + 1]? = some (.cells (encM (x.m)).toArray _ (0, 0)) by rw [hx]; exact msg_over H6.out (x.m))
                have H71 := hid (f0.heap H7.out (by omega))
                clear f0
                refine hK.out _ _ ?_ (fun hH => ?_)
                · rw [hx]; exact Fr.setCells (S := (fun q => q = p + 1 ∨ q = p + 1 + 1)) (b := p + 1) (fun _ => .inl rfl) _ _ hH
                clear hK K
                refine wpAnyH_ready (rs := [3]) (by kernel_rfl) (by simp) ?_
                refine AllReadyH.cons (o := { dst := none, op := Op.store 32 (Operand.tmp 7) (Operand.tmp 63), type := 0, pos := "ref.go:84", after := #[{ on := 1, ground := Ground.data }, { on := 2, ground := Ground.chain }, { on := 0, ground := Ground.phase }, { on := 1, ground := Ground.phase }, { on := 2, ground := Ground.phase }], guard := none }) rfl (fun K hK => ?_) AllReadyH.nil
                clear hx
                have TS : st 32 (.pointer (some ⟨p + 1 + 1, 0, none⟩)) (.agg #[.int .i64 W, .int .i64 cap, .slice (s2) (j + (A.length - (j + 1))) (cs2)]) x1 = .ok .skip (World.setCells x1 (p + 1 + 1) 0 (encR W cap (s2) (j + (A.length - (j + 1))) (cs2))) := st_rm W cap (s2) (j + (A.length - (j + 1))) (cs2) (there_rm (by exact H71.out))
                go_simp
                clear TS
                refine genw (K := K) (fun x2 hx => ?_)
                have f1 : Fr (fun q => q = p + 1 + 1) x1 x2 := by rw [hx]; exact Fr.setCells (S := fun q => q = p + 1 + 1) (b := p + 1 + 1) (fun _ => rfl) _ _ (by first | exact Fr.refl _ _ | exact (Fr.refl _ _).drewN _ | exact (Fr.refl _ _).drew)
                have H72 := hid (show x2.heap[p + 1 + 1]? = some (.cells (encR W cap (s2) (j + (A.length - (j + 1))) (cs2)).toArray _ (0, 0)) by rw [hx]; exact encR_put (W' := W) (c' := cap) (s' := s2) (n' := j + (A.length - (j + 1))) (k' := cs2) H71.out)
                have H62 := hid (f1.heap H61.out (by omega))
                clear f1
                refine hK.out _ _ ?_ (fun hH => ?_)
                · rw [hx]; exact Fr.setCells (S := (fun q => q = p + 1 ∨ q = p + 1 + 1)) (b := p + 1 + 1) (fun _ => .inr rfl) _ _ hH
                clear hK K
                refine wpAnyH_take (i := 4) (oi := { dst := some 8, op := Op.assign (Operand.const (Value.int IntKind.i64 0)), type := 3, pos := "ref.go:84", after := #[{ on := 3, ground := Ground.chain }, { on := 0, ground := Ground.phase }, { on := 1, ground := Ground.phase }, { on := 2, ground := Ground.phase }, { on := 3, ground := Ground.phase }], guard := none }) (v := ?_) rfl (by kernel_rfl) (by kernel_rfl) (by kernel_rfl) (fun _ _ _ h => h) (Or.inl ⟨by rfl, ?_⟩) hH ?_
                rotate_left
                · intro w hSw; (try dsimp only at hSw); go_simp <;> with_reducible rfl
                try simp only [Act.put, List.setIfInBounds_toArray, List.set_cons_zero, List.set_cons_succ]
                refine wpAnyH_done (by kernel_rfl) ?_ _
                clear p0 p1 p2 hx lm
                go_wp2
                refine bodyPost_ret (v := .tuple #[msgV x.m, rmV W cap (.slice s2 (j + (A.length - (j + 1))) cs2), .int .i64 0]) (results_trio Try.results10 _ _ (by rfl) (by rfl) (MsgAt.of_block H62.out) (rm_var H72.out) (by rfl)) rfl ⟨?_, .inr (.inr ⟨HTX.out, j, x, HX.out, HE12.out.1, HE12.out.2, HNJ.out, s2, _, cs2, rfl, ?_, fun i e => ?_⟩)⟩
                · have hz := HZ.out
                  have hp := HP.out
                  refine ((((HF.out.trans' HB.out).trans' HG2.out).trans HF9.out (fun _ h => h) (fun i hi e => by omega))).trans hH (fun _ h => h) (fun i hi e => by omega)
                · refine RowA.fr (w := w5) ⟨w9.heap.size, ?_⟩ hH (fun i e h => ?_)
                  · have h := HO2.out
                    rw [← List.flatMap_append] at h
                    have hl : (A.take j ++ A.drop (j + 1)).length = j + (A.length - (j + 1)) := by rw [List.length_append, List.length_take, List.length_drop]; omega
                    rw [hl]
                    exact h
                  · have := HGP.out i e
                    have := HPZ.out
                    have := HYZ.out
                    omega
                · have := HGP.out i e
                  have := HP.out
                  have := HPY.out
                  have := HYZ.out
                  omega
              refine AllReadyH.cons (o := { dst := some 56, op := Op.load 30 (Operand.tmp 55), type := 30, pos := "ref.go:83", after := #[{ on := 6, ground := Ground.data }], guard := none }) rfl (fun K hK => ?_) AllReadyH.nil
              have e2 := HN1.out.cell e20 (fun e => e)
              go_simp
              clear e2
              refine genw (K := K) (fun x2 hx => ?_)
              have f1' : Fr (fun _ => False) x1 x2 := by rw [hx]; exact ⟨rfl, rfl, rfl, Nat.le_refl _, fun _ _ _ => rfl⟩
              have HZ2 := hid (show x2.heap.size = x1.heap.size by rw [hx]; try rfl)
              have HN2 := hid (HN1.out.trans' f1')
              clear f1' hx
              refine hK.out _ _ ?_ (fun hH => ?_)
              · exact HN2.out.mono (fun _ _ e => e.elim)
              clear hK K
              try simp only [Act.put, List.setIfInBounds_toArray, List.set_cons_zero, List.set_cons_succ]
              refine wpAnyH_take (i := 10) (oi := { dst := some 59, op := Op.slice 30 (Operand.tmp 56) (some (Operand.tmp 58)) none none, type := 30, pos := "ref.go:83", after := #[{ on := 7, ground := Ground.data }, { on := 9, ground := Ground.data }], guard := none }) (v := ?_) rfl (by kernel_rfl) (by kernel_rfl) (by kernel_rfl) (fun _ _ _ h => h) (Or.inl ⟨by rfl, ?_⟩) hH ?_
              rotate_left
              · intro w hSw; (try dsimp only at hSw); go_simp <;> with_reducible rfl
              try simp only [Act.put, List.setIfInBounds_toArray, List.set_cons_zero, List.set_cons_succ]
              refine wpAnyH_ready (rs := [0]) (by kernel_rfl) (by simp) ?_
              refine AllReadyH.cons (o := { dst := some 49, op := Op.buildSlice 30 0 #[], type := 30, pos := "ref.go:83", after := #[], guard := none }) rfl (fun K hK => ?_) AllReadyH.nil
              go_simp
              refine genw (K := K) (fun x3 hx => ?_)
              have f2 : Fr (fun _ => False) (x2.alloc (.cells #[] 79)) x3 := by rw [hx]; exact ⟨rfl, rfl, rfl, Nat.le_refl _, fun _ _ _ => rfl⟩
              have f2' : Fr (fun _ => False) x2 x3 := ((Fr.refl _ x2).alloc _).trans' f2
              have HZ3 := hid (show x3.heap.size = x2.heap.size + 1 by rw [hx]; simp)
              have HN3 := hid (HN2.out.trans' f2')
              have hle2 := HN2.out.size
              have HE3 := hid (empty_own (B := w9.heap.size) (E := 79) (sz := 9) rfl f2 hle2 rfl)
              clear f2 f2' hx hle2
              refine hK.out _ _ ?_ (fun hH => ?_)
              · exact HN3.out.mono (fun _ _ e => e.elim)
              clear hK K
              try simp only [Act.put, List.setIfInBounds_toArray, List.set_cons_zero, List.set_cons_succ]
              refine wpAnyH_ready (rs := [5]) (by kernel_rfl) (by simp) ?_
              refine AllReadyH.cons (o := { dst := some 54, op := Op.call { callee := Callee.builtin Builtin.append, args := #[Operand.tmp 49, Operand.tmp 53], argTypes := #[30, 30] }, type := 30, pos := "ref.go:83", after := #[{ on := 0, ground := Ground.data }, { on := 4, ground := Ground.data }], guard := none }) rfl (fun K hK => ?_) AllReadyH.nil
              have qz1 := HZ1.out
              have qz2 := HZ2.out
              have qz3 := HZ3.out
              have hle3 := HN3.out.size
              have hlE : w9.heap.size ≤ x2.heap.size := by omega
              go_must (refine step_append_any _ (by rfl) _ _ _ (by rfl) w9.heap.size 79 i0 _ 9 104 Try.underlying30 hi0 hz0 hz1 hz2 rfl (by omega) (.slice (some ⟨x2.heap.size, 0, none⟩) 0 0) 0 [] (by rfl) (by exact HE3.out) w9.heap.size (some ⟨gp, 0, none⟩) j k ((A.take j).flatMap encP) (by rfl) (by exact HRU.out.fr HN3.out (Nat.le_refl _) (fun _ _ e => e)) (flatP_one _) (by unfold maxLen; omega) (by omega) (by omega) ?_)
              intro v1 x4 hown hgrow hat
              have f3' : Fr (fun q => q = x2.heap.size) x3 x4 := (Fr.refl _ x3).grown hgrow (fun q e _ => by simp [Value.ownBlock] at e; omega)
              have HZ4 := hid (show x3.heap.size ≤ x4.heap.size from f3'.size)
              have HN4 := hid (HN3.out.trans f3' (fun _ h => h) (fun i hi h => by omega))
              have HR4 := hid (show x4.ownsRow w9.heap.size 79 9 v1 (j) ((A.take j).flatMap encP) by rw [Nat.zero_add, List.nil_append] at hown; exact hown)
              clear f3' hown hgrow hat hlE hle3 qz1 qz2 qz3
              refine hK.out _ _ ?_ (fun hH => ?_)
              · exact HN4.out.mono (fun _ _ e => e.elim)
              clear hK K
              try simp only [Act.put, List.setIfInBounds_toArray, List.set_cons_zero, List.set_cons_succ]
              refine wpAnyH_ready (rs := [11]) (by kernel_rfl) (by simp) ?_
              refine AllReadyH.cons (o := { dst := some 60, op := Op.call { callee := Callee.builtin Builtin.append, args := #[Operand.tmp 54, Operand.tmp 59], argTypes := #[30, 30] }, type := 30, pos := "ref.go:83", after := #[{ on := 5, ground := Ground.data }, { on := 10, ground := Ground.data }, { on := 5, ground := Ground.chain }], guard := none }) rfl (fun K hK => ?_) AllReadyH.nil
              have hle4 := HN4.out.size
              have qz1 := HZ1.out
              have qz2 := HZ2.out
              have qz3 := HZ3.out
              have qz4 := HZ4.out
              go_must (refine step_append_any _ (by rfl) _ _ _ (by rfl) w9.heap.size 79 i0 _ 9 104 Try.underlying30 hi0 hz0 hz1 hz2 rfl (by omega) v1 (j) _ (by rfl) (by exact HR4.out) w9.heap.size A2 (A.length - (j + 1)) (k - (j + 1)) ((A.drop (j + 1)).flatMap encP) (by rfl) (by exact HRF.out.fr HN4.out (Nat.le_refl _) (fun _ _ e => e)) (flatP_one _) (by unfold maxLen; omega) (by omega) (by omega) ?_)
              intro v2 x5 hown hgrow hat
              have f4' : Fr (fun q => w9.heap.size ≤ q) x4 x5 := (Fr.refl _ x4).grown hgrow (fun q e _ => (HR4.out.lt q e).1)
              have HN5 := hid (HN4.out.trans f4' (fun _ h => h) (fun i hi h => by omega))
              have HOW := hid hown
              clear f4' hown hgrow hat hle4 qz1 qz2 qz3 qz4
              refine hK.out _ _ ?_ (fun hH => ?_)
              · exact HN5.out.mono (fun _ _ e => e.elim)
              clear hK K
              try simp only [Act.put, List.setIfInBounds_toArray, List.set_cons_zero, List.set_cons_succ]
              refine wpAnyH_take (i := 12) (oi := { dst := some 61, op := Op.fieldAddr 32 (Operand.tmp 3) 2, type := 0, pos := "ref.go:83", after := #[{ on := 0, ground := Ground.phase }, { on := 1, ground := Ground.phase }, { on := 2, ground := Ground.phase }, { on := 3, ground := Ground.phase }, { on := 4, ground := Ground.phase }, { on := 5, ground := Ground.phase }, { on := 6, ground := Ground.phase }, { on := 7, ground := Ground.phase }, { on := 8, ground := Ground.phase }, { on := 9, ground := Ground.phase }, { on := 10, ground := Ground.phase }, { on := 11, ground := Ground.phase }], guard := none }) (v := ?_) rfl (by kernel_rfl) (by kernel_rfl) (by kernel_rfl) (fun _ _ _ h => h) (Or.inl ⟨by rfl, ?_⟩) hH ?_
              rotate_left
              · intro w hSw; (try dsimp only at hSw); go_simp <;> with_reducible rfl
              try simp only [Act.put, List.setIfInBounds_toArray, List.set_cons_zero, List.set_cons_succ]
              refine wpAnyH_ready (rs := [13]) (by kernel_rfl) (by simp) ?_
              refine AllReadyH.cons (o := { dst := none, op := Op.store 30 (Operand.tmp 61) (Operand.tmp 60), type := 0, pos := "ref.go:83", after := #[{ on := 12, ground := Ground.data }, { on := 11, ground := Ground.data }, { on := 11, ground := Ground.chain }, { on := 0, ground := Ground.phase }, { on := 1, ground := Ground.phase }, { on := 2, ground := Ground.phase }, { on := 3, ground := Ground.phase }, { on := 4, ground := Ground.phase }, { on := 5, ground := Ground.phase }, { on := 6, ground := Ground.phase }, { on := 7, ground := Ground.phase }, { on := 8, ground := Ground.phase }, { on := 9, ground := Ground.phase }, { on := 10, ground := Ground.phase }, { on := 11, ground := Ground.phase }], guard := none }) rfl (fun K hK => ?_) AllReadyH.nil
              obtain ⟨s2, cs2, rfl, _⟩ := owns_view HOW.out
              have e2 := HN5.out.cell e20 (fun e => e)
              have f2 := free_of (HN5.out.heap HX3.out (fun e => e)) 2
              go_simp
              refine hK.out _ _ ?_ (fun hH => ?_)
              · exact (HN5.out.mono (S' := fun q => q = p) (fun _ _ e => e.elim)).setCell (p := ⟨p, 2, none⟩) (fun _ => rfl) _
              clear hK K
              refine wpAnyH_done (by kernel_rfl) ?_ _
              have HXN := hid (heap_set (i := 2) (HN5.out.heap HX3.out (fun e => e)) (.slice s2 (j + (A.length - (j + 1))) cs2))
              have hgp : ∀ i, (Value.slice s2 (j + (A.length - (j + 1))) cs2).ownBlock = some i → w9.heap.size ≤ i := fun i e => (HOW.out.lt i e).1
              have HGP := hid hgp
              have own2 := Go.ownsRow_setCell_other HOW.out (a := ⟨p, 2, none⟩) (fun e => by have h1 := HGP.out _ e; have h2 := HPY.out; have h3 := HYZ.out; simp only at h1; omega) (.slice s2 (j + (A.length - (j + 1))) cs2)
              have HO2 := hid own2
              have HF9 := hid hH
              clear own2 hH e2 f2 e20 hgp
              generalize hw5 : World.setCell _ _ _ = w5 at *
              clear hw5
              have hxn : w5.heap[p]? = some (.cells (encR W cap s2 (j + (A.length - (j + 1))) cs2).toArray 32 (0, 0)) := HXN.out
              have hyp : ¬ y = p := by have := HPY.out; omega
              have hy1 : ¬ (y = p + 1 ∨ y = p + 1 + 1) := by have := HPZ.out; omega
              have H6 := hid (HF9.out.heap (HG2.out.heap H6.out (fun e => e)) (by omega))
              have H7 := hid (HF9.out.heap (HG2.out.heap H7.out (fun e => e)) (by omega))
              have hnp : ¬ (p = p + 1 ∨ p = p + 1 + 1) := by omega
              have p0 : ∀ w', Fr (fun q => q = p + 1 ∨ q = p + 1 + 1) w5 w' → w'.cell? ⟨p, 0, none⟩ = some (.int .i64 W) := fun w' hf => hf.cell (cell_of hxn 0 rfl) hnp
              have p1 : ∀ w', Fr (fun q => q = p + 1 ∨ q = p + 1 + 1) w5 w' → w'.cell? ⟨p, 1, none⟩ = some (.int .i64 cap) := fun w' hf => hf.cell (cell_of hxn 1 rfl) hnp
              have p2 : ∀ w', Fr (fun q => q = p + 1 ∨ q = p + 1 + 1) w5 w' → w'.cell? ⟨p, 2, none⟩ = some (.slice s2 (j + (A.length - (j + 1))) cs2) := fun w' hf => hf.cell (cell_of hxn 2 rfl) hnp
              have lm : ∀ w', Fr (fun q => q = p + 1 ∨ q = p + 1 + 1) w5 w' → ld 47 (.pointer (some ⟨y, 0, none⟩)) w' = .ok (.value (msgV x.m)) w' := fun w' hf => ld_rmsg (MsgAt.of_block (hf.heap (HF9.out.heap HG1.out hyp) hy1))
              clear hxn
              go_upto_region 9 with fail
              refine wp_region_held_drew (S := (fun w' => Fr (fun q => q = p + 1 ∨ q = p + 1 + 1) w5 w')) (by kernel_rfl) ?_ (fun hH => ?_)
              · exact (Fr.refl (fun q => q = p + 1 ∨ q = p + 1 + 1) w5).drew
              refine wpAnyH_take (i := 0) (oi := { dst := some 62, op := Op.load 47 (Operand.tmp 10), type := 47, pos := "ref.go:84", after := #[], guard := none }) (v := ?_) rfl (by kernel_rfl) (by kernel_rfl) (by kernel_rfl) (fun _ _ _ h => h) (Or.inl ⟨by rfl, ?_⟩) hH ?_
              rotate_left
              · intro w hSw; (try dsimp only at hSw); go_simp <;> with_reducible rfl
              try simp only [Act.put, List.setIfInBounds_toArray, List.set_cons_zero, List.set_cons_succ]
              refine wpAnyH_take (i := 1) (oi := { dst := some 63, op := Op.load 32 (Operand.tmp 3), type := 32, pos := "ref.go:84", after := #[{ on := 2, ground := Ground.gcOnly Departure.lateStores }], guard := none }) (v := ?_) rfl (by kernel_rfl) (by kernel_rfl) (by kernel_rfl) (fun _ _ _ h => h) (Or.inl ⟨by rfl, ?_⟩) hH ?_
              rotate_left
              · intro w hSw; (try dsimp only at hSw); go_simp <;> with_reducible rfl
              try simp only [Act.put, List.setIfInBounds_toArray, List.set_cons_zero, List.set_cons_succ]
              refine wpAnyH_ready (rs := [2]) (by kernel_rfl) (by simp) ?_
              refine AllReadyH.cons (o := { dst := none, op := Op.store 47 (Operand.tmp 6) (Operand.tmp 62), type := 0, pos := "ref.go:84", after := #[{ on := 0, ground := Ground.data }, { on := 0, ground := Ground.phase }, { on := 1, ground := Ground.textOnly Departure.lateStores }], guard := none }) rfl (fun K hK => ?_) AllReadyH.nil
              have TS : ∀ m, st 47 (.pointer (some ⟨p + 1, 0, none⟩)) (msgV x.m) (World.drewN w5 m) = .ok .skip (World.setCells (World.drewN w5 m) (p + 1) 0 (encM (x.m))) := fun m => st_rmsg (x.m) (there_block (by exact H6.out))
              have TS0 : st 47 (.pointer (some ⟨p + 1, 0, none⟩)) (msgV x.m) (World.drew w5) = .ok .skip (World.setCells (World.drew w5) (p + 1) 0 (encM (x.m))) := st_rmsg (x.m) (there_block (by exact H6.out))
              go_simp
              clear TS TS0
              refine genw (K := K) (fun x1 hx => ?_)
              have f0 : Fr (fun q => q = p + 1) w5 x1 := by rw [hx]; exact Fr.setCells (S := fun q => q = p + 1) (b := p + 1) (fun _ => rfl) _ _ (by first | exact Fr.refl _ _ | exact (Fr.refl _ _).drewN _ | exact (Fr.refl _ _).drew)
              have H61 := hid (show x1.heap[p + 1]? = some (.cells (encM (x.m)).toArray _ (0, 0)) by rw [hx]; exact msg_over H6.out (x.m))
              have H71 := hid (f0.heap H7.out (by omega))
              clear f0
              refine hK.out _ _ ?_ (fun hH => ?_)
              · rw [hx]; exact Fr.setCells (S := (fun q => q = p + 1 ∨ q = p + 1 + 1)) (b := p + 1) (fun _ => .inl rfl) _ _ hH
              clear hK K
              refine wpAnyH_ready (rs := [3]) (by kernel_rfl) (by simp) ?_
              refine AllReadyH.cons (o := { dst := none, op := Op.store 32 (Operand.tmp 7) (Operand.tmp 63), type := 0, pos := "ref.go:84", after := #[{ on := 1, ground := Ground.data }, { on := 2, ground := Ground.chain }, { on := 0, ground := Ground.phase }, { on := 1, ground := Ground.phase }, { on := 2, ground := Ground.phase }], guard := none }) rfl (fun K hK => ?_) AllReadyH.nil
              clear hx
              have TS : st 32 (.pointer (some ⟨p + 1 + 1, 0, none⟩)) (.agg #[.int .i64 W, .int .i64 cap, .slice (s2) (j + (A.length - (j + 1))) (cs2)]) x1 = .ok .skip (World.setCells x1 (p + 1 + 1) 0 (encR W cap (s2) (j + (A.length - (j + 1))) (cs2))) := st_rm W cap (s2) (j + (A.length - (j + 1))) (cs2) (there_rm (by exact H71.out))
              go_simp
              clear TS
              refine genw (K := K) (fun x2 hx => ?_)
              have f1 : Fr (fun q => q = p + 1 + 1) x1 x2 := by rw [hx]; exact Fr.setCells (S := fun q => q = p + 1 + 1) (b := p + 1 + 1) (fun _ => rfl) _ _ (by first | exact Fr.refl _ _ | exact (Fr.refl _ _).drewN _ | exact (Fr.refl _ _).drew)
              have H72 := hid (show x2.heap[p + 1 + 1]? = some (.cells (encR W cap (s2) (j + (A.length - (j + 1))) (cs2)).toArray _ (0, 0)) by rw [hx]; exact encR_put (W' := W) (c' := cap) (s' := s2) (n' := j + (A.length - (j + 1))) (k' := cs2) H71.out)
              have H62 := hid (f1.heap H61.out (by omega))
              clear f1
              refine hK.out _ _ ?_ (fun hH => ?_)
              · rw [hx]; exact Fr.setCells (S := (fun q => q = p + 1 ∨ q = p + 1 + 1)) (b := p + 1 + 1) (fun _ => .inr rfl) _ _ hH
              clear hK K
              refine wpAnyH_take (i := 4) (oi := { dst := some 8, op := Op.assign (Operand.const (Value.int IntKind.i64 0)), type := 3, pos := "ref.go:84", after := #[{ on := 3, ground := Ground.chain }, { on := 0, ground := Ground.phase }, { on := 1, ground := Ground.phase }, { on := 2, ground := Ground.phase }, { on := 3, ground := Ground.phase }], guard := none }) (v := ?_) rfl (by kernel_rfl) (by kernel_rfl) (by kernel_rfl) (fun _ _ _ h => h) (Or.inl ⟨by rfl, ?_⟩) hH ?_
              rotate_left
              · intro w hSw; (try dsimp only at hSw); go_simp <;> with_reducible rfl
              try simp only [Act.put, List.setIfInBounds_toArray, List.set_cons_zero, List.set_cons_succ]
              refine wpAnyH_done (by kernel_rfl) ?_ _
              clear p0 p1 p2 hx lm
              go_wp2
              refine bodyPost_ret (v := .tuple #[msgV x.m, rmV W cap (.slice s2 (j + (A.length - (j + 1))) cs2), .int .i64 0]) (results_trio Try.results10 _ _ (by rfl) (by rfl) (MsgAt.of_block H62.out) (rm_var H72.out) (by rfl)) rfl ⟨?_, .inr (.inr ⟨HTX.out, j, x, HX.out, HE12.out.1, HE12.out.2, HNJ.out, s2, _, cs2, rfl, ?_, fun i e => ?_⟩)⟩
              · have hz := HZ.out
                have hp := HP.out
                refine ((((HF.out.trans' HB.out).trans' HG2.out).trans HF9.out (fun _ h => h) (fun i hi e => by omega))).trans hH (fun _ h => h) (fun i hi e => by omega)
              · refine RowA.fr (w := w5) ⟨w9.heap.size, ?_⟩ hH (fun i e h => ?_)
                · have h := HO2.out
                  rw [← List.flatMap_append] at h
                  have hl : (A.take j ++ A.drop (j + 1)).length = j + (A.length - (j + 1)) := by rw [List.length_append, List.length_take, List.length_drop]; omega
                  rw [hl]
                  exact h
                · have := HGP.out i e
                  have := HPZ.out
                  have := HYZ.out
                  omega
              · have := HGP.out i e
                have := HP.out
                have := HPY.out
                have := HYZ.out
                omega
            refine AllReadyH.cons (o := { dst := some 56, op := Op.load 30 (Operand.tmp 55), type := 30, pos := "ref.go:83", after := #[{ on := 6, ground := Ground.data }], guard := none }) rfl (fun K hK => ?_) AllReadyH.nil
            have e2 := HN0.out.cell e20 (fun e => e)
            go_simp
            clear e2
            refine genw (K := K) (fun x1 hx => ?_)
            have f0' : Fr (fun _ => False) w9 x1 := by rw [hx]; exact ⟨rfl, rfl, rfl, Nat.le_refl _, fun _ _ _ => rfl⟩
            have HZ1 := hid (show x1.heap.size = w9.heap.size by rw [hx]; try rfl)
            have HN1 := hid (HN0.out.trans' f0')
            clear f0' hx
            refine hK.out _ _ ?_ (fun hH => ?_)
            · exact HN1.out.mono (fun _ _ e => e.elim)
            clear hK K
            try simp only [Act.put, List.setIfInBounds_toArray, List.set_cons_zero, List.set_cons_succ]
            refine wpAnyH_take (i := 10) (oi := { dst := some 59, op := Op.slice 30 (Operand.tmp 56) (some (Operand.tmp 58)) none none, type := 30, pos := "ref.go:83", after := #[{ on := 7, ground := Ground.data }, { on := 9, ground := Ground.data }], guard := none }) (v := ?_) rfl (by kernel_rfl) (by kernel_rfl) (by kernel_rfl) (fun _ _ _ h => h) (Or.inl ⟨by rfl, ?_⟩) hH ?_
            rotate_left
            · intro w hSw; (try dsimp only at hSw); go_simp <;> with_reducible rfl
            try simp only [Act.put, List.setIfInBounds_toArray, List.set_cons_zero, List.set_cons_succ]
            refine wpAnyH_ready (rs := [0, 2]) (by kernel_rfl) (by simp) ?_
            refine AllReadyH.cons (o := { dst := some 49, op := Op.buildSlice 30 0 #[], type := 30, pos := "ref.go:83", after := #[], guard := none }) rfl (fun K hK => ?_) ?_
            ·
              go_simp
              refine genw (K := K) (fun x2 hx => ?_)
              have f1 : Fr (fun _ => False) (x1.alloc (.cells #[] 79)) x2 := by rw [hx]; exact ⟨rfl, rfl, rfl, Nat.le_refl _, fun _ _ _ => rfl⟩
              have f1' : Fr (fun _ => False) x1 x2 := ((Fr.refl _ x1).alloc _).trans' f1
              have HZ2 := hid (show x2.heap.size = x1.heap.size + 1 by rw [hx]; simp)
              have HN2 := hid (HN1.out.trans' f1')
              have hle1 := HN1.out.size
              have HE2 := hid (empty_own (B := w9.heap.size) (E := 79) (sz := 9) rfl f1 hle1 rfl)
              clear f1 f1' hx hle1
              refine hK.out _ _ ?_ (fun hH => ?_)
              · exact HN2.out.mono (fun _ _ e => e.elim)
              clear hK K
              try simp only [Act.put, List.setIfInBounds_toArray, List.set_cons_zero, List.set_cons_succ]
              refine wpAnyH_ready (rs := [2]) (by kernel_rfl) (by simp) ?_
              refine AllReadyH.cons (o := { dst := some 51, op := Op.load 30 (Operand.tmp 50), type := 30, pos := "ref.go:83", after := #[{ on := 1, ground := Ground.data }], guard := none }) rfl (fun K hK => ?_) AllReadyH.nil
              have e2 := HN2.out.cell e20 (fun e => e)
              go_simp
              clear e2
              refine genw (K := K) (fun x3 hx => ?_)
              have f2' : Fr (fun _ => False) x2 x3 := by rw [hx]; exact ⟨rfl, rfl, rfl, Nat.le_refl _, fun _ _ _ => rfl⟩
              have HZ3 := hid (show x3.heap.size = x2.heap.size by rw [hx]; try rfl)
              have HN3 := hid (HN2.out.trans' f2')
              have HE3 := hid (Fr.owns f2' HE2.out (fun _ _ e => e))
              clear f2' hx
              refine hK.out _ _ ?_ (fun hH => ?_)
              · exact HN3.out.mono (fun _ _ e => e.elim)
              clear hK K
              try simp only [Act.put, List.setIfInBounds_toArray, List.set_cons_zero, List.set_cons_succ]
              refine wpAnyH_take (i := 4) (oi := { dst := some 53, op := Op.slice 30 (Operand.tmp 51) none (some (Operand.tmp 52)) none, type := 30, pos := "ref.go:83", after := #[{ on := 2, ground := Ground.data }, { on := 3, ground := Ground.data }], guard := none }) (v := ?_) rfl (by kernel_rfl) (by kernel_rfl) (by kernel_rfl) (fun _ _ _ h => h) (Or.inl ⟨by rfl, ?_⟩) hH ?_
              rotate_left
              · intro w hSw; (try dsimp only at hSw); go_simp <;> with_reducible rfl
              try simp only [Act.put, List.setIfInBounds_toArray, List.set_cons_zero, List.set_cons_succ]
              refine wpAnyH_ready (rs := [5]) (by kernel_rfl) (by simp) ?_
              refine AllReadyH.cons (o := { dst := some 54, op := Op.call { callee := Callee.builtin Builtin.append, args := #[Operand.tmp 49, Operand.tmp 53], argTypes := #[30, 30] }, type := 30, pos := "ref.go:83", after := #[{ on := 0, ground := Ground.data }, { on := 4, ground := Ground.data }], guard := none }) rfl (fun K hK => ?_) AllReadyH.nil
              have qz1 := HZ1.out
              have qz2 := HZ2.out
              have qz3 := HZ3.out
              have hle3 := HN3.out.size
              have hlE : w9.heap.size ≤ x1.heap.size := by omega
              go_must (refine step_append_any _ (by rfl) _ _ _ (by rfl) w9.heap.size 79 i0 _ 9 104 Try.underlying30 hi0 hz0 hz1 hz2 rfl (by omega) (.slice (some ⟨x1.heap.size, 0, none⟩) 0 0) 0 [] (by rfl) (by exact HE3.out) w9.heap.size (some ⟨gp, 0, none⟩) j k ((A.take j).flatMap encP) (by rfl) (by exact HRU.out.fr HN3.out (Nat.le_refl _) (fun _ _ e => e)) (flatP_one _) (by unfold maxLen; omega) (by omega) (by omega) ?_)
              intro v1 x4 hown hgrow hat
              have f3' : Fr (fun q => q = x1.heap.size) x3 x4 := (Fr.refl _ x3).grown hgrow (fun q e _ => by simp [Value.ownBlock] at e; omega)
              have HZ4 := hid (show x3.heap.size ≤ x4.heap.size from f3'.size)
              have HN4 := hid (HN3.out.trans f3' (fun _ h => h) (fun i hi h => by omega))
              have HR4 := hid (show x4.ownsRow w9.heap.size 79 9 v1 (j) ((A.take j).flatMap encP) by rw [Nat.zero_add, List.nil_append] at hown; exact hown)
              clear f3' hown hgrow hat hlE hle3 qz1 qz2 qz3
              refine hK.out _ _ ?_ (fun hH => ?_)
              · exact HN4.out.mono (fun _ _ e => e.elim)
              clear hK K
              try simp only [Act.put, List.setIfInBounds_toArray, List.set_cons_zero, List.set_cons_succ]
              refine wpAnyH_ready (rs := [11]) (by kernel_rfl) (by simp) ?_
              refine AllReadyH.cons (o := { dst := some 60, op := Op.call { callee := Callee.builtin Builtin.append, args := #[Operand.tmp 54, Operand.tmp 59], argTypes := #[30, 30] }, type := 30, pos := "ref.go:83", after := #[{ on := 5, ground := Ground.data }, { on := 10, ground := Ground.data }, { on := 5, ground := Ground.chain }], guard := none }) rfl (fun K hK => ?_) AllReadyH.nil
              have hle4 := HN4.out.size
              have qz1 := HZ1.out
              have qz2 := HZ2.out
              have qz3 := HZ3.out
              have qz4 := HZ4.out
              go_must (refine step_append_any _ (by rfl) _ _ _ (by rfl) w9.heap.size 79 i0 _ 9 104 Try.underlying30 hi0 hz0 hz1 hz2 rfl (by omega) v1 (j) _ (by rfl) (by exact HR4.out) w9.heap.size A2 (A.length - (j + 1)) (k - (j + 1)) ((A.drop (j + 1)).flatMap encP) (by rfl) (by exact HRF.out.fr HN4.out (Nat.le_refl _) (fun _ _ e => e)) (flatP_one _) (by unfold maxLen; omega) (by omega) (by omega) ?_)
              intro v2 x5 hown hgrow hat
              have f4' : Fr (fun q => w9.heap.size ≤ q) x4 x5 := (Fr.refl _ x4).grown hgrow (fun q e _ => (HR4.out.lt q e).1)
              have HN5 := hid (HN4.out.trans f4' (fun _ h => h) (fun i hi h => by omega))
              have HOW := hid hown
              clear f4' hown hgrow hat hle4 qz1 qz2 qz3 qz4
              refine hK.out _ _ ?_ (fun hH => ?_)
              · exact HN5.out.mono (fun _ _ e => e.elim)
              clear hK K
              try simp only [Act.put, List.setIfInBounds_toArray, List.set_cons_zero, List.set_cons_succ]
              refine wpAnyH_take (i := 12) (oi := { dst := some 61, op := Op.fieldAddr 32 (Operand.tmp 3) 2, type := 0, pos := "ref.go:83", after := #[{ on := 0, ground := Ground.phase }, { on := 1, ground := Ground.phase }, { on := 2, ground := Ground.phase }, { on := 3, ground := Ground.phase }, { on := 4, ground := Ground.phase }, { on := 5, ground := Ground.phase }, { on := 6, ground := Ground.phase }, { on := 7, ground := Ground.phase }, { on := 8, ground := Ground.phase }, { on := 9, ground := Ground.phase }, { on := 10, ground := Ground.phase }, { on := 11, ground := Ground.phase }], guard := none }) (v := ?_) rfl (by kernel_rfl) (by kernel_rfl) (by kernel_rfl) (fun _ _ _ h => h) (Or.inl ⟨by rfl, ?_⟩) hH ?_
              rotate_left
              · intro w hSw; (try dsimp only at hSw); go_simp <;> with_reducible rfl
              try simp only [Act.put, List.setIfInBounds_toArray, List.set_cons_zero, List.set_cons_succ]
              refine wpAnyH_ready (rs := [13]) (by kernel_rfl) (by simp) ?_
              refine AllReadyH.cons (o := { dst := none, op := Op.store 30 (Operand.tmp 61) (Operand.tmp 60), type := 0, pos := "ref.go:83", after := #[{ on := 12, ground := Ground.data }, { on := 11, ground := Ground.data }, { on := 11, ground := Ground.chain }, { on := 0, ground := Ground.phase }, { on := 1, ground := Ground.phase }, { on := 2, ground := Ground.phase }, { on := 3, ground := Ground.phase }, { on := 4, ground := Ground.phase }, { on := 5, ground := Ground.phase }, { on := 6, ground := Ground.phase }, { on := 7, ground := Ground.phase }, { on := 8, ground := Ground.phase }, { on := 9, ground := Ground.phase }, { on := 10, ground := Ground.phase }, { on := 11, ground := Ground.phase }], guard := none }) rfl (fun K hK => ?_) AllReadyH.nil
              obtain ⟨s2, cs2, rfl, _⟩ := owns_view HOW.out
              have e2 := HN5.out.cell e20 (fun e => e)
              have f2 := free_of (HN5.out.heap HX3.out (fun e => e)) 2
              go_simp
              refine hK.out _ _ ?_ (fun hH => ?_)
              · exact (HN5.out.mono (S' := fun q => q = p) (fun _ _ e => e.elim)).setCell (p := ⟨p, 2, none⟩) (fun _ => rfl) _
              clear hK K
              refine wpAnyH_done (by kernel_rfl) ?_ _
              have HXN := hid (heap_set (i := 2) (HN5.out.heap HX3.out (fun e => e)) (.slice s2 (j + (A.length - (j + 1))) cs2))
              have hgp : ∀ i, (Value.slice s2 (j + (A.length - (j + 1))) cs2).ownBlock = some i → w9.heap.size ≤ i := fun i e => (HOW.out.lt i e).1
              have HGP := hid hgp
              have own2 := Go.ownsRow_setCell_other HOW.out (a := ⟨p, 2, none⟩) (fun e => by have h1 := HGP.out _ e; have h2 := HPY.out; have h3 := HYZ.out; simp only at h1; omega) (.slice s2 (j + (A.length - (j + 1))) cs2)
              have HO2 := hid own2
              have HF9 := hid hH
              clear own2 hH e2 f2 e20 hgp
              generalize hw5 : World.setCell _ _ _ = w5 at *
              clear hw5
              have hxn : w5.heap[p]? = some (.cells (encR W cap s2 (j + (A.length - (j + 1))) cs2).toArray 32 (0, 0)) := HXN.out
              have hyp : ¬ y = p := by have := HPY.out; omega
              have hy1 : ¬ (y = p + 1 ∨ y = p + 1 + 1) := by have := HPZ.out; omega
              have H6 := hid (HF9.out.heap (HG2.out.heap H6.out (fun e => e)) (by omega))
              have H7 := hid (HF9.out.heap (HG2.out.heap H7.out (fun e => e)) (by omega))
              have hnp : ¬ (p = p + 1 ∨ p = p + 1 + 1) := by omega
              have p0 : ∀ w', Fr (fun q => q = p + 1 ∨ q = p + 1 + 1) w5 w' → w'.cell? ⟨p, 0, none⟩ = some (.int .i64 W) := fun w' hf => hf.cell (cell_of hxn 0 rfl) hnp
              have p1 : ∀ w', Fr (fun q => q = p + 1 ∨ q = p + 1 + 1) w5 w' → w'.cell? ⟨p, 1, none⟩ = some (.int .i64 cap) := fun w' hf => hf.cell (cell_of hxn 1 rfl) hnp
              have p2 : ∀ w', Fr (fun q => q = p + 1 ∨ q = p + 1 + 1) w5 w' → w'.cell? ⟨p, 2, none⟩ = some (.slice s2 (j + (A.length - (j + 1))) cs2) := fun w' hf => hf.cell (cell_of hxn 2 rfl) hnp
              have lm : ∀ w', Fr (fun q => q = p + 1 ∨ q = p + 1 + 1) w5 w' → ld 47 (.pointer (some ⟨y, 0, none⟩)) w' = .ok (.value (msgV x.m)) w' := fun w' hf => ld_rmsg (MsgAt.of_block (hf.heap (HF9.out.heap HG1.out hyp) hy1))
              clear hxn
              go_upto_region 9 with fail
              refine wp_region_held_drew (S := (fun w' => Fr (fun q => q = p + 1 ∨ q = p + 1 + 1) w5 w')) (by kernel_rfl) ?_ (fun hH => ?_)
              · exact (Fr.refl (fun q => q = p + 1 ∨ q = p + 1 + 1) w5).drew
              refine wpAnyH_take (i := 0) (oi := { dst := some 62, op := Op.load 47 (Operand.tmp 10), type := 47, pos := "ref.go:84", after := #[], guard := none }) (v := ?_) rfl (by kernel_rfl) (by kernel_rfl) (by kernel_rfl) (fun _ _ _ h => h) (Or.inl ⟨by rfl, ?_⟩) hH ?_
              rotate_left
              · intro w hSw; (try dsimp only at hSw); go_simp <;> with_reducible rfl
              try simp only [Act.put, List.setIfInBounds_toArray, List.set_cons_zero, List.set_cons_succ]
              refine wpAnyH_take (i := 1) (oi := { dst := some 63, op := Op.load 32 (Operand.tmp 3), type := 32, pos := "ref.go:84", after := #[{ on := 2, ground := Ground.gcOnly Departure.lateStores }], guard := none }) (v := ?_) rfl (by kernel_rfl) (by kernel_rfl) (by kernel_rfl) (fun _ _ _ h => h) (Or.inl ⟨by rfl, ?_⟩) hH ?_
              rotate_left
              · intro w hSw; (try dsimp only at hSw); go_simp <;> with_reducible rfl
              try simp only [Act.put, List.setIfInBounds_toArray, List.set_cons_zero, List.set_cons_succ]
              refine wpAnyH_ready (rs := [2]) (by kernel_rfl) (by simp) ?_
              refine AllReadyH.cons (o := { dst := none, op := Op.store 47 (Operand.tmp 6) (Operand.tmp 62), type := 0, pos := "ref.go:84", after := #[{ on := 0, ground := Ground.data }, { on := 0, ground := Ground.phase }, { on := 1, ground := Ground.textOnly Departure.lateStores }], guard := none }) rfl (fun K hK => ?_) AllReadyH.nil
              have TS : ∀ m, st 47 (.pointer (some ⟨p + 1, 0, none⟩)) (msgV x.m) (World.drewN w5 m) = .ok .skip (World.setCells (World.drewN w5 m) (p + 1) 0 (encM (x.m))) := fun m => st_rmsg (x.m) (there_block (by exact H6.out))
              have TS0 : st 47 (.pointer (some ⟨p + 1, 0, none⟩)) (msgV x.m) (World.drew w5) = .ok .skip (World.setCells (World.drew w5) (p + 1) 0 (encM (x.m))) := st_rmsg (x.m) (there_block (by exact H6.out))
              go_simp
              clear TS TS0
              refine genw (K := K) (fun x1 hx => ?_)
              have f0 : Fr (fun q => q = p + 1) w5 x1 := by rw [hx]; exact Fr.setCells (S := fun q => q = p + 1) (b := p + 1) (fun _ => rfl) _ _ (by first | exact Fr.refl _ _ | exact (Fr.refl _ _).drewN _ | exact (Fr.refl _ _).drew)
              have H61 := hid (show x1.heap[p + 1]? = some (.cells (encM (x.m)).toArray _ (0, 0)) by rw [hx]; exact msg_over H6.out (x.m))
              have H71 := hid (f0.heap H7.out (by omega))
              clear f0
              refine hK.out _ _ ?_ (fun hH => ?_)
              · rw [hx]; exact Fr.setCells (S := (fun q => q = p + 1 ∨ q = p + 1 + 1)) (b := p + 1) (fun _ => .inl rfl) _ _ hH
              clear hK K
              refine wpAnyH_ready (rs := [3]) (by kernel_rfl) (by simp) ?_
              refine AllReadyH.cons (o := { dst := none, op := Op.store 32 (Operand.tmp 7) (Operand.tmp 63), type := 0, pos := "ref.go:84", after := #[{ on := 1, ground := Ground.data }, { on := 2, ground := Ground.chain }, { on := 0, ground := Ground.phase }, { on := 1, ground := Ground.phase }, { on := 2, ground := Ground.phase }], guard := none }) rfl (fun K hK => ?_) AllReadyH.nil
              clear hx
              have TS : st 32 (.pointer (some ⟨p + 1 + 1, 0, none⟩)) (.agg #[.int .i64 W, .int .i64 cap, .slice (s2) (j + (A.length - (j + 1))) (cs2)]) x1 = .ok .skip (World.setCells x1 (p + 1 + 1) 0 (encR W cap (s2) (j + (A.length - (j + 1))) (cs2))) := st_rm W cap (s2) (j + (A.length - (j + 1))) (cs2) (there_rm (by exact H71.out))
              go_simp
              clear TS
              refine genw (K := K) (fun x2 hx => ?_)
              have f1 : Fr (fun q => q = p + 1 + 1) x1 x2 := by rw [hx]; exact Fr.setCells (S := fun q => q = p + 1 + 1) (b := p + 1 + 1) (fun _ => rfl) _ _ (by first | exact Fr.refl _ _ | exact (Fr.refl _ _).drewN _ | exact (Fr.refl _ _).drew)
              have H72 := hid (show x2.heap[p + 1 + 1]? = some (.cells (encR W cap (s2) (j + (A.length - (j + 1))) (cs2)).toArray _ (0, 0)) by rw [hx]; exact encR_put (W' := W) (c' := cap) (s' := s2) (n' := j + (A.length - (j + 1))) (k' := cs2) H71.out)
              have H62 := hid (f1.heap H61.out (by omega))
              clear f1
              refine hK.out _ _ ?_ (fun hH => ?_)
              · rw [hx]; exact Fr.setCells (S := (fun q => q = p + 1 ∨ q = p + 1 + 1)) (b := p + 1 + 1) (fun _ => .inr rfl) _ _ hH
              clear hK K
              refine wpAnyH_take (i := 4) (oi := { dst := some 8, op := Op.assign (Operand.const (Value.int IntKind.i64 0)), type := 3, pos := "ref.go:84", after := #[{ on := 3, ground := Ground.chain }, { on := 0, ground := Ground.phase }, { on := 1, ground := Ground.phase }, { on := 2, ground := Ground.phase }, { on := 3, ground := Ground.phase }], guard := none }) (v := ?_) rfl (by kernel_rfl) (by kernel_rfl) (by kernel_rfl) (fun _ _ _ h => h) (Or.inl ⟨by rfl, ?_⟩) hH ?_
              rotate_left
              · intro w hSw; (try dsimp only at hSw); go_simp <;> with_reducible rfl
              try simp only [Act.put, List.setIfInBounds_toArray, List.set_cons_zero, List.set_cons_succ]
              refine wpAnyH_done (by kernel_rfl) ?_ _
              clear p0 p1 p2 hx lm
              go_wp2
              refine bodyPost_ret (v := .tuple #[msgV x.m, rmV W cap (.slice s2 (j + (A.length - (j + 1))) cs2), .int .i64 0]) (results_trio Try.results10 _ _ (by rfl) (by rfl) (MsgAt.of_block H62.out) (rm_var H72.out) (by rfl)) rfl ⟨?_, .inr (.inr ⟨HTX.out, j, x, HX.out, HE12.out.1, HE12.out.2, HNJ.out, s2, _, cs2, rfl, ?_, fun i e => ?_⟩)⟩
              · have hz := HZ.out
                have hp := HP.out
                refine ((((HF.out.trans' HB.out).trans' HG2.out).trans HF9.out (fun _ h => h) (fun i hi e => by omega))).trans hH (fun _ h => h) (fun i hi e => by omega)
              · refine RowA.fr (w := w5) ⟨w9.heap.size, ?_⟩ hH (fun i e h => ?_)
                · have h := HO2.out
                  rw [← List.flatMap_append] at h
                  have hl : (A.take j ++ A.drop (j + 1)).length = j + (A.length - (j + 1)) := by rw [List.length_append, List.length_take, List.length_drop]; omega
                  rw [hl]
                  exact h
                · have := HGP.out i e
                  have := HPZ.out
                  have := HYZ.out
                  omega
              · have := HGP.out i e
                have := HP.out
                have := HPY.out
                have := HYZ.out
                omega
            refine AllReadyH.cons (o := { dst := some 51, op := Op.load 30 (Operand.tmp 50), type := 30, pos := "ref.go:83", after := #[{ on := 1, ground := Ground.data }], guard := none }) rfl (fun K hK => ?_) AllReadyH.nil
            have e2 := HN1.out.cell e20 (fun e => e)
            go_simp
            clear e2
            refine genw (K := K) (fun x2 hx => ?_)
            have f1' : Fr (fun _ => False) x1 x2 := by rw [hx]; exact ⟨rfl, rfl, rfl, Nat.le_refl _, fun _ _ _ => rfl⟩
            have HZ2 := hid (show x2.heap.size = x1.heap.size by rw [hx]; try rfl)
            have HN2 := hid (HN1.out.trans' f1')
            clear f1' hx
            refine hK.out _ _ ?_ (fun hH => ?_)
            · exact HN2.out.mono (fun _ _ e => e.elim)
            clear hK K
            try simp only [Act.put, List.setIfInBounds_toArray, List.set_cons_zero, List.set_cons_succ]
            refine wpAnyH_take (i := 4) (oi := { dst := some 53, op := Op.slice 30 (Operand.tmp 51) none (some (Operand.tmp 52)) none, type := 30, pos := "ref.go:83", after := #[{ on := 2, ground := Ground.data }, { on := 3, ground := Ground.data }], guard := none }) (v := ?_) rfl (by kernel_rfl) (by kernel_rfl) (by kernel_rfl) (fun _ _ _ h => h) (Or.inl ⟨by rfl, ?_⟩) hH ?_
            rotate_left
            · intro w hSw; (try dsimp only at hSw); go_simp <;> with_reducible rfl
            try simp only [Act.put, List.setIfInBounds_toArray, List.set_cons_zero, List.set_cons_succ]
            refine wpAnyH_ready (rs := [0]) (by kernel_rfl) (by simp) ?_
            refine AllReadyH.cons (o := { dst := some 49, op := Op.buildSlice 30 0 #[], type := 30, pos := "ref.go:83", after := #[], guard := none }) rfl (fun K hK => ?_) AllReadyH.nil
            go_simp
            refine genw (K := K) (fun x3 hx => ?_)
            have f2 : Fr (fun _ => False) (x2.alloc (.cells #[] 79)) x3 := by rw [hx]; exact ⟨rfl, rfl, rfl, Nat.le_refl _, fun _ _ _ => rfl⟩
            have f2' : Fr (fun _ => False) x2 x3 := ((Fr.refl _ x2).alloc _).trans' f2
            have HZ3 := hid (show x3.heap.size = x2.heap.size + 1 by rw [hx]; simp)
            have HN3 := hid (HN2.out.trans' f2')
            have hle2 := HN2.out.size
            have HE3 := hid (empty_own (B := w9.heap.size) (E := 79) (sz := 9) rfl f2 hle2 rfl)
            clear f2 f2' hx hle2
            refine hK.out _ _ ?_ (fun hH => ?_)
            · exact HN3.out.mono (fun _ _ e => e.elim)
            clear hK K
            try simp only [Act.put, List.setIfInBounds_toArray, List.set_cons_zero, List.set_cons_succ]
            refine wpAnyH_ready (rs := [5]) (by kernel_rfl) (by simp) ?_
            refine AllReadyH.cons (o := { dst := some 54, op := Op.call { callee := Callee.builtin Builtin.append, args := #[Operand.tmp 49, Operand.tmp 53], argTypes := #[30, 30] }, type := 30, pos := "ref.go:83", after := #[{ on := 0, ground := Ground.data }, { on := 4, ground := Ground.data }], guard := none }) rfl (fun K hK => ?_) AllReadyH.nil
            have qz1 := HZ1.out
            have qz2 := HZ2.out
            have qz3 := HZ3.out
            have hle3 := HN3.out.size
            have hlE : w9.heap.size ≤ x2.heap.size := by omega
            go_must (refine step_append_any _ (by rfl) _ _ _ (by rfl) w9.heap.size 79 i0 _ 9 104 Try.underlying30 hi0 hz0 hz1 hz2 rfl (by omega) (.slice (some ⟨x2.heap.size, 0, none⟩) 0 0) 0 [] (by rfl) (by exact HE3.out) w9.heap.size (some ⟨gp, 0, none⟩) j k ((A.take j).flatMap encP) (by rfl) (by exact HRU.out.fr HN3.out (Nat.le_refl _) (fun _ _ e => e)) (flatP_one _) (by unfold maxLen; omega) (by omega) (by omega) ?_)
            intro v1 x4 hown hgrow hat
            have f3' : Fr (fun q => q = x2.heap.size) x3 x4 := (Fr.refl _ x3).grown hgrow (fun q e _ => by simp [Value.ownBlock] at e; omega)
            have HZ4 := hid (show x3.heap.size ≤ x4.heap.size from f3'.size)
            have HN4 := hid (HN3.out.trans f3' (fun _ h => h) (fun i hi h => by omega))
            have HR4 := hid (show x4.ownsRow w9.heap.size 79 9 v1 (j) ((A.take j).flatMap encP) by rw [Nat.zero_add, List.nil_append] at hown; exact hown)
            clear f3' hown hgrow hat hlE hle3 qz1 qz2 qz3
            refine hK.out _ _ ?_ (fun hH => ?_)
            · exact HN4.out.mono (fun _ _ e => e.elim)
            clear hK K
            try simp only [Act.put, List.setIfInBounds_toArray, List.set_cons_zero, List.set_cons_succ]
            refine wpAnyH_ready (rs := [11]) (by kernel_rfl) (by simp) ?_
            refine AllReadyH.cons (o := { dst := some 60, op := Op.call { callee := Callee.builtin Builtin.append, args := #[Operand.tmp 54, Operand.tmp 59], argTypes := #[30, 30] }, type := 30, pos := "ref.go:83", after := #[{ on := 5, ground := Ground.data }, { on := 10, ground := Ground.data }, { on := 5, ground := Ground.chain }], guard := none }) rfl (fun K hK => ?_) AllReadyH.nil
            have hle4 := HN4.out.size
            have qz1 := HZ1.out
            have qz2 := HZ2.out
            have qz3 := HZ3.out
            have qz4 := HZ4.out
            go_must (refine step_append_any _ (by rfl) _ _ _ (by rfl) w9.heap.size 79 i0 _ 9 104 Try.underlying30 hi0 hz0 hz1 hz2 rfl (by omega) v1 (j) _ (by rfl) (by exact HR4.out) w9.heap.size A2 (A.length - (j + 1)) (k - (j + 1)) ((A.drop (j + 1)).flatMap encP) (by rfl) (by exact HRF.out.fr HN4.out (Nat.le_refl _) (fun _ _ e => e)) (flatP_one _) (by unfold maxLen; omega) (by omega) (by omega) ?_)
            intro v2 x5 hown hgrow hat
            have f4' : Fr (fun q => w9.heap.size ≤ q) x4 x5 := (Fr.refl _ x4).grown hgrow (fun q e _ => (HR4.out.lt q e).1)
            have HN5 := hid (HN4.out.trans f4' (fun _ h => h) (fun i hi h => by omega))
            have HOW := hid hown
            clear f4' hown hgrow hat hle4 qz1 qz2 qz3 qz4
            refine hK.out _ _ ?_ (fun hH => ?_)
            · exact HN5.out.mono (fun _ _ e => e.elim)
            clear hK K
            try simp only [Act.put, List.setIfInBounds_toArray, List.set_cons_zero, List.set_cons_succ]
            refine wpAnyH_take (i := 12) (oi := { dst := some 61, op := Op.fieldAddr 32 (Operand.tmp 3) 2, type := 0, pos := "ref.go:83", after := #[{ on := 0, ground := Ground.phase }, { on := 1, ground := Ground.phase }, { on := 2, ground := Ground.phase }, { on := 3, ground := Ground.phase }, { on := 4, ground := Ground.phase }, { on := 5, ground := Ground.phase }, { on := 6, ground := Ground.phase }, { on := 7, ground := Ground.phase }, { on := 8, ground := Ground.phase }, { on := 9, ground := Ground.phase }, { on := 10, ground := Ground.phase }, { on := 11, ground := Ground.phase }], guard := none }) (v := ?_) rfl (by kernel_rfl) (by kernel_rfl) (by kernel_rfl) (fun _ _ _ h => h) (Or.inl ⟨by rfl, ?_⟩) hH ?_
            rotate_left
            · intro w hSw; (try dsimp only at hSw); go_simp <;> with_reducible rfl
            try simp only [Act.put, List.setIfInBounds_toArray, List.set_cons_zero, List.set_cons_succ]
            refine wpAnyH_ready (rs := [13]) (by kernel_rfl) (by simp) ?_
            refine AllReadyH.cons (o := { dst := none, op := Op.store 30 (Operand.tmp 61) (Operand.tmp 60), type := 0, pos := "ref.go:83", after := #[{ on := 12, ground := Ground.data }, { on := 11, ground := Ground.data }, { on := 11, ground := Ground.chain }, { on := 0, ground := Ground.phase }, { on := 1, ground := Ground.phase }, { on := 2, ground := Ground.phase }, { on := 3, ground := Ground.phase }, { on := 4, ground := Ground.phase }, { on := 5, ground := Ground.phase }, { on := 6, ground := Ground.phase }, { on := 7, ground := Ground.phase }, { on := 8, ground := Ground.phase }, { on := 9, ground := Ground.phase }, { on := 10, ground := Ground.phase }, { on := 11, ground := Ground.phase }], guard := none }) rfl (fun K hK => ?_) AllReadyH.nil
            obtain ⟨s2, cs2, rfl, _⟩ := owns_view HOW.out
            have e2 := HN5.out.cell e20 (fun e => e)
            have f2 := free_of (HN5.out.heap HX3.out (fun e => e)) 2
            go_simp
            refine hK.out _ _ ?_ (fun hH => ?_)
            · exact (HN5.out.mono (S' := fun q => q = p) (fun _ _ e => e.elim)).setCell (p := ⟨p, 2, none⟩) (fun _ => rfl) _
            clear hK K
            refine wpAnyH_done (by kernel_rfl) ?_ _
            have HXN := hid (heap_set (i := 2) (HN5.out.heap HX3.out (fun e => e)) (.slice s2 (j + (A.length - (j + 1))) cs2))
            have hgp : ∀ i, (Value.slice s2 (j + (A.length - (j + 1))) cs2).ownBlock = some i → w9.heap.size ≤ i := fun i e => (HOW.out.lt i e).1
            have HGP := hid hgp
            have own2 := Go.ownsRow_setCell_other HOW.out (a := ⟨p, 2, none⟩) (fun e => by have h1 := HGP.out _ e; have h2 := HPY.out; have h3 := HYZ.out; simp only at h1; omega) (.slice s2 (j + (A.length - (j + 1))) cs2)
            have HO2 := hid own2
            have HF9 := hid hH
            clear own2 hH e2 f2 e20 hgp
            generalize hw5 : World.setCell _ _ _ = w5 at *
            clear hw5
            have hxn : w5.heap[p]? = some (.cells (encR W cap s2 (j + (A.length - (j + 1))) cs2).toArray 32 (0, 0)) := HXN.out
            have hyp : ¬ y = p := by have := HPY.out; omega
            have hy1 : ¬ (y = p + 1 ∨ y = p + 1 + 1) := by have := HPZ.out; omega
            have H6 := hid (HF9.out.heap (HG2.out.heap H6.out (fun e => e)) (by omega))
            have H7 := hid (HF9.out.heap (HG2.out.heap H7.out (fun e => e)) (by omega))
            have hnp : ¬ (p = p + 1 ∨ p = p + 1 + 1) := by omega
            have p0 : ∀ w', Fr (fun q => q = p + 1 ∨ q = p + 1 + 1) w5 w' → w'.cell? ⟨p, 0, none⟩ = some (.int .i64 W) := fun w' hf => hf.cell (cell_of hxn 0 rfl) hnp
            have p1 : ∀ w', Fr (fun q => q = p + 1 ∨ q = p + 1 + 1) w5 w' → w'.cell? ⟨p, 1, none⟩ = some (.int .i64 cap) := fun w' hf => hf.cell (cell_of hxn 1 rfl) hnp
            have p2 : ∀ w', Fr (fun q => q = p + 1 ∨ q = p + 1 + 1) w5 w' → w'.cell? ⟨p, 2, none⟩ = some (.slice s2 (j + (A.length - (j + 1))) cs2) := fun w' hf => hf.cell (cell_of hxn 2 rfl) hnp
            have lm : ∀ w', Fr (fun q => q = p + 1 ∨ q = p + 1 + 1) w5 w' → ld 47 (.pointer (some ⟨y, 0, none⟩)) w' = .ok (.value (msgV x.m)) w' := fun w' hf => ld_rmsg (MsgAt.of_block (hf.heap (HF9.out.heap HG1.out hyp) hy1))
            clear hxn
            go_upto_region 9 with fail
            refine wp_region_held_drew (S := (fun w' => Fr (fun q => q = p + 1 ∨ q = p + 1 + 1) w5 w')) (by kernel_rfl) ?_ (fun hH => ?_)
            · exact (Fr.refl (fun q => q = p + 1 ∨ q = p + 1 + 1) w5).drew
            refine wpAnyH_take (i := 0) (oi := { dst := some 62, op := Op.load 47 (Operand.tmp 10), type := 47, pos := "ref.go:84", after := #[], guard := none }) (v := ?_) rfl (by kernel_rfl) (by kernel_rfl) (by kernel_rfl) (fun _ _ _ h => h) (Or.inl ⟨by rfl, ?_⟩) hH ?_
            rotate_left
            · intro w hSw; (try dsimp only at hSw); go_simp <;> with_reducible rfl
            try simp only [Act.put, List.setIfInBounds_toArray, List.set_cons_zero, List.set_cons_succ]
            refine wpAnyH_take (i := 1) (oi := { dst := some 63, op := Op.load 32 (Operand.tmp 3), type := 32, pos := "ref.go:84", after := #[{ on := 2, ground := Ground.gcOnly Departure.lateStores }], guard := none }) (v := ?_) rfl (by kernel_rfl) (by kernel_rfl) (by kernel_rfl) (fun _ _ _ h => h) (Or.inl ⟨by rfl, ?_⟩) hH ?_
            rotate_left
            · intro w hSw; (try dsimp only at hSw); go_simp <;> with_reducible rfl
            try simp only [Act.put, List.setIfInBounds_toArray, List.set_cons_zero, List.set_cons_succ]
            refine wpAnyH_ready (rs := [2]) (by kernel_rfl) (by simp) ?_
            refine AllReadyH.cons (o := { dst := none, op := Op.store 47 (Operand.tmp 6) (Operand.tmp 62), type := 0, pos := "ref.go:84", after := #[{ on := 0, ground := Ground.data }, { on := 0, ground := Ground.phase }, { on := 1, ground := Ground.textOnly Departure.lateStores }], guard := none }) rfl (fun K hK => ?_) AllReadyH.nil
            have TS : ∀ m, st 47 (.pointer (some ⟨p + 1, 0, none⟩)) (msgV x.m) (World.drewN w5 m) = .ok .skip (World.setCells (World.drewN w5 m) (p + 1) 0 (encM (x.m))) := fun m => st_rmsg (x.m) (there_block (by exact H6.out))
            have TS0 : st 47 (.pointer (some ⟨p + 1, 0, none⟩)) (msgV x.m) (World.drew w5) = .ok .skip (World.setCells (World.drew w5) (p + 1) 0 (encM (x.m))) := st_rmsg (x.m) (there_block (by exact H6.out))
            go_simp
            clear TS TS0
            refine genw (K := K) (fun x1 hx => ?_)
            have f0 : Fr (fun q => q = p + 1) w5 x1 := by rw [hx]; exact Fr.setCells (S := fun q => q = p + 1) (b := p + 1) (fun _ => rfl) _ _ (by first | exact Fr.refl _ _ | exact (Fr.refl _ _).drewN _ | exact (Fr.refl _ _).drew)
            have H61 := hid (show x1.heap[p + 1]? = some (.cells (encM (x.m)).toArray _ (0, 0)) by rw [hx]; exact msg_over H6.out (x.m))
            have H71 := hid (f0.heap H7.out (by omega))
            clear f0
            refine hK.out _ _ ?_ (fun hH => ?_)
            · rw [hx]; exact Fr.setCells (S := (fun q => q = p + 1 ∨ q = p + 1 + 1)) (b := p + 1) (fun _ => .inl rfl) _ _ hH
            clear hK K
            refine wpAnyH_ready (rs := [3]) (by kernel_rfl) (by simp) ?_
            refine AllReadyH.cons (o := { dst := none, op := Op.store 32 (Operand.tmp 7) (Operand.tmp 63), type := 0, pos := "ref.go:84", after := #[{ on := 1, ground := Ground.data }, { on := 2, ground := Ground.chain }, { on := 0, ground := Ground.phase }, { on := 1, ground := Ground.phase }, { on := 2, ground := Ground.phase }], guard := none }) rfl (fun K hK => ?_) AllReadyH.nil
            clear hx
            have TS : st 32 (.pointer (some ⟨p + 1 + 1, 0, none⟩)) (.agg #[.int .i64 W, .int .i64 cap, .slice (s2) (j + (A.length - (j + 1))) (cs2)]) x1 = .ok .skip (World.setCells x1 (p + 1 + 1) 0 (encR W cap (s2) (j + (A.length - (j + 1))) (cs2))) := st_rm W cap (s2) (j + (A.length - (j + 1))) (cs2) (there_rm (by exact H71.out))
            go_simp
            clear TS
            refine genw (K := K) (fun x2 hx => ?_)
            have f1 : Fr (fun q => q = p + 1 + 1) x1 x2 := by rw [hx]; exact Fr.setCells (S := fun q => q = p + 1 + 1) (b := p + 1 + 1) (fun _ => rfl) _ _ (by first | exact Fr.refl _ _ | exact (Fr.refl _ _).drewN _ | exact (Fr.refl _ _).drew)
            have H72 := hid (show x2.heap[p + 1 + 1]? = some (.cells (encR W cap (s2) (j + (A.length - (j + 1))) (cs2)).toArray _ (0, 0)) by rw [hx]; exact encR_put (W' := W) (c' := cap) (s' := s2) (n' := j + (A.length - (j + 1))) (k' := cs2) H71.out)
            have H62 := hid (f1.heap H61.out (by omega))
            clear f1
            refine hK.out _ _ ?_ (fun hH => ?_)
            · rw [hx]; exact Fr.setCells (S := (fun q => q = p + 1 ∨ q = p + 1 + 1)) (b := p + 1 + 1) (fun _ => .inr rfl) _ _ hH
            clear hK K
            refine wpAnyH_take (i := 4) (oi := { dst := some 8, op := Op.assign (Operand.const (Value.int IntKind.i64 0)), type := 3, pos := "ref.go:84", after := #[{ on := 3, ground := Ground.chain }, { on := 0, ground := Ground.phase }, { on := 1, ground := Ground.phase }, { on := 2, ground := Ground.phase }, { on := 3, ground := Ground.phase }], guard := none }) (v := ?_) rfl (by kernel_rfl) (by kernel_rfl) (by kernel_rfl) (fun _ _ _ h => h) (Or.inl ⟨by rfl, ?_⟩) hH ?_
            rotate_left
            · intro w hSw; (try dsimp only at hSw); go_simp <;> with_reducible rfl
            try simp only [Act.put, List.setIfInBounds_toArray, List.set_cons_zero, List.set_cons_succ]
            refine wpAnyH_done (by kernel_rfl) ?_ _
            clear p0 p1 p2 hx lm
            go_wp2
            refine bodyPost_ret (v := .tuple #[msgV x.m, rmV W cap (.slice s2 (j + (A.length - (j + 1))) cs2), .int .i64 0]) (results_trio Try.results10 _ _ (by rfl) (by rfl) (MsgAt.of_block H62.out) (rm_var H72.out) (by rfl)) rfl ⟨?_, .inr (.inr ⟨HTX.out, j, x, HX.out, HE12.out.1, HE12.out.2, HNJ.out, s2, _, cs2, rfl, ?_, fun i e => ?_⟩)⟩
            · have hz := HZ.out
              have hp := HP.out
              refine ((((HF.out.trans' HB.out).trans' HG2.out).trans HF9.out (fun _ h => h) (fun i hi e => by omega))).trans hH (fun _ h => h) (fun i hi e => by omega)
            · refine RowA.fr (w := w5) ⟨w9.heap.size, ?_⟩ hH (fun i e h => ?_)
              · have h := HO2.out
                rw [← List.flatMap_append] at h
                have hl : (A.take j ++ A.drop (j + 1)).length = j + (A.length - (j + 1)) := by rw [List.length_append, List.length_take, List.length_drop]; omega
                rw [hl]
                exact h
              · have := HGP.out i e
                have := HPZ.out
                have := HYZ.out
                omega
            · have := HGP.out i e
              have := HP.out
              have := HPY.out
              have := HYZ.out
              omega
          · have t1 : (x.f == a) = true := by simpa using e1
            have t2 : (x.d == b) = false := by simpa using e2
            have HE12 := hid (show ¬ (x.f = a ∧ x.d = b) from fun h => e2 h.2)
            clear e1 e2
            go_wp2_with fail
            go_roundw
            case rel =>
              refine ⟨j + 1, by omega, by go_num, fun y hy => ?_, trivial⟩
              rw [take_snoc A j x HX.out] at hy
              rcases List.mem_append.1 hy with hy | hy
              · exact HNJ.out y hy
              · rw [List.mem_singleton.1 hy]; exact HE12.out
            case measure => simp [intOf]; omega
        · have t1 : (x.f == a) = false := by simpa using e1
          have HE12 := hid (show ¬ (x.f = a ∧ x.d = b) from fun h => e1 h.1)
          clear e1
          go_wp2_with fail
          go_roundw
          case rel =>
            refine ⟨j + 1, by omega, by go_num, fun y hy => ?_, trivial⟩
            rw [take_snoc A j x HX.out] at hy
            rcases List.mem_append.1 hy with hy | hy
            · exact HNJ.out y hy
            · rw [List.mem_singleton.1 hy]; exact HE12.out
          case measure => simp [intOf]; omega
      · obtain rfl : j = A.length := by omega
        have HNO := hid (show ∀ y ∈ A, ¬ (y.f = a ∧ y.d = b) by have h := HNJ.out; rwa [List.take_length] at h)
        have a0 := p0
        have a1 := p1
        have a2 := p2
        clear p0 p1 p2
        have hnp : ¬ (p = p + 1 ∨ p = p + 1 + 1) := by omega
        have p0 : ∀ w', Fr (fun q => q = p + 1 ∨ q = p + 1 + 1) wr w' → w'.cell? ⟨p, 0, none⟩ = some (.int .i64 W) := fun w' hf => hf.cell (HB.out.cell a0 (fun e => e)) hnp
        have p1 : ∀ w', Fr (fun q => q = p + 1 ∨ q = p + 1 + 1) wr w' → w'.cell? ⟨p, 1, none⟩ = some (.int .i64 cap) := fun w' hf => hf.cell (HB.out.cell a1 (fun e => e)) hnp
        have p2 : ∀ w', Fr (fun q => q = p + 1 ∨ q = p + 1 + 1) wr w' → w'.cell? ⟨p, 2, none⟩ = some (.slice s A.length k) := fun w' hf => hf.cell (HB.out.cell a2 (fun e => e)) hnp
        clear a0 a1 a2
        go_upto_region 10 with fail
        refine wp_region_held_drew (S := (fun w' => Fr (fun q => q = p + 1 ∨ q = p + 1 + 1) wr w')) (by kernel_rfl) ?_ (fun hH => ?_)
        · exact (Fr.refl (fun q => q = p + 1 ∨ q = p + 1 + 1) wr).drew
        refine wpAnyH_take (i := 0) (oi := { dst := some 64, op := Op.build 47 #[], type := 47, pos := "ref.go:87", after := #[], guard := none }) (v := ?_) rfl (by kernel_rfl) (by kernel_rfl) (by kernel_rfl) (fun _ _ _ h => h) (Or.inl ⟨by rfl, ?_⟩) hH ?_
        rotate_left
        · intro w hSw; (try dsimp only at hSw); go_simp <;> with_reducible rfl
        try simp only [Act.put, List.setIfInBounds_toArray, List.set_cons_zero, List.set_cons_succ]
        refine wpAnyH_take (i := 1) (oi := { dst := some 65, op := Op.load 32 (Operand.tmp 3), type := 32, pos := "ref.go:87", after := #[{ on := 2, ground := Ground.gcOnly Departure.lateStores }], guard := none }) (v := ?_) rfl (by kernel_rfl) (by kernel_rfl) (by kernel_rfl) (fun _ _ _ h => h) (Or.inl ⟨by rfl, ?_⟩) hH ?_
        rotate_left
        · intro w hSw; (try dsimp only at hSw); go_simp <;> with_reducible rfl
        try simp only [Act.put, List.setIfInBounds_toArray, List.set_cons_zero, List.set_cons_succ]
        refine wpAnyH_ready (rs := [2]) (by kernel_rfl) (by simp) ?_
        refine AllReadyH.cons (o := { dst := none, op := Op.store 47 (Operand.tmp 6) (Operand.tmp 64), type := 0, pos := "ref.go:87", after := #[{ on := 0, ground := Ground.data }, { on := 0, ground := Ground.phase }, { on := 1, ground := Ground.textOnly Departure.lateStores }], guard := none }) rfl (fun K hK => ?_) AllReadyH.nil
        have TS : ∀ m, st 47 (.pointer (some ⟨p + 1, 0, none⟩)) (.agg #[.int .i64 0, .string ⟨#[]⟩, .int .i64 0, .int .i64 0, .int .i64 0, .string ⟨#[]⟩, .slice none 0 0]) (World.drewN wr m) = .ok .skip (World.setCells (World.drewN wr m) (p + 1) 0 (encM (noM))) := fun m => st_rmsg (noM) (there_block (by exact H6.out))
        have TS0 : st 47 (.pointer (some ⟨p + 1, 0, none⟩)) (.agg #[.int .i64 0, .string ⟨#[]⟩, .int .i64 0, .int .i64 0, .int .i64 0, .string ⟨#[]⟩, .slice none 0 0]) (World.drew wr) = .ok .skip (World.setCells (World.drew wr) (p + 1) 0 (encM (noM))) := st_rmsg (noM) (there_block (by exact H6.out))
        go_simp
        clear TS TS0
        refine genw (K := K) (fun x1 hx => ?_)
        have f0 : Fr (fun q => q = p + 1) wr x1 := by rw [hx]; exact Fr.setCells (S := fun q => q = p + 1) (b := p + 1) (fun _ => rfl) _ _ (by first | exact Fr.refl _ _ | exact (Fr.refl _ _).drewN _ | exact (Fr.refl _ _).drew)
        have H61 := hid (show x1.heap[p + 1]? = some (.cells (encM (noM)).toArray _ (0, 0)) by rw [hx]; exact msg_over H6.out (noM))
        have H71 := hid (f0.heap H7.out (by omega))
        clear f0
        refine hK.out _ _ ?_ (fun hH => ?_)
        · rw [hx]; exact Fr.setCells (S := (fun q => q = p + 1 ∨ q = p + 1 + 1)) (b := p + 1) (fun _ => .inl rfl) _ _ hH
        clear hK K
        refine wpAnyH_ready (rs := [3]) (by kernel_rfl) (by simp) ?_
        refine AllReadyH.cons (o := { dst := none, op := Op.store 32 (Operand.tmp 7) (Operand.tmp 65), type := 0, pos := "ref.go:87", after := #[{ on := 1, ground := Ground.data }, { on := 2, ground := Ground.chain }, { on := 0, ground := Ground.phase }, { on := 1, ground := Ground.phase }, { on := 2, ground := Ground.phase }], guard := none }) rfl (fun K hK => ?_) AllReadyH.nil
        clear hx
        have TS : st 32 (.pointer (some ⟨p + 1 + 1, 0, none⟩)) (.agg #[.int .i64 W, .int .i64 cap, .slice (s) (A.length) (k)]) x1 = .ok .skip (World.setCells x1 (p + 1 + 1) 0 (encR W cap (s) (A.length) (k))) := st_rm W cap (s) (A.length) (k) (there_rm (by exact H71.out))
        go_simp
        clear TS
        refine genw (K := K) (fun x2 hx => ?_)
        have f1 : Fr (fun q => q = p + 1 + 1) x1 x2 := by rw [hx]; exact Fr.setCells (S := fun q => q = p + 1 + 1) (b := p + 1 + 1) (fun _ => rfl) _ _ (by first | exact Fr.refl _ _ | exact (Fr.refl _ _).drewN _ | exact (Fr.refl _ _).drew)
        have H72 := hid (show x2.heap[p + 1 + 1]? = some (.cells (encR W cap (s) (A.length) (k)).toArray _ (0, 0)) by rw [hx]; exact encR_put (W' := W) (c' := cap) (s' := s) (n' := A.length) (k' := k) H71.out)
        have H62 := hid (f1.heap H61.out (by omega))
        clear f1
        refine hK.out _ _ ?_ (fun hH => ?_)
        · rw [hx]; exact Fr.setCells (S := (fun q => q = p + 1 ∨ q = p + 1 + 1)) (b := p + 1 + 1) (fun _ => .inr rfl) _ _ hH
        clear hK K
        refine wpAnyH_take (i := 4) (oi := { dst := some 8, op := Op.assign (Operand.const (Value.int IntKind.i64 16)), type := 3, pos := "ref.go:87", after := #[{ on := 3, ground := Ground.chain }, { on := 0, ground := Ground.phase }, { on := 1, ground := Ground.phase }, { on := 2, ground := Ground.phase }, { on := 3, ground := Ground.phase }], guard := none }) (v := ?_) rfl (by kernel_rfl) (by kernel_rfl) (by kernel_rfl) (fun _ _ _ h => h) (Or.inl ⟨by rfl, ?_⟩) hH ?_
        rotate_left
        · intro w hSw; (try dsimp only at hSw); go_simp <;> with_reducible rfl
        try simp only [Act.put, List.setIfInBounds_toArray, List.set_cons_zero, List.set_cons_succ]
        refine wpAnyH_done (by kernel_rfl) ?_ _
        clear p0 p1 p2 hx
        go_wp2
        refine bodyPost_ret (v := .tuple #[msgV noM, rmV W cap (.slice s A.length k), .int .i64 16]) (results_trio Try.results10 _ _ (by rfl) (by rfl) (MsgAt.of_block H62.out) (rm_var H72.out) (by rfl)) rfl ⟨?_, .inr (.inl ⟨HTX.out, HNO.out, rfl⟩)⟩
        exact (HF.out.trans' HB.out).trans hH (fun _ h => h) (fun i hi e => by have := HP.out; omega)
  · have hd : decide (thereI W a b) = false := by simpa using ht
    have HTX := hid ht
    clear ht
    go_wp2_with (go_at_call 28; refine (U.out _).mono ?_; rintro e w3 ⟨rfl, hb'⟩; rw [hd]; have HB := hid hb'; clear hb')
    have H6 := hid (HB.out.heap HE2.out (fun e => e))
    have H7 := hid (HB.out.heap HE3.out (fun e => e))
    have a0 := p0
    have a1 := p1
    have a2 := p2
    clear p0 p1 p2
    have hnp : ¬ (p = p + 1 ∨ p = p + 1 + 1) := by omega
    have p0 : ∀ w', Fr (fun q => q = p + 1 ∨ q = p + 1 + 1) w3 w' → w'.cell? ⟨p, 0, none⟩ = some (.int .i64 W) := fun w' hf => hf.cell (HB.out.cell a0 (fun e => e)) hnp
    have p1 : ∀ w', Fr (fun q => q = p + 1 ∨ q = p + 1 + 1) w3 w' → w'.cell? ⟨p, 1, none⟩ = some (.int .i64 cap) := fun w' hf => hf.cell (HB.out.cell a1 (fun e => e)) hnp
    have p2 : ∀ w', Fr (fun q => q = p + 1 ∨ q = p + 1 + 1) w3 w' → w'.cell? ⟨p, 2, none⟩ = some (.slice s A.length k) := fun w' hf => hf.cell (HB.out.cell a2 (fun e => e)) hnp
    clear a0 a1 a2
    refine wp_region_held_drew (S := (fun w' => Fr (fun q => q = p + 1 ∨ q = p + 1 + 1) w3 w')) (by kernel_rfl) ?_ (fun hH => ?_)
    · exact (Fr.refl (fun q => q = p + 1 ∨ q = p + 1 + 1) w3).drew
    refine wpAnyH_take (i := 0) (oi := { dst := some 16, op := Op.build 47 #[], type := 47, pos := "ref.go:78", after := #[], guard := none }) (v := ?_) rfl (by kernel_rfl) (by kernel_rfl) (by kernel_rfl) (fun _ _ _ h => h) (Or.inl ⟨by rfl, ?_⟩) hH ?_
    rotate_left
    · intro w hSw; (try dsimp only at hSw); go_simp <;> with_reducible rfl
    try simp only [Act.put, List.setIfInBounds_toArray, List.set_cons_zero, List.set_cons_succ]
    refine wpAnyH_take (i := 1) (oi := { dst := some 17, op := Op.load 32 (Operand.tmp 3), type := 32, pos := "ref.go:78", after := #[{ on := 2, ground := Ground.gcOnly Departure.lateStores }], guard := none }) (v := ?_) rfl (by kernel_rfl) (by kernel_rfl) (by kernel_rfl) (fun _ _ _ h => h) (Or.inl ⟨by rfl, ?_⟩) hH ?_
    rotate_left
    · intro w hSw; (try dsimp only at hSw); go_simp <;> with_reducible rfl
    try simp only [Act.put, List.setIfInBounds_toArray, List.set_cons_zero, List.set_cons_succ]
    refine wpAnyH_ready (rs := [2]) (by kernel_rfl) (by simp) ?_
    refine AllReadyH.cons (o := { dst := none, op := Op.store 47 (Operand.tmp 6) (Operand.tmp 16), type := 0, pos := "ref.go:78", after := #[{ on := 0, ground := Ground.data }, { on := 0, ground := Ground.phase }, { on := 1, ground := Ground.textOnly Departure.lateStores }], guard := none }) rfl (fun K hK => ?_) AllReadyH.nil
    have TS : ∀ m, st 47 (.pointer (some ⟨p + 1, 0, none⟩)) (.agg #[.int .i64 0, .string ⟨#[]⟩, .int .i64 0, .int .i64 0, .int .i64 0, .string ⟨#[]⟩, .slice none 0 0]) (World.drewN w3 m) = .ok .skip (World.setCells (World.drewN w3 m) (p + 1) 0 (encM (noM))) := fun m => st_rmsg (noM) (there_block (by exact H6.out))
    have TS0 : st 47 (.pointer (some ⟨p + 1, 0, none⟩)) (.agg #[.int .i64 0, .string ⟨#[]⟩, .int .i64 0, .int .i64 0, .int .i64 0, .string ⟨#[]⟩, .slice none 0 0]) (World.drew w3) = .ok .skip (World.setCells (World.drew w3) (p + 1) 0 (encM (noM))) := st_rmsg (noM) (there_block (by exact H6.out))
    go_simp
    clear TS TS0
    refine genw (K := K) (fun x1 hx => ?_)
    have f0 : Fr (fun q => q = p + 1) w3 x1 := by rw [hx]; exact Fr.setCells (S := fun q => q = p + 1) (b := p + 1) (fun _ => rfl) _ _ (by first | exact Fr.refl _ _ | exact (Fr.refl _ _).drewN _ | exact (Fr.refl _ _).drew)
    have H61 := hid (show x1.heap[p + 1]? = some (.cells (encM (noM)).toArray _ (0, 0)) by rw [hx]; exact msg_over H6.out (noM))
    have H71 := hid (f0.heap H7.out (by omega))
    clear f0
    refine hK.out _ _ ?_ (fun hH => ?_)
    · rw [hx]; exact Fr.setCells (S := (fun q => q = p + 1 ∨ q = p + 1 + 1)) (b := p + 1) (fun _ => .inl rfl) _ _ hH
    clear hK K
    refine wpAnyH_ready (rs := [3]) (by kernel_rfl) (by simp) ?_
    refine AllReadyH.cons (o := { dst := none, op := Op.store 32 (Operand.tmp 7) (Operand.tmp 17), type := 0, pos := "ref.go:78", after := #[{ on := 1, ground := Ground.data }, { on := 2, ground := Ground.chain }, { on := 0, ground := Ground.phase }, { on := 1, ground := Ground.phase }, { on := 2, ground := Ground.phase }], guard := none }) rfl (fun K hK => ?_) AllReadyH.nil
    clear hx
    have TS : st 32 (.pointer (some ⟨p + 1 + 1, 0, none⟩)) (.agg #[.int .i64 W, .int .i64 cap, .slice (s) (A.length) (k)]) x1 = .ok .skip (World.setCells x1 (p + 1 + 1) 0 (encR W cap (s) (A.length) (k))) := st_rm W cap (s) (A.length) (k) (there_rm (by exact H71.out))
    go_simp
    clear TS
    refine genw (K := K) (fun x2 hx => ?_)
    have f1 : Fr (fun q => q = p + 1 + 1) x1 x2 := by rw [hx]; exact Fr.setCells (S := fun q => q = p + 1 + 1) (b := p + 1 + 1) (fun _ => rfl) _ _ (by first | exact Fr.refl _ _ | exact (Fr.refl _ _).drewN _ | exact (Fr.refl _ _).drew)
    have H72 := hid (show x2.heap[p + 1 + 1]? = some (.cells (encR W cap (s) (A.length) (k)).toArray _ (0, 0)) by rw [hx]; exact encR_put (W' := W) (c' := cap) (s' := s) (n' := A.length) (k' := k) H71.out)
    have H62 := hid (f1.heap H61.out (by omega))
    clear f1
    refine hK.out _ _ ?_ (fun hH => ?_)
    · rw [hx]; exact Fr.setCells (S := (fun q => q = p + 1 ∨ q = p + 1 + 1)) (b := p + 1 + 1) (fun _ => .inr rfl) _ _ hH
    clear hK K
    refine wpAnyH_take (i := 4) (oi := { dst := some 8, op := Op.assign (Operand.const (Value.int IntKind.i64 6)), type := 3, pos := "ref.go:78", after := #[{ on := 3, ground := Ground.chain }, { on := 0, ground := Ground.phase }, { on := 1, ground := Ground.phase }, { on := 2, ground := Ground.phase }, { on := 3, ground := Ground.phase }], guard := none }) (v := ?_) rfl (by kernel_rfl) (by kernel_rfl) (by kernel_rfl) (fun _ _ _ h => h) (Or.inl ⟨by rfl, ?_⟩) hH ?_
    rotate_left
    · intro w hSw; (try dsimp only at hSw); go_simp <;> with_reducible rfl
    try simp only [Act.put, List.setIfInBounds_toArray, List.set_cons_zero, List.set_cons_succ]
    refine wpAnyH_done (by kernel_rfl) ?_ _
    clear p0 p1 p2 hx
    go_wp2
    refine bodyPost_ret (v := .tuple #[msgV noM, rmV W cap (.slice s A.length k), .int .i64 6]) (results_trio Try.results10 _ _ (by rfl) (by rfl) (MsgAt.of_block H62.out) (rm_var H72.out) (by rfl)) rfl ⟨?_, .inl ⟨HTX.out, rfl⟩⟩
    exact (HF.out.trans' HB.out).trans hH (fun _ h => h) (fun i hi e => by have := HP.out; omega)

end Go.Proofs.Ytakhmommcgfoaaa
