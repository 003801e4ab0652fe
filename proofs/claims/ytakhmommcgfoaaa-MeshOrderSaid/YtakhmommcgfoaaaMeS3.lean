/-
  The document's Send, walked.
-/
import Derived.Test.YtakhmommcgfoaaaMeS2
namespace Go.Proofs.Ytakhmommcgfoaaa
open Go.RowKit

def RSendPost (w : World) (W cap : Nat) (s : Option Addr) (n k : Nat) (A P : List Pq) (e : Ending) (w' : World) : Prop :=
  Fr (fun _ => False) w w' ∧
  ((¬ (∀ x ∈ P, thereI W x.f x.d) ∧ e = .returned (.tuple #[rmV W cap (.slice s n k), .int .i64 6])) ∨
   ((∀ x ∈ P, thereI W x.f x.d) ∧ (∃ j x, P[j]? = some x ∧ cap ≤ cntA x.f x.d (A ++ P.take j)) ∧ e = .returned (.tuple #[rmV W cap (.slice s n k), .int .i64 7])) ∨
   ((∀ x ∈ P, thereI W x.f x.d) ∧ (∀ (j : Nat) x, P[j]? = some x → cntA x.f x.d (A ++ P.take j) < cap) ∧
     ∃ s' n' k', e = .returned (.tuple #[rmV W cap (.slice s' n' k'), .int .i64 0]) ∧ RowA w' s' n' k' (A ++ P) ∧
       ∀ i, (Value.slice s' n' k').ownBlock = some i → (Value.slice s n k).ownBlock = some i ∨ w.heap.size ≤ i))

attribute [local go_sem ↓] run_stR run_ldQ
set_option maxRecDepth 100000 in
set_option maxHeartbeats 4000000 in
theorem refSend_ok {w : World} {F : Nat → Prop} {W cap : Nat} {s l : Option Addr} {n k ln lc : Nat} {A P : List Pq} (hr : RowA w s n k A) (hP : Pa w F l ln P) (hA : A.length ≤ 4000) :
    Calls Try.prog 15 #[rmV W cap (.slice s n k), .slice l ln lc] w fun e w' => RSendPost w W cap s n k A P e w' := by
  obtain ⟨i0, hi0, hz0, hz1, hz2⟩ := info_parts info_rpar
  obtain rfl := hr.n
  obtain ⟨rfl, hl8, h3⟩ := hP
  have H3 := hid h3
  have HR := hid hr
  clear h3 hr
  unfold rmV
  go_enter Try.func15, Try.ntmps15
  go_upto_region 1 with fail
  generalize hw1 : World.alloc (World.alloc w _) _ = w1
  obtain ⟨E1, E2, F1, z1⟩ := two_rms (W := W) (c := cap) (s := s) (n := A.length) (k := k) (W' := 0) (c' := 0) (s' := none) (n' := 0) (k' := 0) hw1
  clear hw1
  generalize hp : w.heap.size = p at *
  have HP := hid hp
  have HZ := hid z1
  have HF := hid F1
  have HE1 := hid E1
  have HE2 := hid E2
  clear E1 E2 F1 hp z1
  go_wp2_with fail
  go_loopw [6] (fun i wr => ∃ j : Nat, j ≤ P.length ∧ i = .int .i64 j ∧ (∀ x ∈ P.take j, thereI W x.f x.d) ∧ Fr (fun _ => False) w1 wr) (fun i _ => P.length - (intOf i).toNat)
  case atStart => exact ⟨0, Nat.zero_le _, rfl, by simp, Fr.refl _ _⟩
  case round =>
    obtain ⟨j, hj, rfl, hal, hf⟩ := hrel
    have HT := hid hal
    have HW := hid hf
    clear hal hf
    by_cases hjl : j < P.length
    · obtain ⟨x, hx⟩ : ∃ x, P[j]? = some x := ⟨P[j], by simp [hjl]⟩
      obtain ⟨b, o, rfl, hFb, hr⟩ := H3.out.resolve_left (fun e => by subst e; simp at hx)
      have hpa := (hr j x hx).1
      have HX := hid hx
      have hjb : (j : Int) < (P.length : Int) := by omega
      have hpw : ParAt wr b (o + j * 9) x := fun i u hu => HW.out.cell (HF.out.cell (hpa i u hu) (fun e => e)) (fun e => e)
      have a0 : ∀ w', Fr (fun _ => False) wr w' → w'.cell? ⟨p, 0, none⟩ = some (.int .i64 W) := fun w' hf => (HW.out.trans' hf).cell (cell_of HE1.out 0 rfl) (fun e => e)
      have a1 : ∀ w', Fr (fun _ => False) wr w' → w'.cell? ⟨p, 1, none⟩ = some (.int .i64 cap) := fun w' hf => (HW.out.trans' hf).cell (cell_of HE1.out 1 rfl) (fun e => e)
      have a2 : ∀ w', Fr (fun _ => False) wr w' → w'.cell? ⟨p, 2, none⟩ = some (.slice s A.length k) := fun w' hf => (HW.out.trans' hf).cell (cell_of HE1.out 2 rfl) (fun e => e)
      have b0 : ∀ w', Fr (fun _ => False) wr w' → w'.cell? ⟨b, o + j * 9, none⟩ = some (.int .i64 x.f) := fun w' hf => hf.cell hpw.c0 (fun e => e)
      have b1 : ∀ w', Fr (fun _ => False) wr w' → w'.cell? ⟨b, o + j * 9 + 1, none⟩ = some (.int .i64 x.d) := fun w' hf => hf.cell hpw.c1 (fun e => e)
      have U := hid (fun w' => refThere_ok W cap x.f x.d s A.length k w')
      unfold rmV at U
      clear hx hr hpa hpw
      go_upto_region 4 with fail
      by_cases ht : thereI W x.f x.d
      · have hd : decide (thereI W x.f x.d) = true := by simpa using ht
        have HTX := hid ht
        clear ht
        refine wp_region_held_drew (S := (fun w' => Fr (fun _ => False) wr w')) (by kernel_rfl) ?_ (fun hH => ?_)
        · exact (Fr.refl (fun _ => False) wr).drew
        refine wpAnyH_take (i := 0) (oi := { dst := some 15, op := Op.load 32 (Operand.tmp 2), type := 32, pos := "ref.go:61", after := #[], guard := none }) (v := ?_) rfl (by kernel_rfl) (by kernel_rfl) (by kernel_rfl) (fun _ _ _ h => h) (Or.inl ⟨by rfl, ?_⟩) hH ?_
        rotate_left
        · intro w hSw; (try dsimp only at hSw); go_simp <;> with_reducible rfl
        try simp only [Act.put, List.setIfInBounds_toArray, List.set_cons_zero, List.set_cons_succ]
        refine wpAnyH_take (i := 1) (oi := { dst := some 16, op := Op.move (Operand.tmp 1), type := 30, pos := "ref.go:61", after := #[], guard := none }) (v := ?_) rfl (by kernel_rfl) (by kernel_rfl) (by kernel_rfl) (fun _ _ _ h => h) (Or.inl ⟨by rfl, ?_⟩) hH ?_
        rotate_left
        · intro w hSw; (try dsimp only at hSw); go_simp <;> with_reducible rfl
        try simp only [Act.put, List.setIfInBounds_toArray, List.set_cons_zero, List.set_cons_succ]
        refine wpAnyH_take (i := 2) (oi := { dst := some 17, op := Op.move (Operand.tmp 6), type := 3, pos := "ref.go:61", after := #[], guard := none }) (v := ?_) rfl (by kernel_rfl) (by kernel_rfl) (by kernel_rfl) (fun _ _ _ h => h) (Or.inl ⟨by rfl, ?_⟩) hH ?_
        rotate_left
        · intro w hSw; (try dsimp only at hSw); go_simp <;> with_reducible rfl
        try simp only [Act.put, List.setIfInBounds_toArray, List.set_cons_zero, List.set_cons_succ]
        refine wpAnyH_take (i := 3) (oi := { dst := some 18, op := Op.indexAddr 30 (Operand.tmp 16) (Operand.tmp 17), type := 0, pos := "ref.go:61", after := #[{ on := 1, ground := Ground.data }, { on := 2, ground := Ground.data }], guard := none }) (v := ?_) rfl (by kernel_rfl) (by kernel_rfl) (by kernel_rfl) (fun _ _ _ h => h) (Or.inl ⟨by rfl, ?_⟩) hH ?_
        rotate_left
        · intro w hSw; (try dsimp only at hSw); go_simp <;> with_reducible rfl
        try simp only [Act.put, List.setIfInBounds_toArray, List.set_cons_zero, List.set_cons_succ]
        refine wpAnyH_take (i := 4) (oi := { dst := some 19, op := Op.fieldAddr 79 (Operand.tmp 18) 0, type := 0, pos := "ref.go:61", after := #[{ on := 3, ground := Ground.data }], guard := none }) (v := ?_) rfl (by kernel_rfl) (by kernel_rfl) (by kernel_rfl) (fun _ _ _ h => h) (Or.inl ⟨by rfl, ?_⟩) hH ?_
        rotate_left
        · intro w hSw; (try dsimp only at hSw); go_simp <;> with_reducible rfl
        try simp only [Act.put, List.setIfInBounds_toArray, List.set_cons_zero, List.set_cons_succ]
        refine wpAnyH_take (i := 5) (oi := { dst := some 20, op := Op.load 3 (Operand.tmp 19), type := 3, pos := "ref.go:61", after := #[{ on := 4, ground := Ground.data }], guard := none }) (v := ?_) rfl (by kernel_rfl) (by kernel_rfl) (by kernel_rfl) (fun _ _ _ h => h) (Or.inl ⟨by rfl, ?_⟩) hH ?_
        rotate_left
        · intro w hSw; (try dsimp only at hSw); go_simp <;> with_reducible rfl
        try simp only [Act.put, List.setIfInBounds_toArray, List.set_cons_zero, List.set_cons_succ]
        refine wpAnyH_take (i := 6) (oi := { dst := some 21, op := Op.move (Operand.tmp 1), type := 30, pos := "ref.go:61", after := #[], guard := none }) (v := ?_) rfl (by kernel_rfl) (by kernel_rfl) (by kernel_rfl) (fun _ _ _ h => h) (Or.inl ⟨by rfl, ?_⟩) hH ?_
        rotate_left
        · intro w hSw; (try dsimp only at hSw); go_simp <;> with_reducible rfl
        try simp only [Act.put, List.setIfInBounds_toArray, List.set_cons_zero, List.set_cons_succ]
        refine wpAnyH_take (i := 7) (oi := { dst := some 22, op := Op.move (Operand.tmp 6), type := 3, pos := "ref.go:61", after := #[], guard := none }) (v := ?_) rfl (by kernel_rfl) (by kernel_rfl) (by kernel_rfl) (fun _ _ _ h => h) (Or.inl ⟨by rfl, ?_⟩) hH ?_
        rotate_left
        · intro w hSw; (try dsimp only at hSw); go_simp <;> with_reducible rfl
        try simp only [Act.put, List.setIfInBounds_toArray, List.set_cons_zero, List.set_cons_succ]
        refine wpAnyH_take (i := 8) (oi := { dst := some 23, op := Op.indexAddr 30 (Operand.tmp 21) (Operand.tmp 22), type := 0, pos := "ref.go:61", after := #[{ on := 6, ground := Ground.data }, { on := 7, ground := Ground.data }], guard := none }) (v := ?_) rfl (by kernel_rfl) (by kernel_rfl) (by kernel_rfl) (fun _ _ _ h => h) (Or.inl ⟨by rfl, ?_⟩) hH ?_
        rotate_left
        · intro w hSw; (try dsimp only at hSw); go_simp <;> with_reducible rfl
        try simp only [Act.put, List.setIfInBounds_toArray, List.set_cons_zero, List.set_cons_succ]
        refine wpAnyH_take (i := 9) (oi := { dst := some 24, op := Op.fieldAddr 79 (Operand.tmp 23) 1, type := 0, pos := "ref.go:61", after := #[{ on := 8, ground := Ground.data }], guard := none }) (v := ?_) rfl (by kernel_rfl) (by kernel_rfl) (by kernel_rfl) (fun _ _ _ h => h) (Or.inl ⟨by rfl, ?_⟩) hH ?_
        rotate_left
        · intro w hSw; (try dsimp only at hSw); go_simp <;> with_reducible rfl
        try simp only [Act.put, List.setIfInBounds_toArray, List.set_cons_zero, List.set_cons_succ]
        refine wpAnyH_take (i := 10) (oi := { dst := some 25, op := Op.load 3 (Operand.tmp 24), type := 3, pos := "ref.go:61", after := #[{ on := 9, ground := Ground.data }], guard := none }) (v := ?_) rfl (by kernel_rfl) (by kernel_rfl) (by kernel_rfl) (fun _ _ _ h => h) (Or.inl ⟨by rfl, ?_⟩) hH ?_
        rotate_left
        · intro w hSw; (try dsimp only at hSw); go_simp <;> with_reducible rfl
        try simp only [Act.put, List.setIfInBounds_toArray, List.set_cons_zero, List.set_cons_succ]
        refine wpAnyH_ready (rs := [11]) (by kernel_rfl) (by simp) ?_
        refine AllReadyH.cons (o := { dst := some 26, op := Op.call { callee := Callee.value (Operand.func 28), args := #[Operand.tmp 15, Operand.tmp 20, Operand.tmp 25], argTypes := #[32, 3, 3] }, type := 4, pos := "ref.go:61", after := #[{ on := 0, ground := Ground.data }, { on := 5, ground := Ground.data }, { on := 10, ground := Ground.data }], guard := none }) rfl (fun K hK => ?_) AllReadyH.nil
        go_simp
        go_at_call 28
        refine (U.out _).mono ?_
        rintro e w3 ⟨rfl, hb'⟩
        rw [hd]
        have HB := hid hb'
        clear hb'
        go_simp
        refine hK.out _ _ ?_ (fun hH => ?_)
        · exact ((Fr.refl (fun _ => False) wr).drewN _).trans' HB.out
        clear hK K
        try simp only [Act.put, List.setIfInBounds_toArray, List.set_cons_zero, List.set_cons_succ]
        refine wpAnyH_take (i := 12) (oi := { dst := some 27, op := Op.unOp UnOp.not 4 (Operand.tmp 26), type := 4, pos := "ref.go:61", after := #[{ on := 11, ground := Ground.data }], guard := none }) (v := ?_) rfl (by kernel_rfl) (by kernel_rfl) (by kernel_rfl) (fun _ _ _ h => h) (Or.inl ⟨by rfl, ?_⟩) hH ?_
        rotate_left
        · intro w hSw; (try dsimp only at hSw); go_simp <;> with_reducible rfl
        try simp only [Act.put, List.setIfInBounds_toArray, List.set_cons_zero, List.set_cons_succ]
        refine wpAnyH_done (by kernel_rfl) ?_ _
        have HH := hid hH
        clear a0 a1 a2 b0 b1 hH
        go_wp2
        go_roundw
        case rel =>
          refine ⟨j + 1, by omega, by go_num, fun y hy => ?_, HW.out.trans' HH.out⟩
          rw [take_snoc P j x HX.out] at hy
          rcases List.mem_append.1 hy with hy | hy
          · exact HT.out y hy
          · rw [List.mem_singleton.1 hy]; exact HTX.out
        case measure => simp [intOf]; omega
      · have hd : decide (thereI W x.f x.d) = false := by simpa using ht
        have HTX := hid ht
        clear ht
        refine wp_region_held_drew (S := (fun w' => Fr (fun _ => False) wr w')) (by kernel_rfl) ?_ (fun hH => ?_)
        · exact (Fr.refl (fun _ => False) wr).drew
        refine wpAnyH_take (i := 0) (oi := { dst := some 15, op := Op.load 32 (Operand.tmp 2), type := 32, pos := "ref.go:61", after := #[], guard := none }) (v := ?_) rfl (by kernel_rfl) (by kernel_rfl) (by kernel_rfl) (fun _ _ _ h => h) (Or.inl ⟨by rfl, ?_⟩) hH ?_
        rotate_left
        · intro w hSw; (try dsimp only at hSw); go_simp <;> with_reducible rfl
        try simp only [Act.put, List.setIfInBounds_toArray, List.set_cons_zero, List.set_cons_succ]
        refine wpAnyH_take (i := 1) (oi := { dst := some 16, op := Op.move (Operand.tmp 1), type := 30, pos := "ref.go:61", after := #[], guard := none }) (v := ?_) rfl (by kernel_rfl) (by kernel_rfl) (by kernel_rfl) (fun _ _ _ h => h) (Or.inl ⟨by rfl, ?_⟩) hH ?_
        rotate_left
        · intro w hSw; (try dsimp only at hSw); go_simp <;> with_reducible rfl
        try simp only [Act.put, List.setIfInBounds_toArray, List.set_cons_zero, List.set_cons_succ]
        refine wpAnyH_take (i := 2) (oi := { dst := some 17, op := Op.move (Operand.tmp 6), type := 3, pos := "ref.go:61", after := #[], guard := none }) (v := ?_) rfl (by kernel_rfl) (by kernel_rfl) (by kernel_rfl) (fun _ _ _ h => h) (Or.inl ⟨by rfl, ?_⟩) hH ?_
        rotate_left
        · intro w hSw; (try dsimp only at hSw); go_simp <;> with_reducible rfl
        try simp only [Act.put, List.setIfInBounds_toArray, List.set_cons_zero, List.set_cons_succ]
        refine wpAnyH_take (i := 3) (oi := { dst := some 18, op := Op.indexAddr 30 (Operand.tmp 16) (Operand.tmp 17), type := 0, pos := "ref.go:61", after := #[{ on := 1, ground := Ground.data }, { on := 2, ground := Ground.data }], guard := none }) (v := ?_) rfl (by kernel_rfl) (by kernel_rfl) (by kernel_rfl) (fun _ _ _ h => h) (Or.inl ⟨by rfl, ?_⟩) hH ?_
        rotate_left
        · intro w hSw; (try dsimp only at hSw); go_simp <;> with_reducible rfl
        try simp only [Act.put, List.setIfInBounds_toArray, List.set_cons_zero, List.set_cons_succ]
        refine wpAnyH_take (i := 4) (oi := { dst := some 19, op := Op.fieldAddr 79 (Operand.tmp 18) 0, type := 0, pos := "ref.go:61", after := #[{ on := 3, ground := Ground.data }], guard := none }) (v := ?_) rfl (by kernel_rfl) (by kernel_rfl) (by kernel_rfl) (fun _ _ _ h => h) (Or.inl ⟨by rfl, ?_⟩) hH ?_
        rotate_left
        · intro w hSw; (try dsimp only at hSw); go_simp <;> with_reducible rfl
        try simp only [Act.put, List.setIfInBounds_toArray, List.set_cons_zero, List.set_cons_succ]
        refine wpAnyH_take (i := 5) (oi := { dst := some 20, op := Op.load 3 (Operand.tmp 19), type := 3, pos := "ref.go:61", after := #[{ on := 4, ground := Ground.data }], guard := none }) (v := ?_) rfl (by kernel_rfl) (by kernel_rfl) (by kernel_rfl) (fun _ _ _ h => h) (Or.inl ⟨by rfl, ?_⟩) hH ?_
        rotate_left
        · intro w hSw; (try dsimp only at hSw); go_simp <;> with_reducible rfl
        try simp only [Act.put, List.setIfInBounds_toArray, List.set_cons_zero, List.set_cons_succ]
        refine wpAnyH_take (i := 6) (oi := { dst := some 21, op := Op.move (Operand.tmp 1), type := 30, pos := "ref.go:61", after := #[], guard := none }) (v := ?_) rfl (by kernel_rfl) (by kernel_rfl) (by kernel_rfl) (fun _ _ _ h => h) (Or.inl ⟨by rfl, ?_⟩) hH ?_
        rotate_left
        · intro w hSw; (try dsimp only at hSw); go_simp <;> with_reducible rfl
        try simp only [Act.put, List.setIfInBounds_toArray, List.set_cons_zero, List.set_cons_succ]
        refine wpAnyH_take (i := 7) (oi := { dst := some 22, op := Op.move (Operand.tmp 6), type := 3, pos := "ref.go:61", after := #[], guard := none }) (v := ?_) rfl (by kernel_rfl) (by kernel_rfl) (by kernel_rfl) (fun _ _ _ h => h) (Or.inl ⟨by rfl, ?_⟩) hH ?_
        rotate_left
        · intro w hSw; (try dsimp only at hSw); go_simp <;> with_reducible rfl
        try simp only [Act.put, List.setIfInBounds_toArray, List.set_cons_zero, List.set_cons_succ]
        refine wpAnyH_take (i := 8) (oi := { dst := some 23, op := Op.indexAddr 30 (Operand.tmp 21) (Operand.tmp 22), type := 0, pos := "ref.go:61", after := #[{ on := 6, ground := Ground.data }, { on := 7, ground := Ground.data }], guard := none }) (v := ?_) rfl (by kernel_rfl) (by kernel_rfl) (by kernel_rfl) (fun _ _ _ h => h) (Or.inl ⟨by rfl, ?_⟩) hH ?_
        rotate_left
        · intro w hSw; (try dsimp only at hSw); go_simp <;> with_reducible rfl
        try simp only [Act.put, List.setIfInBounds_toArray, List.set_cons_zero, List.set_cons_succ]
        refine wpAnyH_take (i := 9) (oi := { dst := some 24, op := Op.fieldAddr 79 (Operand.tmp 23) 1, type := 0, pos := "ref.go:61", after := #[{ on := 8, ground := Ground.data }], guard := none }) (v := ?_) rfl (by kernel_rfl) (by kernel_rfl) (by kernel_rfl) (fun _ _ _ h => h) (Or.inl ⟨by rfl, ?_⟩) hH ?_
        rotate_left
        · intro w hSw; (try dsimp only at hSw); go_simp <;> with_reducible rfl
        try simp only [Act.put, List.setIfInBounds_toArray, List.set_cons_zero, List.set_cons_succ]
        refine wpAnyH_take (i := 10) (oi := { dst := some 25, op := Op.load 3 (Operand.tmp 24), type := 3, pos := "ref.go:61", after := #[{ on := 9, ground := Ground.data }], guard := none }) (v := ?_) rfl (by kernel_rfl) (by kernel_rfl) (by kernel_rfl) (fun _ _ _ h => h) (Or.inl ⟨by rfl, ?_⟩) hH ?_
        rotate_left
        · intro w hSw; (try dsimp only at hSw); go_simp <;> with_reducible rfl
        try simp only [Act.put, List.setIfInBounds_toArray, List.set_cons_zero, List.set_cons_succ]
        refine wpAnyH_ready (rs := [11]) (by kernel_rfl) (by simp) ?_
        refine AllReadyH.cons (o := { dst := some 26, op := Op.call { callee := Callee.value (Operand.func 28), args := #[Operand.tmp 15, Operand.tmp 20, Operand.tmp 25], argTypes := #[32, 3, 3] }, type := 4, pos := "ref.go:61", after := #[{ on := 0, ground := Ground.data }, { on := 5, ground := Ground.data }, { on := 10, ground := Ground.data }], guard := none }) rfl (fun K hK => ?_) AllReadyH.nil
        go_simp
        go_at_call 28
        refine (U.out _).mono ?_
        rintro e w3 ⟨rfl, hb'⟩
        rw [hd]
        have HB := hid hb'
        clear hb'
        go_simp
        refine hK.out _ _ ?_ (fun hH => ?_)
        · exact ((Fr.refl (fun _ => False) wr).drewN _).trans' HB.out
        clear hK K
        try simp only [Act.put, List.setIfInBounds_toArray, List.set_cons_zero, List.set_cons_succ]
        refine wpAnyH_take (i := 12) (oi := { dst := some 27, op := Op.unOp UnOp.not 4 (Operand.tmp 26), type := 4, pos := "ref.go:61", after := #[{ on := 11, ground := Ground.data }], guard := none }) (v := ?_) rfl (by kernel_rfl) (by kernel_rfl) (by kernel_rfl) (fun _ _ _ h => h) (Or.inl ⟨by rfl, ?_⟩) hH ?_
        rotate_left
        · intro w hSw; (try dsimp only at hSw); go_simp <;> with_reducible rfl
        try simp only [Act.put, List.setIfInBounds_toArray, List.set_cons_zero, List.set_cons_succ]
        refine wpAnyH_done (by kernel_rfl) ?_ _
        have HH := hid hH
        have q0 := a0 _ hH
        have q1 := a1 _ hH
        have q2 := a2 _ hH
        have HE4 := hid ((HW.out.trans' hH).heap HE2.out (fun e => e))
        have TS := st_rm W cap s A.length k (there_rm HE4.out)
        clear a0 a1 a2 b0 b1 hH
        go_wp2
        refine bodyPost_ret (v := .tuple #[rmV W cap (.slice s A.length k), .int .i64 6]) (results_duo Try.results15 _ _ (by rfl) (rm_var (encR_put HE4.out)) (by rfl)) rfl ⟨?_, .inl ⟨fun h => HTX.out (h x (List.mem_of_getElem? HX.out)), rfl⟩⟩
        exact ((HF.out.trans' HW.out).trans' HH.out).setCells (fun h => by have := HP.out; omega) _ _
    · obtain rfl : j = P.length := by omega
      have HTA := hid (show ∀ x ∈ P, thereI W x.f x.d by have h := HT.out; rwa [List.take_length] at h)
      have q0 := HW.out.cell (cell_of HE1.out 0 (v := .int .i64 W) rfl) (fun e => e)
      have q1 := HW.out.cell (cell_of HE1.out 1 (v := .int .i64 cap) rfl) (fun e => e)
      have q2 := HW.out.cell (cell_of HE1.out 2 (v := .slice s A.length k) rfl) (fun e => e)
      have T0 : st 32 (.pointer (some ⟨wr.heap.size, 0, none⟩)) (.agg #[.int .i64 W, .int .i64 cap, .slice s A.length k]) (wr.alloc (.cells #[.int .i64 0, .int .i64 0, .slice none 0 0] 32)) = _ := st_rm W cap s A.length k (there_rm (W := 0) (c := 0) (s := none) (n := 0) (k := 0) (heap_new wr _))
      go_upto_region 7 with fail
      generalize hw2 : World.setCells _ _ _ _ = w2
      obtain ⟨G1, G2, G3⟩ := one_rm (W' := 0) (c' := 0) (s' := none) (n' := 0) (k' := 0) hw2
      have hxp : p + 2 ≤ wr.heap.size := by have := HW.out.size; have := HZ.out; omega
      clear T0 hw2 q0 q1 q2
      have HW2 := hid (HW.out.trans' G2)
      generalize hy : wr.heap.size = xo at *
      have HG1 := hid G1
      have HG3 := hid G3
      have HR2 := hid (HR.out.fr (HF.out.trans' HW2.out) (fun _ _ e => e))
      have HL := hid (show ∀ i, (Value.slice s A.length k).ownBlock = some i → i < p from fun i e => by have := HR.out.lt i e; have := HP.out; omega)
      clear G1 G2 G3 hy HT HW
      go_wp2_with fail
      go_loopw [8] (fun i wr => ∃ j : Nat, j ≤ P.length ∧ i = .int .i64 j ∧ (∀ (i : Nat) (x : Pq), i < j → P[i]? = some x → cntA x.f x.d (A ++ P.take i) < cap) ∧ Fr (fun q => q = xo) w2 wr ∧ ∃ s' k', wr.heap[xo]? = some (.cells (encR W cap s' (A.length + j) k').toArray 32 (0, 0)) ∧ RowA wr s' (A.length + j) k' (A ++ P.take j) ∧ (∀ i, (Value.slice s' (A.length + j) k').ownBlock = some i → i ≠ xo ∧ ((Value.slice s A.length k).ownBlock = some i ∨ p + 2 ≤ i))) (fun i _ => P.length - (intOf i).toNat)
      case atStart =>
        refine ⟨0, Nat.zero_le _, rfl, fun i x h => by omega, Fr.refl _ _, s, k, by simpa using HG1.out, by simpa using HR2.out, fun i e => ⟨?_, .inl (by simpa [Value.ownBlock] using e)⟩⟩
        have := HL.out i (by simpa [Value.ownBlock] using e)
        omega
      case round =>
        obtain ⟨j, hj, rfl, hch, hf, s', k', hxc, hra, hown⟩ := hrel
        have HC := hid hch
        have HW := hid hf
        have HXC := hid hxc
        have HRA := hid hra
        have HOW := hid hown
        clear hch hf hxc hra hown
        have hzx : xo < wr.heap.size := lt_of_block HXC.out
        have E1 := hid (HW.out.heap (HW2.out.heap HE1.out (fun e => e)) (by omega))
        have E2 := hid (HW.out.heap (HW2.out.heap HE2.out (fun e => e)) (by omega))
        have hAP : (A ++ P.take j).length = A.length + j := by rw [List.length_append, List.length_take]; omega
        by_cases hjl : j < P.length
        · obtain ⟨x, hx⟩ : ∃ x, P[j]? = some x := ⟨P[j], by simp [hjl]⟩
          obtain ⟨b, o, rfl, hFb, hr⟩ := H3.out.resolve_left (fun e => by subst e; simp at hx)
          have hpa := (hr j x hx).1
          have HX := hid hx
          have hjb : (j : Int) < (P.length : Int) := by omega
          have hbs : b < p := by have h : b < w.heap.size := World.block_lt_of_cell? _ _ (hpa 0 _ rfl); have := HP.out; omega
          have hpw : ParAt wr b (o + j * 9) x := fun i u hu => HW.out.cell (HW2.out.cell (HF.out.cell (hpa i u hu) (fun e => e)) (fun e => e)) (by (try simp only); omega)
          have a0 : ∀ w', Fr (fun _ => False) wr w' → w'.cell? ⟨xo, 0, none⟩ = some (.int .i64 W) := fun w' hf => hf.cell (cell_of HXC.out 0 rfl) (fun e => e)
          have a1 : ∀ w', Fr (fun _ => False) wr w' → w'.cell? ⟨xo, 1, none⟩ = some (.int .i64 cap) := fun w' hf => hf.cell (cell_of HXC.out 1 rfl) (fun e => e)
          have a2 : ∀ w', Fr (fun _ => False) wr w' → w'.cell? ⟨xo, 2, none⟩ = some (.slice s' (A.length + j) k') := fun w' hf => hf.cell (cell_of HXC.out 2 rfl) (fun e => e)
          have a3 : ∀ w', Fr (fun _ => False) wr w' → w'.cell? ⟨p, 1, none⟩ = some (.int .i64 cap) := fun w' hf => hf.cell (cell_of E1.out 1 rfl) (fun e => e)
          have b0 : ∀ w', Fr (fun _ => False) wr w' → w'.cell? ⟨b, o + j * 9, none⟩ = some (.int .i64 x.f) := fun w' hf => hf.cell hpw.c0 (fun e => e)
          have b1 : ∀ w', Fr (fun _ => False) wr w' → w'.cell? ⟨b, o + j * 9 + 1, none⟩ = some (.int .i64 x.d) := fun w' hf => hf.cell hpw.c1 (fun e => e)
          have U := hid (fun w' (hf : Fr (fun _ => False) wr w') => (HRA.out.fr hf (fun _ _ e => e)).elim fun B h => refLen_ok h (by omega) W cap x.f x.d)
          have HPW := hid hpw
          unfold rmV at U
          clear hx hr hpa hpw
          go_upto_region 10 with fail
          generalize hcn : cntA x.f x.d (A ++ P.take j) = cn at *
          have HCN := hid hcn
          clear hcn
          by_cases ht : cap ≤ cn
          · have hd : decide ((cap : Int) ≤ (cn : Int)) = true := by simp; omega
            refine wp_region_held_drew (S := (fun w' => Fr (fun _ => False) wr w')) (by kernel_rfl) ?_ (fun hH => ?_)
            · exact (Fr.refl (fun _ => False) wr).drew
            refine wpAnyH_take (i := 0) (oi := { dst := some 36, op := Op.load 32 (Operand.tmp 7), type := 32, pos := "ref.go:67", after := #[], guard := none }) (v := ?_) rfl (by kernel_rfl) (by kernel_rfl) (by kernel_rfl) (fun _ _ _ h => h) (Or.inl ⟨by rfl, ?_⟩) hH ?_
            rotate_left
            · intro w hSw; (try dsimp only at hSw); go_simp <;> with_reducible rfl
            try simp only [Act.put, List.setIfInBounds_toArray, List.set_cons_zero, List.set_cons_succ]
            refine wpAnyH_take (i := 1) (oi := { dst := some 37, op := Op.move (Operand.tmp 1), type := 30, pos := "ref.go:67", after := #[], guard := none }) (v := ?_) rfl (by kernel_rfl) (by kernel_rfl) (by kernel_rfl) (fun _ _ _ h => h) (Or.inl ⟨by rfl, ?_⟩) hH ?_
            rotate_left
            · intro w hSw; (try dsimp only at hSw); go_simp <;> with_reducible rfl
            try simp only [Act.put, List.setIfInBounds_toArray, List.set_cons_zero, List.set_cons_succ]
            refine wpAnyH_take (i := 2) (oi := { dst := some 38, op := Op.move (Operand.tmp 8), type := 3, pos := "ref.go:67", after := #[], guard := none }) (v := ?_) rfl (by kernel_rfl) (by kernel_rfl) (by kernel_rfl) (fun _ _ _ h => h) (Or.inl ⟨by rfl, ?_⟩) hH ?_
            rotate_left
            · intro w hSw; (try dsimp only at hSw); go_simp <;> with_reducible rfl
            try simp only [Act.put, List.setIfInBounds_toArray, List.set_cons_zero, List.set_cons_succ]
            refine wpAnyH_take (i := 3) (oi := { dst := some 39, op := Op.indexAddr 30 (Operand.tmp 37) (Operand.tmp 38), type := 0, pos := "ref.go:67", after := #[{ on := 1, ground := Ground.data }, { on := 2, ground := Ground.data }], guard := none }) (v := ?_) rfl (by kernel_rfl) (by kernel_rfl) (by kernel_rfl) (fun _ _ _ h => h) (Or.inl ⟨by rfl, ?_⟩) hH ?_
            rotate_left
            · intro w hSw; (try dsimp only at hSw); go_simp <;> with_reducible rfl
            try simp only [Act.put, List.setIfInBounds_toArray, List.set_cons_zero, List.set_cons_succ]
            refine wpAnyH_take (i := 4) (oi := { dst := some 40, op := Op.fieldAddr 79 (Operand.tmp 39) 0, type := 0, pos := "ref.go:67", after := #[{ on := 3, ground := Ground.data }], guard := none }) (v := ?_) rfl (by kernel_rfl) (by kernel_rfl) (by kernel_rfl) (fun _ _ _ h => h) (Or.inl ⟨by rfl, ?_⟩) hH ?_
            rotate_left
            · intro w hSw; (try dsimp only at hSw); go_simp <;> with_reducible rfl
            try simp only [Act.put, List.setIfInBounds_toArray, List.set_cons_zero, List.set_cons_succ]
            refine wpAnyH_take (i := 5) (oi := { dst := some 41, op := Op.load 3 (Operand.tmp 40), type := 3, pos := "ref.go:67", after := #[{ on := 4, ground := Ground.data }], guard := none }) (v := ?_) rfl (by kernel_rfl) (by kernel_rfl) (by kernel_rfl) (fun _ _ _ h => h) (Or.inl ⟨by rfl, ?_⟩) hH ?_
            rotate_left
            · intro w hSw; (try dsimp only at hSw); go_simp <;> with_reducible rfl
            try simp only [Act.put, List.setIfInBounds_toArray, List.set_cons_zero, List.set_cons_succ]
            refine wpAnyH_take (i := 6) (oi := { dst := some 42, op := Op.move (Operand.tmp 1), type := 30, pos := "ref.go:67", after := #[], guard := none }) (v := ?_) rfl (by kernel_rfl) (by kernel_rfl) (by kernel_rfl) (fun _ _ _ h => h) (Or.inl ⟨by rfl, ?_⟩) hH ?_
            rotate_left
            · intro w hSw; (try dsimp only at hSw); go_simp <;> with_reducible rfl
            try simp only [Act.put, List.setIfInBounds_toArray, List.set_cons_zero, List.set_cons_succ]
            refine wpAnyH_take (i := 7) (oi := { dst := some 43, op := Op.move (Operand.tmp 8), type := 3, pos := "ref.go:67", after := #[], guard := none }) (v := ?_) rfl (by kernel_rfl) (by kernel_rfl) (by kernel_rfl) (fun _ _ _ h => h) (Or.inl ⟨by rfl, ?_⟩) hH ?_
            rotate_left
            · intro w hSw; (try dsimp only at hSw); go_simp <;> with_reducible rfl
            try simp only [Act.put, List.setIfInBounds_toArray, List.set_cons_zero, List.set_cons_succ]
            refine wpAnyH_take (i := 8) (oi := { dst := some 44, op := Op.indexAddr 30 (Operand.tmp 42) (Operand.tmp 43), type := 0, pos := "ref.go:67", after := #[{ on := 6, ground := Ground.data }, { on := 7, ground := Ground.data }], guard := none }) (v := ?_) rfl (by kernel_rfl) (by kernel_rfl) (by kernel_rfl) (fun _ _ _ h => h) (Or.inl ⟨by rfl, ?_⟩) hH ?_
            rotate_left
            · intro w hSw; (try dsimp only at hSw); go_simp <;> with_reducible rfl
            try simp only [Act.put, List.setIfInBounds_toArray, List.set_cons_zero, List.set_cons_succ]
            refine wpAnyH_take (i := 9) (oi := { dst := some 45, op := Op.fieldAddr 79 (Operand.tmp 44) 1, type := 0, pos := "ref.go:67", after := #[{ on := 8, ground := Ground.data }], guard := none }) (v := ?_) rfl (by kernel_rfl) (by kernel_rfl) (by kernel_rfl) (fun _ _ _ h => h) (Or.inl ⟨by rfl, ?_⟩) hH ?_
            rotate_left
            · intro w hSw; (try dsimp only at hSw); go_simp <;> with_reducible rfl
            try simp only [Act.put, List.setIfInBounds_toArray, List.set_cons_zero, List.set_cons_succ]
            refine wpAnyH_take (i := 10) (oi := { dst := some 46, op := Op.load 3 (Operand.tmp 45), type := 3, pos := "ref.go:67", after := #[{ on := 9, ground := Ground.data }], guard := none }) (v := ?_) rfl (by kernel_rfl) (by kernel_rfl) (by kernel_rfl) (fun _ _ _ h => h) (Or.inl ⟨by rfl, ?_⟩) hH ?_
            rotate_left
            · intro w hSw; (try dsimp only at hSw); go_simp <;> with_reducible rfl
            try simp only [Act.put, List.setIfInBounds_toArray, List.set_cons_zero, List.set_cons_succ]
            refine wpAnyH_take (i := 12) (oi := { dst := some 48, op := Op.fieldAddr 32 (Operand.tmp 2) 1, type := 0, pos := "ref.go:67", after := #[], guard := none }) (v := ?_) rfl (by kernel_rfl) (by kernel_rfl) (by kernel_rfl) (fun _ _ _ h => h) (Or.inl ⟨by rfl, ?_⟩) hH ?_
            rotate_left
            · intro w hSw; (try dsimp only at hSw); go_simp <;> with_reducible rfl
            try simp only [Act.put, List.setIfInBounds_toArray, List.set_cons_zero, List.set_cons_succ]
            refine wpAnyH_take (i := 13) (oi := { dst := some 49, op := Op.load 3 (Operand.tmp 48), type := 3, pos := "ref.go:67", after := #[{ on := 12, ground := Ground.data }], guard := none }) (v := ?_) rfl (by kernel_rfl) (by kernel_rfl) (by kernel_rfl) (fun _ _ _ h => h) (Or.inl ⟨by rfl, ?_⟩) hH ?_
            rotate_left
            · intro w hSw; (try dsimp only at hSw); go_simp <;> with_reducible rfl
            try simp only [Act.put, List.setIfInBounds_toArray, List.set_cons_zero, List.set_cons_succ]
            refine wpAnyH_ready (rs := [11]) (by kernel_rfl) (by simp) ?_
            refine AllReadyH.cons (o := { dst := some 47, op := Op.call { callee := Callee.value (Operand.func 19), args := #[Operand.tmp 36, Operand.tmp 41, Operand.tmp 46], argTypes := #[32, 3, 3] }, type := 3, pos := "ref.go:67", after := #[{ on := 0, ground := Ground.data }, { on := 5, ground := Ground.data }, { on := 10, ground := Ground.data }], guard := none }) rfl (fun K hK => ?_) AllReadyH.nil
            go_simp
            go_at_call 19
            refine (U.out _ ((Fr.refl _ wr).drewN _)).mono ?_
            rintro e w3 ⟨rfl, hb'⟩
            have HB := hid hb'
            clear hb'
            go_simp
            refine hK.out _ _ ?_ (fun hH => ?_)
            · exact ((Fr.refl (fun _ => False) wr).drewN _).trans' HB.out
            clear hK K
            try simp only [Act.put, List.setIfInBounds_toArray, List.set_cons_zero, List.set_cons_succ]
            refine wpAnyH_take (i := 14) (oi := { dst := some 50, op := Op.binOp BinOp.geq 3 (Operand.tmp 47) (Operand.tmp 49) 3, type := 4, pos := "ref.go:67", after := #[{ on := 11, ground := Ground.data }, { on := 13, ground := Ground.data }], guard := none }) (v := ?_) rfl (by kernel_rfl) (by kernel_rfl) (by kernel_rfl) (fun _ _ _ h => h) (Or.inl ⟨by rfl, ?_⟩) hH ?_
            rotate_left
            · intro w hSw; (try dsimp only at hSw); go_simp <;> with_reducible rfl
            try simp only [Act.put, List.setIfInBounds_toArray, List.set_cons_zero, List.set_cons_succ]
            refine wpAnyH_done (by kernel_rfl) ?_ _
            have HH := hid hH
            have q0 := hH.cell (cell_of E1.out 0 (v := .int .i64 W) rfl) (fun e => e)
            have q1 := a3 _ hH
            have q2 := hH.cell (cell_of E1.out 2 (v := .slice s A.length k) rfl) (fun e => e)
            have HE4 := hid (hH.heap E2.out (fun e => e))
            have TS := st_rm W cap s A.length k (there_rm HE4.out)
            clear a0 a1 a2 a3 b0 b1 hH
            go_wp2
            refine bodyPost_ret (v := .tuple #[rmV W cap (.slice s A.length k), .int .i64 7]) (results_duo Try.results15 _ _ (by rfl) (rm_var (encR_put HE4.out)) (by rfl)) rfl ⟨?_, .inr (.inl ⟨HTA.out, ⟨j, x, HX.out, by rw [HCN.out]; exact ht⟩, rfl⟩)⟩
            exact ((((HF.out.trans' HW2.out).trans HW.out (fun _ h => h) (fun i hi e => by have := HP.out; omega))).trans' HH.out).setCells (fun h => by have := HP.out; omega) _ _
          · have hd : decide ((cap : Int) ≤ (cn : Int)) = false := by simp; omega
            refine wp_region_held_drew (S := (fun w' => Fr (fun _ => False) wr w')) (by kernel_rfl) ?_ (fun hH => ?_)
            · exact (Fr.refl (fun _ => False) wr).drew
            refine wpAnyH_take (i := 0) (oi := { dst := some 36, op := Op.load 32 (Operand.tmp 7), type := 32, pos := "ref.go:67", after := #[], guard := none }) (v := ?_) rfl (by kernel_rfl) (by kernel_rfl) (by kernel_rfl) (fun _ _ _ h => h) (Or.inl ⟨by rfl, ?_⟩) hH ?_
            rotate_left
            · intro w hSw; (try dsimp only at hSw); go_simp <;> with_reducible rfl
            try simp only [Act.put, List.setIfInBounds_toArray, List.set_cons_zero, List.set_cons_succ]
            refine wpAnyH_take (i := 1) (oi := { dst := some 37, op := Op.move (Operand.tmp 1), type := 30, pos := "ref.go:67", after := #[], guard := none }) (v := ?_) rfl (by kernel_rfl) (by kernel_rfl) (by kernel_rfl) (fun _ _ _ h => h) (Or.inl ⟨by rfl, ?_⟩) hH ?_
            rotate_left
            · intro w hSw; (try dsimp only at hSw); go_simp <;> with_reducible rfl
            try simp only [Act.put, List.setIfInBounds_toArray, List.set_cons_zero, List.set_cons_succ]
            refine wpAnyH_take (i := 2) (oi := { dst := some 38, op := Op.move (Operand.tmp 8), type := 3, pos := "ref.go:67", after := #[], guard := none }) (v := ?_) rfl (by kernel_rfl) (by kernel_rfl) (by kernel_rfl) (fun _ _ _ h => h) (Or.inl ⟨by rfl, ?_⟩) hH ?_
            rotate_left
            · intro w hSw; (try dsimp only at hSw); go_simp <;> with_reducible rfl
            try simp only [Act.put, List.setIfInBounds_toArray, List.set_cons_zero, List.set_cons_succ]
            refine wpAnyH_take (i := 3) (oi := { dst := some 39, op := Op.indexAddr 30 (Operand.tmp 37) (Operand.tmp 38), type := 0, pos := "ref.go:67", after := #[{ on := 1, ground := Ground.data }, { on := 2, ground := Ground.data }], guard := none }) (v := ?_) rfl (by kernel_rfl) (by kernel_rfl) (by kernel_rfl) (fun _ _ _ h => h) (Or.inl ⟨by rfl, ?_⟩) hH ?_
            rotate_left
            · intro w hSw; (try dsimp only at hSw); go_simp <;> with_reducible rfl
            try simp only [Act.put, List.setIfInBounds_toArray, List.set_cons_zero, List.set_cons_succ]
            refine wpAnyH_take (i := 4) (oi := { dst := some 40, op := Op.fieldAddr 79 (Operand.tmp 39) 0, type := 0, pos := "ref.go:67", after := #[{ on := 3, ground := Ground.data }], guard := none }) (v := ?_) rfl (by kernel_rfl) (by kernel_rfl) (by kernel_rfl) (fun _ _ _ h => h) (Or.inl ⟨by rfl, ?_⟩) hH ?_
            rotate_left
            · intro w hSw; (try dsimp only at hSw); go_simp <;> with_reducible rfl
            try simp only [Act.put, List.setIfInBounds_toArray, List.set_cons_zero, List.set_cons_succ]
            refine wpAnyH_take (i := 5) (oi := { dst := some 41, op := Op.load 3 (Operand.tmp 40), type := 3, pos := "ref.go:67", after := #[{ on := 4, ground := Ground.data }], guard := none }) (v := ?_) rfl (by kernel_rfl) (by kernel_rfl) (by kernel_rfl) (fun _ _ _ h => h) (Or.inl ⟨by rfl, ?_⟩) hH ?_
            rotate_left
            · intro w hSw; (try dsimp only at hSw); go_simp <;> with_reducible rfl
            try simp only [Act.put, List.setIfInBounds_toArray, List.set_cons_zero, List.set_cons_succ]
            refine wpAnyH_take (i := 6) (oi := { dst := some 42, op := Op.move (Operand.tmp 1), type := 30, pos := "ref.go:67", after := #[], guard := none }) (v := ?_) rfl (by kernel_rfl) (by kernel_rfl) (by kernel_rfl) (fun _ _ _ h => h) (Or.inl ⟨by rfl, ?_⟩) hH ?_
            rotate_left
            · intro w hSw; (try dsimp only at hSw); go_simp <;> with_reducible rfl
            try simp only [Act.put, List.setIfInBounds_toArray, List.set_cons_zero, List.set_cons_succ]
            refine wpAnyH_take (i := 7) (oi := { dst := some 43, op := Op.move (Operand.tmp 8), type := 3, pos := "ref.go:67", after := #[], guard := none }) (v := ?_) rfl (by kernel_rfl) (by kernel_rfl) (by kernel_rfl) (fun _ _ _ h => h) (Or.inl ⟨by rfl, ?_⟩) hH ?_
            rotate_left
            · intro w hSw; (try dsimp only at hSw); go_simp <;> with_reducible rfl
            try simp only [Act.put, List.setIfInBounds_toArray, List.set_cons_zero, List.set_cons_succ]
            refine wpAnyH_take (i := 8) (oi := { dst := some 44, op := Op.indexAddr 30 (Operand.tmp 42) (Operand.tmp 43), type := 0, pos := "ref.go:67", after := #[{ on := 6, ground := Ground.data }, { on := 7, ground := Ground.data }], guard := none }) (v := ?_) rfl (by kernel_rfl) (by kernel_rfl) (by kernel_rfl) (fun _ _ _ h => h) (Or.inl ⟨by rfl, ?_⟩) hH ?_
            rotate_left
            · intro w hSw; (try dsimp only at hSw); go_simp <;> with_reducible rfl
            try simp only [Act.put, List.setIfInBounds_toArray, List.set_cons_zero, List.set_cons_succ]
            refine wpAnyH_take (i := 9) (oi := { dst := some 45, op := Op.fieldAddr 79 (Operand.tmp 44) 1, type := 0, pos := "ref.go:67", after := #[{ on := 8, ground := Ground.data }], guard := none }) (v := ?_) rfl (by kernel_rfl) (by kernel_rfl) (by kernel_rfl) (fun _ _ _ h => h) (Or.inl ⟨by rfl, ?_⟩) hH ?_
            rotate_left
            · intro w hSw; (try dsimp only at hSw); go_simp <;> with_reducible rfl
            try simp only [Act.put, List.setIfInBounds_toArray, List.set_cons_zero, List.set_cons_succ]
            refine wpAnyH_take (i := 10) (oi := { dst := some 46, op := Op.load 3 (Operand.tmp 45), type := 3, pos := "ref.go:67", after := #[{ on := 9, ground := Ground.data }], guard := none }) (v := ?_) rfl (by kernel_rfl) (by kernel_rfl) (by kernel_rfl) (fun _ _ _ h => h) (Or.inl ⟨by rfl, ?_⟩) hH ?_
            rotate_left
            · intro w hSw; (try dsimp only at hSw); go_simp <;> with_reducible rfl
            try simp only [Act.put, List.setIfInBounds_toArray, List.set_cons_zero, List.set_cons_succ]
            refine wpAnyH_take (i := 12) (oi := { dst := some 48, op := Op.fieldAddr 32 (Operand.tmp 2) 1, type := 0, pos := "ref.go:67", after := #[], guard := none }) (v := ?_) rfl (by kernel_rfl) (by kernel_rfl) (by kernel_rfl) (fun _ _ _ h => h) (Or.inl ⟨by rfl, ?_⟩) hH ?_
            rotate_left
            · intro w hSw; (try dsimp only at hSw); go_simp <;> with_reducible rfl
            try simp only [Act.put, List.setIfInBounds_toArray, List.set_cons_zero, List.set_cons_succ]
            refine wpAnyH_take (i := 13) (oi := { dst := some 49, op := Op.load 3 (Operand.tmp 48), type := 3, pos := "ref.go:67", after := #[{ on := 12, ground := Ground.data }], guard := none }) (v := ?_) rfl (by kernel_rfl) (by kernel_rfl) (by kernel_rfl) (fun _ _ _ h => h) (Or.inl ⟨by rfl, ?_⟩) hH ?_
            rotate_left
            · intro w hSw; (try dsimp only at hSw); go_simp <;> with_reducible rfl
            try simp only [Act.put, List.setIfInBounds_toArray, List.set_cons_zero, List.set_cons_succ]
            refine wpAnyH_ready (rs := [11]) (by kernel_rfl) (by simp) ?_
            refine AllReadyH.cons (o := { dst := some 47, op := Op.call { callee := Callee.value (Operand.func 19), args := #[Operand.tmp 36, Operand.tmp 41, Operand.tmp 46], argTypes := #[32, 3, 3] }, type := 3, pos := "ref.go:67", after := #[{ on := 0, ground := Ground.data }, { on := 5, ground := Ground.data }, { on := 10, ground := Ground.data }], guard := none }) rfl (fun K hK => ?_) AllReadyH.nil
            go_simp
            go_at_call 19
            refine (U.out _ ((Fr.refl _ wr).drewN _)).mono ?_
            rintro e w3 ⟨rfl, hb'⟩
            have HB := hid hb'
            clear hb'
            go_simp
            refine hK.out _ _ ?_ (fun hH => ?_)
            · exact ((Fr.refl (fun _ => False) wr).drewN _).trans' HB.out
            clear hK K
            try simp only [Act.put, List.setIfInBounds_toArray, List.set_cons_zero, List.set_cons_succ]
            refine wpAnyH_take (i := 14) (oi := { dst := some 50, op := Op.binOp BinOp.geq 3 (Operand.tmp 47) (Operand.tmp 49) 3, type := 4, pos := "ref.go:67", after := #[{ on := 11, ground := Ground.data }, { on := 13, ground := Ground.data }], guard := none }) (v := ?_) rfl (by kernel_rfl) (by kernel_rfl) (by kernel_rfl) (fun _ _ _ h => h) (Or.inl ⟨by rfl, ?_⟩) hH ?_
            rotate_left
            · intro w hSw; (try dsimp only at hSw); go_simp <;> with_reducible rfl
            try simp only [Act.put, List.setIfInBounds_toArray, List.set_cons_zero, List.set_cons_succ]
            refine wpAnyH_done (by kernel_rfl) ?_ _
            have HH := hid hH
            clear a0 a1 a2 a3 b0 b1 hH
            go_upto_region 12 with fail
            have HX3 := hid (HH.out.heap HXC.out (fun e => e))
            have e20 := cell_of HX3.out 2 (v := .slice s' (A.length + j) k') rfl
            have HN0 := hid (Fr.refl (fun _ => False) w3)
            have HRD := hid ((HRA.out.fr HH.out (fun _ _ e => e)).elim fun B h => Reads.of_own (show w3.ownsRow B 79 9 (.slice s' (A.length + j) k') (A.length + j) ((A ++ P.take j).flatMap encP) by rw [hAP] at h; exact h))
            have hbx : ¬ b = xo := by omega
            have c0 : ∀ w', Fr (fun q => q = xo) w3 w' → ld 79 (.pointer (some ⟨b, o + j * 9, none⟩)) w' = .ok (.value (parV x)) w' := fun w' hf => ld_rpar (fun i u hu => hf.cell (HH.out.cell (HPW.out i u hu) (fun e => e)) hbx)
            refine wp_region_held_drew (S := (fun w' => Fr (fun q => q = xo) w3 w')) (by kernel_rfl) ?_ (fun hH => ?_)
            · exact (Fr.refl (fun q => q = xo) w3).drew
            refine wpAnyH_take (i := 1) (oi := { dst := some 53, op := Op.fieldAddr 32 (Operand.tmp 7) 2, type := 0, pos := "ref.go:70", after := #[], guard := none }) (v := ?_) rfl (by kernel_rfl) (by kernel_rfl) (by kernel_rfl) (fun _ _ _ h => h) (Or.inl ⟨by rfl, ?_⟩) hH ?_
            rotate_left
            · intro w hSw; (try dsimp only at hSw); go_simp <;> with_reducible rfl
            try simp only [Act.put, List.setIfInBounds_toArray, List.set_cons_zero, List.set_cons_succ]
            refine wpAnyH_take (i := 4) (oi := { dst := some 56, op := Op.move (Operand.tmp 1), type := 30, pos := "ref.go:70", after := #[], guard := none }) (v := ?_) rfl (by kernel_rfl) (by kernel_rfl) (by kernel_rfl) (fun _ _ _ h => h) (Or.inl ⟨by rfl, ?_⟩) hH ?_
            rotate_left
            · intro w hSw; (try dsimp only at hSw); go_simp <;> with_reducible rfl
            try simp only [Act.put, List.setIfInBounds_toArray, List.set_cons_zero, List.set_cons_succ]
            refine wpAnyH_take (i := 5) (oi := { dst := some 57, op := Op.move (Operand.tmp 8), type := 3, pos := "ref.go:70", after := #[], guard := none }) (v := ?_) rfl (by kernel_rfl) (by kernel_rfl) (by kernel_rfl) (fun _ _ _ h => h) (Or.inl ⟨by rfl, ?_⟩) hH ?_
            rotate_left
            · intro w hSw; (try dsimp only at hSw); go_simp <;> with_reducible rfl
            try simp only [Act.put, List.setIfInBounds_toArray, List.set_cons_zero, List.set_cons_succ]
            refine wpAnyH_take (i := 6) (oi := { dst := some 58, op := Op.indexAddr 30 (Operand.tmp 56) (Operand.tmp 57), type := 0, pos := "ref.go:70", after := #[{ on := 4, ground := Ground.data }, { on := 5, ground := Ground.data }], guard := none }) (v := ?_) rfl (by kernel_rfl) (by kernel_rfl) (by kernel_rfl) (fun _ _ _ h => h) (Or.inl ⟨by rfl, ?_⟩) hH ?_
            rotate_left
            · intro w hSw; (try dsimp only at hSw); go_simp <;> with_reducible rfl
            try simp only [Act.put, List.setIfInBounds_toArray, List.set_cons_zero, List.set_cons_succ]
            refine wpAnyH_take (i := 7) (oi := { dst := some 59, op := Op.load 79 (Operand.tmp 58), type := 79, pos := "ref.go:70", after := #[{ on := 6, ground := Ground.data }], guard := none }) (v := ?_) rfl (by kernel_rfl) (by kernel_rfl) (by kernel_rfl) (fun _ _ _ h => h) (Or.inl ⟨by rfl, ?_⟩) hH ?_
            rotate_left
            · intro w hSw; (try dsimp only at hSw); go_simp <;> with_reducible rfl
            try simp only [Act.put, List.setIfInBounds_toArray, List.set_cons_zero, List.set_cons_succ]
            refine wpAnyH_ready (rs := [0, 2, 8]) (by kernel_rfl) (by simp) ?_
            refine AllReadyH.cons (o := { dst := some 52, op := Op.buildSlice 30 0 #[], type := 30, pos := "ref.go:70", after := #[], guard := none }) rfl (fun K hK => ?_) ?_
            ·
              go_simp
              refine genw (K := K) (fun x1 hx => ?_)
              have f0 : Fr (fun _ => False) (w3.alloc (.cells #[] 79)) x1 := by rw [hx]; exact ⟨rfl, rfl, rfl, Nat.le_refl _, fun _ _ _ => rfl⟩
              have f0' : Fr (fun _ => False) w3 x1 := ((Fr.refl _ w3).alloc _).trans' f0
              have HZ1 := hid (show x1.heap.size = w3.heap.size + 1 by rw [hx]; simp)
              have HN1 := hid (HN0.out.trans' f0')
              have hle0 := HN0.out.size
              have HE1 := hid (empty_own (B := w3.heap.size) (E := 79) (sz := 9) rfl f0 hle0 rfl)
              clear f0 f0' hx hle0
              refine hK.out _ _ ?_ (fun hH => ?_)
              · exact HN1.out.mono (fun _ _ e => e.elim)
              clear hK K
              try simp only [Act.put, List.setIfInBounds_toArray, List.set_cons_zero, List.set_cons_succ]
              refine wpAnyH_ready (rs := [2, 8]) (by kernel_rfl) (by simp) ?_
              refine AllReadyH.cons (o := { dst := some 54, op := Op.load 30 (Operand.tmp 53), type := 30, pos := "ref.go:70", after := #[{ on := 1, ground := Ground.data }], guard := none }) rfl (fun K hK => ?_) ?_
              ·
                have e2 := HN1.out.cell e20 (fun e => e)
                go_simp
                clear e2
                refine genw (K := K) (fun x2 hx => ?_)
                have f1' : Fr (fun _ => False) x1 x2 := by rw [hx]; exact ⟨rfl, rfl, rfl, Nat.le_refl _, fun _ _ _ => rfl⟩
                have HZ2 := hid (show x2.heap.size = x1.heap.size by rw [hx]; try rfl)
                have HN2 := hid (HN1.out.trans' f1')
                have HE2 := hid (Fr.owns f1' HE1.out (fun _ _ e => e))
                clear f1' hx
                refine hK.out _ _ ?_ (fun hH => ?_)
                · exact HN2.out.mono (fun _ _ e => e.elim)
                clear hK K
                try simp only [Act.put, List.setIfInBounds_toArray, List.set_cons_zero, List.set_cons_succ]
                refine wpAnyH_ready (rs := [3, 8]) (by kernel_rfl) (by simp) ?_
                refine AllReadyH.cons (o := { dst := some 55, op := Op.call { callee := Callee.builtin Builtin.append, args := #[Operand.tmp 52, Operand.tmp 54], argTypes := #[30, 30] }, type := 30, pos := "ref.go:70", after := #[{ on := 0, ground := Ground.data }, { on := 2, ground := Ground.data }], guard := none }) rfl (fun K hK => ?_) ?_
                ·
                  have qz1 := HZ1.out
                  have qz2 := HZ2.out
                  have hle2 := HN2.out.size
                  have hlE : w3.heap.size ≤ w3.heap.size := by omega
                  go_must (refine step_append_any _ (by rfl) _ _ _ (by rfl) w3.heap.size 79 i0 _ 9 104 Try.underlying30 hi0 hz0 hz1 hz2 rfl (by omega) (.slice (some ⟨w3.heap.size, 0, none⟩) 0 0) 0 [] (by rfl) (by exact HE2.out) w3.heap.size s' (A.length + j) k' ((A ++ P.take j).flatMap encP) (by rfl) (by exact HRD.out.fr HN2.out (Nat.le_refl _) (fun _ _ e => e)) (flatP_one _) (by unfold maxLen; omega) (by omega) (by omega) ?_)
                  intro v1 x3 hown hgrow hat
                  have f2' : Fr (fun q => q = w3.heap.size) x2 x3 := (Fr.refl _ x2).grown hgrow (fun q e _ => by simp [Value.ownBlock] at e; omega)
                  have HZ3 := hid (show x2.heap.size ≤ x3.heap.size from f2'.size)
                  have HN3 := hid (HN2.out.trans f2' (fun _ h => h) (fun i hi h => by omega))
                  have HR3 := hid (show x3.ownsRow w3.heap.size 79 9 v1 (A.length + j) ((A ++ P.take j).flatMap encP) by rw [Nat.zero_add, List.nil_append] at hown; exact hown)
                  clear f2' hown hgrow hat hlE hle2 qz1 qz2
                  refine hK.out _ _ ?_ (fun hH => ?_)
                  · exact HN3.out.mono (fun _ _ e => e.elim)
                  clear hK K
                  try simp only [Act.put, List.setIfInBounds_toArray, List.set_cons_zero, List.set_cons_succ]
                  refine wpAnyH_ready (rs := [8]) (by kernel_rfl) (by simp) ?_
                  refine AllReadyH.cons (o := { dst := some 60, op := Op.buildSlice 30 1 #[(0, Operand.tmp 59)], type := 30, pos := "ref.go:70", after := #[{ on := 7, ground := Ground.data }], guard := none }) rfl (fun K hK => ?_) AllReadyH.nil
                  go_simp
                  generalize hC : Array.foldl _ _ _ _ _ = C
                  have hC' : C = (encP x).toArray := by rw [← hC]; simp [parV, encP, encM]
                  subst hC'
                  clear hC
                  refine genw (K := K) (fun x4 hx => ?_)
                  have f3 : Fr (fun _ => False) (x3.alloc (.cells (encP x).toArray 79)) x4 := by rw [hx]; exact ⟨rfl, rfl, rfl, Nat.le_refl _, fun _ _ _ => rfl⟩
                  have f3' : Fr (fun _ => False) x3 x4 := ((Fr.refl _ x3).alloc _).trans' f3
                  have HZ4 := hid (show x4.heap.size = x3.heap.size + 1 by rw [hx]; simp)
                  have HN4 := hid (HN3.out.trans' f3')
                  have HB4 := hid (f3.heap (heap_new x3 _) (fun e => e))
                  have HR4 := hid (Fr.owns f3' HR3.out (fun _ _ e => e))
                  clear f3 f3' hx
                  refine hK.out _ _ ?_ (fun hH => ?_)
                  · exact HN4.out.mono (fun _ _ e => e.elim)
                  clear hK K
                  try simp only [Act.put, List.setIfInBounds_toArray, List.set_cons_zero, List.set_cons_succ]
                  refine wpAnyH_ready (rs := [9]) (by kernel_rfl) (by simp) ?_
                  refine AllReadyH.cons (o := { dst := some 61, op := Op.call { callee := Callee.builtin Builtin.append, args := #[Operand.tmp 55, Operand.tmp 60], argTypes := #[30, 30] }, type := 30, pos := "ref.go:70", after := #[{ on := 3, ground := Ground.data }, { on := 8, ground := Ground.data }, { on := 3, ground := Ground.chain }], guard := none }) rfl (fun K hK => ?_) AllReadyH.nil
                  have hle4 := HN4.out.size
                  have qz1 := HZ1.out
                  have qz2 := HZ2.out
                  have qz3 := HZ3.out
                  have qz4 := HZ4.out
                  go_must (refine step_append_lies _ (by rfl) _ _ _ (by rfl) w3.heap.size 79 i0 _ 9 104 Try.underlying30 hi0 hz0 hz1 hz2 rfl (by omega) v1 (A.length + j) _ (by rfl) (by exact HR4.out) ⟨x3.heap.size, 0, none⟩ 1 1 (encP x) (by rfl) (by rfl) (World.news_of_block (by exact HB4.out)) (encP_one _) (by omega) (by unfold maxLen; omega) (by omega) (by omega) x4.heap.size (by rfl) ?_)
                  intro g cp x5 hown hgrow hat hlt
                  have f4' : Fr (fun q => w3.heap.size ≤ q) x4 x5 := (Fr.refl _ x4).grown hgrow (fun q e _ => (HR4.out.lt q e).1)
                  have HN5 := hid (HN4.out.trans f4' (fun _ h => h) (fun i hi h => by omega))
                  have HOW := hid hown
                  clear f4' hown hgrow hat hle4 qz1 qz2 qz3 qz4
                  refine hK.out _ _ ?_ (fun hH => ?_)
                  · exact HN5.out.mono (fun _ _ e => e.elim)
                  clear hK K
                  try simp only [Act.put, List.setIfInBounds_toArray, List.set_cons_zero, List.set_cons_succ]
                  refine wpAnyH_take (i := 10) (oi := { dst := some 62, op := Op.fieldAddr 32 (Operand.tmp 7) 2, type := 0, pos := "ref.go:70", after := #[{ on := 0, ground := Ground.phase }, { on := 1, ground := Ground.phase }, { on := 2, ground := Ground.phase }, { on := 3, ground := Ground.phase }, { on := 4, ground := Ground.phase }, { on := 5, ground := Ground.phase }, { on := 6, ground := Ground.phase }, { on := 7, ground := Ground.phase }, { on := 8, ground := Ground.phase }, { on := 9, ground := Ground.phase }], guard := none }) (v := ?_) rfl (by kernel_rfl) (by kernel_rfl) (by kernel_rfl) (fun _ _ _ h => h) (Or.inl ⟨by rfl, ?_⟩) hH ?_
                  rotate_left
                  · intro w hSw; (try dsimp only at hSw); go_simp <;> with_reducible rfl
                  try simp only [Act.put, List.setIfInBounds_toArray, List.set_cons_zero, List.set_cons_succ]
                  refine wpAnyH_ready (rs := [11]) (by kernel_rfl) (by simp) ?_
                  refine AllReadyH.cons (o := { dst := none, op := Op.store 30 (Operand.tmp 62) (Operand.tmp 61), type := 0, pos := "ref.go:70", after := #[{ on := 10, ground := Ground.data }, { on := 9, ground := Ground.data }, { on := 9, ground := Ground.chain }, { on := 0, ground := Ground.phase }, { on := 1, ground := Ground.phase }, { on := 2, ground := Ground.phase }, { on := 3, ground := Ground.phase }, { on := 4, ground := Ground.phase }, { on := 5, ground := Ground.phase }, { on := 6, ground := Ground.phase }, { on := 7, ground := Ground.phase }, { on := 8, ground := Ground.phase }, { on := 9, ground := Ground.phase }], guard := none }) rfl (fun K hK => ?_) AllReadyH.nil
                  have e2 := HN5.out.cell e20 (fun e => e)
                  have f2 := free_of (HN5.out.heap HX3.out (fun e => e)) 2
                  go_simp
                  refine hK.out _ _ ?_ (fun hH => ?_)
                  · exact (HN5.out.mono (S' := fun q => q = xo) (fun _ _ e => e.elim)).setCell (p := ⟨xo, 2, none⟩) (fun _ => rfl) _
                  clear hK K
                  refine wpAnyH_done (by kernel_rfl) ?_ _
                  have HXN := hid (heap_set (i := 2) (HN5.out.heap HX3.out (fun e => e)) (.slice (some ⟨g, 0, none⟩) (A.length + j + 1) cp))
                  have hlx := lt_of_block HX3.out
                  have hgp := (HOW.out.lt g rfl)
                  have own2 := Go.ownsRow_setCell_other HOW.out (a := ⟨xo, 2, none⟩) (by simp [Value.ownBlock]; omega) (.slice (some ⟨g, 0, none⟩) (A.length + j + 1) cp)
                  have HO2 := hid own2
                  have HF2 := hid (((HW.out.trans HH.out (fun _ h => h) (fun _ _ e => e.elim)).trans HN5.out (fun _ h => h) (fun _ _ e => e.elim)).setCell (p := ⟨xo, 2, none⟩) (fun _ => rfl) (.slice (some ⟨g, 0, none⟩) (A.length + j + 1) cp))
                  have HX' := HX
                  clear own2 hH e2 f2 c0 e20
                  go_wp2
                  go_roundw
                  case rel =>
                    refine ⟨j + 1, by omega, by go_num, fun i y hi hy => ?_, HF2.out, some ⟨g, 0, none⟩, cp, by rw [show A.length + (j + 1) = A.length + j + 1 by omega]; exact HXN.out, ⟨w3.heap.size, ?_⟩, fun i e => ?_⟩
                    · by_cases e : i = j
                      · subst e
                        have := HX.out.symm.trans hy
                        simp only [Option.some.injEq] at this
                        subst this
                        rw [HCN.out]; omega
                      · exact HC.out i y (by omega) hy
                    · have h := HO2.out
                      rw [take_snoc P j x HX.out, ← List.append_assoc, List.length_append, hAP]
                      rw [flatP_take]
                      exact h
                    · simp [Value.ownBlock] at e
                      have := HH.out.size
                      omega
                  case measure => simp [intOf]; omega
                refine AllReadyH.cons (o := { dst := some 60, op := Op.buildSlice 30 1 #[(0, Operand.tmp 59)], type := 30, pos := "ref.go:70", after := #[{ on := 7, ground := Ground.data }], guard := none }) rfl (fun K hK => ?_) AllReadyH.nil
                go_simp
                generalize hC : Array.foldl _ _ _ _ _ = C
                have hC' : C = (encP x).toArray := by rw [← hC]; simp [parV, encP, encM]
                subst hC'
                clear hC
                refine genw (K := K) (fun x3 hx => ?_)
                have f2 : Fr (fun _ => False) (x2.alloc (.cells (encP x).toArray 79)) x3 := by rw [hx]; exact ⟨rfl, rfl, rfl, Nat.le_refl _, fun _ _ _ => rfl⟩
                have f2' : Fr (fun _ => False) x2 x3 := ((Fr.refl _ x2).alloc _).trans' f2
                have HZ3 := hid (show x3.heap.size = x2.heap.size + 1 by rw [hx]; simp)
                have HN3 := hid (HN2.out.trans' f2')
                have HB3 := hid (f2.heap (heap_new x2 _) (fun e => e))
                have HE3 := hid (Fr.owns f2' HE2.out (fun _ _ e => e))
                clear f2 f2' hx
                refine hK.out _ _ ?_ (fun hH => ?_)
                · exact HN3.out.mono (fun _ _ e => e.elim)
                clear hK K
                try simp only [Act.put, List.setIfInBounds_toArray, List.set_cons_zero, List.set_cons_succ]
                refine wpAnyH_ready (rs := [3]) (by kernel_rfl) (by simp) ?_
                refine AllReadyH.cons (o := { dst := some 55, op := Op.call { callee := Callee.builtin Builtin.append, args := #[Operand.tmp 52, Operand.tmp 54], argTypes := #[30, 30] }, type := 30, pos := "ref.go:70", after := #[{ on := 0, ground := Ground.data }, { on := 2, ground := Ground.data }], guard := none }) rfl (fun K hK => ?_) AllReadyH.nil
                have qz1 := HZ1.out
                have qz2 := HZ2.out
                have qz3 := HZ3.out
                have hle3 := HN3.out.size
                have hlE : w3.heap.size ≤ w3.heap.size := by omega
                go_must (refine step_append_any _ (by rfl) _ _ _ (by rfl) w3.heap.size 79 i0 _ 9 104 Try.underlying30 hi0 hz0 hz1 hz2 rfl (by omega) (.slice (some ⟨w3.heap.size, 0, none⟩) 0 0) 0 [] (by rfl) (by exact HE3.out) w3.heap.size s' (A.length + j) k' ((A ++ P.take j).flatMap encP) (by rfl) (by exact HRD.out.fr HN3.out (Nat.le_refl _) (fun _ _ e => e)) (flatP_one _) (by unfold maxLen; omega) (by omega) (by omega) ?_)
                intro v1 x4 hown hgrow hat
                have f3' : Fr (fun q => q = w3.heap.size) x3 x4 := (Fr.refl _ x3).grown hgrow (fun q e _ => by simp [Value.ownBlock] at e; omega)
                have HZ4 := hid (show x3.heap.size ≤ x4.heap.size from f3'.size)
                have HN4 := hid (HN3.out.trans f3' (fun _ h => h) (fun i hi h => by omega))
                have HR4 := hid (show x4.ownsRow w3.heap.size 79 9 v1 (A.length + j) ((A ++ P.take j).flatMap encP) by rw [Nat.zero_add, List.nil_append] at hown; exact hown)
                have HB4 := hid (Fr.heap f3' HB3.out (by omega))
                clear f3' hown hgrow hat hlE hle3 qz1 qz2 qz3
                refine hK.out _ _ ?_ (fun hH => ?_)
                · exact HN4.out.mono (fun _ _ e => e.elim)
                clear hK K
                try simp only [Act.put, List.setIfInBounds_toArray, List.set_cons_zero, List.set_cons_succ]
                refine wpAnyH_ready (rs := [9]) (by kernel_rfl) (by simp) ?_
                refine AllReadyH.cons (o := { dst := some 61, op := Op.call { callee := Callee.builtin Builtin.append, args := #[Operand.tmp 55, Operand.tmp 60], argTypes := #[30, 30] }, type := 30, pos := "ref.go:70", after := #[{ on := 3, ground := Ground.data }, { on := 8, ground := Ground.data }, { on := 3, ground := Ground.chain }], guard := none }) rfl (fun K hK => ?_) AllReadyH.nil
                have hle4 := HN4.out.size
                have qz1 := HZ1.out
                have qz2 := HZ2.out
                have qz3 := HZ3.out
                have qz4 := HZ4.out
                go_must (refine step_append_lies _ (by rfl) _ _ _ (by rfl) w3.heap.size 79 i0 _ 9 104 Try.underlying30 hi0 hz0 hz1 hz2 rfl (by omega) v1 (A.length + j) _ (by rfl) (by exact HR4.out) ⟨x2.heap.size, 0, none⟩ 1 1 (encP x) (by rfl) (by rfl) (World.news_of_block (by exact HB4.out)) (encP_one _) (by omega) (by unfold maxLen; omega) (by omega) (by omega) x4.heap.size (by rfl) ?_)
                intro g cp x5 hown hgrow hat hlt
                have f4' : Fr (fun q => w3.heap.size ≤ q) x4 x5 := (Fr.refl _ x4).grown hgrow (fun q e _ => (HR4.out.lt q e).1)
                have HN5 := hid (HN4.out.trans f4' (fun _ h => h) (fun i hi h => by omega))
                have HOW := hid hown
                clear f4' hown hgrow hat hle4 qz1 qz2 qz3 qz4
                refine hK.out _ _ ?_ (fun hH => ?_)
                · exact HN5.out.mono (fun _ _ e => e.elim)
                clear hK K
                try simp only [Act.put, List.setIfInBounds_toArray, List.set_cons_zero, List.set_cons_succ]
                refine wpAnyH_take (i := 10) (oi := { dst := some 62, op := Op.fieldAddr 32 (Operand.tmp 7) 2, type := 0, pos := "ref.go:70", after := #[{ on := 0, ground := Ground.phase }, { on := 1, ground := Ground.phase }, { on := 2, ground := Ground.phase }, { on := 3, ground := Ground.phase }, { on := 4, ground := Ground.phase }, { on := 5, ground := Ground.phase }, { on := 6, ground := Ground.phase }, { on := 7, ground := Ground.phase }, { on := 8, ground := Ground.phase }, { on := 9, ground := Ground.phase }], guard := none }) (v := ?_) rfl (by kernel_rfl) (by kernel_rfl) (by kernel_rfl) (fun _ _ _ h => h) (Or.inl ⟨by rfl, ?_⟩) hH ?_
                rotate_left
                · intro w hSw; (try dsimp only at hSw); go_simp <;> with_reducible rfl
                try simp only [Act.put, List.setIfInBounds_toArray, List.set_cons_zero, List.set_cons_succ]
                refine wpAnyH_ready (rs := [11]) (by kernel_rfl) (by simp) ?_
                refine AllReadyH.cons (o := { dst := none, op := Op.store 30 (Operand.tmp 62) (Operand.tmp 61), type := 0, pos := "ref.go:70", after := #[{ on := 10, ground := Ground.data }, { on := 9, ground := Ground.data }, { on := 9, ground := Ground.chain }, { on := 0, ground := Ground.phase }, { on := 1, ground := Ground.phase }, { on := 2, ground := Ground.phase }, { on := 3, ground := Ground.phase }, { on := 4, ground := Ground.phase }, { on := 5, ground := Ground.phase }, { on := 6, ground := Ground.phase }, { on := 7, ground := Ground.phase }, { on := 8, ground := Ground.phase }, { on := 9, ground := Ground.phase }], guard := none }) rfl (fun K hK => ?_) AllReadyH.nil
                have e2 := HN5.out.cell e20 (fun e => e)
                have f2 := free_of (HN5.out.heap HX3.out (fun e => e)) 2
                go_simp
                refine hK.out _ _ ?_ (fun hH => ?_)
                · exact (HN5.out.mono (S' := fun q => q = xo) (fun _ _ e => e.elim)).setCell (p := ⟨xo, 2, none⟩) (fun _ => rfl) _
                clear hK K
                refine wpAnyH_done (by kernel_rfl) ?_ _
                have HXN := hid (heap_set (i := 2) (HN5.out.heap HX3.out (fun e => e)) (.slice (some ⟨g, 0, none⟩) (A.length + j + 1) cp))
                have hlx := lt_of_block HX3.out
                have hgp := (HOW.out.lt g rfl)
                have own2 := Go.ownsRow_setCell_other HOW.out (a := ⟨xo, 2, none⟩) (by simp [Value.ownBlock]; omega) (.slice (some ⟨g, 0, none⟩) (A.length + j + 1) cp)
                have HO2 := hid own2
                have HF2 := hid (((HW.out.trans HH.out (fun _ h => h) (fun _ _ e => e.elim)).trans HN5.out (fun _ h => h) (fun _ _ e => e.elim)).setCell (p := ⟨xo, 2, none⟩) (fun _ => rfl) (.slice (some ⟨g, 0, none⟩) (A.length + j + 1) cp))
                have HX' := HX
                clear own2 hH e2 f2 c0 e20
                go_wp2
                go_roundw
                case rel =>
                  refine ⟨j + 1, by omega, by go_num, fun i y hi hy => ?_, HF2.out, some ⟨g, 0, none⟩, cp, by rw [show A.length + (j + 1) = A.length + j + 1 by omega]; exact HXN.out, ⟨w3.heap.size, ?_⟩, fun i e => ?_⟩
                  · by_cases e : i = j
                    · subst e
                      have := HX.out.symm.trans hy
                      simp only [Option.some.injEq] at this
                      subst this
                      rw [HCN.out]; omega
                    · exact HC.out i y (by omega) hy
                  · have h := HO2.out
                    rw [take_snoc P j x HX.out, ← List.append_assoc, List.length_append, hAP]
                    rw [flatP_take]
                    exact h
                  · simp [Value.ownBlock] at e
                    have := HH.out.size
                    omega
                case measure => simp [intOf]; omega
              refine AllReadyH.cons (o := { dst := some 60, op := Op.buildSlice 30 1 #[(0, Operand.tmp 59)], type := 30, pos := "ref.go:70", after := #[{ on := 7, ground := Ground.data }], guard := none }) rfl (fun K hK => ?_) AllReadyH.nil
              go_simp
              generalize hC : Array.foldl _ _ _ _ _ = C
              have hC' : C = (encP x).toArray := by rw [← hC]; simp [parV, encP, encM]
              subst hC'
              clear hC
              refine genw (K := K) (fun x2 hx => ?_)
              have f1 : Fr (fun _ => False) (x1.alloc (.cells (encP x).toArray 79)) x2 := by rw [hx]; exact ⟨rfl, rfl, rfl, Nat.le_refl _, fun _ _ _ => rfl⟩
              have f1' : Fr (fun _ => False) x1 x2 := ((Fr.refl _ x1).alloc _).trans' f1
              have HZ2 := hid (show x2.heap.size = x1.heap.size + 1 by rw [hx]; simp)
              have HN2 := hid (HN1.out.trans' f1')
              have HB2 := hid (f1.heap (heap_new x1 _) (fun e => e))
              have HE2 := hid (Fr.owns f1' HE1.out (fun _ _ e => e))
              clear f1 f1' hx
              refine hK.out _ _ ?_ (fun hH => ?_)
              · exact HN2.out.mono (fun _ _ e => e.elim)
              clear hK K
              try simp only [Act.put, List.setIfInBounds_toArray, List.set_cons_zero, List.set_cons_succ]
              refine wpAnyH_ready (rs := [2]) (by kernel_rfl) (by simp) ?_
              refine AllReadyH.cons (o := { dst := some 54, op := Op.load 30 (Operand.tmp 53), type := 30, pos := "ref.go:70", after := #[{ on := 1, ground := Ground.data }], guard := none }) rfl (fun K hK => ?_) AllReadyH.nil
              have e2 := HN2.out.cell e20 (fun e => e)
              go_simp
              clear e2
              refine genw (K := K) (fun x3 hx => ?_)
              have f2' : Fr (fun _ => False) x2 x3 := by rw [hx]; exact ⟨rfl, rfl, rfl, Nat.le_refl _, fun _ _ _ => rfl⟩
              have HZ3 := hid (show x3.heap.size = x2.heap.size by rw [hx]; try rfl)
              have HN3 := hid (HN2.out.trans' f2')
              have HE3 := hid (Fr.owns f2' HE2.out (fun _ _ e => e))
              have HB3 := hid (Fr.heap f2' HB2.out (fun e => e))
              clear f2' hx
              refine hK.out _ _ ?_ (fun hH => ?_)
              · exact HN3.out.mono (fun _ _ e => e.elim)
              clear hK K
              try simp only [Act.put, List.setIfInBounds_toArray, List.set_cons_zero, List.set_cons_succ]
              refine wpAnyH_ready (rs := [3]) (by kernel_rfl) (by simp) ?_
              refine AllReadyH.cons (o := { dst := some 55, op := Op.call { callee := Callee.builtin Builtin.append, args := #[Operand.tmp 52, Operand.tmp 54], argTypes := #[30, 30] }, type := 30, pos := "ref.go:70", after := #[{ on := 0, ground := Ground.data }, { on := 2, ground := Ground.data }], guard := none }) rfl (fun K hK => ?_) AllReadyH.nil
              have qz1 := HZ1.out
              have qz2 := HZ2.out
              have qz3 := HZ3.out
              have hle3 := HN3.out.size
              have hlE : w3.heap.size ≤ w3.heap.size := by omega
              go_must (refine step_append_any _ (by rfl) _ _ _ (by rfl) w3.heap.size 79 i0 _ 9 104 Try.underlying30 hi0 hz0 hz1 hz2 rfl (by omega) (.slice (some ⟨w3.heap.size, 0, none⟩) 0 0) 0 [] (by rfl) (by exact HE3.out) w3.heap.size s' (A.length + j) k' ((A ++ P.take j).flatMap encP) (by rfl) (by exact HRD.out.fr HN3.out (Nat.le_refl _) (fun _ _ e => e)) (flatP_one _) (by unfold maxLen; omega) (by omega) (by omega) ?_)
              intro v1 x4 hown hgrow hat
              have f3' : Fr (fun q => q = w3.heap.size) x3 x4 := (Fr.refl _ x3).grown hgrow (fun q e _ => by simp [Value.ownBlock] at e; omega)
              have HZ4 := hid (show x3.heap.size ≤ x4.heap.size from f3'.size)
              have HN4 := hid (HN3.out.trans f3' (fun _ h => h) (fun i hi h => by omega))
              have HR4 := hid (show x4.ownsRow w3.heap.size 79 9 v1 (A.length + j) ((A ++ P.take j).flatMap encP) by rw [Nat.zero_add, List.nil_append] at hown; exact hown)
              have HB4 := hid (Fr.heap f3' HB3.out (by omega))
              clear f3' hown hgrow hat hlE hle3 qz1 qz2 qz3
              refine hK.out _ _ ?_ (fun hH => ?_)
              · exact HN4.out.mono (fun _ _ e => e.elim)
              clear hK K
              try simp only [Act.put, List.setIfInBounds_toArray, List.set_cons_zero, List.set_cons_succ]
              refine wpAnyH_ready (rs := [9]) (by kernel_rfl) (by simp) ?_
              refine AllReadyH.cons (o := { dst := some 61, op := Op.call { callee := Callee.builtin Builtin.append, args := #[Operand.tmp 55, Operand.tmp 60], argTypes := #[30, 30] }, type := 30, pos := "ref.go:70", after := #[{ on := 3, ground := Ground.data }, { on := 8, ground := Ground.data }, { on := 3, ground := Ground.chain }], guard := none }) rfl (fun K hK => ?_) AllReadyH.nil
              have hle4 := HN4.out.size
              have qz1 := HZ1.out
              have qz2 := HZ2.out
              have qz3 := HZ3.out
              have qz4 := HZ4.out
              go_must (refine step_append_lies _ (by rfl) _ _ _ (by rfl) w3.heap.size 79 i0 _ 9 104 Try.underlying30 hi0 hz0 hz1 hz2 rfl (by omega) v1 (A.length + j) _ (by rfl) (by exact HR4.out) ⟨x1.heap.size, 0, none⟩ 1 1 (encP x) (by rfl) (by rfl) (World.news_of_block (by exact HB4.out)) (encP_one _) (by omega) (by unfold maxLen; omega) (by omega) (by omega) x4.heap.size (by rfl) ?_)
              intro g cp x5 hown hgrow hat hlt
              have f4' : Fr (fun q => w3.heap.size ≤ q) x4 x5 := (Fr.refl _ x4).grown hgrow (fun q e _ => (HR4.out.lt q e).1)
              have HN5 := hid (HN4.out.trans f4' (fun _ h => h) (fun i hi h => by omega))
              have HOW := hid hown
              clear f4' hown hgrow hat hle4 qz1 qz2 qz3 qz4
              refine hK.out _ _ ?_ (fun hH => ?_)
              · exact HN5.out.mono (fun _ _ e => e.elim)
              clear hK K
              try simp only [Act.put, List.setIfInBounds_toArray, List.set_cons_zero, List.set_cons_succ]
              refine wpAnyH_take (i := 10) (oi := { dst := some 62, op := Op.fieldAddr 32 (Operand.tmp 7) 2, type := 0, pos := "ref.go:70", after := #[{ on := 0, ground := Ground.phase }, { on := 1, ground := Ground.phase }, { on := 2, ground := Ground.phase }, { on := 3, ground := Ground.phase }, { on := 4, ground := Ground.phase }, { on := 5, ground := Ground.phase }, { on := 6, ground := Ground.phase }, { on := 7, ground := Ground.phase }, { on := 8, ground := Ground.phase }, { on := 9, ground := Ground.phase }], guard := none }) (v := ?_) rfl (by kernel_rfl) (by kernel_rfl) (by kernel_rfl) (fun _ _ _ h => h) (Or.inl ⟨by rfl, ?_⟩) hH ?_
              rotate_left
              · intro w hSw; (try dsimp only at hSw); go_simp <;> with_reducible rfl
              try simp only [Act.put, List.setIfInBounds_toArray, List.set_cons_zero, List.set_cons_succ]
              refine wpAnyH_ready (rs := [11]) (by kernel_rfl) (by simp) ?_
              refine AllReadyH.cons (o := { dst := none, op := Op.store 30 (Operand.tmp 62) (Operand.tmp 61), type := 0, pos := "ref.go:70", after := #[{ on := 10, ground := Ground.data }, { on := 9, ground := Ground.data }, { on := 9, ground := Ground.chain }, { on := 0, ground := Ground.phase }, { on := 1, ground := Ground.phase }, { on := 2, ground := Ground.phase }, { on := 3, ground := Ground.phase }, { on := 4, ground := Ground.phase }, { on := 5, ground := Ground.phase }, { on := 6, ground := Ground.phase }, { on := 7, ground := Ground.phase }, { on := 8, ground := Ground.phase }, { on := 9, ground := Ground.phase }], guard := none }) rfl (fun K hK => ?_) AllReadyH.nil
              have e2 := HN5.out.cell e20 (fun e => e)
              have f2 := free_of (HN5.out.heap HX3.out (fun e => e)) 2
              go_simp
              refine hK.out _ _ ?_ (fun hH => ?_)
              · exact (HN5.out.mono (S' := fun q => q = xo) (fun _ _ e => e.elim)).setCell (p := ⟨xo, 2, none⟩) (fun _ => rfl) _
              clear hK K
              refine wpAnyH_done (by kernel_rfl) ?_ _
              have HXN := hid (heap_set (i := 2) (HN5.out.heap HX3.out (fun e => e)) (.slice (some ⟨g, 0, none⟩) (A.length + j + 1) cp))
              have hlx := lt_of_block HX3.out
              have hgp := (HOW.out.lt g rfl)
              have own2 := Go.ownsRow_setCell_other HOW.out (a := ⟨xo, 2, none⟩) (by simp [Value.ownBlock]; omega) (.slice (some ⟨g, 0, none⟩) (A.length + j + 1) cp)
              have HO2 := hid own2
              have HF2 := hid (((HW.out.trans HH.out (fun _ h => h) (fun _ _ e => e.elim)).trans HN5.out (fun _ h => h) (fun _ _ e => e.elim)).setCell (p := ⟨xo, 2, none⟩) (fun _ => rfl) (.slice (some ⟨g, 0, none⟩) (A.length + j + 1) cp))
              have HX' := HX
              clear own2 hH e2 f2 c0 e20
              go_wp2
              go_roundw
              case rel =>
                refine ⟨j + 1, by omega, by go_num, fun i y hi hy => ?_, HF2.out, some ⟨g, 0, none⟩, cp, by rw [show A.length + (j + 1) = A.length + j + 1 by omega]; exact HXN.out, ⟨w3.heap.size, ?_⟩, fun i e => ?_⟩
                · by_cases e : i = j
                  · subst e
                    have := HX.out.symm.trans hy
                    simp only [Option.some.injEq] at this
                    subst this
                    rw [HCN.out]; omega
                  · exact HC.out i y (by omega) hy
                · have h := HO2.out
                  rw [take_snoc P j x HX.out, ← List.append_assoc, List.length_append, hAP]
                  rw [flatP_take]
                  exact h
                · simp [Value.ownBlock] at e
                  have := HH.out.size
                  omega
              case measure => simp [intOf]; omega
            refine AllReadyH.cons (o := { dst := some 54, op := Op.load 30 (Operand.tmp 53), type := 30, pos := "ref.go:70", after := #[{ on := 1, ground := Ground.data }], guard := none }) rfl (fun K hK => ?_) ?_
            ·
              have e2 := HN0.out.cell e20 (fun e => e)
              go_simp
              clear e2
              refine genw (K := K) (fun x1 hx => ?_)
              have f0' : Fr (fun _ => False) w3 x1 := by rw [hx]; exact ⟨rfl, rfl, rfl, Nat.le_refl _, fun _ _ _ => rfl⟩
              have HZ1 := hid (show x1.heap.size = w3.heap.size by rw [hx]; try rfl)
              have HN1 := hid (HN0.out.trans' f0')
              clear f0' hx
              refine hK.out _ _ ?_ (fun hH => ?_)
              · exact HN1.out.mono (fun _ _ e => e.elim)
              clear hK K
              try simp only [Act.put, List.setIfInBounds_toArray, List.set_cons_zero, List.set_cons_succ]
              refine wpAnyH_ready (rs := [0, 8]) (by kernel_rfl) (by simp) ?_
              refine AllReadyH.cons (o := { dst := some 52, op := Op.buildSlice 30 0 #[], type := 30, pos := "ref.go:70", after := #[], guard := none }) rfl (fun K hK => ?_) ?_
              ·
                go_simp
                refine genw (K := K) (fun x2 hx => ?_)
                have f1 : Fr (fun _ => False) (x1.alloc (.cells #[] 79)) x2 := by rw [hx]; exact ⟨rfl, rfl, rfl, Nat.le_refl _, fun _ _ _ => rfl⟩
                have f1' : Fr (fun _ => False) x1 x2 := ((Fr.refl _ x1).alloc _).trans' f1
                have HZ2 := hid (show x2.heap.size = x1.heap.size + 1 by rw [hx]; simp)
                have HN2 := hid (HN1.out.trans' f1')
                have hle1 := HN1.out.size
                have HE2 := hid (empty_own (B := w3.heap.size) (E := 79) (sz := 9) rfl f1 hle1 rfl)
                clear f1 f1' hx hle1
                refine hK.out _ _ ?_ (fun hH => ?_)
                · exact HN2.out.mono (fun _ _ e => e.elim)
                clear hK K
                try simp only [Act.put, List.setIfInBounds_toArray, List.set_cons_zero, List.set_cons_succ]
                refine wpAnyH_ready (rs := [3, 8]) (by kernel_rfl) (by simp) ?_
                refine AllReadyH.cons (o := { dst := some 55, op := Op.call { callee := Callee.builtin Builtin.append, args := #[Operand.tmp 52, Operand.tmp 54], argTypes := #[30, 30] }, type := 30, pos := "ref.go:70", after := #[{ on := 0, ground := Ground.data }, { on := 2, ground := Ground.data }], guard := none }) rfl (fun K hK => ?_) ?_
                ·
                  have qz1 := HZ1.out
                  have qz2 := HZ2.out
                  have hle2 := HN2.out.size
                  have hlE : w3.heap.size ≤ x1.heap.size := by omega
                  go_must (refine step_append_any _ (by rfl) _ _ _ (by rfl) w3.heap.size 79 i0 _ 9 104 Try.underlying30 hi0 hz0 hz1 hz2 rfl (by omega) (.slice (some ⟨x1.heap.size, 0, none⟩) 0 0) 0 [] (by rfl) (by exact HE2.out) w3.heap.size s' (A.length + j) k' ((A ++ P.take j).flatMap encP) (by rfl) (by exact HRD.out.fr HN2.out (Nat.le_refl _) (fun _ _ e => e)) (flatP_one _) (by unfold maxLen; omega) (by omega) (by omega) ?_)
                  intro v1 x3 hown hgrow hat
                  have f2' : Fr (fun q => q = x1.heap.size) x2 x3 := (Fr.refl _ x2).grown hgrow (fun q e _ => by simp [Value.ownBlock] at e; omega)
                  have HZ3 := hid (show x2.heap.size ≤ x3.heap.size from f2'.size)
                  have HN3 := hid (HN2.out.trans f2' (fun _ h => h) (fun i hi h => by omega))
                  have HR3 := hid (show x3.ownsRow w3.heap.size 79 9 v1 (A.length + j) ((A ++ P.take j).flatMap encP) by rw [Nat.zero_add, List.nil_append] at hown; exact hown)
                  clear f2' hown hgrow hat hlE hle2 qz1 qz2
                  refine hK.out _ _ ?_ (fun hH => ?_)
                  · exact HN3.out.mono (fun _ _ e => e.elim)
                  clear hK K
                  try simp only [Act.put, List.setIfInBounds_toArray, List.set_cons_zero, List.set_cons_succ]
                  refine wpAnyH_ready (rs := [8]) (by kernel_rfl) (by simp) ?_
                  refine AllReadyH.cons (o := { dst := some 60, op := Op.buildSlice 30 1 #[(0, Operand.tmp 59)], type := 30, pos := "ref.go:70", after := #[{ on := 7, ground := Ground.data }], guard := none }) rfl (fun K hK => ?_) AllReadyH.nil
                  go_simp
                  generalize hC : Array.foldl _ _ _ _ _ = C
                  have hC' : C = (encP x).toArray := by rw [← hC]; simp [parV, encP, encM]
                  subst hC'
                  clear hC
                  refine genw (K := K) (fun x4 hx => ?_)
                  have f3 : Fr (fun _ => False) (x3.alloc (.cells (encP x).toArray 79)) x4 := by rw [hx]; exact ⟨rfl, rfl, rfl, Nat.le_refl _, fun _ _ _ => rfl⟩
                  have f3' : Fr (fun _ => False) x3 x4 := ((Fr.refl _ x3).alloc _).trans' f3
                  have HZ4 := hid (show x4.heap.size = x3.heap.size + 1 by rw [hx]; simp)
                  have HN4 := hid (HN3.out.trans' f3')
                  have HB4 := hid (f3.heap (heap_new x3 _) (fun e => e))
                  have HR4 := hid (Fr.owns f3' HR3.out (fun _ _ e => e))
                  clear f3 f3' hx
                  refine hK.out _ _ ?_ (fun hH => ?_)
                  · exact HN4.out.mono (fun _ _ e => e.elim)
                  clear hK K
                  try simp only [Act.put, List.setIfInBounds_toArray, List.set_cons_zero, List.set_cons_succ]
                  refine wpAnyH_ready (rs := [9]) (by kernel_rfl) (by simp) ?_
                  refine AllReadyH.cons (o := { dst := some 61, op := Op.call { callee := Callee.builtin Builtin.append, args := #[Operand.tmp 55, Operand.tmp 60], argTypes := #[30, 30] }, type := 30, pos := "ref.go:70", after := #[{ on := 3, ground := Ground.data }, { on := 8, ground := Ground.data }, { on := 3, ground := Ground.chain }], guard := none }) rfl (fun K hK => ?_) AllReadyH.nil
                  have hle4 := HN4.out.size
                  have qz1 := HZ1.out
                  have qz2 := HZ2.out
                  have qz3 := HZ3.out
                  have qz4 := HZ4.out
                  go_must (refine step_append_lies _ (by rfl) _ _ _ (by rfl) w3.heap.size 79 i0 _ 9 104 Try.underlying30 hi0 hz0 hz1 hz2 rfl (by omega) v1 (A.length + j) _ (by rfl) (by exact HR4.out) ⟨x3.heap.size, 0, none⟩ 1 1 (encP x) (by rfl) (by rfl) (World.news_of_block (by exact HB4.out)) (encP_one _) (by omega) (by unfold maxLen; omega) (by omega) (by omega) x4.heap.size (by rfl) ?_)
                  intro g cp x5 hown hgrow hat hlt
                  have f4' : Fr (fun q => w3.heap.size ≤ q) x4 x5 := (Fr.refl _ x4).grown hgrow (fun q e _ => (HR4.out.lt q e).1)
                  have HN5 := hid (HN4.out.trans f4' (fun _ h => h) (fun i hi h => by omega))
                  have HOW := hid hown
                  clear f4' hown hgrow hat hle4 qz1 qz2 qz3 qz4
                  refine hK.out _ _ ?_ (fun hH => ?_)
                  · exact HN5.out.mono (fun _ _ e => e.elim)
                  clear hK K
                  try simp only [Act.put, List.setIfInBounds_toArray, List.set_cons_zero, List.set_cons_succ]
                  refine wpAnyH_take (i := 10) (oi := { dst := some 62, op := Op.fieldAddr 32 (Operand.tmp 7) 2, type := 0, pos := "ref.go:70", after := #[{ on := 0, ground := Ground.phase }, { on := 1, ground := Ground.phase }, { on := 2, ground := Ground.phase }, { on := 3, ground := Ground.phase }, { on := 4, ground := Ground.phase }, { on := 5, ground := Ground.phase }, { on := 6, ground := Ground.phase }, { on := 7, ground := Ground.phase }, { on := 8, ground := Ground.phase }, { on := 9, ground := Ground.phase }], guard := none }) (v := ?_) rfl (by kernel_rfl) (by kernel_rfl) (by kernel_rfl) (fun _ _ _ h => h) (Or.inl ⟨by rfl, ?_⟩) hH ?_
                  rotate_left
                  · intro w hSw; (try dsimp only at hSw); go_simp <;> with_reducible rfl
                  try simp only [Act.put, List.setIfInBounds_toArray, List.set_cons_zero, List.set_cons_succ]
                  refine wpAnyH_ready (rs := [11]) (by kernel_rfl) (by simp) ?_
                  refine AllReadyH.cons (o := { dst := none, op := Op.store 30 (Operand.tmp 62) (Operand.tmp 61), type := 0, pos := "ref.go:70", after := #[{ on := 10, ground := Ground.data }, { on := 9, ground := Ground.data }, { on := 9, ground := Ground.chain }, { on := 0, ground := Ground.phase }, { on := 1, ground := Ground.phase }, { on := 2, ground := Ground.phase }, { on := 3, ground := Ground.phase }, { on := 4, ground := Ground.phase }, { on := 5, ground := Ground.phase }, { on := 6, ground := Ground.phase }, { on := 7, ground := Ground.phase }, { on := 8, ground := Ground.phase }, { on := 9, ground := Ground.phase }], guard := none }) rfl (fun K hK => ?_) AllReadyH.nil
                  have e2 := HN5.out.cell e20 (fun e => e)
                  have f2 := free_of (HN5.out.heap HX3.out (fun e => e)) 2
                  go_simp
                  refine hK.out _ _ ?_ (fun hH => ?_)
                  · exact (HN5.out.mono (S' := fun q => q = xo) (fun _ _ e => e.elim)).setCell (p := ⟨xo, 2, none⟩) (fun _ => rfl) _
                  clear hK K
                  refine wpAnyH_done (by kernel_rfl) ?_ _
                  have HXN := hid (heap_set (i := 2) (HN5.out.heap HX3.out (fun e => e)) (.slice (some ⟨g, 0, none⟩) (A.length + j + 1) cp))
                  have hlx := lt_of_block HX3.out
                  have hgp := (HOW.out.lt g rfl)
                  have own2 := Go.ownsRow_setCell_other HOW.out (a := ⟨xo, 2, none⟩) (by simp [Value.ownBlock]; omega) (.slice (some ⟨g, 0, none⟩) (A.length + j + 1) cp)
                  have HO2 := hid own2
                  have HF2 := hid (((HW.out.trans HH.out (fun _ h => h) (fun _ _ e => e.elim)).trans HN5.out (fun _ h => h) (fun _ _ e => e.elim)).setCell (p := ⟨xo, 2, none⟩) (fun _ => rfl) (.slice (some ⟨g, 0, none⟩) (A.length + j + 1) cp))
                  have HX' := HX
                  clear own2 hH e2 f2 c0 e20
                  go_wp2
                  go_roundw
                  case rel =>
                    refine ⟨j + 1, by omega, by go_num, fun i y hi hy => ?_, HF2.out, some ⟨g, 0, none⟩, cp, by rw [show A.length + (j + 1) = A.length + j + 1 by omega]; exact HXN.out, ⟨w3.heap.size, ?_⟩, fun i e => ?_⟩
                    · by_cases e : i = j
                      · subst e
                        have := HX.out.symm.trans hy
                        simp only [Option.some.injEq] at this
                        subst this
                        rw [HCN.out]; omega
                      · exact HC.out i y (by omega) hy
                    · have h := HO2.out
                      rw [take_snoc P j x HX.out, ← List.append_assoc, List.length_append, hAP]
                      rw [flatP_take]
                      exact h
                    · simp [Value.ownBlock] at e
                      have := HH.out.size
                      omega
                  case measure => simp [intOf]; omega
                refine AllReadyH.cons (o := { dst := some 60, op := Op.buildSlice 30 1 #[(0, Operand.tmp 59)], type := 30, pos := "ref.go:70", after := #[{ on := 7, ground := Ground.data }], guard := none }) rfl (fun K hK => ?_) AllReadyH.nil
                go_simp
                generalize hC : Array.foldl _ _ _ _ _ = C
                have hC' : C = (encP x).toArray := by rw [← hC]; simp [parV, encP, encM]
                subst hC'
                clear hC
                refine genw (K := K) (fun x3 hx => ?_)
                have f2 : Fr (fun _ => False) (x2.alloc (.cells (encP x).toArray 79)) x3 := by rw [hx]; exact ⟨rfl, rfl, rfl, Nat.le_refl _, fun _ _ _ => rfl⟩
                have f2' : Fr (fun _ => False) x2 x3 := ((Fr.refl _ x2).alloc _).trans' f2
                have HZ3 := hid (show x3.heap.size = x2.heap.size + 1 by rw [hx]; simp)
                have HN3 := hid (HN2.out.trans' f2')
                have HB3 := hid (f2.heap (heap_new x2 _) (fun e => e))
                have HE3 := hid (Fr.owns f2' HE2.out (fun _ _ e => e))
                clear f2 f2' hx
                refine hK.out _ _ ?_ (fun hH => ?_)
                · exact HN3.out.mono (fun _ _ e => e.elim)
                clear hK K
                try simp only [Act.put, List.setIfInBounds_toArray, List.set_cons_zero, List.set_cons_succ]
                refine wpAnyH_ready (rs := [3]) (by kernel_rfl) (by simp) ?_
                refine AllReadyH.cons (o := { dst := some 55, op := Op.call { callee := Callee.builtin Builtin.append, args := #[Operand.tmp 52, Operand.tmp 54], argTypes := #[30, 30] }, type := 30, pos := "ref.go:70", after := #[{ on := 0, ground := Ground.data }, { on := 2, ground := Ground.data }], guard := none }) rfl (fun K hK => ?_) AllReadyH.nil
                have qz1 := HZ1.out
                have qz2 := HZ2.out
                have qz3 := HZ3.out
                have hle3 := HN3.out.size
                have hlE : w3.heap.size ≤ x1.heap.size := by omega
                go_must (refine step_append_any _ (by rfl) _ _ _ (by rfl) w3.heap.size 79 i0 _ 9 104 Try.underlying30 hi0 hz0 hz1 hz2 rfl (by omega) (.slice (some ⟨x1.heap.size, 0, none⟩) 0 0) 0 [] (by rfl) (by exact HE3.out) w3.heap.size s' (A.length + j) k' ((A ++ P.take j).flatMap encP) (by rfl) (by exact HRD.out.fr HN3.out (Nat.le_refl _) (fun _ _ e => e)) (flatP_one _) (by unfold maxLen; omega) (by omega) (by omega) ?_)
                intro v1 x4 hown hgrow hat
                have f3' : Fr (fun q => q = x1.heap.size) x3 x4 := (Fr.refl _ x3).grown hgrow (fun q e _ => by simp [Value.ownBlock] at e; omega)
                have HZ4 := hid (show x3.heap.size ≤ x4.heap.size from f3'.size)
                have HN4 := hid (HN3.out.trans f3' (fun _ h => h) (fun i hi h => by omega))
                have HR4 := hid (show x4.ownsRow w3.heap.size 79 9 v1 (A.length + j) ((A ++ P.take j).flatMap encP) by rw [Nat.zero_add, List.nil_append] at hown; exact hown)
                have HB4 := hid (Fr.heap f3' HB3.out (by omega))
                clear f3' hown hgrow hat hlE hle3 qz1 qz2 qz3
                refine hK.out _ _ ?_ (fun hH => ?_)
                · exact HN4.out.mono (fun _ _ e => e.elim)
                clear hK K
                try simp only [Act.put, List.setIfInBounds_toArray, List.set_cons_zero, List.set_cons_succ]
                refine wpAnyH_ready (rs := [9]) (by kernel_rfl) (by simp) ?_
                refine AllReadyH.cons (o := { dst := some 61, op := Op.call { callee := Callee.builtin Builtin.append, args := #[Operand.tmp 55, Operand.tmp 60], argTypes := #[30, 30] }, type := 30, pos := "ref.go:70", after := #[{ on := 3, ground := Ground.data }, { on := 8, ground := Ground.data }, { on := 3, ground := Ground.chain }], guard := none }) rfl (fun K hK => ?_) AllReadyH.nil
                have hle4 := HN4.out.size
                have qz1 := HZ1.out
                have qz2 := HZ2.out
                have qz3 := HZ3.out
                have qz4 := HZ4.out
                go_must (refine step_append_lies _ (by rfl) _ _ _ (by rfl) w3.heap.size 79 i0 _ 9 104 Try.underlying30 hi0 hz0 hz1 hz2 rfl (by omega) v1 (A.length + j) _ (by rfl) (by exact HR4.out) ⟨x2.heap.size, 0, none⟩ 1 1 (encP x) (by rfl) (by rfl) (World.news_of_block (by exact HB4.out)) (encP_one _) (by omega) (by unfold maxLen; omega) (by omega) (by omega) x4.heap.size (by rfl) ?_)
                intro g cp x5 hown hgrow hat hlt
                have f4' : Fr (fun q => w3.heap.size ≤ q) x4 x5 := (Fr.refl _ x4).grown hgrow (fun q e _ => (HR4.out.lt q e).1)
                have HN5 := hid (HN4.out.trans f4' (fun _ h => h) (fun i hi h => by omega))
                have HOW := hid hown
                clear f4' hown hgrow hat hle4 qz1 qz2 qz3 qz4
                refine hK.out _ _ ?_ (fun hH => ?_)
                · exact HN5.out.mono (fun _ _ e => e.elim)
                clear hK K
                try simp only [Act.put, List.setIfInBounds_toArray, List.set_cons_zero, List.set_cons_succ]
                refine wpAnyH_take (i := 10) (oi := { dst := some 62, op := Op.fieldAddr 32 (Operand.tmp 7) 2, type := 0, pos := "ref.go:70", after := #[{ on := 0, ground := Ground.phase }, { on := 1, ground := Ground.phase }, { on := 2, ground := Ground.phase }, { on := 3, ground := Ground.phase }, { on := 4, ground := Ground.phase }, { on := 5, ground := Ground.phase }, { on := 6, ground := Ground.phase }, { on := 7, ground := Ground.phase }, { on := 8, ground := Ground.phase }, { on := 9, ground := Ground.phase }], guard := none }) (v := ?_) rfl (by kernel_rfl) (by kernel_rfl) (by kernel_rfl) (fun _ _ _ h => h) (Or.inl ⟨by rfl, ?_⟩) hH ?_
                rotate_left
                · intro w hSw; (try dsimp only at hSw); go_simp <;> with_reducible rfl
                try simp only [Act.put, List.setIfInBounds_toArray, List.set_cons_zero, List.set_cons_succ]
                refine wpAnyH_ready (rs := [11]) (by kernel_rfl) (by simp) ?_
                refine AllReadyH.cons (o := { dst := none, op := Op.store 30 (Operand.tmp 62) (Operand.tmp 61), type := 0, pos := "ref.go:70", after := #[{ on := 10, ground := Ground.data }, { on := 9, ground := Ground.data }, { on := 9, ground := Ground.chain }, { on := 0, ground := Ground.phase }, { on := 1, ground := Ground.phase }, { on := 2, ground := Ground.phase }, { on := 3, ground := Ground.phase }, { on := 4, ground := Ground.phase }, { on := 5, ground := Ground.phase }, { on := 6, ground := Ground.phase }, { on := 7, ground := Ground.phase }, { on := 8, ground := Ground.phase }, { on := 9, ground := Ground.phase }], guard := none }) rfl (fun K hK => ?_) AllReadyH.nil
                have e2 := HN5.out.cell e20 (fun e => e)
                have f2 := free_of (HN5.out.heap HX3.out (fun e => e)) 2
                go_simp
                refine hK.out _ _ ?_ (fun hH => ?_)
                · exact (HN5.out.mono (S' := fun q => q = xo) (fun _ _ e => e.elim)).setCell (p := ⟨xo, 2, none⟩) (fun _ => rfl) _
                clear hK K
                refine wpAnyH_done (by kernel_rfl) ?_ _
                have HXN := hid (heap_set (i := 2) (HN5.out.heap HX3.out (fun e => e)) (.slice (some ⟨g, 0, none⟩) (A.length + j + 1) cp))
                have hlx := lt_of_block HX3.out
                have hgp := (HOW.out.lt g rfl)
                have own2 := Go.ownsRow_setCell_other HOW.out (a := ⟨xo, 2, none⟩) (by simp [Value.ownBlock]; omega) (.slice (some ⟨g, 0, none⟩) (A.length + j + 1) cp)
                have HO2 := hid own2
                have HF2 := hid (((HW.out.trans HH.out (fun _ h => h) (fun _ _ e => e.elim)).trans HN5.out (fun _ h => h) (fun _ _ e => e.elim)).setCell (p := ⟨xo, 2, none⟩) (fun _ => rfl) (.slice (some ⟨g, 0, none⟩) (A.length + j + 1) cp))
                have HX' := HX
                clear own2 hH e2 f2 c0 e20
                go_wp2
                go_roundw
                case rel =>
                  refine ⟨j + 1, by omega, by go_num, fun i y hi hy => ?_, HF2.out, some ⟨g, 0, none⟩, cp, by rw [show A.length + (j + 1) = A.length + j + 1 by omega]; exact HXN.out, ⟨w3.heap.size, ?_⟩, fun i e => ?_⟩
                  · by_cases e : i = j
                    · subst e
                      have := HX.out.symm.trans hy
                      simp only [Option.some.injEq] at this
                      subst this
                      rw [HCN.out]; omega
                    · exact HC.out i y (by omega) hy
                  · have h := HO2.out
                    rw [take_snoc P j x HX.out, ← List.append_assoc, List.length_append, hAP]
                    rw [flatP_take]
                    exact h
                  · simp [Value.ownBlock] at e
                    have := HH.out.size
                    omega
                case measure => simp [intOf]; omega
              refine AllReadyH.cons (o := { dst := some 60, op := Op.buildSlice 30 1 #[(0, Operand.tmp 59)], type := 30, pos := "ref.go:70", after := #[{ on := 7, ground := Ground.data }], guard := none }) rfl (fun K hK => ?_) AllReadyH.nil
              go_simp
              generalize hC : Array.foldl _ _ _ _ _ = C
              have hC' : C = (encP x).toArray := by rw [← hC]; simp [parV, encP, encM]
              subst hC'
              clear hC
              refine genw (K := K) (fun x2 hx => ?_)
              have f1 : Fr (fun _ => False) (x1.alloc (.cells (encP x).toArray 79)) x2 := by rw [hx]; exact ⟨rfl, rfl, rfl, Nat.le_refl _, fun _ _ _ => rfl⟩
              have f1' : Fr (fun _ => False) x1 x2 := ((Fr.refl _ x1).alloc _).trans' f1
              have HZ2 := hid (show x2.heap.size = x1.heap.size + 1 by rw [hx]; simp)
              have HN2 := hid (HN1.out.trans' f1')
              have HB2 := hid (f1.heap (heap_new x1 _) (fun e => e))
              clear f1 f1' hx
              refine hK.out _ _ ?_ (fun hH => ?_)
              · exact HN2.out.mono (fun _ _ e => e.elim)
              clear hK K
              try simp only [Act.put, List.setIfInBounds_toArray, List.set_cons_zero, List.set_cons_succ]
              refine wpAnyH_ready (rs := [0]) (by kernel_rfl) (by simp) ?_
              refine AllReadyH.cons (o := { dst := some 52, op := Op.buildSlice 30 0 #[], type := 30, pos := "ref.go:70", after := #[], guard := none }) rfl (fun K hK => ?_) AllReadyH.nil
              go_simp
              refine genw (K := K) (fun x3 hx => ?_)
              have f2 : Fr (fun _ => False) (x2.alloc (.cells #[] 79)) x3 := by rw [hx]; exact ⟨rfl, rfl, rfl, Nat.le_refl _, fun _ _ _ => rfl⟩
              have f2' : Fr (fun _ => False) x2 x3 := ((Fr.refl _ x2).alloc _).trans' f2
              have HZ3 := hid (show x3.heap.size = x2.heap.size + 1 by rw [hx]; simp)
              have HN3 := hid (HN2.out.trans' f2')
              have hle2 := HN2.out.size
              have HE3 := hid (empty_own (B := w3.heap.size) (E := 79) (sz := 9) rfl f2 hle2 rfl)
              have HB3 := hid (Fr.heap f2' HB2.out (fun e => e))
              clear f2 f2' hx hle2
              refine hK.out _ _ ?_ (fun hH => ?_)
              · exact HN3.out.mono (fun _ _ e => e.elim)
              clear hK K
              try simp only [Act.put, List.setIfInBounds_toArray, List.set_cons_zero, List.set_cons_succ]
              refine wpAnyH_ready (rs := [3]) (by kernel_rfl) (by simp) ?_
              refine AllReadyH.cons (o := { dst := some 55, op := Op.call { callee := Callee.builtin Builtin.append, args := #[Operand.tmp 52, Operand.tmp 54], argTypes := #[30, 30] }, type := 30, pos := "ref.go:70", after := #[{ on := 0, ground := Ground.data }, { on := 2, ground := Ground.data }], guard := none }) rfl (fun K hK => ?_) AllReadyH.nil
              have qz1 := HZ1.out
              have qz2 := HZ2.out
              have qz3 := HZ3.out
              have hle3 := HN3.out.size
              have hlE : w3.heap.size ≤ x2.heap.size := by omega
              go_must (refine step_append_any _ (by rfl) _ _ _ (by rfl) w3.heap.size 79 i0 _ 9 104 Try.underlying30 hi0 hz0 hz1 hz2 rfl (by omega) (.slice (some ⟨x2.heap.size, 0, none⟩) 0 0) 0 [] (by rfl) (by exact HE3.out) w3.heap.size s' (A.length + j) k' ((A ++ P.take j).flatMap encP) (by rfl) (by exact HRD.out.fr HN3.out (Nat.le_refl _) (fun _ _ e => e)) (flatP_one _) (by unfold maxLen; omega) (by omega) (by omega) ?_)
              intro v1 x4 hown hgrow hat
              have f3' : Fr (fun q => q = x2.heap.size) x3 x4 := (Fr.refl _ x3).grown hgrow (fun q e _ => by simp [Value.ownBlock] at e; omega)
              have HZ4 := hid (show x3.heap.size ≤ x4.heap.size from f3'.size)
              have HN4 := hid (HN3.out.trans f3' (fun _ h => h) (fun i hi h => by omega))
              have HR4 := hid (show x4.ownsRow w3.heap.size 79 9 v1 (A.length + j) ((A ++ P.take j).flatMap encP) by rw [Nat.zero_add, List.nil_append] at hown; exact hown)
              have HB4 := hid (Fr.heap f3' HB3.out (by omega))
              clear f3' hown hgrow hat hlE hle3 qz1 qz2 qz3
              refine hK.out _ _ ?_ (fun hH => ?_)
              · exact HN4.out.mono (fun _ _ e => e.elim)
              clear hK K
              try simp only [Act.put, List.setIfInBounds_toArray, List.set_cons_zero, List.set_cons_succ]
              refine wpAnyH_ready (rs := [9]) (by kernel_rfl) (by simp) ?_
              refine AllReadyH.cons (o := { dst := some 61, op := Op.call { callee := Callee.builtin Builtin.append, args := #[Operand.tmp 55, Operand.tmp 60], argTypes := #[30, 30] }, type := 30, pos := "ref.go:70", after := #[{ on := 3, ground := Ground.data }, { on := 8, ground := Ground.data }, { on := 3, ground := Ground.chain }], guard := none }) rfl (fun K hK => ?_) AllReadyH.nil
              have hle4 := HN4.out.size
              have qz1 := HZ1.out
              have qz2 := HZ2.out
              have qz3 := HZ3.out
              have qz4 := HZ4.out
              go_must (refine step_append_lies _ (by rfl) _ _ _ (by rfl) w3.heap.size 79 i0 _ 9 104 Try.underlying30 hi0 hz0 hz1 hz2 rfl (by omega) v1 (A.length + j) _ (by rfl) (by exact HR4.out) ⟨x1.heap.size, 0, none⟩ 1 1 (encP x) (by rfl) (by rfl) (World.news_of_block (by exact HB4.out)) (encP_one _) (by omega) (by unfold maxLen; omega) (by omega) (by omega) x4.heap.size (by rfl) ?_)
              intro g cp x5 hown hgrow hat hlt
              have f4' : Fr (fun q => w3.heap.size ≤ q) x4 x5 := (Fr.refl _ x4).grown hgrow (fun q e _ => (HR4.out.lt q e).1)
              have HN5 := hid (HN4.out.trans f4' (fun _ h => h) (fun i hi h => by omega))
              have HOW := hid hown
              clear f4' hown hgrow hat hle4 qz1 qz2 qz3 qz4
              refine hK.out _ _ ?_ (fun hH => ?_)
              · exact HN5.out.mono (fun _ _ e => e.elim)
              clear hK K
              try simp only [Act.put, List.setIfInBounds_toArray, List.set_cons_zero, List.set_cons_succ]
              refine wpAnyH_take (i := 10) (oi := { dst := some 62, op := Op.fieldAddr 32 (Operand.tmp 7) 2, type := 0, pos := "ref.go:70", after := #[{ on := 0, ground := Ground.phase }, { on := 1, ground := Ground.phase }, { on := 2, ground := Ground.phase }, { on := 3, ground := Ground.phase }, { on := 4, ground := Ground.phase }, { on := 5, ground := Ground.phase }, { on := 6, ground := Ground.phase }, { on := 7, ground := Ground.phase }, { on := 8, ground := Ground.phase }, { on := 9, ground := Ground.phase }], guard := none }) (v := ?_) rfl (by kernel_rfl) (by kernel_rfl) (by kernel_rfl) (fun _ _ _ h => h) (Or.inl ⟨by rfl, ?_⟩) hH ?_
              rotate_left
              · intro w hSw; (try dsimp only at hSw); go_simp <;> with_reducible rfl
              try simp only [Act.put, List.setIfInBounds_toArray, List.set_cons_zero, List.set_cons_succ]
              refine wpAnyH_ready (rs := [11]) (by kernel_rfl) (by simp) ?_
              refine AllReadyH.cons (o := { dst := none, op := Op.store 30 (Operand.tmp 62) (Operand.tmp 61), type := 0, pos := "ref.go:70", after := #[{ on := 10, ground := Ground.data }, { on := 9, ground := Ground.data }, { on := 9, ground := Ground.chain }, { on := 0, ground := Ground.phase }, { on := 1, ground := Ground.phase }, { on := 2, ground := Ground.phase }, { on := 3, ground := Ground.phase }, { on := 4, ground := Ground.phase }, { on := 5, ground := Ground.phase }, { on := 6, ground := Ground.phase }, { on := 7, ground := Ground.phase }, { on := 8, ground := Ground.phase }, { on := 9, ground := Ground.phase }], guard := none }) rfl (fun K hK => ?_) AllReadyH.nil
              have e2 := HN5.out.cell e20 (fun e => e)
              have f2 := free_of (HN5.out.heap HX3.out (fun e => e)) 2
              go_simp
              refine hK.out _ _ ?_ (fun hH => ?_)
              · exact (HN5.out.mono (S' := fun q => q = xo) (fun _ _ e => e.elim)).setCell (p := ⟨xo, 2, none⟩) (fun _ => rfl) _
              clear hK K
              refine wpAnyH_done (by kernel_rfl) ?_ _
              have HXN := hid (heap_set (i := 2) (HN5.out.heap HX3.out (fun e => e)) (.slice (some ⟨g, 0, none⟩) (A.length + j + 1) cp))
              have hlx := lt_of_block HX3.out
              have hgp := (HOW.out.lt g rfl)
              have own2 := Go.ownsRow_setCell_other HOW.out (a := ⟨xo, 2, none⟩) (by simp [Value.ownBlock]; omega) (.slice (some ⟨g, 0, none⟩) (A.length + j + 1) cp)
              have HO2 := hid own2
              have HF2 := hid (((HW.out.trans HH.out (fun _ h => h) (fun _ _ e => e.elim)).trans HN5.out (fun _ h => h) (fun _ _ e => e.elim)).setCell (p := ⟨xo, 2, none⟩) (fun _ => rfl) (.slice (some ⟨g, 0, none⟩) (A.length + j + 1) cp))
              have HX' := HX
              clear own2 hH e2 f2 c0 e20
              go_wp2
              go_roundw
              case rel =>
                refine ⟨j + 1, by omega, by go_num, fun i y hi hy => ?_, HF2.out, some ⟨g, 0, none⟩, cp, by rw [show A.length + (j + 1) = A.length + j + 1 by omega]; exact HXN.out, ⟨w3.heap.size, ?_⟩, fun i e => ?_⟩
                · by_cases e : i = j
                  · subst e
                    have := HX.out.symm.trans hy
                    simp only [Option.some.injEq] at this
                    subst this
                    rw [HCN.out]; omega
                  · exact HC.out i y (by omega) hy
                · have h := HO2.out
                  rw [take_snoc P j x HX.out, ← List.append_assoc, List.length_append, hAP]
                  rw [flatP_take]
                  exact h
                · simp [Value.ownBlock] at e
                  have := HH.out.size
                  omega
              case measure => simp [intOf]; omega
            refine AllReadyH.cons (o := { dst := some 60, op := Op.buildSlice 30 1 #[(0, Operand.tmp 59)], type := 30, pos := "ref.go:70", after := #[{ on := 7, ground := Ground.data }], guard := none }) rfl (fun K hK => ?_) AllReadyH.nil
            go_simp
            generalize hC : Array.foldl _ _ _ _ _ = C
            have hC' : C = (encP x).toArray := by rw [← hC]; simp [parV, encP, encM]
            subst hC'
            clear hC
            refine genw (K := K) (fun x1 hx => ?_)
            have f0 : Fr (fun _ => False) (w3.alloc (.cells (encP x).toArray 79)) x1 := by rw [hx]; exact ⟨rfl, rfl, rfl, Nat.le_refl _, fun _ _ _ => rfl⟩
            have f0' : Fr (fun _ => False) w3 x1 := ((Fr.refl _ w3).alloc _).trans' f0
            have HZ1 := hid (show x1.heap.size = w3.heap.size + 1 by rw [hx]; simp)
            have HN1 := hid (HN0.out.trans' f0')
            have HB1 := hid (f0.heap (heap_new w3 _) (fun e => e))
            clear f0 f0' hx
            refine hK.out _ _ ?_ (fun hH => ?_)
            · exact HN1.out.mono (fun _ _ e => e.elim)
            clear hK K
            try simp only [Act.put, List.setIfInBounds_toArray, List.set_cons_zero, List.set_cons_succ]
            refine wpAnyH_ready (rs := [0, 2]) (by kernel_rfl) (by simp) ?_
            refine AllReadyH.cons (o := { dst := some 52, op := Op.buildSlice 30 0 #[], type := 30, pos := "ref.go:70", after := #[], guard := none }) rfl (fun K hK => ?_) ?_
            ·
              go_simp
              refine genw (K := K) (fun x2 hx => ?_)
              have f1 : Fr (fun _ => False) (x1.alloc (.cells #[] 79)) x2 := by rw [hx]; exact ⟨rfl, rfl, rfl, Nat.le_refl _, fun _ _ _ => rfl⟩
              have f1' : Fr (fun _ => False) x1 x2 := ((Fr.refl _ x1).alloc _).trans' f1
              have HZ2 := hid (show x2.heap.size = x1.heap.size + 1 by rw [hx]; simp)
              have HN2 := hid (HN1.out.trans' f1')
              have hle1 := HN1.out.size
              have HE2 := hid (empty_own (B := w3.heap.size) (E := 79) (sz := 9) rfl f1 hle1 rfl)
              have HB2 := hid (Fr.heap f1' HB1.out (fun e => e))
              clear f1 f1' hx hle1
              refine hK.out _ _ ?_ (fun hH => ?_)
              · exact HN2.out.mono (fun _ _ e => e.elim)
              clear hK K
              try simp only [Act.put, List.setIfInBounds_toArray, List.set_cons_zero, List.set_cons_succ]
              refine wpAnyH_ready (rs := [2]) (by kernel_rfl) (by simp) ?_
              refine AllReadyH.cons (o := { dst := some 54, op := Op.load 30 (Operand.tmp 53), type := 30, pos := "ref.go:70", after := #[{ on := 1, ground := Ground.data }], guard := none }) rfl (fun K hK => ?_) AllReadyH.nil
              have e2 := HN2.out.cell e20 (fun e => e)
              go_simp
              clear e2
              refine genw (K := K) (fun x3 hx => ?_)
              have f2' : Fr (fun _ => False) x2 x3 := by rw [hx]; exact ⟨rfl, rfl, rfl, Nat.le_refl _, fun _ _ _ => rfl⟩
              have HZ3 := hid (show x3.heap.size = x2.heap.size by rw [hx]; try rfl)
              have HN3 := hid (HN2.out.trans' f2')
              have HE3 := hid (Fr.owns f2' HE2.out (fun _ _ e => e))
              have HB3 := hid (Fr.heap f2' HB2.out (fun e => e))
              clear f2' hx
              refine hK.out _ _ ?_ (fun hH => ?_)
              · exact HN3.out.mono (fun _ _ e => e.elim)
              clear hK K
              try simp only [Act.put, List.setIfInBounds_toArray, List.set_cons_zero, List.set_cons_succ]
              refine wpAnyH_ready (rs := [3]) (by kernel_rfl) (by simp) ?_
              refine AllReadyH.cons (o := { dst := some 55, op := Op.call { callee := Callee.builtin Builtin.append, args := #[Operand.tmp 52, Operand.tmp 54], argTypes := #[30, 30] }, type := 30, pos := "ref.go:70", after := #[{ on := 0, ground := Ground.data }, { on := 2, ground := Ground.data }], guard := none }) rfl (fun K hK => ?_) AllReadyH.nil
              have qz1 := HZ1.out
              have qz2 := HZ2.out
              have qz3 := HZ3.out
              have hle3 := HN3.out.size
              have hlE : w3.heap.size ≤ x1.heap.size := by omega
              go_must (refine step_append_any _ (by rfl) _ _ _ (by rfl) w3.heap.size 79 i0 _ 9 104 Try.underlying30 hi0 hz0 hz1 hz2 rfl (by omega) (.slice (some ⟨x1.heap.size, 0, none⟩) 0 0) 0 [] (by rfl) (by exact HE3.out) w3.heap.size s' (A.length + j) k' ((A ++ P.take j).flatMap encP) (by rfl) (by exact HRD.out.fr HN3.out (Nat.le_refl _) (fun _ _ e => e)) (flatP_one _) (by unfold maxLen; omega) (by omega) (by omega) ?_)
              intro v1 x4 hown hgrow hat
              have f3' : Fr (fun q => q = x1.heap.size) x3 x4 := (Fr.refl _ x3).grown hgrow (fun q e _ => by simp [Value.ownBlock] at e; omega)
              have HZ4 := hid (show x3.heap.size ≤ x4.heap.size from f3'.size)
              have HN4 := hid (HN3.out.trans f3' (fun _ h => h) (fun i hi h => by omega))
              have HR4 := hid (show x4.ownsRow w3.heap.size 79 9 v1 (A.length + j) ((A ++ P.take j).flatMap encP) by rw [Nat.zero_add, List.nil_append] at hown; exact hown)
              have HB4 := hid (Fr.heap f3' HB3.out (by omega))
              clear f3' hown hgrow hat hlE hle3 qz1 qz2 qz3
              refine hK.out _ _ ?_ (fun hH => ?_)
              · exact HN4.out.mono (fun _ _ e => e.elim)
              clear hK K
              try simp only [Act.put, List.setIfInBounds_toArray, List.set_cons_zero, List.set_cons_succ]
              refine wpAnyH_ready (rs := [9]) (by kernel_rfl) (by simp) ?_
              refine AllReadyH.cons (o := { dst := some 61, op := Op.call { callee := Callee.builtin Builtin.append, args := #[Operand.tmp 55, Operand.tmp 60], argTypes := #[30, 30] }, type := 30, pos := "ref.go:70", after := #[{ on := 3, ground := Ground.data }, { on := 8, ground := Ground.data }, { on := 3, ground := Ground.chain }], guard := none }) rfl (fun K hK => ?_) AllReadyH.nil
              have hle4 := HN4.out.size
              have qz1 := HZ1.out
              have qz2 := HZ2.out
              have qz3 := HZ3.out
              have qz4 := HZ4.out
              go_must (refine step_append_lies _ (by rfl) _ _ _ (by rfl) w3.heap.size 79 i0 _ 9 104 Try.underlying30 hi0 hz0 hz1 hz2 rfl (by omega) v1 (A.length + j) _ (by rfl) (by exact HR4.out) ⟨w3.heap.size, 0, none⟩ 1 1 (encP x) (by rfl) (by rfl) (World.news_of_block (by exact HB4.out)) (encP_one _) (by omega) (by unfold maxLen; omega) (by omega) (by omega) x4.heap.size (by rfl) ?_)
              intro g cp x5 hown hgrow hat hlt
              have f4' : Fr (fun q => w3.heap.size ≤ q) x4 x5 := (Fr.refl _ x4).grown hgrow (fun q e _ => (HR4.out.lt q e).1)
              have HN5 := hid (HN4.out.trans f4' (fun _ h => h) (fun i hi h => by omega))
              have HOW := hid hown
              clear f4' hown hgrow hat hle4 qz1 qz2 qz3 qz4
              refine hK.out _ _ ?_ (fun hH => ?_)
              · exact HN5.out.mono (fun _ _ e => e.elim)
              clear hK K
              try simp only [Act.put, List.setIfInBounds_toArray, List.set_cons_zero, List.set_cons_succ]
              refine wpAnyH_take (i := 10) (oi := { dst := some 62, op := Op.fieldAddr 32 (Operand.tmp 7) 2, type := 0, pos := "ref.go:70", after := #[{ on := 0, ground := Ground.phase }, { on := 1, ground := Ground.phase }, { on := 2, ground := Ground.phase }, { on := 3, ground := Ground.phase }, { on := 4, ground := Ground.phase }, { on := 5, ground := Ground.phase }, { on := 6, ground := Ground.phase }, { on := 7, ground := Ground.phase }, { on := 8, ground := Ground.phase }, { on := 9, ground := Ground.phase }], guard := none }) (v := ?_) rfl (by kernel_rfl) (by kernel_rfl) (by kernel_rfl) (fun _ _ _ h => h) (Or.inl ⟨by rfl, ?_⟩) hH ?_
              rotate_left
              · intro w hSw; (try dsimp only at hSw); go_simp <;> with_reducible rfl
              try simp only [Act.put, List.setIfInBounds_toArray, List.set_cons_zero, List.set_cons_succ]
              refine wpAnyH_ready (rs := [11]) (by kernel_rfl) (by simp) ?_
              refine AllReadyH.cons (o := { dst := none, op := Op.store 30 (Operand.tmp 62) (Operand.tmp 61), type := 0, pos := "ref.go:70", after := #[{ on := 10, ground := Ground.data }, { on := 9, ground := Ground.data }, { on := 9, ground := Ground.chain }, { on := 0, ground := Ground.phase }, { on := 1, ground := Ground.phase }, { on := 2, ground := Ground.phase }, { on := 3, ground := Ground.phase }, { on := 4, ground := Ground.phase }, { on := 5, ground := Ground.phase }, { on := 6, ground := Ground.phase }, { on := 7, ground := Ground.phase }, { on := 8, ground := Ground.phase }, { on := 9, ground := Ground.phase }], guard := none }) rfl (fun K hK => ?_) AllReadyH.nil
              have e2 := HN5.out.cell e20 (fun e => e)
              have f2 := free_of (HN5.out.heap HX3.out (fun e => e)) 2
              go_simp
              refine hK.out _ _ ?_ (fun hH => ?_)
              · exact (HN5.out.mono (S' := fun q => q = xo) (fun _ _ e => e.elim)).setCell (p := ⟨xo, 2, none⟩) (fun _ => rfl) _
              clear hK K
              refine wpAnyH_done (by kernel_rfl) ?_ _
              have HXN := hid (heap_set (i := 2) (HN5.out.heap HX3.out (fun e => e)) (.slice (some ⟨g, 0, none⟩) (A.length + j + 1) cp))
              have hlx := lt_of_block HX3.out
              have hgp := (HOW.out.lt g rfl)
              have own2 := Go.ownsRow_setCell_other HOW.out (a := ⟨xo, 2, none⟩) (by simp [Value.ownBlock]; omega) (.slice (some ⟨g, 0, none⟩) (A.length + j + 1) cp)
              have HO2 := hid own2
              have HF2 := hid (((HW.out.trans HH.out (fun _ h => h) (fun _ _ e => e.elim)).trans HN5.out (fun _ h => h) (fun _ _ e => e.elim)).setCell (p := ⟨xo, 2, none⟩) (fun _ => rfl) (.slice (some ⟨g, 0, none⟩) (A.length + j + 1) cp))
              have HX' := HX
              clear own2 hH e2 f2 c0 e20
              go_wp2
              go_roundw
              case rel =>
                refine ⟨j + 1, by omega, by go_num, fun i y hi hy => ?_, HF2.out, some ⟨g, 0, none⟩, cp, by rw [show A.length + (j + 1) = A.length + j + 1 by omega]; exact HXN.out, ⟨w3.heap.size, ?_⟩, fun i e => ?_⟩
                · by_cases e : i = j
                  · subst e
                    have := HX.out.symm.trans hy
                    simp only [Option.some.injEq] at this
                    subst this
                    rw [HCN.out]; omega
                  · exact HC.out i y (by omega) hy
                · have h := HO2.out
                  rw [take_snoc P j x HX.out, ← List.append_assoc, List.length_append, hAP]
                  rw [flatP_take]
                  exact h
                · simp [Value.ownBlock] at e
                  have := HH.out.size
                  omega
              case measure => simp [intOf]; omega
            refine AllReadyH.cons (o := { dst := some 54, op := Op.load 30 (Operand.tmp 53), type := 30, pos := "ref.go:70", after := #[{ on := 1, ground := Ground.data }], guard := none }) rfl (fun K hK => ?_) AllReadyH.nil
            have e2 := HN1.out.cell e20 (fun e => e)
            go_simp
            clear e2
            refine genw (K := K) (fun x2 hx => ?_)
            have f1' : Fr (fun _ => False) x1 x2 := by rw [hx]; exact ⟨rfl, rfl, rfl, Nat.le_refl _, fun _ _ _ => rfl⟩
            have HZ2 := hid (show x2.heap.size = x1.heap.size by rw [hx]; try rfl)
            have HN2 := hid (HN1.out.trans' f1')
            have HB2 := hid (Fr.heap f1' HB1.out (fun e => e))
            clear f1' hx
            refine hK.out _ _ ?_ (fun hH => ?_)
            · exact HN2.out.mono (fun _ _ e => e.elim)
            clear hK K
            try simp only [Act.put, List.setIfInBounds_toArray, List.set_cons_zero, List.set_cons_succ]
            refine wpAnyH_ready (rs := [0]) (by kernel_rfl) (by simp) ?_
            refine AllReadyH.cons (o := { dst := some 52, op := Op.buildSlice 30 0 #[], type := 30, pos := "ref.go:70", after := #[], guard := none }) rfl (fun K hK => ?_) AllReadyH.nil
            go_simp
            refine genw (K := K) (fun x3 hx => ?_)
            have f2 : Fr (fun _ => False) (x2.alloc (.cells #[] 79)) x3 := by rw [hx]; exact ⟨rfl, rfl, rfl, Nat.le_refl _, fun _ _ _ => rfl⟩
            have f2' : Fr (fun _ => False) x2 x3 := ((Fr.refl _ x2).alloc _).trans' f2
            have HZ3 := hid (show x3.heap.size = x2.heap.size + 1 by rw [hx]; simp)
            have HN3 := hid (HN2.out.trans' f2')
            have hle2 := HN2.out.size
            have HE3 := hid (empty_own (B := w3.heap.size) (E := 79) (sz := 9) rfl f2 hle2 rfl)
            have HB3 := hid (Fr.heap f2' HB2.out (fun e => e))
            clear f2 f2' hx hle2
            refine hK.out _ _ ?_ (fun hH => ?_)
            · exact HN3.out.mono (fun _ _ e => e.elim)
            clear hK K
            try simp only [Act.put, List.setIfInBounds_toArray, List.set_cons_zero, List.set_cons_succ]
            refine wpAnyH_ready (rs := [3]) (by kernel_rfl) (by simp) ?_
            refine AllReadyH.cons (o := { dst := some 55, op := Op.call { callee := Callee.builtin Builtin.append, args := #[Operand.tmp 52, Operand.tmp 54], argTypes := #[30, 30] }, type := 30, pos := "ref.go:70", after := #[{ on := 0, ground := Ground.data }, { on := 2, ground := Ground.data }], guard := none }) rfl (fun K hK => ?_) AllReadyH.nil
            have qz1 := HZ1.out
            have qz2 := HZ2.out
            have qz3 := HZ3.out
            have hle3 := HN3.out.size
            have hlE : w3.heap.size ≤ x2.heap.size := by omega
            go_must (refine step_append_any _ (by rfl) _ _ _ (by rfl) w3.heap.size 79 i0 _ 9 104 Try.underlying30 hi0 hz0 hz1 hz2 rfl (by omega) (.slice (some ⟨x2.heap.size, 0, none⟩) 0 0) 0 [] (by rfl) (by exact HE3.out) w3.heap.size s' (A.length + j) k' ((A ++ P.take j).flatMap encP) (by rfl) (by exact HRD.out.fr HN3.out (Nat.le_refl _) (fun _ _ e => e)) (flatP_one _) (by unfold maxLen; omega) (by omega) (by omega) ?_)
            intro v1 x4 hown hgrow hat
            have f3' : Fr (fun q => q = x2.heap.size) x3 x4 := (Fr.refl _ x3).grown hgrow (fun q e _ => by simp [Value.ownBlock] at e; omega)
            have HZ4 := hid (show x3.heap.size ≤ x4.heap.size from f3'.size)
            have HN4 := hid (HN3.out.trans f3' (fun _ h => h) (fun i hi h => by omega))
            have HR4 := hid (show x4.ownsRow w3.heap.size 79 9 v1 (A.length + j) ((A ++ P.take j).flatMap encP) by rw [Nat.zero_add, List.nil_append] at hown; exact hown)
            have HB4 := hid (Fr.heap f3' HB3.out (by omega))
            clear f3' hown hgrow hat hlE hle3 qz1 qz2 qz3
            refine hK.out _ _ ?_ (fun hH => ?_)
            · exact HN4.out.mono (fun _ _ e => e.elim)
            clear hK K
            try simp only [Act.put, List.setIfInBounds_toArray, List.set_cons_zero, List.set_cons_succ]
            refine wpAnyH_ready (rs := [9]) (by kernel_rfl) (by simp) ?_
            refine AllReadyH.cons (o := { dst := some 61, op := Op.call { callee := Callee.builtin Builtin.append, args := #[Operand.tmp 55, Operand.tmp 60], argTypes := #[30, 30] }, type := 30, pos := "ref.go:70", after := #[{ on := 3, ground := Ground.data }, { on := 8, ground := Ground.data }, { on := 3, ground := Ground.chain }], guard := none }) rfl (fun K hK => ?_) AllReadyH.nil
            have hle4 := HN4.out.size
            have qz1 := HZ1.out
            have qz2 := HZ2.out
            have qz3 := HZ3.out
            have qz4 := HZ4.out
            go_must (refine step_append_lies _ (by rfl) _ _ _ (by rfl) w3.heap.size 79 i0 _ 9 104 Try.underlying30 hi0 hz0 hz1 hz2 rfl (by omega) v1 (A.length + j) _ (by rfl) (by exact HR4.out) ⟨w3.heap.size, 0, none⟩ 1 1 (encP x) (by rfl) (by rfl) (World.news_of_block (by exact HB4.out)) (encP_one _) (by omega) (by unfold maxLen; omega) (by omega) (by omega) x4.heap.size (by rfl) ?_)
            intro g cp x5 hown hgrow hat hlt
            have f4' : Fr (fun q => w3.heap.size ≤ q) x4 x5 := (Fr.refl _ x4).grown hgrow (fun q e _ => (HR4.out.lt q e).1)
            have HN5 := hid (HN4.out.trans f4' (fun _ h => h) (fun i hi h => by omega))
            have HOW := hid hown
            clear f4' hown hgrow hat hle4 qz1 qz2 qz3 qz4
            refine hK.out _ _ ?_ (fun hH => ?_)
            · exact HN5.out.mono (fun _ _ e => e.elim)
            clear hK K
            try simp only [Act.put, List.setIfInBounds_toArray, List.set_cons_zero, List.set_cons_succ]
            refine wpAnyH_take (i := 10) (oi := { dst := some 62, op := Op.fieldAddr 32 (Operand.tmp 7) 2, type := 0, pos := "ref.go:70", after := #[{ on := 0, ground := Ground.phase }, { on := 1, ground := Ground.phase }, { on := 2, ground := Ground.phase }, { on := 3, ground := Ground.phase }, { on := 4, ground := Ground.phase }, { on := 5, ground := Ground.phase }, { on := 6, ground := Ground.phase }, { on := 7, ground := Ground.phase }, { on := 8, ground := Ground.phase }, { on := 9, ground := Ground.phase }], guard := none }) (v := ?_) rfl (by kernel_rfl) (by kernel_rfl) (by kernel_rfl) (fun _ _ _ h => h) (Or.inl ⟨by rfl, ?_⟩) hH ?_
            rotate_left
            · intro w hSw; (try dsimp only at hSw); go_simp <;> with_reducible rfl
            try simp only [Act.put, List.setIfInBounds_toArray, List.set_cons_zero, List.set_cons_succ]
            refine wpAnyH_ready (rs := [11]) (by kernel_rfl) (by simp) ?_
            refine AllReadyH.cons (o := { dst := none, op := Op.store 30 (Operand.tmp 62) (Operand.tmp 61), type := 0, pos := "ref.go:70", after := #[{ on := 10, ground := Ground.data }, { on := 9, ground := Ground.data }, { on := 9, ground := Ground.chain }, { on := 0, ground := Ground.phase }, { on := 1, ground := Ground.phase }, { on := 2, ground := Ground.phase }, { on := 3, ground := Ground.phase }, { on := 4, ground := Ground.phase }, { on := 5, ground := Ground.phase }, { on := 6, ground := Ground.phase }, { on := 7, ground := Ground.phase }, { on := 8, ground := Ground.phase }, { on := 9, ground := Ground.phase }], guard := none }) rfl (fun K hK => ?_) AllReadyH.nil
            have e2 := HN5.out.cell e20 (fun e => e)
            have f2 := free_of (HN5.out.heap HX3.out (fun e => e)) 2
            go_simp
            refine hK.out _ _ ?_ (fun hH => ?_)
            · exact (HN5.out.mono (S' := fun q => q = xo) (fun _ _ e => e.elim)).setCell (p := ⟨xo, 2, none⟩) (fun _ => rfl) _
            clear hK K
            refine wpAnyH_done (by kernel_rfl) ?_ _
            have HXN := hid (heap_set (i := 2) (HN5.out.heap HX3.out (fun e => e)) (.slice (some ⟨g, 0, none⟩) (A.length + j + 1) cp))
            have hlx := lt_of_block HX3.out
            have hgp := (HOW.out.lt g rfl)
            have own2 := Go.ownsRow_setCell_other HOW.out (a := ⟨xo, 2, none⟩) (by simp [Value.ownBlock]; omega) (.slice (some ⟨g, 0, none⟩) (A.length + j + 1) cp)
            have HO2 := hid own2
            have HF2 := hid (((HW.out.trans HH.out (fun _ h => h) (fun _ _ e => e.elim)).trans HN5.out (fun _ h => h) (fun _ _ e => e.elim)).setCell (p := ⟨xo, 2, none⟩) (fun _ => rfl) (.slice (some ⟨g, 0, none⟩) (A.length + j + 1) cp))
            have HX' := HX
            clear own2 hH e2 f2 c0 e20
            go_wp2
            go_roundw
            case rel =>
              refine ⟨j + 1, by omega, by go_num, fun i y hi hy => ?_, HF2.out, some ⟨g, 0, none⟩, cp, by rw [show A.length + (j + 1) = A.length + j + 1 by omega]; exact HXN.out, ⟨w3.heap.size, ?_⟩, fun i e => ?_⟩
              · by_cases e : i = j
                · subst e
                  have := HX.out.symm.trans hy
                  simp only [Option.some.injEq] at this
                  subst this
                  rw [HCN.out]; omega
                · exact HC.out i y (by omega) hy
              · have h := HO2.out
                rw [take_snoc P j x HX.out, ← List.append_assoc, List.length_append, hAP]
                rw [flatP_take]
                exact h
              · simp [Value.ownBlock] at e
                have := HH.out.size
                omega
            case measure => simp [intOf]; omega
        · obtain rfl : j = P.length := by omega
          have q0 := cell_of HXC.out 0 (v := .int .i64 W) rfl
          have q1 := cell_of HXC.out 1 (v := .int .i64 cap) rfl
          have q2 := cell_of HXC.out 2 (v := .slice s' (A.length + P.length) k') rfl
          have TS := st_rm W cap s' (A.length + P.length) k' (there_rm E2.out)
          have HRB := HRA.out
          rw [List.take_length] at HRB
          have HRC := hid HRB
          clear HRB
          go_wp2_with fail
          refine bodyPost_ret (v := .tuple #[rmV W cap (.slice s' (A.length + P.length) k'), .int .i64 0]) (results_duo Try.results15 _ _ (by rfl) (rm_var (encR_put E2.out)) (by rfl)) rfl ⟨?_, .inr (.inr ⟨HTA.out, fun j x hx => HC.out j x (by have := (List.getElem?_eq_some_iff.1 hx).1; omega) hx, s', _, k', rfl, ?_, fun i e => ?_⟩)⟩
          · exact (((HF.out.trans' HW2.out).trans HW.out (fun _ h => h) (fun i hi e => by have := HP.out; omega))).setCells (fun h => by have := HP.out; omega) _ _
          · refine HRC.out.fr (Fr.setCells (S := fun q => q = p + 1) (b := p + 1) (fun _ => rfl) _ _ (Fr.refl _ _)) (fun i e h => ?_)
            rcases (HOW.out i e).2 with h2 | h2
            · have := HL.out i h2
              omega
            · omega
          · have := HP.out
            exact (HOW.out i e).2.imp (fun h => h) (fun h => by omega)

end Go.Proofs.Ytakhmommcgfoaaa
