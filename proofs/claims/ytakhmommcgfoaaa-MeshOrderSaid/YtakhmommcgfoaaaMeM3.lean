/-
  A mesh: Ready, walked.
-/
import Derived.Test.YtakhmommcgfoaaaMeM2
namespace Go.Proofs.Ytakhmommcgfoaaa
open Go.RowKit
attribute [local go_sem ↓] run_ldM run_stM

def encT (t : Int × Int) : List Value := [.int .i64 t.1, .int .i64 t.2]
theorem encT_len (t : Int × Int) : (encT t).length = 2 := rfl
/-- the links below k that have messages -/
def rdy (W : Nat) (R : Nat → List Mq) : Nat → List (Int × Int)
  | 0 => []
  | k + 1 => if (R k).length = 0 then rdy W R k else rdy W R k ++ [(((k / W : Nat) : Int), ((k % W : Nat) : Int))]
theorem rdy_len (W : Nat) (R : Nat → List Mq) (k : Nat) : (rdy W R k).length ≤ k := by
  induction k with
  | zero => simp [rdy]
  | succ k ih => unfold rdy; split
                 · omega
                 · simp; omega
theorem info_two : (Try.prog.info? 22).map (fun i => (i.zero, i.size, i.bytes)) = some (some (.agg #[.int .i64 0, .int .i64 0]), 2, 16) := by kernel_rfl

set_option maxRecDepth 100000 in
set_option maxHeartbeats 1000000 in
theorem ready_ok {w : World} {p W most : Nat} {R : Nat → List Mq} {F : Nat → Prop} (h : MeshAt w p W most R F) :
    Calls Try.prog 22 #[.pointer (some ⟨p, 0, none⟩)] w fun e w' => ∃ v, e = .returned v ∧ w'.ownsRow w.heap.size 22 2 v (rdy W R (W * W)).length ((rdy W R (W * W)).flatMap encT) ∧ Below w.heap.size w w' := by
  obtain ⟨⟨hw1, hw2, hw3, hw4⟩, q, cap, bx, S, hm⟩ := h
  obtain ⟨i0, hi0, hz0, hz1, hz2⟩ := info_parts info_two
  have c0 := hm.c0
  have c1 := hm.c1
  have hpw := hm.lt p hm.fp
  have hqw := hm.lt q hm.fq
  have hnn : W * W ≤ 256 := by have := Nat.mul_le_mul hw2 hw2; omega
  have hcap := hm.cap1
  have hcap2 := hm.cap2
  have HM := hid hm
  have HL := hid (fun k (hk : k < W * W) => hm.links k hk)
  have HV := hid (fun k (hk : k < W * W) => hm.live k hk)
  clear hm
  generalize hN : W * W = n at *
  clear hN
  go_enter Try.func22, Try.ntmps22
  go_wp2_with fail
  go_loopw [3, 13] (fun v i wr => ∃ k : Nat, k ≤ n ∧ i = .int .i64 k ∧ wr.ownsRow w.heap.size 22 2 v (rdy W R k).length ((rdy W R k).flatMap encT) ∧ Below w.heap.size w wr) (fun _ i _ => n - (intOf i).toNat)
  case atStart => exact ⟨0, Nat.zero_le _, rfl, World.ownsRow_nil _ _ _ _, Below.refl _ _⟩
  case round =>
    obtain ⟨k, hk, rfl, hown, hb⟩ := hrel
    have R1 := hid hown
    have R2 := hid hb
    clear hown hb
    by_cases hkn : k < n
    · have c2 : wr.cell? ⟨q, k, none⟩ = some (.pointer (some ⟨bx k, 0, none⟩)) := (R2.out.cell hqw).trans (HL.out k hkn)
      have L1 := hid (len_live ((HV.out k hkn).fr (Fr.of_below (S := fun _ => False) R2.out (fun i h1 h2 => by omega)) (fun _ _ e => e)))
      by_cases hz : (R k).length = 0
      · have hz' : ¬ 0 < ((R k).length : Int) := by omega
        have hz2 : rdy W R (k + 1) = rdy W R k := by rw [rdy, if_pos hz]
        have HZ := hid hz2
        clear hz2 hz
        go_wp2_with (go_at_call 35; refine L1.out.mono ?_; rintro e w' ⟨rfl, rfl⟩)
        go_roundw
        case rel => exact ⟨k + 1, by omega, by go_num, by rw [HZ.out]; exact R1.out, R2.out⟩
        case measure => simp [intOf]; omega
      · have hz' : 0 < ((R k).length : Int) := by omega
        have hz2 : rdy W R (k + 1) = rdy W R k ++ [(((k / W : Nat) : Int), ((k % W : Nat) : Int))] := by rw [rdy, if_neg hz]
        have HZ := hid hz2
        have hrl := rdy_len W R k
        clear hz2 hz
        go_upto_region 8 with (go_at_call 35; refine L1.out.mono ?_; rintro e w' ⟨rfl, rfl⟩)
        have ap : u3.ownBlock ≠ some p := fun e => by have := (R1.out.lt _ e).1; omega
        have d0 : ∀ w', Fr (fun j => u3.ownBlock = some j) wr w' → w'.cell? ⟨p, 0, none⟩ = some (.int .i64 W) := fun w' hf => hf.cell ((R2.out.cell hpw).trans c0) ap
        have hW0 : ((W : Int) == 0) = false := by simp; omega
        have hW1 : ¬ (W : Int) = 0 := by omega
        have hWn : ¬ W = 0 := by omega
        obtain ⟨d, hd⟩ : ∃ d : Nat, d = k / W := ⟨_, rfl⟩
        obtain ⟨r, hr⟩ : ∃ r : Nat, r = k % W := ⟨_, rfl⟩
        have hdk : k / W ≤ k := Nat.div_le_self _ _
        have hq1 : IntKind.i64.wrap ((k : Int) / (W : Int)) = (d : Int) := by rw [IntWalk.i64_in _ (by rw [← Int.natCast_ediv]; omega), hd, Int.natCast_ediv]
        have hq2 : (k : Int).tmod (W : Int) = (r : Int) := by rw [hr, Int.tmod_eq_emod_of_nonneg (by omega), Int.natCast_emod]
        rw [← hd, ← hr] at HZ
        have HD := hid hd
        have HR := hid hr
        clear hd hr hdk
        have hbz := R2.out.size
        refine wp_region_held_drew (S := (fun w' => Fr (fun j => u3.ownBlock = some j) wr w')) (by kernel_rfl) ?_ (fun hH => ?_)
        · exact (Fr.refl (fun j => u3.ownBlock = some j) wr).drew
        refine wpAnyH_take (i := 0) (oi := { dst := some 21, op := Op.move (Operand.tmp 3), type := 66, pos := "mesh.go:104", after := #[], guard := none }) (v := ?_) rfl (by kernel_rfl) (by kernel_rfl) (by kernel_rfl) (fun _ _ _ h => h) (Or.inl ⟨by rfl, ?_⟩) hH ?_
        rotate_left
        · intro w hSw; (try dsimp only at hSw); go_simp <;> with_reducible rfl
        try simp only [Act.put, List.setIfInBounds_toArray, List.set_cons_zero, List.set_cons_succ]
        refine wpAnyH_take (i := 1) (oi := { dst := some 22, op := Op.move (Operand.tmp 4), type := 3, pos := "mesh.go:104", after := #[], guard := none }) (v := ?_) rfl (by kernel_rfl) (by kernel_rfl) (by kernel_rfl) (fun _ _ _ h => h) (Or.inl ⟨by rfl, ?_⟩) hH ?_
        rotate_left
        · intro w hSw; (try dsimp only at hSw); go_simp <;> with_reducible rfl
        try simp only [Act.put, List.setIfInBounds_toArray, List.set_cons_zero, List.set_cons_succ]
        refine wpAnyH_take (i := 2) (oi := { dst := some 23, op := Op.move (Operand.tmp 0), type := 25, pos := "mesh.go:104", after := #[], guard := none }) (v := ?_) rfl (by kernel_rfl) (by kernel_rfl) (by kernel_rfl) (fun _ _ _ h => h) (Or.inl ⟨by rfl, ?_⟩) hH ?_
        rotate_left
        · intro w hSw; (try dsimp only at hSw); go_simp <;> with_reducible rfl
        try simp only [Act.put, List.setIfInBounds_toArray, List.set_cons_zero, List.set_cons_succ]
        refine wpAnyH_take (i := 3) (oi := { dst := some 24, op := Op.nilCheck (Operand.tmp 23), type := 0, pos := "mesh.go:104", after := #[{ on := 2, ground := Ground.data }], guard := none }) (v := ?_) rfl (by kernel_rfl) (by kernel_rfl) (by kernel_rfl) (fun _ _ _ h => h) (Or.inl ⟨by rfl, ?_⟩) hH ?_
        rotate_left
        · intro w hSw; (try dsimp only at hSw); go_simp <;> with_reducible rfl
        try simp only [Act.put, List.setIfInBounds_toArray, List.set_cons_zero, List.set_cons_succ]
        refine wpAnyH_take (i := 4) (oi := { dst := some 25, op := Op.fieldAddr 74 (Operand.tmp 24) 0, type := 0, pos := "mesh.go:104", after := #[{ on := 3, ground := Ground.data }], guard := none }) (v := ?_) rfl (by kernel_rfl) (by kernel_rfl) (by kernel_rfl) (fun _ _ _ h => h) (Or.inl ⟨by rfl, ?_⟩) hH ?_
        rotate_left
        · intro w hSw; (try dsimp only at hSw); go_simp <;> with_reducible rfl
        try simp only [Act.put, List.setIfInBounds_toArray, List.set_cons_zero, List.set_cons_succ]
        refine wpAnyH_take (i := 5) (oi := { dst := some 26, op := Op.load 3 (Operand.tmp 25), type := 3, pos := "mesh.go:104", after := #[{ on := 4, ground := Ground.data }], guard := none }) (v := ?_) rfl (by kernel_rfl) (by kernel_rfl) (by kernel_rfl) (fun _ _ _ h => h) (Or.inl ⟨by rfl, ?_⟩) hH ?_
        rotate_left
        · intro w hSw; (try dsimp only at hSw); go_simp <;> with_reducible rfl
        try simp only [Act.put, List.setIfInBounds_toArray, List.set_cons_zero, List.set_cons_succ]
        refine wpAnyH_take (i := 6) (oi := { dst := some 27, op := Op.binOp BinOp.quo 3 (Operand.tmp 22) (Operand.tmp 26) 3, type := 3, pos := "mesh.go:104", after := #[{ on := 1, ground := Ground.data }, { on := 5, ground := Ground.data }], guard := none }) (v := ?_) rfl (by kernel_rfl) (by kernel_rfl) (by kernel_rfl) (fun _ _ _ h => h) (Or.inl ⟨by rfl, ?_⟩) hH ?_
        rotate_left
        · intro w hSw; (try dsimp only at hSw); go_simp <;> with_reducible rfl
        try simp only [Act.put, List.setIfInBounds_toArray, List.set_cons_zero, List.set_cons_succ]
        refine wpAnyH_take (i := 7) (oi := { dst := some 28, op := Op.move (Operand.tmp 4), type := 3, pos := "mesh.go:104", after := #[], guard := none }) (v := ?_) rfl (by kernel_rfl) (by kernel_rfl) (by kernel_rfl) (fun _ _ _ h => h) (Or.inl ⟨by rfl, ?_⟩) hH ?_
        rotate_left
        · intro w hSw; (try dsimp only at hSw); go_simp <;> with_reducible rfl
        try simp only [Act.put, List.setIfInBounds_toArray, List.set_cons_zero, List.set_cons_succ]
        refine wpAnyH_take (i := 8) (oi := { dst := some 29, op := Op.move (Operand.tmp 0), type := 25, pos := "mesh.go:104", after := #[], guard := none }) (v := ?_) rfl (by kernel_rfl) (by kernel_rfl) (by kernel_rfl) (fun _ _ _ h => h) (Or.inl ⟨by rfl, ?_⟩) hH ?_
        rotate_left
        · intro w hSw; (try dsimp only at hSw); go_simp <;> with_reducible rfl
        try simp only [Act.put, List.setIfInBounds_toArray, List.set_cons_zero, List.set_cons_succ]
        refine wpAnyH_take (i := 9) (oi := { dst := some 30, op := Op.nilCheck (Operand.tmp 29), type := 0, pos := "mesh.go:104", after := #[{ on := 8, ground := Ground.data }], guard := none }) (v := ?_) rfl (by kernel_rfl) (by kernel_rfl) (by kernel_rfl) (fun _ _ _ h => h) (Or.inl ⟨by rfl, ?_⟩) hH ?_
        rotate_left
        · intro w hSw; (try dsimp only at hSw); go_simp <;> with_reducible rfl
        try simp only [Act.put, List.setIfInBounds_toArray, List.set_cons_zero, List.set_cons_succ]
        refine wpAnyH_take (i := 10) (oi := { dst := some 31, op := Op.fieldAddr 74 (Operand.tmp 30) 0, type := 0, pos := "mesh.go:104", after := #[{ on := 9, ground := Ground.data }], guard := none }) (v := ?_) rfl (by kernel_rfl) (by kernel_rfl) (by kernel_rfl) (fun _ _ _ h => h) (Or.inl ⟨by rfl, ?_⟩) hH ?_
        rotate_left
        · intro w hSw; (try dsimp only at hSw); go_simp <;> with_reducible rfl
        try simp only [Act.put, List.setIfInBounds_toArray, List.set_cons_zero, List.set_cons_succ]
        refine wpAnyH_take (i := 11) (oi := { dst := some 32, op := Op.load 3 (Operand.tmp 31), type := 3, pos := "mesh.go:104", after := #[{ on := 10, ground := Ground.data }], guard := none }) (v := ?_) rfl (by kernel_rfl) (by kernel_rfl) (by kernel_rfl) (fun _ _ _ h => h) (Or.inl ⟨by rfl, ?_⟩) hH ?_
        rotate_left
        · intro w hSw; (try dsimp only at hSw); go_simp <;> with_reducible rfl
        try simp only [Act.put, List.setIfInBounds_toArray, List.set_cons_zero, List.set_cons_succ]
        refine wpAnyH_take (i := 12) (oi := { dst := some 33, op := Op.binOp BinOp.rem 3 (Operand.tmp 28) (Operand.tmp 32) 3, type := 3, pos := "mesh.go:104", after := #[{ on := 7, ground := Ground.data }, { on := 11, ground := Ground.data }], guard := none }) (v := ?_) rfl (by kernel_rfl) (by kernel_rfl) (by kernel_rfl) (fun _ _ _ h => h) (Or.inl ⟨by rfl, ?_⟩) hH ?_
        rotate_left
        · intro w hSw; (try dsimp only at hSw); go_simp <;> with_reducible rfl
        try simp only [Act.put, List.setIfInBounds_toArray, List.set_cons_zero, List.set_cons_succ]
        refine wpAnyH_take (i := 13) (oi := { dst := some 34, op := Op.build 22 #[(0, Operand.tmp 27), (1, Operand.tmp 33)], type := 22, pos := "mesh.go:104", after := #[{ on := 6, ground := Ground.data }, { on := 12, ground := Ground.data }], guard := none }) (v := ?_) rfl (by kernel_rfl) (by kernel_rfl) (by kernel_rfl) (fun _ _ _ h => h) (Or.inl ⟨by rfl, ?_⟩) hH ?_
        rotate_left
        · intro w hSw; (try dsimp only at hSw); go_simp <;> with_reducible rfl
        try simp only [Act.put, List.setIfInBounds_toArray, List.set_cons_zero, List.set_cons_succ]
        refine wpAnyH_ready (rs := [14]) (by kernel_rfl) (by simp) ?_
        refine AllReadyH.cons (o := { dst := some 35, op := Op.buildSlice 66 1 #[(0, Operand.tmp 34)], type := 66, pos := "mesh.go:104", after := #[{ on := 13, ground := Ground.data }], guard := none }) rfl (fun K hK => ?_) AllReadyH.nil
        go_simp
        refine hK.out _ _ ?_ (fun hH => ?_)
        · exact (Fr.refl (fun j => u3.ownBlock = some j) wr).drew.alloc _
        clear hK K
        try simp only [Act.put, List.setIfInBounds_toArray, List.set_cons_zero, List.set_cons_succ]
        refine wpAnyH_ready (rs := [15]) (by kernel_rfl) (by simp) ?_
        refine AllReadyH.cons (o := { dst := some 36, op := Op.call { callee := Callee.builtin Builtin.append, args := #[Operand.tmp 21, Operand.tmp 35], argTypes := #[66, 66] }, type := 66, pos := "mesh.go:104", after := #[{ on := 0, ground := Ground.data }, { on := 14, ground := Ground.data }], guard := none }) rfl (fun K hK => ?_) AllReadyH.nil
        refine step_append_lies _ (by rfl) _ _ _ (by rfl) w.heap.size 22 i0 _ 2 16 Try.underlying66 hi0 hz0 hz1 hz2 rfl (by omega) u3 (rdy W R k).length _ (by rfl) (by exact R1.out.alloc _) ⟨wr.heap.size, 0, none⟩ 1 1 (encT ((d : Int), (r : Int))) (by rfl) (by rfl) (World.news_of_block (cs := #[.int .i64 d, .int .i64 r]) (t := 22) (fr := (0, 0)) (by exact heap_new wr _)) (by simp [encT, Value.oneCell']) (by omega) (by unfold maxLen; omega) (by omega) (by show w.heap.size ≤ (wr.heap.push _).size; rw [Array.size_push]; omega) (wr.heap.size + 1) (by show (wr.heap.push _).size = _; rw [Array.size_push]) ?_
        intro gg cp w1 hown1 hgrow hat' hlt2
        refine hK.out _ _ ?_ (fun hH => ?_)
        · exact ((Fr.refl (fun j => u3.ownBlock = some j) wr).alloc _).drew.grown hgrow (fun k h _ => h)
        clear hK K
        try simp only [Act.put, List.setIfInBounds_toArray, List.set_cons_zero, List.set_cons_succ]
        refine wpAnyH_take (i := 16) (oi := { dst := some 3, op := Op.assign (Operand.tmp 36), type := 66, pos := "mesh.go:104", after := #[{ on := 15, ground := Ground.data }, { on := 15, ground := Ground.chain }, { on := 0, ground := Ground.phase }, { on := 1, ground := Ground.phase }, { on := 2, ground := Ground.phase }, { on := 3, ground := Ground.phase }, { on := 4, ground := Ground.phase }, { on := 5, ground := Ground.phase }, { on := 6, ground := Ground.phase }, { on := 7, ground := Ground.phase }, { on := 8, ground := Ground.phase }, { on := 9, ground := Ground.phase }, { on := 10, ground := Ground.phase }, { on := 11, ground := Ground.phase }, { on := 12, ground := Ground.phase }, { on := 13, ground := Ground.phase }, { on := 14, ground := Ground.phase }, { on := 15, ground := Ground.phase }], guard := none }) (v := ?_) rfl (by kernel_rfl) (by kernel_rfl) (by kernel_rfl) (fun _ _ _ h => h) (Or.inl ⟨by rfl, ?_⟩) hH ?_
        rotate_left
        · intro w hSw; (try dsimp only at hSw); go_simp <;> with_reducible rfl
        try simp only [Act.put, List.setIfInBounds_toArray, List.set_cons_zero, List.set_cons_succ]
        refine wpAnyH_done (by kernel_rfl) ?_ _
        have hl2 : (rdy W R (k + 1)).length = (rdy W R k).length + 1 := by rw [HZ.out, List.length_append]; rfl
        have R3 := hid (show w1.ownsRow w.heap.size 22 2 (.slice (some ⟨gg, 0, none⟩) ((rdy W R k).length + 1) cp) (rdy W R (k + 1)).length ((rdy W R (k + 1)).flatMap encT) by rw [hl2, HZ.out, List.flatMap_append]; simpa using hown1)
        have R4 := hid (show Below w.heap.size w w1 from R2.out.trans (hH.below hbz (fun i hi e => by have := (R1.out.lt _ e).1; omega)))
        clear hown1 hgrow hH hat' hl2
        go_wp2
        go_roundw
        case rel => exact ⟨k + 1, by omega, by go_num, R3.out, R4.out⟩
        case measure => simp [intOf]; omega
    · obtain rfl : k = n := by omega
      go_wp2
      go_ret
      exact ⟨_, rfl, R1.out, R2.out⟩

theorem ready_nil (w : World) : Calls Try.prog 22 #[.pointer none] w fun e w' => e = .returned (.slice none 0 0) ∧ w = w' := by
  go_enter Try.func22, Try.ntmps22
  go_wp2
  go_ret
  exact ⟨rfl, rfl⟩

end Go.Proofs.Ytakhmommcgfoaaa
