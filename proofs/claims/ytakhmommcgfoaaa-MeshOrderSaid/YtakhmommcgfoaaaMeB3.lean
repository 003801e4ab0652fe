/-
  The box of messages: List, Clone, walked.
-/
import Derived.Test.YtakhmommcgfoaaaMeB2
namespace Go.Proofs.Ytakhmommcgfoaaa
open Go.RowKit
attribute [local go_sem ↓] run_ldM run_stM

theorem info_msg : (Try.prog.info? 40).map (fun i => (i.zero, i.size, i.bytes)) = some (some (.agg #[.int .i64 0, .string ⟨#[]⟩, .int .i64 0, .int .i64 0, .int .i64 0, .string ⟨#[]⟩, .slice none 0 0]), 7, 88) := by kernel_rfl
theorem flat_take (L : List Mq) (k : Nat) (y : Mq) (h : L[k]? = some y) : (L.take (k + 1)).flatMap encM = (L.take k).flatMap encM ++ encM y := by
  rw [take_snoc L k y h, List.flatMap_append]; simp

theorem one_built {w w1 : World} {T : TypeId} {m : Mq} (hw : w.alloc (.cells (encM m).toArray T) = w1) :
    w1.heap[w.heap.size]? = some (.cells (encM m).toArray T (0, 0)) ∧ Fr (fun _ => False) w w1 ∧ w1.heap.size = w.heap.size + 1 := by
  subst hw
  exact ⟨heap_new w _, (Fr.refl _ w).alloc _, by simp⟩

set_option maxRecDepth 100000 in
set_option maxHeartbeats 1000000 in
theorem list_ok {w : World} {B b : Nat} {rv : Value} {most h : Nat} {zs L : List Mq} (x : BoxM w B b rv most h zs L) :
    Calls Try.prog 34 #[.pointer (some ⟨b, 0, none⟩)] w fun e w' => ∃ v, e = .returned v ∧ w'.ownsRow w.heap.size 40 7 v L.length (L.flatMap encM) ∧ Below w.heap.size w w' := by
  obtain ⟨i0, hi0, hz0, hz1, hz2⟩ := info_parts info_msg
  have hm := x.m1
  have hc := x.cnt
  have hle := x.le
  have hr := x.ring.len
  have hlt := x.ring.lt
  have hbs := lt_of_block x.blk
  have X := hid x
  clear x
  go_enter Try.func34, Try.ntmps34
  go_wp2_with (go_at_call 35; refine (len_ok X.out).mono ?_; rintro e w' ⟨rfl, rfl⟩)
  go_loopw [3, 7] (fun v i wr => ∃ k : Nat, k ≤ L.length ∧ i = .int .i64 k ∧ wr.ownsRow w.heap.size 40 7 v k ((L.take k).flatMap encM) ∧ Below w.heap.size w wr) (fun _ i _ => L.length - (intOf i).toNat)
  case atStart => exact ⟨0, Nat.zero_le _, rfl, by simpa using World.ownsRow_nil _ _ _ _, Below.refl _ _⟩
  case round =>
    obtain ⟨k, hk, rfl, hown, hb⟩ := hrel
    by_cases hkl : k < L.length
    · obtain ⟨y, hy⟩ : ∃ y, L[k]? = some y := ⟨L[k], by simp [hkl]⟩
      rcases X.out.form with ⟨rfl, hz⟩ | ⟨g, cap, rfl, hcap, hcm, _, hgs, hgb⟩
      · rw [hz] at hr; simp only [List.length_nil] at hr; omega
      have hlt' := hlt (by omega)
      have hat := X.out.ring.at_ k hkl
      rw [hy] at hat
      have hml : (h + k) % zs.length < zs.length := Nat.mod_lt _ (by omega)
      have HR := hid (owns_range encM_len X.out.own hat)
      have HB := hid hb
      have ab : u3.ownBlock ≠ some b := fun e => by have := (hown.lt _ e).1; omega
      have ag : u3.ownBlock ≠ some g := fun e => by have := (hown.lt _ e).1; omega
      have c1 : ∀ w', Fr (fun j => u3.ownBlock = some j) wr w' → w'.cell? ⟨b, 1, none⟩ = some (.slice (some ⟨g, 0, none⟩) zs.length cap) := fun w' hf => hf.cell ((HB.out.cell hbs).trans X.out.c1) ab
      have c2 : ∀ w', Fr (fun j => u3.ownBlock = some j) wr w' → w'.cell? ⟨b, 2, none⟩ = some (.int .i64 h) := fun w' hf => hf.cell ((HB.out.cell hbs).trans X.out.c2) ab
      have c3 : ∀ w', Fr (fun j => u3.ownBlock = some j) wr w' → ld 40 (.pointer (some ⟨g, (((h : Int) + (k : Int)) % (zs.length : Int)).toNat * 7, none⟩)) w' = .ok (.value (msgV y)) w' := fun w' hf => ld_msg (by rw [toNat_mod7]; exact fun j v hv => hf.cell ((HB.out.cell hgs).trans (HR.out j v hv)) ag)
      have HY := hid hy
      have HO := hid hown
      clear hat hy hown hb
      have hbz := HB.out.size
      have i1 : (0 : Int) ≤ ((h : Int) + k) % (zs.length : Int) := Int.emod_nonneg _ (by omega)
      have i2 : ((h : Int) + k) % (zs.length : Int) < zs.length := Int.emod_lt_of_pos _ (by omega)
      go_upto_region 5 with fail
      refine wp_region_held_drew (S := (fun w' => Fr (fun j => u3.ownBlock = some j) wr w')) (by kernel_rfl) ?_ (fun hH => ?_)
      · exact (Fr.refl (fun j => u3.ownBlock = some j) wr).drew
      refine wpAnyH_take (i := 0) (oi := { dst := some 10, op := Op.move (Operand.tmp 3), type := 91, pos := "box.go:106", after := #[], guard := none }) (v := ?_) rfl (by kernel_rfl) (by kernel_rfl) (by kernel_rfl) (fun _ _ _ h => h) (Or.inl ⟨by rfl, ?_⟩) hH ?_
      rotate_left
      · intro w hSw; (try dsimp only at hSw); go_simp <;> with_reducible rfl
      try simp only [Act.put, List.setIfInBounds_toArray, List.set_cons_zero, List.set_cons_succ]
      refine wpAnyH_take (i := 1) (oi := { dst := some 11, op := Op.move (Operand.tmp 0), type := 75, pos := "box.go:106", after := #[], guard := none }) (v := ?_) rfl (by kernel_rfl) (by kernel_rfl) (by kernel_rfl) (fun _ _ _ h => h) (Or.inl ⟨by rfl, ?_⟩) hH ?_
      rotate_left
      · intro w hSw; (try dsimp only at hSw); go_simp <;> with_reducible rfl
      try simp only [Act.put, List.setIfInBounds_toArray, List.set_cons_zero, List.set_cons_succ]
      refine wpAnyH_take (i := 2) (oi := { dst := some 12, op := Op.nilCheck (Operand.tmp 11), type := 0, pos := "box.go:106", after := #[{ on := 1, ground := Ground.data }], guard := none }) (v := ?_) rfl (by kernel_rfl) (by kernel_rfl) (by kernel_rfl) (fun _ _ _ h => h) (Or.inl ⟨by rfl, ?_⟩) hH ?_
      rotate_left
      · intro w hSw; (try dsimp only at hSw); go_simp <;> with_reducible rfl
      try simp only [Act.put, List.setIfInBounds_toArray, List.set_cons_zero, List.set_cons_succ]
      refine wpAnyH_take (i := 3) (oi := { dst := some 13, op := Op.fieldAddr 97 (Operand.tmp 12) 1, type := 0, pos := "box.go:106", after := #[{ on := 2, ground := Ground.data }], guard := none }) (v := ?_) rfl (by kernel_rfl) (by kernel_rfl) (by kernel_rfl) (fun _ _ _ h => h) (Or.inl ⟨by rfl, ?_⟩) hH ?_
      rotate_left
      · intro w hSw; (try dsimp only at hSw); go_simp <;> with_reducible rfl
      try simp only [Act.put, List.setIfInBounds_toArray, List.set_cons_zero, List.set_cons_succ]
      refine wpAnyH_take (i := 4) (oi := { dst := some 14, op := Op.load 91 (Operand.tmp 13), type := 91, pos := "box.go:106", after := #[{ on := 3, ground := Ground.data }], guard := none }) (v := ?_) rfl (by kernel_rfl) (by kernel_rfl) (by kernel_rfl) (fun _ _ _ h => h) (Or.inl ⟨by rfl, ?_⟩) hH ?_
      rotate_left
      · intro w hSw; (try dsimp only at hSw); go_simp <;> with_reducible rfl
      try simp only [Act.put, List.setIfInBounds_toArray, List.set_cons_zero, List.set_cons_succ]
      refine wpAnyH_take (i := 5) (oi := { dst := some 15, op := Op.move (Operand.tmp 0), type := 75, pos := "box.go:106", after := #[], guard := none }) (v := ?_) rfl (by kernel_rfl) (by kernel_rfl) (by kernel_rfl) (fun _ _ _ h => h) (Or.inl ⟨by rfl, ?_⟩) hH ?_
      rotate_left
      · intro w hSw; (try dsimp only at hSw); go_simp <;> with_reducible rfl
      try simp only [Act.put, List.setIfInBounds_toArray, List.set_cons_zero, List.set_cons_succ]
      refine wpAnyH_take (i := 6) (oi := { dst := some 16, op := Op.move (Operand.tmp 4), type := 3, pos := "box.go:106", after := #[], guard := none }) (v := ?_) rfl (by kernel_rfl) (by kernel_rfl) (by kernel_rfl) (fun _ _ _ h => h) (Or.inl ⟨by rfl, ?_⟩) hH ?_
      rotate_left
      · intro w hSw; (try dsimp only at hSw); go_simp <;> with_reducible rfl
      try simp only [Act.put, List.setIfInBounds_toArray, List.set_cons_zero, List.set_cons_succ]
      refine wpAnyH_ready (rs := [7]) (by kernel_rfl) (by simp) ?_
      refine AllReadyH.cons (o := { dst := some 17, op := Op.call { callee := Callee.value (Operand.func 39), args := #[Operand.tmp 15, Operand.tmp 16], argTypes := #[75, 3] }, type := 3, pos := "box.go:106", after := #[{ on := 5, ground := Ground.data }, { on := 6, ground := Ground.data }], guard := none }) rfl (fun K hK => ?_) AllReadyH.nil
      go_simp
      go_at_call 39
      refine (at_walk b h zs.length cap k (some ⟨g, 0, none⟩) _ (by exact c1 _ hH) (by exact c2 _ hH) (by omega) (by omega) hlt' (by omega) (by omega)).mono ?_
      rintro e w' ⟨rfl, m, rfl⟩
      go_simp
      refine hK.out _ _ ?_ (fun hH => ?_)
      · exact (Fr.refl (fun j => u3.ownBlock = some j) wr).drewN _
      clear hK K
      try simp only [Act.put, List.setIfInBounds_toArray, List.set_cons_zero, List.set_cons_succ]
      refine wpAnyH_take (i := 8) (oi := { dst := some 18, op := Op.indexAddr 91 (Operand.tmp 14) (Operand.tmp 17), type := 0, pos := "box.go:106", after := #[{ on := 4, ground := Ground.data }, { on := 7, ground := Ground.data }], guard := none }) (v := ?_) rfl (by kernel_rfl) (by kernel_rfl) (by kernel_rfl) (fun _ _ _ h => h) (Or.inl ⟨by rfl, ?_⟩) hH ?_
      rotate_left
      · intro w hSw; (try dsimp only at hSw); go_simp <;> with_reducible rfl
      try simp only [Act.put, List.setIfInBounds_toArray, List.set_cons_zero, List.set_cons_succ]
      refine wpAnyH_take (i := 9) (oi := { dst := some 19, op := Op.load 40 (Operand.tmp 18), type := 40, pos := "box.go:106", after := #[{ on := 8, ground := Ground.data }], guard := none }) (v := ?_) rfl (by kernel_rfl) (by kernel_rfl) (by kernel_rfl) (fun _ _ _ h => h) (Or.inl ⟨by rfl, ?_⟩) hH ?_
      rotate_left
      · intro w hSw; (try dsimp only at hSw); go_simp <;> with_reducible rfl
      try simp only [Act.put, List.setIfInBounds_toArray, List.set_cons_zero, List.set_cons_succ]
      refine wpAnyH_ready (rs := [10]) (by kernel_rfl) (by simp) ?_
      refine AllReadyH.cons (o := { dst := some 20, op := Op.buildSlice 91 1 #[(0, Operand.tmp 19)], type := 91, pos := "box.go:106", after := #[{ on := 9, ground := Ground.data }], guard := none }) rfl (fun K hK => ?_) AllReadyH.nil
      go_simp
      generalize hC : Array.foldl _ _ _ _ _ = C
      have hC' : C = (encM y).toArray := by rw [← hC]; simp [msgV, encM]
      subst hC'
      clear hC
      obtain ⟨G1, G2, G3⟩ := one_built (m := y) (T := 40) (w := wr.drewN (1 + m)) rfl
      refine hK.out _ _ ?_ (fun hH => ?_)
      · exact ((Fr.refl (fun j => u3.ownBlock = some j) wr).drewN _).trans G2 (fun _ h => h) (fun _ _ h => h.elim)
      clear hK K
      try simp only [Act.put, List.setIfInBounds_toArray, List.set_cons_zero, List.set_cons_succ]
      refine wpAnyH_ready (rs := [11]) (by kernel_rfl) (by simp) ?_
      refine AllReadyH.cons (o := { dst := some 21, op := Op.call { callee := Callee.builtin Builtin.append, args := #[Operand.tmp 10, Operand.tmp 20], argTypes := #[91, 91] }, type := 91, pos := "box.go:106", after := #[{ on := 0, ground := Ground.data }, { on := 10, ground := Ground.data }, { on := 7, ground := Ground.chain }], guard := none }) rfl (fun K hK => ?_) AllReadyH.nil
      have HO4 := G2.owns HO.out (fun _ _ e => e)
      refine step_append_lies _ (by rfl) _ _ _ (by rfl) w.heap.size 40 i0 _ 7 88 Try.underlying91 hi0 hz0 hz1 hz2 rfl (by omega) u3 k _ (by rfl) (by exact HO4) ⟨wr.heap.size, 0, none⟩ 1 1 (encM y) (by rfl) (by rfl) (World.news_of_block (cs := (encM y).toArray) (t := 40) (fr := (0, 0)) (by exact G1)) (encM_one y) (by omega) (by unfold maxLen; omega) (by omega) (by have := G3; exact Nat.le_trans hbz (by rw [World.heap_drewN] at this; exact this ▸ Nat.le_succ _)) (wr.heap.size + 1) (by exact G3) ?_
      intro gg cp w1 hown1 hgrow hat' hlt2
      refine hK.out _ _ ?_ (fun hH => ?_)
      · exact hH.grown hgrow (fun k h _ => h)
      clear hK K
      try simp only [Act.put, List.setIfInBounds_toArray, List.set_cons_zero, List.set_cons_succ]
      refine wpAnyH_take (i := 12) (oi := { dst := some 3, op := Op.assign (Operand.tmp 21), type := 91, pos := "box.go:106", after := #[{ on := 11, ground := Ground.data }, { on := 11, ground := Ground.chain }, { on := 0, ground := Ground.phase }, { on := 1, ground := Ground.phase }, { on := 2, ground := Ground.phase }, { on := 3, ground := Ground.phase }, { on := 4, ground := Ground.phase }, { on := 5, ground := Ground.phase }, { on := 6, ground := Ground.phase }, { on := 7, ground := Ground.phase }, { on := 8, ground := Ground.phase }, { on := 9, ground := Ground.phase }, { on := 10, ground := Ground.phase }, { on := 11, ground := Ground.phase }], guard := none }) (v := ?_) rfl (by kernel_rfl) (by kernel_rfl) (by kernel_rfl) (fun _ _ _ h => h) (Or.inl ⟨by rfl, ?_⟩) hH ?_
      rotate_left
      · intro w hSw; (try dsimp only at hSw); go_simp <;> with_reducible rfl
      try simp only [Act.put, List.setIfInBounds_toArray, List.set_cons_zero, List.set_cons_succ]
      refine wpAnyH_done (by kernel_rfl) ?_ _
      have R1 := hid (show w1.ownsRow w.heap.size 40 7 (.slice (some ⟨gg, 0, none⟩) (k + 1) cp) (k + 1) ((L.take (k + 1)).flatMap encM) by rw [flat_take L k y HY.out]; exact hown1)
      have R2 := hid (show Below w.heap.size w w1 from HB.out.trans (hH.below hbz (fun i hi e => by have := (HO.out.lt _ e).1; omega)))
      clear hown1 hgrow hH hat' HO4 G1 G2 G3
      go_wp2
      go_roundw
      case rel => exact ⟨k + 1, by omega, by go_num, R1.out, R2.out⟩
      case measure => simp [intOf]; omega
    · obtain rfl : k = L.length := by omega
      rw [List.take_length] at hown
      have R1 := hid hown
      have R2 := hid hb
      clear hown hb
      go_wp2
      go_ret
      exact ⟨_, rfl, R1.out, R2.out⟩

theorem eql_nil_slice_no (a : Addr) (n c : Nat) (w : World) : (binOp .eql 91 (.slice (some a) n c) (.slice none 0 0)).run Try.prog w = .ok (.bool false) w := by kernel_rfl
theorem eql_nil_slice_yes (w : World) : (binOp .eql 91 (.slice none 0 0) (.slice none 0 0)).run Try.prog w = .ok (.bool true) w := by kernel_rfl

theorem clone_nil (w : World) : Calls Try.prog 43 #[.slice none 0 0] w fun e w' => e = .returned (.slice none 0 0) ∧ w = w' := by
  have hq := eql_nil_slice_yes
  go_enter Try.func43, Try.ntmps43
  go_wp2
  go_ret
  exact ⟨rfl, rfl⟩

theorem clone_some (g cap B : Nat) (zs : List Mq) (w : World) (ho : w.ownsRow B 40 7 (.slice (some ⟨g, 0, none⟩) zs.length cap) zs.length (zs.flatMap encM)) (hn : zs.length ≤ 4096) :
    Calls Try.prog 43 #[.slice (some ⟨g, 0, none⟩) zs.length cap] w fun e w' => ∃ v, e = .returned v ∧ w'.ownsRow w.heap.size 40 7 v zs.length (zs.flatMap encM) ∧ Below w.heap.size w w' := by
  obtain ⟨i0, hi0, hz0, hz1, hz2⟩ := info_parts info_msg
  have hq := eql_nil_slice_no ⟨g, 0, none⟩ zs.length cap
  go_enter Try.func43, Try.ntmps43
  go_wp2_with (at_builtin; refine wpList_append_own _ rfl _ _ 91 rfl w.heap.size 40 i0 _ 7 88 Try.underlying91 hi0 hz0 hz1 hz2 rfl (by decide) _ 0 [] rfl (by exact World.ownsRow_made w #[] 0 (Nat.le_refl _) (by decide) rfl) ⟨g, 0, none⟩ zs.length cap (zs.flatMap encM) rfl (by rw [flat_len encM_len]) ?c1 (flat_one _) ?c3 ?c4 ?c5 ?_)
  case c1 => exact fun j u hu => (Go.World.ownsRow.cells (ho.alloc _) rfl j u hu)
  case c3 => unfold maxLen; omega
  case c4 => omega
  case c5 => simp
  intro v' w1 hown hgrow _
  have R1 := hid hown
  have R2 := hid (((Below.refl w.heap.size w).alloc (Nat.le_refl _) _).grown hgrow (by simp) (fun k hk => by simp [Value.ownBlock] at hk; omega))
  clear hown hgrow
  go_wp2
  go_ret
  refine ⟨_, rfl, ?_, R2.out⟩
  simpa using R1.out

end Go.Proofs.Ytakhmommcgfoaaa
