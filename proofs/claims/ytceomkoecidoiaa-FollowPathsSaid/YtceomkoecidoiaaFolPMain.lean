/-
  FollowPaths, walked.
-/
import Derived.Test.YtceomkoecidoiaaFolOut
import Derived.Test.YtceomkoecidoiaaFolOver
import Derived.Test.YtceomkoecidoiaaFolAwake
import Derived.Test.YtceomkoecidoiaaFolRefPath
namespace Go.Proofs.Ytceomkoecidoiaa
open Go.RowKit
attribute [local go_sem ↓] run_ld45 run_st45

set_option maxRecDepth 100000 in
set_option maxHeartbeats 4000000 in
theorem paths_ok {w : World} {n0 p0 lv : Value} {w0 m0 : Int} {b0 : ByteArray} {N0 : List (Int × Int)} {L0 : List Nat} {L : List Int} (hN0 : NodesAt w (fun _ => True) n0 N0) (hP0 : PlacesV w p0 L0) (hLv : IntsV w lv L) :
    Calls Try.prog 4 #[.agg #[n0, p0, .int .i64 w0, .string b0, .int .u8 m0], lv] w fun e w' => e = .returned (.bool true) ∧ Fr (fun _ => False) w w' := by
  obtain ⟨pa0, pc0, rfl, _⟩ := id hP0
  obtain ⟨lo, lc, rfl, _⟩ := id hLv
  have HN0 := hid hN0
  have HP0 := hid hP0
  have HL := hid hLv
  obtain ⟨q, hq⟩ : ∃ q, q = L.length := ⟨_, rfl⟩
  rw [← hq] at HL ⊢
  have HQ := hid hq
  clear hN0 hP0 hLv hq
  obtain ⟨Z, hZ, hz, _⟩ := zero_sets
  go_enter Try.func4, Try.ntmps4
  go_upto_region 1 with fail
  obtain ⟨u1, hu1⟩ : ∃ u1, u1 = w.alloc (.cells #[n0, .slice pa0 L0.length pc0, .int .i64 w0, .string b0, .int .u8 m0] 25) := ⟨_, rfl⟩
  obtain ⟨k, hk⟩ : ∃ k, k = w.heap.size := ⟨_, rfl⟩
  rw [← hu1, ← hk]
  have K1 := hid (show u1.heap[k]? = some (.cells #[n0, .slice pa0 L0.length pc0, .int .i64 w0, .string b0, .int .u8 m0] 25 (0, 0)) by rw [hu1, hk]; exact heap_new w _)
  have F1 := hid (show Fr (fun _ => False) w u1 by rw [hu1]; exact (Fr.refl _ w).alloc _)
  clear hu1 hk
  have hK : ∀ w', Fr (fun _ => False) u1 w' → w'.cell? ⟨k, 0, none⟩ = some n0 ∧ w'.cell? ⟨k, 1, none⟩ = some (.slice pa0 L0.length pc0) ∧ w'.cell? ⟨k, 2, none⟩ = some (.int .i64 w0) ∧ w'.cell? ⟨k, 3, none⟩ = some (.string b0) ∧ w'.cell? ⟨k, 4, none⟩ = some (.int .u8 m0) := fun w' h =>
    have hb := h.heap K1.out (fun e => e)
    ⟨cell_of hb 0 rfl, cell_of hb 1 rfl, cell_of hb 2 rfl, cell_of hb 3 rfl, cell_of hb 4 rfl⟩
  have HK := hid hK
  clear hK
  obtain ⟨c0, c1, c2, c3, c4⟩ := HK.out u1 (Fr.refl _ _)
  go_wp2_with fail
  refine (over_ok (HN0.out.fr (S := fun _ => False) F1.out (fun _ _ e => e) (fun _ h _ => h)) (HP0.out.fr F1.out)).mono ?_
  rintro e u2 ⟨⟨z, rfl, hz', hz0⟩, hF2⟩
  clear c0 c1 c2 c3 c4
  have F2 := hid hF2
  have FW2 := hid (F1.out.trans' hF2)
  clear hF2
  obtain ⟨c0, c1, c2, c3, c4⟩ := HK.out u2 F2.out
  rcases hz' with rfl | rfl
  rotate_left
  · clear hz0
    go_wp2_with fail
    refine (awake_ok u2).mono ?_
    rintro e u3 ⟨rfl, hF3⟩
    go_wp2_with fail
    go_ret
    exact ⟨rfl, FW2.out.trans' hF3⟩
  have few0 := hid (hz0 rfl)
  clear hz0
  by_cases hq100 : 100 < q
  · have hq100' : (100 : Int) < q := by omega
    go_wp2_with fail
    refine (awake_ok u2).mono ?_
    rintro e u3 ⟨rfl, hF3⟩
    go_wp2_with fail
    go_ret
    exact ⟨rfl, FW2.out.trans' hF3⟩
  have hq100' : ¬ (100 : Int) < q := by omega
  obtain ⟨nb, f, l, P, T, en, O0⟩ := outcome N0 L0.length few0.out.1
  have O0 := hid O0
  go_wp2_with fail
  refine (O0.out.ref _ _ _ _ _ _ _ _ (HN0.out.fr (S := fun _ => False) FW2.out (fun _ _ e => e) (fun _ h _ => h))).mono ?_
  rintro e y3 ⟨⟨vb, rfl, hUb⟩, hY3⟩
  obtain ⟨uab, ucb, rfl, _⟩ := id hUb
  have Y3 := hid (FW2.out.trans' hY3)
  have HUb := hid hUb
  have hst := st_sets (n := nb) (f := f) (l := l) (v := .slice uab P ucb) rfl (w := y3.alloc (.cells Z 45)) (b := y3.heap.size) ⟨Z, hZ, heap_new y3 _⟩
  clear hUb hY3 c0 c1 c2 c3 c4
  go_upto_region 4 with fail
  obtain ⟨z3, hz3⟩ : ∃ z3, z3 = (y3.alloc (.cells Z 45)).setCells y3.heap.size 0 (setsC nb f l (.slice uab P ucb)) := ⟨_, rfl⟩
  obtain ⟨sb, hsb⟩ : ∃ sb, sb = y3.heap.size := ⟨_, rfl⟩
  rw [← hz3, ← hsb]
  have Sb := hid (show SetsB z3 sb nb f l (.slice uab P ucb) by rw [hz3, hsb]; exact Blk66.put ⟨Z, hZ, heap_new y3 _⟩ _ _ _ _)
  have YZ3 := hid (show Fr (fun _ => False) y3 z3 by rw [hz3]; exact Fr.setCells (by omega) _ _ ((Fr.refl _ y3).alloc _))
  have UB := hid (HUb.out.fr YZ3.out)
  have G3 := hid (Y3.out.trans' YZ3.out)
  have IL := hid (HL.out.fr G3.out)
  clear hz3 hsb hst
  have hB : ∀ w', Fr (fun _ => False) z3 w' → ld 45 (.pointer (some ⟨sb, 0, none⟩)) w' = .ok (.value (setsV nb f l (.slice uab P ucb))) w' := fun w' h => ld_sets (Sb.out.fr h (fun e => e))
  have hP := O0.out.le
  have hL4 : L.length ≤ 4096 := by have := HQ.out; omega
  have hq2 := (Fr.refl (fun _ => False) z3).drew
  refine wp_region_held_drew (S := (fun w' => Fr (fun _ => False) z3 w')) (by kernel_rfl) ?_ (fun hH => ?_)
  · exact hq2
  refine wpAnyH_take (i := 0) (oi := { dst := some 21, op := Op.load 45 (Operand.tmp 5), type := 45, pos := "law.go:63", after := #[], guard := none }) (v := ?_) rfl (by kernel_rfl) (by kernel_rfl) (by kernel_rfl) (fun _ _ _ h => h) (Or.inl ⟨by rfl, ?_⟩) hH ?_
  rotate_left
  · intro w hSw; (try dsimp only at hSw); go_simp <;> with_reducible rfl
  try simp only [Act.put, List.setIfInBounds_toArray, List.set_cons_zero, List.set_cons_succ]
  refine wpAnyH_take (i := 2) (oi := { dst := some 23, op := Op.move (Operand.tmp 1), type := 53, pos := "law.go:63", after := #[], guard := none }) (v := ?_) rfl (by kernel_rfl) (by kernel_rfl) (by kernel_rfl) (fun _ _ _ h => h) (Or.inl ⟨by rfl, ?_⟩) hH ?_
  rotate_left
  · intro w hSw; (try dsimp only at hSw); go_simp <;> with_reducible rfl
  try simp only [Act.put, List.setIfInBounds_toArray, List.set_cons_zero, List.set_cons_succ]
  refine wpAnyH_take (i := 4) (oi := { dst := some 25, op := Op.load 45 (Operand.tmp 5), type := 45, pos := "law.go:63", after := #[], guard := none }) (v := ?_) rfl (by kernel_rfl) (by kernel_rfl) (by kernel_rfl) (fun _ _ _ h => h) (Or.inl ⟨by rfl, ?_⟩) hH ?_
  rotate_left
  · intro w hSw; (try dsimp only at hSw); go_simp <;> with_reducible rfl
  try simp only [Act.put, List.setIfInBounds_toArray, List.set_cons_zero, List.set_cons_succ]
  refine wpAnyH_take (i := 5) (oi := { dst := some 26, op := Op.move (Operand.tmp 1), type := 53, pos := "law.go:63", after := #[], guard := none }) (v := ?_) rfl (by kernel_rfl) (by kernel_rfl) (by kernel_rfl) (fun _ _ _ h => h) (Or.inl ⟨by rfl, ?_⟩) hH ?_
  rotate_left
  · intro w hSw; (try dsimp only at hSw); go_simp <;> with_reducible rfl
  try simp only [Act.put, List.setIfInBounds_toArray, List.set_cons_zero, List.set_cons_succ]
  refine wpAnyH_ready (rs := [1]) (by kernel_rfl) (by simp) ?_
  refine AllReadyH.cons (o := { dst := some 22, op := Op.call { callee := Callee.value (Operand.func 12), args := #[Operand.tmp 21], argTypes := #[45] }, type := 32, pos := "law.go:63", after := #[{ on := 0, ground := Ground.data }], guard := none }) rfl (fun K hK => ?_) AllReadyH.nil
  go_simp
  go_at_call 12
  refine (words_ok nb f l (UB.out.fr hq2) (by omega)).mono ?_
  rintro e wx ⟨v1, rfl, hV1, hFx⟩
  have hq2 := hq2.trans' hFx
  obtain ⟨ax1, cx1, rfl, _⟩ := id hV1
  go_simp
  refine hK.out _ _ ?_ (fun hH => ?_)
  · exact hq2
  clear hK K
  try simp only [Act.put, List.setIfInBounds_toArray, List.set_cons_zero, List.set_cons_succ]
  refine wpAnyH_ready (rs := [3]) (by kernel_rfl) (by simp) ?_
  refine AllReadyH.cons (o := { dst := some 24, op := Op.call { callee := Callee.value (Operand.func 15), args := #[Operand.tmp 22, Operand.tmp 23], argTypes := #[32, 53] }, type := 4, pos := "law.go:63", after := #[{ on := 1, ground := Ground.data }, { on := 2, ground := Ground.data }, { on := 1, ground := Ground.chain }], guard := none }) rfl (fun K hK => ?_) AllReadyH.nil
  go_simp
  go_at_call 15
  refine (path_ok nb f l hV1 (IL.out.fr hq2) hL4).mono ?_
  rintro e wx ⟨rfl, hFx⟩
  have hq2 := hq2.trans' hFx
  go_simp
  refine hK.out _ _ ?_ (fun hH => ?_)
  · exact hq2
  clear hK K
  try simp only [Act.put, List.setIfInBounds_toArray, List.set_cons_zero, List.set_cons_succ]
  refine wpAnyH_ready (rs := [6]) (by kernel_rfl) (by simp) ?_
  refine AllReadyH.cons (o := { dst := some 27, op := Op.call { callee := Callee.value (Operand.func 16), args := #[Operand.tmp 25, Operand.tmp 26], argTypes := #[45, 53] }, type := 4, pos := "law.go:63", after := #[{ on := 4, ground := Ground.data }, { on := 5, ground := Ground.data }, { on := 3, ground := Ground.chain }], guard := none }) rfl (fun K hK => ?_) AllReadyH.nil
  go_simp
  go_at_call 16
  refine (refPath_ok nb f l (UB.out.fr hq2) (IL.out.fr hq2) (by omega) hL4).mono ?_
  rintro e wx ⟨rfl, hFx⟩
  have hq2 := hq2.trans' hFx
  go_simp
  refine hK.out _ _ ?_ (fun hH => ?_)
  · exact hq2
  clear hK K
  try simp only [Act.put, List.setIfInBounds_toArray, List.set_cons_zero, List.set_cons_succ]
  refine wpAnyH_take (i := 7) (oi := { dst := some 28, op := Op.binOp BinOp.eql 4 (Operand.tmp 24) (Operand.tmp 27) 4, type := 4, pos := "law.go:63", after := #[{ on := 3, ground := Ground.data }, { on := 6, ground := Ground.data }], guard := none }) (v := ?_) rfl (by kernel_rfl) (by kernel_rfl) (by kernel_rfl) (fun _ _ _ h => h) (Or.inl ⟨by rfl, ?_⟩) hH ?_
  rotate_left
  · intro w hSw; (try dsimp only at hSw); go_simp <;> with_reducible rfl
  try simp only [Act.put, List.setIfInBounds_toArray, List.set_cons_zero, List.set_cons_succ]
  refine wpAnyH_take (i := 8) (oi := { dst := some 29, op := Op.move (Operand.tmp 28), type := 4, pos := "law.go:63", after := #[{ on := 7, ground := Ground.data }, { on := 6, ground := Ground.chain }], guard := none }) (v := ?_) rfl (by kernel_rfl) (by kernel_rfl) (by kernel_rfl) (fun _ _ _ h => h) (Or.inl ⟨by rfl, ?_⟩) hH ?_
  rotate_left
  · intro w hSw; (try dsimp only at hSw); go_simp <;> with_reducible rfl
  try simp only [Act.put, List.setIfInBounds_toArray, List.set_cons_zero, List.set_cons_succ]
  refine wpAnyH_ready (rs := [9]) (by kernel_rfl) (by simp) ?_
  refine AllReadyH.cons (o := { dst := some 30, op := Op.call { callee := Callee.value (Operand.func 7), args := #[], argTypes := #[] }, type := 4, pos := "law.go:63", after := #[{ on := 8, ground := Ground.chain }, { on := 8, ground := Ground.guard }], guard := some (8, true) }) rfl (fun K hK => ?_) AllReadyH.nil
  go_simp
  go_at_call 7
  refine (awake_ok _).mono ?_
  rintro e wx ⟨rfl, hFx⟩
  have hq2 := hq2.trans' hFx
  go_simp
  refine hK.out _ _ ?_ (fun hH => ?_)
  · exact hq2
  clear hK K
  try simp only [Act.put, List.setIfInBounds_toArray, List.set_cons_zero, List.set_cons_succ]
  refine wpAnyH_take (i := 10) (oi := { dst := some 31, op := Op.pick (Operand.tmp 29) (Operand.tmp 30) (Operand.const (Value.bool false)), type := 4, pos := "law.go:63", after := #[{ on := 8, ground := Ground.data }, { on := 9, ground := Ground.data }], guard := none }) (v := ?_) rfl (by kernel_rfl) (by kernel_rfl) (by kernel_rfl) (fun _ _ _ h => h) (Or.inl ⟨by rfl, ?_⟩) hH ?_
  rotate_left
  · intro w hSw; (try dsimp only at hSw); go_simp <;> with_reducible rfl
  try simp only [Act.put, List.setIfInBounds_toArray, List.set_cons_zero, List.set_cons_succ]
  refine wpAnyH_take (i := 11) (oi := { dst := some 4, op := Op.assign (Operand.tmp 31), type := 4, pos := "law.go:63", after := #[{ on := 10, ground := Ground.data }, { on := 9, ground := Ground.chain }, { on := 0, ground := Ground.phase }, { on := 1, ground := Ground.phase }, { on := 2, ground := Ground.phase }, { on := 3, ground := Ground.phase }, { on := 4, ground := Ground.phase }, { on := 5, ground := Ground.phase }, { on := 6, ground := Ground.phase }, { on := 7, ground := Ground.phase }, { on := 8, ground := Ground.phase }, { on := 9, ground := Ground.phase }, { on := 10, ground := Ground.phase }], guard := none }) (v := ?_) rfl (by kernel_rfl) (by kernel_rfl) (by kernel_rfl) (fun _ _ _ h => h) (Or.inl ⟨by rfl, ?_⟩) hH ?_
  rotate_left
  · intro w hSw; (try dsimp only at hSw); go_simp <;> with_reducible rfl
  try simp only [Act.put, List.setIfInBounds_toArray, List.set_cons_zero, List.set_cons_succ]
  refine wpAnyH_done (by kernel_rfl) ?_ _
  go_wp2_with fail
  go_ret
  exact ⟨rfl, G3.out.trans' hq2⟩

end Go.Proofs.Ytceomkoecidoiaa
