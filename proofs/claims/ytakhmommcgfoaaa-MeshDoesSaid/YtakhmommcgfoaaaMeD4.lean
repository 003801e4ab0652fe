/-
  MeshDoes, walked.
-/
import Derived.Test.YtakhmommcgfoaaaMeD3
import Derived.Deep.DeepCutAuto
namespace Go.Proofs.Ytakhmommcgfoaaa
open Go.RowKit

def DInv (w : World) (p pc W most j : Nat) (wx : World) : Prop := ∃ R F s n k A, DMem w wx p pc W most R F s n k A ∧ DRel wx pc W R F A ∧ A.length ≤ 8 * j

/-- behind the program's Recv -/
def C15 (w2 : World) (p W most : Nat) (R : Nat → List Mq) (F : Nat → Prop) (a b : Int) (u v : Value) (wx : World) : Prop :=
  ∃ y z R' y9, u = .pointer (some ⟨y9, 0, none⟩) ∧ v = .int .i64 z ∧ RecvStep W R a b y z R' ∧ MeshAt wx p W most R' F ∧ Fr F w2 wx ∧ wx.heap[y9]? = some (.cells (encM y).toArray 40 (0, 0))
/-- behind the document's Recv -/
def C16 (w5 : World) (W most : Nat) (s : Option Addr) (n k : Nat) (A : List Pq) (a b : Int) (u v c : Value) (wx : World) : Prop :=
  ∃ y z s' n' k' A' ya yb, u = .pointer (some ⟨ya, 0, none⟩) ∧ v = .pointer (some ⟨yb, 0, none⟩) ∧ c = .int .i64 z ∧ RRecvStep W A a b y z A' ∧ RowA wx s' n' k' A' ∧ Fr (fun _ => False) w5 wx ∧ NewRow w5 s n k s' n' k' ∧
    wx.heap[ya]? = some (.cells (encM y).toArray 47 (0, 0)) ∧ wx.heap[yb]? = some (.cells (encR W most s' n' k').toArray 32 (0, 0))

theorem drew_no {w : World} : Fr (fun _ => False) w w.drew := (Fr.refl (fun _ => False) w).drew

attribute [local go_sem ↓] run_ldM run_stM run_ldN run_stN run_stR
set_option maxRecDepth 100000 in
set_option maxHeartbeats 16000000 in
theorem does_ok (W most : Nat) (ao : Option Addr) (n cap : Nat) (ops : List Oq) (w : World) (hn : n ≤ 14) (ho : ops.length = n) (hops : OpsIn w w.heap.size ao ops) (h1 : 1 ≤ W) (h2 : W ≤ 16) (h3 : 1 ≤ most) (h4 : most ≤ 4096) :
    Calls Try.prog 3 #[.agg #[.int .i64 W, .int .i64 most], .slice ao n cap] w fun e w' => e = .returned (.bool true) ∧ Below w.heap.size w w' := by
  have q1 : ¬ (14 : Int) < n := by omega
  have HO := hid ho
  have HOPS := hid hops
  have hmy : mayB W most = true := by
    unfold mayB
    simp only [Bool.and_eq_true, decide_eq_true_iff]
    omega
  have MY := hid (fun w : World => (show Calls Try.prog 7 #[.int .i64 W, .int .i64 most] w fun e w' => e = .returned (.bool true) ∧ w = w' from by
    have h := refMay_ok W most w
    rwa [hmy] at h))
  clear ho hops hmy
  go_enter Try.func3, Try.ntmps3
  go_upto_region 3 with fail
  generalize hw1 : World.alloc w _ = w1
  have HB1 := hid (show Below w.heap.size w w1 by rw [← hw1]; exact (Below.refl _ _).alloc (Nat.le_refl _) _)
  have G1 : w1.heap[w.heap.size]? = some (.cells #[.int .i64 W, .int .i64 most] 22 (0, 0)) := by rw [← hw1]; exact heap_new w _
  have c0 := cell_of G1 0 (v := .int .i64 W) rfl
  have c1 := cell_of G1 1 (v := .int .i64 most) rfl
  have HG1 := hid G1
  have HZ1 := hid (show w1.heap.size = w.heap.size + 1 by rw [← hw1]; simp)
  obtain ⟨b, hb⟩ : ∃ b, b = w.heap.size := ⟨_, rfl⟩
  rw [← hb] at c0 c1 G1 HB1 HG1 HZ1 ⊢
  have HBB := hid hb
  rw [← hb] at HOPS
  clear hw1 hb G1
  go_wp2_with fail
  refine (mnew_ok W most w1 h1 h2 h3 h4).mono ?_
  rintro e w2 ⟨rfl, hm, hf⟩
  have d0 := hf.cell c0 (fun e => e)
  have d1 := hf.cell c1 (fun e => e)
  have HM2 := hid hm
  have HF2 := hid hf
  obtain ⟨p, hp⟩ : ∃ p, p = w1.heap.size := ⟨_, rfl⟩
  rw [← hp] at HM2 ⊢
  have HPP := hid hp
  clear hm hf c0 c1 hp
  go_wp2_with fail
  refine (MY.out w2).mono ?_
  rintro e w' ⟨rfl, rfl⟩
  have T0 : st 32 (.pointer (some ⟨w2.heap.size, 0, none⟩)) (.agg #[.int .i64 W, .int .i64 most, .slice none 0 0]) (w2.alloc (.cells #[.int .i64 0, .int .i64 0, .slice none 0 0] 32)) = _ := st_rm W most none 0 0 (there_rm (W := 0) (c := 0) (s := none) (n := 0) (k := 0) (heap_new w2 _))
  go_upto_region 9 with fail
  generalize hw3 : World.setCells _ _ _ _ = w3
  obtain ⟨G1, G2, G3⟩ := one_rm (W' := 0) (c' := 0) (s' := none) (n' := 0) (k' := 0) hw3
  obtain ⟨pc, hpc⟩ : ∃ pc, pc = w2.heap.size := ⟨_, rfl⟩
  rw [← hpc] at G1 ⊢
  have D0 := hid (show DMem w w3 p pc W most (fun _ => []) (fun x => p ≤ x ∧ x < w2.heap.size) none 0 0 [] from
    ⟨HM2.out.no G2, G1, ⟨0, World.ownsRow_nil _ _ _ _⟩, fun i hi => by (have := HPP.out; have := HZ1.out; have := HBB.out; omega), fun i e => by simp [Value.ownBlock] at e,
      by
        have hb1 := HB1.out
        rw [HBB.out] at hb1
        exact hb1.trans ((HF2.out.trans' G2).below (by have := HZ1.out; have := HBB.out; omega) (fun _ _ e => e)),
      by have := HF2.out.size; have := HZ1.out; have := HBB.out; omega⟩)
  have R0 := hid (show DRel w3 pc W (fun _ => []) (fun x => p ≤ x ∧ x < w2.heap.size) [] from ⟨fun x hx => by simp at hx, fun j _ => AlM.nil _ _ _⟩)
  clear G1 G2 G3 hw3 T0 d0 d1 HM2 HG1 hpc
  go_wp2_with fail
  go_loopw [8] (fun i wr => ∃ k : Nat, k ≤ n ∧ i = .int .i64 k ∧ DInv w p pc W most k wr) (fun i _ => n - (intOf i).toNat)
  case atStart => exact ⟨0, Nat.zero_le _, rfl, _, _, _, _, _, _, D0.out, R0.out, by simp⟩
  case round =>
    obtain ⟨k, hk, rfl, hinv⟩ := hrel
    have HI := hid hinv
    clear hinv
    by_cases hkl : k < n
    · obtain ⟨x, hop⟩ : ∃ z, ops[k]? = some z := ⟨_, List.getElem?_eq_getElem (by rw [HO.out]; exact hkl)⟩
      obtain ⟨R, F, sa, sn, sk, A, D, DR, hA8⟩ := HI.out
      obtain ⟨g, o, rfl, hgb, hr⟩ := HOPS.out.resolve_left (fun e => by subst e; simp at hop)
      obtain ⟨hx, P, hP⟩ := hr k x hop
      have hrx := hid (show ∀ w', Below w.heap.size w w' → w'.rangeAt g (o + k * 4) (encO x) from fun w' hb j v hv => (hb.cell (p := ⟨g, o + k * 4 + j, none⟩) (show g < w.heap.size by have := HBB.out; omega)).trans (hx j v hv))
      have hPx := hid (show ∀ w', Below w.heap.size w w' → Pr w' w.heap.size x.s x.n P from fun w' hb => (HBB.out ▸ hP).below hb)
      have hkb : (k : Int) < (n : Int) := by omega
      have r0 : wr.cell? ⟨g, o + k * 4, none⟩ = some (.bool x.r) := hrx.out wr D.bel 0 _ rfl
      have r3 : wr.cell? ⟨g, o + k * 4 + 3, none⟩ = some (.slice x.s x.n x.c) := hrx.out wr D.bel 3 _ rfl
      have U := hid (lover_ok (c := x.c) (hPx.out wr D.bel) D.bel.size)
      have DM := hid D
      have DL := hid DR
      have hA : A.length ≤ 3000 := by omega
      have HA8 := hid hA8
      clear hop hr hx hP D DR hA8 HI
      go_wp2_with fail
      refine U.out.mono ?_
      rintro e w2 ⟨z, rfl, hz, hq, hf⟩
      have D2 := hid (DM.out.no hf)
      have L2 := hid (DL.out.no hf)
      have r0 : w2.cell? ⟨g, o + k * 4, none⟩ = some (.bool x.r) := hrx.out w2 D2.out.bel 0 _ rfl
      clear DM DL U r3 hf
      rcases hz with rfl | rfl
      · obtain ⟨hP8, hP12⟩ := hq rfl
        have HPA := hid (show Pa w2 (fun i => w.heap.size ≤ i) x.s x.n P from (hPx.out w2 D2.out.bel).few hP8 hP12)
        have hFg : ¬ F g := fun e => by have := (D2.out.fb g e).1; have := HBB.out; omega
        have hgp : ¬ g = pc := fun e => by have := D2.out.pcb; have := HBB.out; omega
        have hFp : ¬ F pc := fun e => (D2.out.fb pc e).2 rfl
        clear hq
        go_upto_if 77 with fail
        go_cut [] (fun wx => DInv w p pc W most (k + 1) wx)
        case first =>
          obtain ⟨xr, xa, xb, xs, xn, xc⟩ := x
          dsimp only at *
          cases xr with
          | true =>
            have r1 : ∀ w', Fr F w2 w' → w'.cell? ⟨g, o + k * 4 + 1, none⟩ = some (.int .i64 xa) := fun w' hf => hf.cell (hrx.out w2 D2.out.bel 1 _ rfl) hFg
            have r2 : ∀ w', Fr F w2 w' → w'.cell? ⟨g, o + k * 4 + 2, none⟩ = some (.int .i64 xb) := fun w' hf => hf.cell (hrx.out w2 D2.out.bel 2 _ rfl) hFg
            have RV := hid (fun w' (hf : Fr (fun _ => False) w2 w') => recv_any (D2.out.mesh.no hf) xa xb)
            have HFF := hid (show ∀ i, F i → i < w2.heap.size from fun i hi => D2.out.mesh.lt i hi)
            go_upto_region 15 with fail
            go_cut [9, 10] (fun u v wx => C15 w2 p W most R F xa xb u v wx)
            case first =>
              as_aux_lemma =>
                refine wp_region_held_drew (S := (fun w' => Fr F w2 w')) (by kernel_rfl) ?_ (fun hH => ?_)
                · exact (Fr.refl F w2).drew
                refine wpAnyH_take (i := 0) (oi := { dst := some 79, op := Op.move (Operand.tmp 5), type := 25, pos := "law.go:87", after := #[], guard := none }) (v := ?_) rfl (by kernel_rfl) (by kernel_rfl) (by kernel_rfl) (fun _ _ _ h => h) (Or.inl ⟨by rfl, ?_⟩) hH ?_
                rotate_left
                · intro w hSw; (try dsimp only at hSw); go_simp <;> with_reducible rfl
                try simp only [Act.put, List.setIfInBounds_toArray, List.set_cons_zero, List.set_cons_succ]
                refine wpAnyH_take (i := 1) (oi := { dst := some 80, op := Op.move (Operand.tmp 1), type := 23, pos := "law.go:87", after := #[], guard := none }) (v := ?_) rfl (by kernel_rfl) (by kernel_rfl) (by kernel_rfl) (fun _ _ _ h => h) (Or.inl ⟨by rfl, ?_⟩) hH ?_
                rotate_left
                · intro w hSw; (try dsimp only at hSw); go_simp <;> with_reducible rfl
                try simp only [Act.put, List.setIfInBounds_toArray, List.set_cons_zero, List.set_cons_succ]
                refine wpAnyH_take (i := 2) (oi := { dst := some 81, op := Op.move (Operand.tmp 8), type := 3, pos := "law.go:87", after := #[], guard := none }) (v := ?_) rfl (by kernel_rfl) (by kernel_rfl) (by kernel_rfl) (fun _ _ _ h => h) (Or.inl ⟨by rfl, ?_⟩) hH ?_
                rotate_left
                · intro w hSw; (try dsimp only at hSw); go_simp <;> with_reducible rfl
                try simp only [Act.put, List.setIfInBounds_toArray, List.set_cons_zero, List.set_cons_succ]
                refine wpAnyH_take (i := 3) (oi := { dst := some 82, op := Op.indexAddr 23 (Operand.tmp 80) (Operand.tmp 81), type := 0, pos := "law.go:87", after := #[{ on := 1, ground := Ground.data }, { on := 2, ground := Ground.data }], guard := none }) (v := ?_) rfl (by kernel_rfl) (by kernel_rfl) (by kernel_rfl) (fun _ _ _ h => h) (Or.inl ⟨by rfl, ?_⟩) hH ?_
                rotate_left
                · intro w hSw; (try dsimp only at hSw); go_simp <;> with_reducible rfl
                try simp only [Act.put, List.setIfInBounds_toArray, List.set_cons_zero, List.set_cons_succ]
                refine wpAnyH_take (i := 4) (oi := { dst := some 83, op := Op.fieldAddr 35 (Operand.tmp 82) 1, type := 0, pos := "law.go:87", after := #[{ on := 3, ground := Ground.data }], guard := none }) (v := ?_) rfl (by kernel_rfl) (by kernel_rfl) (by kernel_rfl) (fun _ _ _ h => h) (Or.inl ⟨by rfl, ?_⟩) hH ?_
                rotate_left
                · intro w hSw; (try dsimp only at hSw); go_simp <;> with_reducible rfl
                try simp only [Act.put, List.setIfInBounds_toArray, List.set_cons_zero, List.set_cons_succ]
                refine wpAnyH_take (i := 5) (oi := { dst := some 84, op := Op.load 3 (Operand.tmp 83), type := 3, pos := "law.go:87", after := #[{ on := 4, ground := Ground.data }], guard := none }) (v := ?_) rfl (by kernel_rfl) (by kernel_rfl) (by kernel_rfl) (fun _ _ _ h => h) (Or.inl ⟨by rfl, ?_⟩) hH ?_
                rotate_left
                · intro w hSw; (try dsimp only at hSw); go_simp <;> with_reducible rfl
                try simp only [Act.put, List.setIfInBounds_toArray, List.set_cons_zero, List.set_cons_succ]
                refine wpAnyH_take (i := 6) (oi := { dst := some 85, op := Op.move (Operand.tmp 1), type := 23, pos := "law.go:87", after := #[], guard := none }) (v := ?_) rfl (by kernel_rfl) (by kernel_rfl) (by kernel_rfl) (fun _ _ _ h => h) (Or.inl ⟨by rfl, ?_⟩) hH ?_
                rotate_left
                · intro w hSw; (try dsimp only at hSw); go_simp <;> with_reducible rfl
                try simp only [Act.put, List.setIfInBounds_toArray, List.set_cons_zero, List.set_cons_succ]
                refine wpAnyH_take (i := 7) (oi := { dst := some 86, op := Op.move (Operand.tmp 8), type := 3, pos := "law.go:87", after := #[], guard := none }) (v := ?_) rfl (by kernel_rfl) (by kernel_rfl) (by kernel_rfl) (fun _ _ _ h => h) (Or.inl ⟨by rfl, ?_⟩) hH ?_
                rotate_left
                · intro w hSw; (try dsimp only at hSw); go_simp <;> with_reducible rfl
                try simp only [Act.put, List.setIfInBounds_toArray, List.set_cons_zero, List.set_cons_succ]
                refine wpAnyH_take (i := 8) (oi := { dst := some 87, op := Op.indexAddr 23 (Operand.tmp 85) (Operand.tmp 86), type := 0, pos := "law.go:87", after := #[{ on := 6, ground := Ground.data }, { on := 7, ground := Ground.data }], guard := none }) (v := ?_) rfl (by kernel_rfl) (by kernel_rfl) (by kernel_rfl) (fun _ _ _ h => h) (Or.inl ⟨by rfl, ?_⟩) hH ?_
                rotate_left
                · intro w hSw; (try dsimp only at hSw); go_simp <;> with_reducible rfl
                try simp only [Act.put, List.setIfInBounds_toArray, List.set_cons_zero, List.set_cons_succ]
                refine wpAnyH_take (i := 9) (oi := { dst := some 88, op := Op.fieldAddr 35 (Operand.tmp 87) 2, type := 0, pos := "law.go:87", after := #[{ on := 8, ground := Ground.data }], guard := none }) (v := ?_) rfl (by kernel_rfl) (by kernel_rfl) (by kernel_rfl) (fun _ _ _ h => h) (Or.inl ⟨by rfl, ?_⟩) hH ?_
                rotate_left
                · intro w hSw; (try dsimp only at hSw); go_simp <;> with_reducible rfl
                try simp only [Act.put, List.setIfInBounds_toArray, List.set_cons_zero, List.set_cons_succ]
                refine wpAnyH_take (i := 10) (oi := { dst := some 89, op := Op.load 3 (Operand.tmp 88), type := 3, pos := "law.go:87", after := #[{ on := 9, ground := Ground.data }], guard := none }) (v := ?_) rfl (by kernel_rfl) (by kernel_rfl) (by kernel_rfl) (fun _ _ _ h => h) (Or.inl ⟨by rfl, ?_⟩) hH ?_
                rotate_left
                · intro w hSw; (try dsimp only at hSw); go_simp <;> with_reducible rfl
                try simp only [Act.put, List.setIfInBounds_toArray, List.set_cons_zero, List.set_cons_succ]
                refine wpAnyH_ready (rs := [11, 15]) (by kernel_rfl) (by simp) ?_
                refine AllReadyH.cons (o := { dst := some 90, op := Op.call { callee := Callee.value (Operand.func 9), args := #[Operand.tmp 79, Operand.tmp 84, Operand.tmp 89], argTypes := #[25, 3, 3] }, type := 41, pos := "law.go:87", after := #[{ on := 0, ground := Ground.data }, { on := 5, ground := Ground.data }, { on := 10, ground := Ground.data }], guard := none }) rfl (fun K hK => ?_) ?_
                ·
                  go_simp
                  go_at_call 9
                  go_must (refine (RV.out _ drew_no).mono ?_)
                  rintro e x1 ⟨y, z, R', rfl, hst, hm, hf⟩
                  go_simp
                  have HN1 := hid (show Fr F w2 x1 from ((Fr.refl F w2).drew).trans' hf)
                  have HST := hid hst
                  have HM1 := hid hm
                  clear hst hm hf
                  refine hK.out _ _ ?_ (fun hH => ?_)
                  · exact HN1.out
                  clear hK K
                  try simp only [Act.put, List.setIfInBounds_toArray, List.set_cons_zero, List.set_cons_succ]
                  refine wpAnyH_take (i := 12) (oi := { dst := some 78, op := Op.move (Operand.tmp 90), type := 41, pos := "law.go:87", after := #[{ on := 11, ground := Ground.data }], guard := none }) (v := ?_) rfl (by kernel_rfl) (by kernel_rfl) (by kernel_rfl) (fun _ _ _ h => h) (Or.inl ⟨by rfl, ?_⟩) hH ?_
                  rotate_left
                  · intro w hSw; (try dsimp only at hSw); go_simp <;> with_reducible rfl
                  try simp only [Act.put, List.setIfInBounds_toArray, List.set_cons_zero, List.set_cons_succ]
                  refine wpAnyH_take (i := 13) (oi := { dst := some 91, op := Op.extract (Operand.tmp 78) 0, type := 40, pos := "law.go:87", after := #[{ on := 12, ground := Ground.data }], guard := none }) (v := ?_) rfl (by kernel_rfl) (by kernel_rfl) (by kernel_rfl) (fun _ _ _ h => h) (Or.inl ⟨by rfl, ?_⟩) hH ?_
                  rotate_left
                  · intro w hSw; (try dsimp only at hSw); go_simp <;> with_reducible rfl
                  try simp only [Act.put, List.setIfInBounds_toArray, List.set_cons_zero, List.set_cons_succ]
                  refine wpAnyH_take (i := 14) (oi := { dst := some 92, op := Op.extract (Operand.tmp 78) 1, type := 26, pos := "law.go:87", after := #[{ on := 12, ground := Ground.data }, { on := 16, ground := Ground.gcOnly Departure.lateStores }], guard := none }) (v := ?_) rfl (by kernel_rfl) (by kernel_rfl) (by kernel_rfl) (fun _ _ _ h => h) (Or.inl ⟨by rfl, ?_⟩) hH ?_
                  rotate_left
                  · intro w hSw; (try dsimp only at hSw); go_simp <;> with_reducible rfl
                  try simp only [Act.put, List.setIfInBounds_toArray, List.set_cons_zero, List.set_cons_succ]
                  refine wpAnyH_ready (rs := [15]) (by kernel_rfl) (by simp) ?_
                  refine AllReadyH.cons (o := { dst := some 9, op := Op.alloc 40, type := 0, pos := "law.go:87", after := #[], guard := none }) rfl (fun K hK => ?_) AllReadyH.nil
                  go_simp
                  refine genw (K := K) (fun x2 hx => ?_)
                  have f1 : Fr (fun _ => False) x1 x2 := by rw [hx]; exact (Fr.refl _ _).alloc _
                  have HY2 := hid (show x2.heap[x1.heap.size]? = some (.cells (encM noM).toArray 40 (0, 0)) by rw [hx]; exact heap_new _ _)
                  have HYL := hid (show w2.heap.size ≤ x1.heap.size from HN1.out.size)
                  have HN2 := hid (show Fr F w2 x2 from HN1.out.trans f1 (fun _ h => h) (fun _ _ e => e.elim))
                  have HM2 := hid (HM1.out.no f1)
                  clear f1 hx
                  refine hK.out _ _ ?_ (fun hH => ?_)
                  · exact HN2.out
                  clear hK K
                  try simp only [Act.put, List.setIfInBounds_toArray, List.set_cons_zero, List.set_cons_succ]
                  refine wpAnyH_ready (rs := [16]) (by kernel_rfl) (by simp) ?_
                  refine AllReadyH.cons (o := { dst := none, op := Op.store 40 (Operand.tmp 9) (Operand.tmp 91), type := 0, pos := "law.go:87", after := #[{ on := 15, ground := Ground.data }, { on := 13, ground := Ground.data }, { on := 11, ground := Ground.chain }, { on := 0, ground := Ground.phase }, { on := 1, ground := Ground.phase }, { on := 2, ground := Ground.phase }, { on := 3, ground := Ground.phase }, { on := 4, ground := Ground.phase }, { on := 5, ground := Ground.phase }, { on := 6, ground := Ground.phase }, { on := 7, ground := Ground.phase }, { on := 8, ground := Ground.phase }, { on := 9, ground := Ground.phase }, { on := 10, ground := Ground.phase }, { on := 11, ground := Ground.phase }, { on := 12, ground := Ground.phase }, { on := 13, ground := Ground.phase }, { on := 14, ground := Ground.textOnly Departure.lateStores }, { on := 15, ground := Ground.phase }], guard := none }) rfl (fun K hK => ?_) AllReadyH.nil
                  have TS : st 40 (.pointer (some ⟨x1.heap.size, 0, none⟩)) (msgV y) x2 = .ok .skip (World.setCells x2 (x1.heap.size) 0 (encM y)) := st_msg y (there_block (by exact HY2.out))
                  go_simp
                  clear TS
                  refine genw (K := K) (fun w5 hx => ?_)
                  have f2 : Fr (fun q => q = x1.heap.size) x2 w5 := by rw [hx]; exact Fr.setCells (S := fun q => q = x1.heap.size) (b := x1.heap.size) (fun _ => rfl) _ _ (Fr.refl _ _)
                  have HY5 := hid (show w5.heap[x1.heap.size]? = some (.cells (encM y).toArray _ (0, 0)) by rw [hx]; exact msg_over HY2.out y)
                  have HF5 := hid (show Fr F w2 w5 from HN2.out.trans f2 (fun _ h => h) (fun i hi e => by (have := HYL.out; omega)))
                  have HM5 := hid (HM2.out.fr f2 (fun i hi e => by (have := HFF.out i hi; have := HYL.out; omega)))
                  clear f2 hx
                  refine hK.out _ _ ?_ (fun hH => ?_)
                  · exact HF5.out
                  clear hK K
                  refine wpAnyH_take (i := 17) (oi := { dst := some 10, op := Op.assign (Operand.tmp 92), type := 26, pos := "law.go:87", after := #[{ on := 14, ground := Ground.data }, { on := 16, ground := Ground.chain }, { on := 0, ground := Ground.phase }, { on := 1, ground := Ground.phase }, { on := 2, ground := Ground.phase }, { on := 3, ground := Ground.phase }, { on := 4, ground := Ground.phase }, { on := 5, ground := Ground.phase }, { on := 6, ground := Ground.phase }, { on := 7, ground := Ground.phase }, { on := 8, ground := Ground.phase }, { on := 9, ground := Ground.phase }, { on := 10, ground := Ground.phase }, { on := 11, ground := Ground.phase }, { on := 12, ground := Ground.phase }, { on := 13, ground := Ground.phase }, { on := 14, ground := Ground.phase }, { on := 15, ground := Ground.phase }, { on := 16, ground := Ground.phase }], guard := none }) (v := ?_) rfl (by kernel_rfl) (by kernel_rfl) (by kernel_rfl) (fun _ _ _ h => h) (Or.inl ⟨by rfl, ?_⟩) hH ?_
                  rotate_left
                  · intro w hSw; (try dsimp only at hSw); go_simp <;> with_reducible rfl
                  try simp only [Act.put, List.setIfInBounds_toArray, List.set_cons_zero, List.set_cons_succ]
                  refine wpAnyH_done (by kernel_rfl) ?_ _
                  clear r1 r2 hH
                  go_wp2_with fail
                  go_meet
                  exact ⟨y, z, R', _, rfl, rfl, HST.out, HM5.out, HF5.out, HY5.out⟩
                refine AllReadyH.cons (o := { dst := some 9, op := Op.alloc 40, type := 0, pos := "law.go:87", after := #[], guard := none }) rfl (fun K hK => ?_) AllReadyH.nil
                go_simp
                refine genw (K := K) (fun x1 hx => ?_)
                have HP1 := hid (show Fr (fun _ => False) w2 x1 by rw [hx]; exact (drew_no).alloc _)
                have HY1 := hid (show x1.heap[w2.heap.size]? = some (.cells (encM noM).toArray 40 (0, 0)) by rw [hx]; exact heap_new _ _)
                clear hx
                refine hK.out _ _ ?_ (fun hH => ?_)
                · exact HP1.out.mono (fun _ _ e => e.elim)
                clear hK K
                try simp only [Act.put, List.setIfInBounds_toArray, List.set_cons_zero, List.set_cons_succ]
                refine wpAnyH_ready (rs := [11]) (by kernel_rfl) (by simp) ?_
                refine AllReadyH.cons (o := { dst := some 90, op := Op.call { callee := Callee.value (Operand.func 9), args := #[Operand.tmp 79, Operand.tmp 84, Operand.tmp 89], argTypes := #[25, 3, 3] }, type := 41, pos := "law.go:87", after := #[{ on := 0, ground := Ground.data }, { on := 5, ground := Ground.data }, { on := 10, ground := Ground.data }], guard := none }) rfl (fun K hK => ?_) AllReadyH.nil
                go_simp
                go_at_call 9
                go_must (refine (RV.out _ HP1.out).mono ?_)
                rintro e x2 ⟨y, z, R', rfl, hst, hm, hf⟩
                go_simp
                have HN2 := hid (show Fr F w2 x2 from (HP1.out.mono (fun _ _ e => e.elim)).trans' hf)
                have HY2 := hid (hf.heap HY1.out (fun e => by (have := HFF.out _ e; omega)))
                have HYL := hid (Nat.le_refl w2.heap.size)
                have HST := hid hst
                have HM2 := hid hm
                clear hst hm hf
                refine hK.out _ _ ?_ (fun hH => ?_)
                · exact HN2.out
                clear hK K
                try simp only [Act.put, List.setIfInBounds_toArray, List.set_cons_zero, List.set_cons_succ]
                refine wpAnyH_take (i := 12) (oi := { dst := some 78, op := Op.move (Operand.tmp 90), type := 41, pos := "law.go:87", after := #[{ on := 11, ground := Ground.data }], guard := none }) (v := ?_) rfl (by kernel_rfl) (by kernel_rfl) (by kernel_rfl) (fun _ _ _ h => h) (Or.inl ⟨by rfl, ?_⟩) hH ?_
                rotate_left
                · intro w hSw; (try dsimp only at hSw); go_simp <;> with_reducible rfl
                try simp only [Act.put, List.setIfInBounds_toArray, List.set_cons_zero, List.set_cons_succ]
                refine wpAnyH_take (i := 13) (oi := { dst := some 91, op := Op.extract (Operand.tmp 78) 0, type := 40, pos := "law.go:87", after := #[{ on := 12, ground := Ground.data }], guard := none }) (v := ?_) rfl (by kernel_rfl) (by kernel_rfl) (by kernel_rfl) (fun _ _ _ h => h) (Or.inl ⟨by rfl, ?_⟩) hH ?_
                rotate_left
                · intro w hSw; (try dsimp only at hSw); go_simp <;> with_reducible rfl
                try simp only [Act.put, List.setIfInBounds_toArray, List.set_cons_zero, List.set_cons_succ]
                refine wpAnyH_take (i := 14) (oi := { dst := some 92, op := Op.extract (Operand.tmp 78) 1, type := 26, pos := "law.go:87", after := #[{ on := 12, ground := Ground.data }, { on := 16, ground := Ground.gcOnly Departure.lateStores }], guard := none }) (v := ?_) rfl (by kernel_rfl) (by kernel_rfl) (by kernel_rfl) (fun _ _ _ h => h) (Or.inl ⟨by rfl, ?_⟩) hH ?_
                rotate_left
                · intro w hSw; (try dsimp only at hSw); go_simp <;> with_reducible rfl
                try simp only [Act.put, List.setIfInBounds_toArray, List.set_cons_zero, List.set_cons_succ]
                refine wpAnyH_ready (rs := [16]) (by kernel_rfl) (by simp) ?_
                refine AllReadyH.cons (o := { dst := none, op := Op.store 40 (Operand.tmp 9) (Operand.tmp 91), type := 0, pos := "law.go:87", after := #[{ on := 15, ground := Ground.data }, { on := 13, ground := Ground.data }, { on := 11, ground := Ground.chain }, { on := 0, ground := Ground.phase }, { on := 1, ground := Ground.phase }, { on := 2, ground := Ground.phase }, { on := 3, ground := Ground.phase }, { on := 4, ground := Ground.phase }, { on := 5, ground := Ground.phase }, { on := 6, ground := Ground.phase }, { on := 7, ground := Ground.phase }, { on := 8, ground := Ground.phase }, { on := 9, ground := Ground.phase }, { on := 10, ground := Ground.phase }, { on := 11, ground := Ground.phase }, { on := 12, ground := Ground.phase }, { on := 13, ground := Ground.phase }, { on := 14, ground := Ground.textOnly Departure.lateStores }, { on := 15, ground := Ground.phase }], guard := none }) rfl (fun K hK => ?_) AllReadyH.nil
                have TS : st 40 (.pointer (some ⟨w2.heap.size, 0, none⟩)) (msgV y) x2 = .ok .skip (World.setCells x2 (w2.heap.size) 0 (encM y)) := st_msg y (there_block (by exact HY2.out))
                go_simp
                clear TS
                refine genw (K := K) (fun w5 hx => ?_)
                have f2 : Fr (fun q => q = w2.heap.size) x2 w5 := by rw [hx]; exact Fr.setCells (S := fun q => q = w2.heap.size) (b := w2.heap.size) (fun _ => rfl) _ _ (Fr.refl _ _)
                have HY5 := hid (show w5.heap[w2.heap.size]? = some (.cells (encM y).toArray _ (0, 0)) by rw [hx]; exact msg_over HY2.out y)
                have HF5 := hid (show Fr F w2 w5 from HN2.out.trans f2 (fun _ h => h) (fun i hi e => by (have := HYL.out; omega)))
                have HM5 := hid (HM2.out.fr f2 (fun i hi e => by (have := HFF.out i hi; have := HYL.out; omega)))
                clear f2 hx
                refine hK.out _ _ ?_ (fun hH => ?_)
                · exact HF5.out
                clear hK K
                refine wpAnyH_take (i := 17) (oi := { dst := some 10, op := Op.assign (Operand.tmp 92), type := 26, pos := "law.go:87", after := #[{ on := 14, ground := Ground.data }, { on := 16, ground := Ground.chain }, { on := 0, ground := Ground.phase }, { on := 1, ground := Ground.phase }, { on := 2, ground := Ground.phase }, { on := 3, ground := Ground.phase }, { on := 4, ground := Ground.phase }, { on := 5, ground := Ground.phase }, { on := 6, ground := Ground.phase }, { on := 7, ground := Ground.phase }, { on := 8, ground := Ground.phase }, { on := 9, ground := Ground.phase }, { on := 10, ground := Ground.phase }, { on := 11, ground := Ground.phase }, { on := 12, ground := Ground.phase }, { on := 13, ground := Ground.phase }, { on := 14, ground := Ground.phase }, { on := 15, ground := Ground.phase }, { on := 16, ground := Ground.phase }], guard := none }) (v := ?_) rfl (by kernel_rfl) (by kernel_rfl) (by kernel_rfl) (fun _ _ _ h => h) (Or.inl ⟨by rfl, ?_⟩) hH ?_
                rotate_left
                · intro w hSw; (try dsimp only at hSw); go_simp <;> with_reducible rfl
                try simp only [Act.put, List.setIfInBounds_toArray, List.set_cons_zero, List.set_cons_succ]
                refine wpAnyH_done (by kernel_rfl) ?_ _
                clear r1 r2 hH
                go_wp2_with fail
                go_meet
                exact ⟨y, z, R', _, rfl, rfl, HST.out, HM5.out, HF5.out, HY5.out⟩
            case rest =>
              obtain ⟨y, z, R', y9, rfl, rfl, hst, hm5, hf5, hy5⟩ := hcut
              obtain ⟨w5, hw5⟩ : ∃ w5, w5 = wc := ⟨_, rfl⟩
              rw [← hw5] at hm5 hf5 hy5 ⊢
              have HST := hid hst
              have HM5 := hid hm5
              have HF5 := hid hf5
              have HY5 := hid hy5
              clear hst hm5 hy5 r1 r2 hw5
              have hblk5 := hf5.heap D2.out.blk hFp
              have HBL5 := hid hblk5
              have b0 : ∀ w', Fr (fun _ => False) w5 w' → w'.cell? ⟨pc, 0, none⟩ = some (.int .i64 W) := fun w' hf => hf.cell (cell_of HBL5.out 0 rfl) (fun e => e)
              have b1 : ∀ w', Fr (fun _ => False) w5 w' → w'.cell? ⟨pc, 1, none⟩ = some (.int .i64 most) := fun w' hf => hf.cell (cell_of HBL5.out 1 rfl) (fun e => e)
              have b2 : ∀ w', Fr (fun _ => False) w5 w' → w'.cell? ⟨pc, 2, none⟩ = some (.slice sa sn sk) := fun w' hf => hf.cell (cell_of HBL5.out 2 rfl) (fun e => e)
              have r1 : ∀ w', Fr (fun _ => False) w5 w' → w'.cell? ⟨g, o + k * 4 + 1, none⟩ = some (.int .i64 xa) := fun w' hf => hf.cell (HF5.out.cell (hrx.out w2 D2.out.bel 1 _ rfl) hFg) (fun e => e)
              have r2 : ∀ w', Fr (fun _ => False) w5 w' → w'.cell? ⟨g, o + k * 4 + 2, none⟩ = some (.int .i64 xb) := fun w' hf => hf.cell (HF5.out.cell (hrx.out w2 D2.out.bel 2 _ rfl) hFg) (fun e => e)
              have RR := hid (fun w' (hf : Fr (fun _ => False) w5 w') => refRecv_any (cap := most) (W := W) ((D2.out.row.fr HF5.out (fun i e => (D2.out.rb i e).1)).fr hf (fun _ _ e => e)) (by omega) xa xb)
              have HRL := hid (show ∀ i, (Value.slice sa sn sk).ownBlock = some i → i < w5.heap.size from fun i e => Nat.lt_of_lt_of_le (D2.out.row.lt i e) HF5.out.size)
              conv at RR => unfold rmV
              have HN0 := hid (Fr.refl (fun _ => False) w5)
              clear hblk5 RV hf5
              go_upto_region 16 with fail
              go_cut [11, 12, 13] (fun u v c wx => C16 w5 W most sa sn sk A xa xb u v c wx)
              case first =>
                as_aux_lemma =>
                  refine wp_region_held_drew (S := (fun w' => Fr (fun _ => False) w5 w')) (by kernel_rfl) ?_ (fun hH => ?_)
                  · exact drew_no
                  refine wpAnyH_take (i := 0) (oi := { dst := some 94, op := Op.load 32 (Operand.tmp 7), type := 32, pos := "law.go:88", after := #[], guard := none }) (v := ?_) rfl (by kernel_rfl) (by kernel_rfl) (by kernel_rfl) (fun _ _ _ h => h) (Or.inl ⟨by rfl, ?_⟩) hH ?_
                  rotate_left
                  · intro w hSw; (try dsimp only at hSw); go_simp <;> with_reducible rfl
                  try simp only [Act.put, List.setIfInBounds_toArray, List.set_cons_zero, List.set_cons_succ]
                  refine wpAnyH_take (i := 1) (oi := { dst := some 95, op := Op.move (Operand.tmp 1), type := 23, pos := "law.go:88", after := #[], guard := none }) (v := ?_) rfl (by kernel_rfl) (by kernel_rfl) (by kernel_rfl) (fun _ _ _ h => h) (Or.inl ⟨by rfl, ?_⟩) hH ?_
                  rotate_left
                  · intro w hSw; (try dsimp only at hSw); go_simp <;> with_reducible rfl
                  try simp only [Act.put, List.setIfInBounds_toArray, List.set_cons_zero, List.set_cons_succ]
                  refine wpAnyH_take (i := 2) (oi := { dst := some 96, op := Op.move (Operand.tmp 8), type := 3, pos := "law.go:88", after := #[], guard := none }) (v := ?_) rfl (by kernel_rfl) (by kernel_rfl) (by kernel_rfl) (fun _ _ _ h => h) (Or.inl ⟨by rfl, ?_⟩) hH ?_
                  rotate_left
                  · intro w hSw; (try dsimp only at hSw); go_simp <;> with_reducible rfl
                  try simp only [Act.put, List.setIfInBounds_toArray, List.set_cons_zero, List.set_cons_succ]
                  refine wpAnyH_take (i := 3) (oi := { dst := some 97, op := Op.indexAddr 23 (Operand.tmp 95) (Operand.tmp 96), type := 0, pos := "law.go:88", after := #[{ on := 1, ground := Ground.data }, { on := 2, ground := Ground.data }], guard := none }) (v := ?_) rfl (by kernel_rfl) (by kernel_rfl) (by kernel_rfl) (fun _ _ _ h => h) (Or.inl ⟨by rfl, ?_⟩) hH ?_
                  rotate_left
                  · intro w hSw; (try dsimp only at hSw); go_simp <;> with_reducible rfl
                  try simp only [Act.put, List.setIfInBounds_toArray, List.set_cons_zero, List.set_cons_succ]
                  refine wpAnyH_take (i := 4) (oi := { dst := some 98, op := Op.fieldAddr 35 (Operand.tmp 97) 1, type := 0, pos := "law.go:88", after := #[{ on := 3, ground := Ground.data }], guard := none }) (v := ?_) rfl (by kernel_rfl) (by kernel_rfl) (by kernel_rfl) (fun _ _ _ h => h) (Or.inl ⟨by rfl, ?_⟩) hH ?_
                  rotate_left
                  · intro w hSw; (try dsimp only at hSw); go_simp <;> with_reducible rfl
                  try simp only [Act.put, List.setIfInBounds_toArray, List.set_cons_zero, List.set_cons_succ]
                  refine wpAnyH_take (i := 5) (oi := { dst := some 99, op := Op.load 3 (Operand.tmp 98), type := 3, pos := "law.go:88", after := #[{ on := 4, ground := Ground.data }], guard := none }) (v := ?_) rfl (by kernel_rfl) (by kernel_rfl) (by kernel_rfl) (fun _ _ _ h => h) (Or.inl ⟨by rfl, ?_⟩) hH ?_
                  rotate_left
                  · intro w hSw; (try dsimp only at hSw); go_simp <;> with_reducible rfl
                  try simp only [Act.put, List.setIfInBounds_toArray, List.set_cons_zero, List.set_cons_succ]
                  refine wpAnyH_take (i := 6) (oi := { dst := some 100, op := Op.move (Operand.tmp 1), type := 23, pos := "law.go:88", after := #[], guard := none }) (v := ?_) rfl (by kernel_rfl) (by kernel_rfl) (by kernel_rfl) (fun _ _ _ h => h) (Or.inl ⟨by rfl, ?_⟩) hH ?_
                  rotate_left
                  · intro w hSw; (try dsimp only at hSw); go_simp <;> with_reducible rfl
                  try simp only [Act.put, List.setIfInBounds_toArray, List.set_cons_zero, List.set_cons_succ]
                  refine wpAnyH_take (i := 7) (oi := { dst := some 101, op := Op.move (Operand.tmp 8), type := 3, pos := "law.go:88", after := #[], guard := none }) (v := ?_) rfl (by kernel_rfl) (by kernel_rfl) (by kernel_rfl) (fun _ _ _ h => h) (Or.inl ⟨by rfl, ?_⟩) hH ?_
                  rotate_left
                  · intro w hSw; (try dsimp only at hSw); go_simp <;> with_reducible rfl
                  try simp only [Act.put, List.setIfInBounds_toArray, List.set_cons_zero, List.set_cons_succ]
                  refine wpAnyH_take (i := 8) (oi := { dst := some 102, op := Op.indexAddr 23 (Operand.tmp 100) (Operand.tmp 101), type := 0, pos := "law.go:88", after := #[{ on := 6, ground := Ground.data }, { on := 7, ground := Ground.data }], guard := none }) (v := ?_) rfl (by kernel_rfl) (by kernel_rfl) (by kernel_rfl) (fun _ _ _ h => h) (Or.inl ⟨by rfl, ?_⟩) hH ?_
                  rotate_left
                  · intro w hSw; (try dsimp only at hSw); go_simp <;> with_reducible rfl
                  try simp only [Act.put, List.setIfInBounds_toArray, List.set_cons_zero, List.set_cons_succ]
                  refine wpAnyH_take (i := 9) (oi := { dst := some 103, op := Op.fieldAddr 35 (Operand.tmp 102) 2, type := 0, pos := "law.go:88", after := #[{ on := 8, ground := Ground.data }], guard := none }) (v := ?_) rfl (by kernel_rfl) (by kernel_rfl) (by kernel_rfl) (fun _ _ _ h => h) (Or.inl ⟨by rfl, ?_⟩) hH ?_
                  rotate_left
                  · intro w hSw; (try dsimp only at hSw); go_simp <;> with_reducible rfl
                  try simp only [Act.put, List.setIfInBounds_toArray, List.set_cons_zero, List.set_cons_succ]
                  refine wpAnyH_take (i := 10) (oi := { dst := some 104, op := Op.load 3 (Operand.tmp 103), type := 3, pos := "law.go:88", after := #[{ on := 9, ground := Ground.data }], guard := none }) (v := ?_) rfl (by kernel_rfl) (by kernel_rfl) (by kernel_rfl) (fun _ _ _ h => h) (Or.inl ⟨by rfl, ?_⟩) hH ?_
                  rotate_left
                  · intro w hSw; (try dsimp only at hSw); go_simp <;> with_reducible rfl
                  try simp only [Act.put, List.setIfInBounds_toArray, List.set_cons_zero, List.set_cons_succ]
                  refine wpAnyH_ready (rs := [11, 16, 17]) (by kernel_rfl) (by simp) ?_
                  refine AllReadyH.cons (o := { dst := some 105, op := Op.call { callee := Callee.value (Operand.func 10), args := #[Operand.tmp 94, Operand.tmp 99, Operand.tmp 104], argTypes := #[32, 3, 3] }, type := 48, pos := "law.go:88", after := #[{ on := 0, ground := Ground.data }, { on := 5, ground := Ground.data }, { on := 10, ground := Ground.data }], guard := none }) rfl (fun K hK => ?_) ?_
                  ·
                    go_simp
                    go_at_call 10
                    go_must (refine (RR.out _ hH).mono ?_)
                    rintro e x1 ⟨y', z', s', n', k', A', rfl, hst', hrow, hfc, hnew⟩
                    go_simp
                    have HN1 := hid (show Fr (fun _ => False) w5 x1 from hH.trans' hfc)
                    have HROW1 := hid hrow
                    have HST' := hid hst'
                    have HNW := hid (show NewRow w5 sa sn sk s' n' k' from fun i e => (hnew i e).imp (fun h => h) (fun h => Nat.le_trans hH.size h))
                    clear hrow hst' hnew hfc
                    refine hK.out _ _ ?_ (fun hH => ?_)
                    · exact HN1.out
                    clear hK K
                    try simp only [Act.put, List.setIfInBounds_toArray, List.set_cons_zero, List.set_cons_succ]
                    refine wpAnyH_take (i := 12) (oi := { dst := some 93, op := Op.move (Operand.tmp 105), type := 48, pos := "law.go:88", after := #[{ on := 11, ground := Ground.data }], guard := none }) (v := ?_) rfl (by kernel_rfl) (by kernel_rfl) (by kernel_rfl) (fun _ _ _ h => h) (Or.inl ⟨by rfl, ?_⟩) hH ?_
                    rotate_left
                    · intro w hSw; (try dsimp only at hSw); go_simp <;> with_reducible rfl
                    try simp only [Act.put, List.setIfInBounds_toArray, List.set_cons_zero, List.set_cons_succ]
                    refine wpAnyH_take (i := 13) (oi := { dst := some 106, op := Op.extract (Operand.tmp 93) 0, type := 47, pos := "law.go:88", after := #[{ on := 12, ground := Ground.data }], guard := none }) (v := ?_) rfl (by kernel_rfl) (by kernel_rfl) (by kernel_rfl) (fun _ _ _ h => h) (Or.inl ⟨by rfl, ?_⟩) hH ?_
                    rotate_left
                    · intro w hSw; (try dsimp only at hSw); go_simp <;> with_reducible rfl
                    try simp only [Act.put, List.setIfInBounds_toArray, List.set_cons_zero, List.set_cons_succ]
                    refine wpAnyH_take (i := 14) (oi := { dst := some 107, op := Op.extract (Operand.tmp 93) 1, type := 32, pos := "law.go:88", after := #[{ on := 12, ground := Ground.data }, { on := 18, ground := Ground.gcOnly Departure.lateStores }], guard := none }) (v := ?_) rfl (by kernel_rfl) (by kernel_rfl) (by kernel_rfl) (fun _ _ _ h => h) (Or.inl ⟨by rfl, ?_⟩) hH ?_
                    rotate_left
                    · intro w hSw; (try dsimp only at hSw); go_simp <;> with_reducible rfl
                    try simp only [Act.put, List.setIfInBounds_toArray, List.set_cons_zero, List.set_cons_succ]
                    refine wpAnyH_take (i := 15) (oi := { dst := some 108, op := Op.extract (Operand.tmp 93) 2, type := 3, pos := "law.go:88", after := #[{ on := 12, ground := Ground.data }, { on := 19, ground := Ground.gcOnly Departure.lateStores }], guard := none }) (v := ?_) rfl (by kernel_rfl) (by kernel_rfl) (by kernel_rfl) (fun _ _ _ h => h) (Or.inl ⟨by rfl, ?_⟩) hH ?_
                    rotate_left
                    · intro w hSw; (try dsimp only at hSw); go_simp <;> with_reducible rfl
                    try simp only [Act.put, List.setIfInBounds_toArray, List.set_cons_zero, List.set_cons_succ]
                    refine wpAnyH_ready (rs := [16, 17]) (by kernel_rfl) (by simp) ?_
                    refine AllReadyH.cons (o := { dst := some 11, op := Op.alloc 47, type := 0, pos := "law.go:88", after := #[], guard := none }) rfl (fun K hK => ?_) ?_
                    ·
                      go_simp
                      refine genw (K := K) (fun x2 hx => ?_)
                      have f1 : Fr (fun _ => False) x1 x2 := by rw [hx]; first | exact (Fr.refl _ _).alloc _ | exact ((Fr.refl _ _).drew).alloc _ | exact ((Fr.refl _ _).drewN _).alloc _
                      have HA2 := hid (show x2.heap[x1.heap.size]? = some (.cells (encM noM).toArray 47 (0, 0)) by rw [hx]; exact heap_new _ _)
                      clear hx
                      have HAL := hid (show w5.heap.size ≤ x1.heap.size from HN1.out.size)
                      have HN2 := hid (HN1.out.trans' f1)
                      have HNA := hid (show ∀ i, (Value.slice s' n' k').ownBlock = some i → i ≠ x1.heap.size from fun i e => by (have := HROW1.out.lt i e; omega))
                      have HROW2 := hid (HROW1.out.fr f1 (fun _ _ e => e))
                      clear f1
                      refine hK.out _ _ ?_ (fun hH => ?_)
                      · exact HN2.out
                      clear hK K
                      try simp only [Act.put, List.setIfInBounds_toArray, List.set_cons_zero, List.set_cons_succ]
                      refine wpAnyH_ready (rs := [17]) (by kernel_rfl) (by simp) ?_
                      refine AllReadyH.cons (o := { dst := some 12, op := Op.alloc 32, type := 0, pos := "law.go:88", after := #[], guard := none }) rfl (fun K hK => ?_) AllReadyH.nil
                      go_simp
                      refine genw (K := K) (fun x3 hx => ?_)
                      have f2 : Fr (fun _ => False) x2 x3 := by rw [hx]; first | exact (Fr.refl _ _).alloc _ | exact ((Fr.refl _ _).drew).alloc _ | exact ((Fr.refl _ _).drewN _).alloc _
                      have HB3 := hid (show x3.heap[x2.heap.size]? = some (.cells (encR 0 0 none 0 0).toArray 32 (0, 0)) by rw [hx]; exact heap_new _ _)
                      clear hx
                      have HBL := hid (show w5.heap.size ≤ x2.heap.size from HN2.out.size)
                      have HN3 := hid (HN2.out.trans' f2)
                      have HNB := hid (show ∀ i, (Value.slice s' n' k').ownBlock = some i → i ≠ x2.heap.size from fun i e => by (have := HROW2.out.lt i e; omega))
                      have HAB := hid (show x1.heap.size ≠ x2.heap.size by have := lt_of_block HA2.out; omega)
                      have HA3 := hid (Fr.heap f2 HA2.out (fun e => e))
                      have HROW3 := hid (HROW2.out.fr f2 (fun _ _ e => e))
                      clear f2
                      refine hK.out _ _ ?_ (fun hH => ?_)
                      · exact HN3.out
                      clear hK K
                      try simp only [Act.put, List.setIfInBounds_toArray, List.set_cons_zero, List.set_cons_succ]
                      refine wpAnyH_ready (rs := [18]) (by kernel_rfl) (by simp) ?_
                      refine AllReadyH.cons (o := { dst := none, op := Op.store 47 (Operand.tmp 11) (Operand.tmp 106), type := 0, pos := "law.go:88", after := #[{ on := 16, ground := Ground.data }, { on := 13, ground := Ground.data }, { on := 11, ground := Ground.chain }, { on := 0, ground := Ground.phase }, { on := 1, ground := Ground.phase }, { on := 2, ground := Ground.phase }, { on := 3, ground := Ground.phase }, { on := 4, ground := Ground.phase }, { on := 5, ground := Ground.phase }, { on := 6, ground := Ground.phase }, { on := 7, ground := Ground.phase }, { on := 8, ground := Ground.phase }, { on := 9, ground := Ground.phase }, { on := 10, ground := Ground.phase }, { on := 11, ground := Ground.phase }, { on := 12, ground := Ground.phase }, { on := 13, ground := Ground.phase }, { on := 14, ground := Ground.textOnly Departure.lateStores }, { on := 15, ground := Ground.textOnly Departure.lateStores }, { on := 16, ground := Ground.phase }, { on := 17, ground := Ground.phase }], guard := none }) rfl (fun K hK => ?_) AllReadyH.nil
                      have TS : st 47 (.pointer (some ⟨x1.heap.size, 0, none⟩)) (msgV y') x3 = .ok .skip (World.setCells x3 (x1.heap.size) 0 (encM y')) := st_rmsg y' (there_block (by exact HA3.out))
                      go_simp
                      clear TS
                      refine genw (K := K) (fun x4 hx => ?_)
                      have f3 : Fr (fun q => q = x1.heap.size) x3 x4 := by rw [hx]; exact Fr.setCells (S := fun q => q = x1.heap.size) (b := x1.heap.size) (fun _ => rfl) _ _ (Fr.refl _ _)
                      have HA4 := hid (show x4.heap[x1.heap.size]? = some (.cells (encM y').toArray _ (0, 0)) by rw [hx]; exact msg_over HA3.out y')
                      clear hx
                      have HN4 := hid (show Fr (fun _ => False) w5 x4 from HN3.out.trans f3 (fun _ h => h) (fun i hi e => by (have := HAL.out; omega)))
                      have HB4 := hid (f3.heap HB3.out (by have := HAB.out; omega))
                      have HROW4 := hid (HROW3.out.fr f3 (fun i e => HNA.out i e))
                      clear f3
                      refine hK.out _ _ ?_ (fun hH => ?_)
                      · exact HN4.out
                      clear hK K
                      refine wpAnyH_ready (rs := [19]) (by kernel_rfl) (by simp) ?_
                      refine AllReadyH.cons (o := { dst := none, op := Op.store 32 (Operand.tmp 12) (Operand.tmp 107), type := 0, pos := "law.go:88", after := #[{ on := 17, ground := Ground.data }, { on := 14, ground := Ground.data }, { on := 18, ground := Ground.chain }, { on := 0, ground := Ground.phase }, { on := 1, ground := Ground.phase }, { on := 2, ground := Ground.phase }, { on := 3, ground := Ground.phase }, { on := 4, ground := Ground.phase }, { on := 5, ground := Ground.phase }, { on := 6, ground := Ground.phase }, { on := 7, ground := Ground.phase }, { on := 8, ground := Ground.phase }, { on := 9, ground := Ground.phase }, { on := 10, ground := Ground.phase }, { on := 11, ground := Ground.phase }, { on := 12, ground := Ground.phase }, { on := 13, ground := Ground.phase }, { on := 14, ground := Ground.phase }, { on := 15, ground := Ground.textOnly Departure.lateStores }, { on := 16, ground := Ground.phase }, { on := 17, ground := Ground.phase }, { on := 18, ground := Ground.phase }], guard := none }) rfl (fun K hK => ?_) AllReadyH.nil
                      have TS : st 32 (.pointer (some ⟨x2.heap.size, 0, none⟩)) (rmV W most (.slice s' n' k')) x4 = .ok .skip (World.setCells x4 (x2.heap.size) 0 (encR W most s' n' k')) := st_rm W most s' n' k' (there_rm (by exact HB4.out))
                      go_simp
                      clear TS
                      refine genw (K := K) (fun x5 hx => ?_)
                      have f4 : Fr (fun q => q = x2.heap.size) x4 x5 := by rw [hx]; exact Fr.setCells (S := fun q => q = x2.heap.size) (b := x2.heap.size) (fun _ => rfl) _ _ (Fr.refl _ _)
                      have HB5 := hid (show x5.heap[x2.heap.size]? = some (.cells (encR W most s' n' k').toArray _ (0, 0)) by rw [hx]; exact encR_put (W' := W) (c' := most) (s' := s') (n' := n') (k' := k') HB4.out)
                      clear hx
                      have HN5 := hid (show Fr (fun _ => False) w5 x5 from HN4.out.trans f4 (fun _ h => h) (fun i hi e => by (have := HBL.out; omega)))
                      have HA5 := hid (f4.heap HA4.out (by have := HAB.out; omega))
                      have HROW5 := hid (HROW4.out.fr f4 (fun i e => HNB.out i e))
                      clear f4
                      refine hK.out _ _ ?_ (fun hH => ?_)
                      · exact HN5.out
                      clear hK K
                      refine wpAnyH_take (i := 20) (oi := { dst := some 13, op := Op.assign (Operand.tmp 108), type := 3, pos := "law.go:88", after := #[{ on := 15, ground := Ground.data }, { on := 19, ground := Ground.chain }, { on := 0, ground := Ground.phase }, { on := 1, ground := Ground.phase }, { on := 2, ground := Ground.phase }, { on := 3, ground := Ground.phase }, { on := 4, ground := Ground.phase }, { on := 5, ground := Ground.phase }, { on := 6, ground := Ground.phase }, { on := 7, ground := Ground.phase }, { on := 8, ground := Ground.phase }, { on := 9, ground := Ground.phase }, { on := 10, ground := Ground.phase }, { on := 11, ground := Ground.phase }, { on := 12, ground := Ground.phase }, { on := 13, ground := Ground.phase }, { on := 14, ground := Ground.phase }, { on := 15, ground := Ground.phase }, { on := 16, ground := Ground.phase }, { on := 17, ground := Ground.phase }, { on := 18, ground := Ground.phase }, { on := 19, ground := Ground.phase }], guard := none }) (v := ?_) rfl (by kernel_rfl) (by kernel_rfl) (by kernel_rfl) (fun _ _ _ h => h) (Or.inl ⟨by rfl, ?_⟩) hH ?_
                      rotate_left
                      · intro w hSw; (try dsimp only at hSw); go_simp <;> with_reducible rfl
                      try simp only [Act.put, List.setIfInBounds_toArray, List.set_cons_zero, List.set_cons_succ]
                      refine wpAnyH_done (by kernel_rfl) ?_ _
                      clear b0 b1 b2 r1 r2 hH
                      go_wp2_with fail
                      go_meet
                      exact ⟨y', z', s', n', k', A', _, _, rfl, rfl, rfl, HST'.out, HROW5.out, HN5.out, HNW.out, HA5.out, HB5.out⟩
                    refine AllReadyH.cons (o := { dst := some 12, op := Op.alloc 32, type := 0, pos := "law.go:88", after := #[], guard := none }) rfl (fun K hK => ?_) AllReadyH.nil
                    go_simp
                    refine genw (K := K) (fun x2 hx => ?_)
                    have f1 : Fr (fun _ => False) x1 x2 := by rw [hx]; first | exact (Fr.refl _ _).alloc _ | exact ((Fr.refl _ _).drew).alloc _ | exact ((Fr.refl _ _).drewN _).alloc _
                    have HB2 := hid (show x2.heap[x1.heap.size]? = some (.cells (encR 0 0 none 0 0).toArray 32 (0, 0)) by rw [hx]; exact heap_new _ _)
                    clear hx
                    have HBL := hid (show w5.heap.size ≤ x1.heap.size from HN1.out.size)
                    have HN2 := hid (HN1.out.trans' f1)
                    have HNB := hid (show ∀ i, (Value.slice s' n' k').ownBlock = some i → i ≠ x1.heap.size from fun i e => by (have := HROW1.out.lt i e; omega))
                    have HROW2 := hid (HROW1.out.fr f1 (fun _ _ e => e))
                    clear f1
                    refine hK.out _ _ ?_ (fun hH => ?_)
                    · exact HN2.out
                    clear hK K
                    try simp only [Act.put, List.setIfInBounds_toArray, List.set_cons_zero, List.set_cons_succ]
                    refine wpAnyH_ready (rs := [16]) (by kernel_rfl) (by simp) ?_
                    refine AllReadyH.cons (o := { dst := some 11, op := Op.alloc 47, type := 0, pos := "law.go:88", after := #[], guard := none }) rfl (fun K hK => ?_) AllReadyH.nil
                    go_simp
                    refine genw (K := K) (fun x3 hx => ?_)
                    have f2 : Fr (fun _ => False) x2 x3 := by rw [hx]; first | exact (Fr.refl _ _).alloc _ | exact ((Fr.refl _ _).drew).alloc _ | exact ((Fr.refl _ _).drewN _).alloc _
                    have HA3 := hid (show x3.heap[x2.heap.size]? = some (.cells (encM noM).toArray 47 (0, 0)) by rw [hx]; exact heap_new _ _)
                    clear hx
                    have HAL := hid (show w5.heap.size ≤ x2.heap.size from HN2.out.size)
                    have HN3 := hid (HN2.out.trans' f2)
                    have HNA := hid (show ∀ i, (Value.slice s' n' k').ownBlock = some i → i ≠ x2.heap.size from fun i e => by (have := HROW2.out.lt i e; omega))
                    have HAB := hid (show x1.heap.size ≠ x2.heap.size by have := lt_of_block HB2.out; omega)
                    have HB3 := hid (Fr.heap f2 HB2.out (fun e => e))
                    have HROW3 := hid (HROW2.out.fr f2 (fun _ _ e => e))
                    clear f2
                    refine hK.out _ _ ?_ (fun hH => ?_)
                    · exact HN3.out
                    clear hK K
                    try simp only [Act.put, List.setIfInBounds_toArray, List.set_cons_zero, List.set_cons_succ]
                    refine wpAnyH_ready (rs := [18]) (by kernel_rfl) (by simp) ?_
                    refine AllReadyH.cons (o := { dst := none, op := Op.store 47 (Operand.tmp 11) (Operand.tmp 106), type := 0, pos := "law.go:88", after := #[{ on := 16, ground := Ground.data }, { on := 13, ground := Ground.data }, { on := 11, ground := Ground.chain }, { on := 0, ground := Ground.phase }, { on := 1, ground := Ground.phase }, { on := 2, ground := Ground.phase }, { on := 3, ground := Ground.phase }, { on := 4, ground := Ground.phase }, { on := 5, ground := Ground.phase }, { on := 6, ground := Ground.phase }, { on := 7, ground := Ground.phase }, { on := 8, ground := Ground.phase }, { on := 9, ground := Ground.phase }, { on := 10, ground := Ground.phase }, { on := 11, ground := Ground.phase }, { on := 12, ground := Ground.phase }, { on := 13, ground := Ground.phase }, { on := 14, ground := Ground.textOnly Departure.lateStores }, { on := 15, ground := Ground.textOnly Departure.lateStores }, { on := 16, ground := Ground.phase }, { on := 17, ground := Ground.phase }], guard := none }) rfl (fun K hK => ?_) AllReadyH.nil
                    have TS : st 47 (.pointer (some ⟨x2.heap.size, 0, none⟩)) (msgV y') x3 = .ok .skip (World.setCells x3 (x2.heap.size) 0 (encM y')) := st_rmsg y' (there_block (by exact HA3.out))
                    go_simp
                    clear TS
                    refine genw (K := K) (fun x4 hx => ?_)
                    have f3 : Fr (fun q => q = x2.heap.size) x3 x4 := by rw [hx]; exact Fr.setCells (S := fun q => q = x2.heap.size) (b := x2.heap.size) (fun _ => rfl) _ _ (Fr.refl _ _)
                    have HA4 := hid (show x4.heap[x2.heap.size]? = some (.cells (encM y').toArray _ (0, 0)) by rw [hx]; exact msg_over HA3.out y')
                    clear hx
                    have HN4 := hid (show Fr (fun _ => False) w5 x4 from HN3.out.trans f3 (fun _ h => h) (fun i hi e => by (have := HAL.out; omega)))
                    have HB4 := hid (f3.heap HB3.out (by have := HAB.out; omega))
                    have HROW4 := hid (HROW3.out.fr f3 (fun i e => HNA.out i e))
                    clear f3
                    refine hK.out _ _ ?_ (fun hH => ?_)
                    · exact HN4.out
                    clear hK K
                    refine wpAnyH_ready (rs := [19]) (by kernel_rfl) (by simp) ?_
                    refine AllReadyH.cons (o := { dst := none, op := Op.store 32 (Operand.tmp 12) (Operand.tmp 107), type := 0, pos := "law.go:88", after := #[{ on := 17, ground := Ground.data }, { on := 14, ground := Ground.data }, { on := 18, ground := Ground.chain }, { on := 0, ground := Ground.phase }, { on := 1, ground := Ground.phase }, { on := 2, ground := Ground.phase }, { on := 3, ground := Ground.phase }, { on := 4, ground := Ground.phase }, { on := 5, ground := Ground.phase }, { on := 6, ground := Ground.phase }, { on := 7, ground := Ground.phase }, { on := 8, ground := Ground.phase }, { on := 9, ground := Ground.phase }, { on := 10, ground := Ground.phase }, { on := 11, ground := Ground.phase }, { on := 12, ground := Ground.phase }, { on := 13, ground := Ground.phase }, { on := 14, ground := Ground.phase }, { on := 15, ground := Ground.textOnly Departure.lateStores }, { on := 16, ground := Ground.phase }, { on := 17, ground := Ground.phase }, { on := 18, ground := Ground.phase }], guard := none }) rfl (fun K hK => ?_) AllReadyH.nil
                    have TS : st 32 (.pointer (some ⟨x1.heap.size, 0, none⟩)) (rmV W most (.slice s' n' k')) x4 = .ok .skip (World.setCells x4 (x1.heap.size) 0 (encR W most s' n' k')) := st_rm W most s' n' k' (there_rm (by exact HB4.out))
                    go_simp
                    clear TS
                    refine genw (K := K) (fun x5 hx => ?_)
                    have f4 : Fr (fun q => q = x1.heap.size) x4 x5 := by rw [hx]; exact Fr.setCells (S := fun q => q = x1.heap.size) (b := x1.heap.size) (fun _ => rfl) _ _ (Fr.refl _ _)
                    have HB5 := hid (show x5.heap[x1.heap.size]? = some (.cells (encR W most s' n' k').toArray _ (0, 0)) by rw [hx]; exact encR_put (W' := W) (c' := most) (s' := s') (n' := n') (k' := k') HB4.out)
                    clear hx
                    have HN5 := hid (show Fr (fun _ => False) w5 x5 from HN4.out.trans f4 (fun _ h => h) (fun i hi e => by (have := HBL.out; omega)))
                    have HA5 := hid (f4.heap HA4.out (by have := HAB.out; omega))
                    have HROW5 := hid (HROW4.out.fr f4 (fun i e => HNB.out i e))
                    clear f4
                    refine hK.out _ _ ?_ (fun hH => ?_)
                    · exact HN5.out
                    clear hK K
                    refine wpAnyH_take (i := 20) (oi := { dst := some 13, op := Op.assign (Operand.tmp 108), type := 3, pos := "law.go:88", after := #[{ on := 15, ground := Ground.data }, { on := 19, ground := Ground.chain }, { on := 0, ground := Ground.phase }, { on := 1, ground := Ground.phase }, { on := 2, ground := Ground.phase }, { on := 3, ground := Ground.phase }, { on := 4, ground := Ground.phase }, { on := 5, ground := Ground.phase }, { on := 6, ground := Ground.phase }, { on := 7, ground := Ground.phase }, { on := 8, ground := Ground.phase }, { on := 9, ground := Ground.phase }, { on := 10, ground := Ground.phase }, { on := 11, ground := Ground.phase }, { on := 12, ground := Ground.phase }, { on := 13, ground := Ground.phase }, { on := 14, ground := Ground.phase }, { on := 15, ground := Ground.phase }, { on := 16, ground := Ground.phase }, { on := 17, ground := Ground.phase }, { on := 18, ground := Ground.phase }, { on := 19, ground := Ground.phase }], guard := none }) (v := ?_) rfl (by kernel_rfl) (by kernel_rfl) (by kernel_rfl) (fun _ _ _ h => h) (Or.inl ⟨by rfl, ?_⟩) hH ?_
                    rotate_left
                    · intro w hSw; (try dsimp only at hSw); go_simp <;> with_reducible rfl
                    try simp only [Act.put, List.setIfInBounds_toArray, List.set_cons_zero, List.set_cons_succ]
                    refine wpAnyH_done (by kernel_rfl) ?_ _
                    clear b0 b1 b2 r1 r2 hH
                    go_wp2_with fail
                    go_meet
                    exact ⟨y', z', s', n', k', A', _, _, rfl, rfl, rfl, HST'.out, HROW5.out, HN5.out, HNW.out, HA5.out, HB5.out⟩
                  refine AllReadyH.cons (o := { dst := some 11, op := Op.alloc 47, type := 0, pos := "law.go:88", after := #[], guard := none }) rfl (fun K hK => ?_) ?_
                  ·
                    go_simp
                    refine genw (K := K) (fun x1 hx => ?_)
                    have f0 : Fr (fun _ => False) w5 x1 := by rw [hx]; first | exact (Fr.refl _ _).alloc _ | exact ((Fr.refl _ _).drew).alloc _ | exact ((Fr.refl _ _).drewN _).alloc _
                    have HA1 := hid (show x1.heap[w5.heap.size]? = some (.cells (encM noM).toArray 47 (0, 0)) by rw [hx]; exact heap_new _ _)
                    clear hx
                    have HAL := hid (show w5.heap.size ≤ w5.heap.size from HN0.out.size)
                    have HN1 := hid (HN0.out.trans' f0)
                    clear f0
                    refine hK.out _ _ ?_ (fun hH => ?_)
                    · exact HN1.out
                    clear hK K
                    try simp only [Act.put, List.setIfInBounds_toArray, List.set_cons_zero, List.set_cons_succ]
                    refine wpAnyH_ready (rs := [11, 17]) (by kernel_rfl) (by simp) ?_
                    refine AllReadyH.cons (o := { dst := some 105, op := Op.call { callee := Callee.value (Operand.func 10), args := #[Operand.tmp 94, Operand.tmp 99, Operand.tmp 104], argTypes := #[32, 3, 3] }, type := 48, pos := "law.go:88", after := #[{ on := 0, ground := Ground.data }, { on := 5, ground := Ground.data }, { on := 10, ground := Ground.data }], guard := none }) rfl (fun K hK => ?_) ?_
                    ·
                      go_simp
                      go_at_call 10
                      go_must (refine (RR.out _ hH).mono ?_)
                      rintro e x2 ⟨y', z', s', n', k', A', rfl, hst', hrow, hfc, hnew⟩
                      go_simp
                      have HN2 := hid (show Fr (fun _ => False) w5 x2 from hH.trans' hfc)
                      have HROW2 := hid hrow
                      have HST' := hid hst'
                      have HNW := hid (show NewRow w5 sa sn sk s' n' k' from fun i e => (hnew i e).imp (fun h => h) (fun h => Nat.le_trans hH.size h))
                      have hnw := hnew
                      have HNA := hid (show ∀ i, (Value.slice s' n' k').ownBlock = some i → i ≠ w5.heap.size from fun i e => by (have h1 := HRL.out i; have h2 := lt_of_block HA1.out; have h3 := HAL.out; rcases hnw i e with h | h; (have h4 := h1 h; omega); omega))
                      clear hnw
                      have HA2 := hid (Fr.heap hfc HA1.out (fun e => e))
                      clear hrow hst' hnew hfc
                      refine hK.out _ _ ?_ (fun hH => ?_)
                      · exact HN2.out
                      clear hK K
                      try simp only [Act.put, List.setIfInBounds_toArray, List.set_cons_zero, List.set_cons_succ]
                      refine wpAnyH_take (i := 12) (oi := { dst := some 93, op := Op.move (Operand.tmp 105), type := 48, pos := "law.go:88", after := #[{ on := 11, ground := Ground.data }], guard := none }) (v := ?_) rfl (by kernel_rfl) (by kernel_rfl) (by kernel_rfl) (fun _ _ _ h => h) (Or.inl ⟨by rfl, ?_⟩) hH ?_
                      rotate_left
                      · intro w hSw; (try dsimp only at hSw); go_simp <;> with_reducible rfl
                      try simp only [Act.put, List.setIfInBounds_toArray, List.set_cons_zero, List.set_cons_succ]
                      refine wpAnyH_take (i := 13) (oi := { dst := some 106, op := Op.extract (Operand.tmp 93) 0, type := 47, pos := "law.go:88", after := #[{ on := 12, ground := Ground.data }], guard := none }) (v := ?_) rfl (by kernel_rfl) (by kernel_rfl) (by kernel_rfl) (fun _ _ _ h => h) (Or.inl ⟨by rfl, ?_⟩) hH ?_
                      rotate_left
                      · intro w hSw; (try dsimp only at hSw); go_simp <;> with_reducible rfl
                      try simp only [Act.put, List.setIfInBounds_toArray, List.set_cons_zero, List.set_cons_succ]
                      refine wpAnyH_take (i := 14) (oi := { dst := some 107, op := Op.extract (Operand.tmp 93) 1, type := 32, pos := "law.go:88", after := #[{ on := 12, ground := Ground.data }, { on := 18, ground := Ground.gcOnly Departure.lateStores }], guard := none }) (v := ?_) rfl (by kernel_rfl) (by kernel_rfl) (by kernel_rfl) (fun _ _ _ h => h) (Or.inl ⟨by rfl, ?_⟩) hH ?_
                      rotate_left
                      · intro w hSw; (try dsimp only at hSw); go_simp <;> with_reducible rfl
                      try simp only [Act.put, List.setIfInBounds_toArray, List.set_cons_zero, List.set_cons_succ]
                      refine wpAnyH_take (i := 15) (oi := { dst := some 108, op := Op.extract (Operand.tmp 93) 2, type := 3, pos := "law.go:88", after := #[{ on := 12, ground := Ground.data }, { on := 19, ground := Ground.gcOnly Departure.lateStores }], guard := none }) (v := ?_) rfl (by kernel_rfl) (by kernel_rfl) (by kernel_rfl) (fun _ _ _ h => h) (Or.inl ⟨by rfl, ?_⟩) hH ?_
                      rotate_left
                      · intro w hSw; (try dsimp only at hSw); go_simp <;> with_reducible rfl
                      try simp only [Act.put, List.setIfInBounds_toArray, List.set_cons_zero, List.set_cons_succ]
                      refine wpAnyH_ready (rs := [17]) (by kernel_rfl) (by simp) ?_
                      refine AllReadyH.cons (o := { dst := some 12, op := Op.alloc 32, type := 0, pos := "law.go:88", after := #[], guard := none }) rfl (fun K hK => ?_) AllReadyH.nil
                      go_simp
                      refine genw (K := K) (fun x3 hx => ?_)
                      have f2 : Fr (fun _ => False) x2 x3 := by rw [hx]; first | exact (Fr.refl _ _).alloc _ | exact ((Fr.refl _ _).drew).alloc _ | exact ((Fr.refl _ _).drewN _).alloc _
                      have HB3 := hid (show x3.heap[x2.heap.size]? = some (.cells (encR 0 0 none 0 0).toArray 32 (0, 0)) by rw [hx]; exact heap_new _ _)
                      clear hx
                      have HBL := hid (show w5.heap.size ≤ x2.heap.size from HN2.out.size)
                      have HN3 := hid (HN2.out.trans' f2)
                      have HNB := hid (show ∀ i, (Value.slice s' n' k').ownBlock = some i → i ≠ x2.heap.size from fun i e => by (have := HROW2.out.lt i e; omega))
                      have HAB := hid (show w5.heap.size ≠ x2.heap.size by have := lt_of_block HA2.out; omega)
                      have HA3 := hid (Fr.heap f2 HA2.out (fun e => e))
                      have HROW3 := hid (HROW2.out.fr f2 (fun _ _ e => e))
                      clear f2
                      refine hK.out _ _ ?_ (fun hH => ?_)
                      · exact HN3.out
                      clear hK K
                      try simp only [Act.put, List.setIfInBounds_toArray, List.set_cons_zero, List.set_cons_succ]
                      refine wpAnyH_ready (rs := [18]) (by kernel_rfl) (by simp) ?_
                      refine AllReadyH.cons (o := { dst := none, op := Op.store 47 (Operand.tmp 11) (Operand.tmp 106), type := 0, pos := "law.go:88", after := #[{ on := 16, ground := Ground.data }, { on := 13, ground := Ground.data }, { on := 11, ground := Ground.chain }, { on := 0, ground := Ground.phase }, { on := 1, ground := Ground.phase }, { on := 2, ground := Ground.phase }, { on := 3, ground := Ground.phase }, { on := 4, ground := Ground.phase }, { on := 5, ground := Ground.phase }, { on := 6, ground := Ground.phase }, { on := 7, ground := Ground.phase }, { on := 8, ground := Ground.phase }, { on := 9, ground := Ground.phase }, { on := 10, ground := Ground.phase }, { on := 11, ground := Ground.phase }, { on := 12, ground := Ground.phase }, { on := 13, ground := Ground.phase }, { on := 14, ground := Ground.textOnly Departure.lateStores }, { on := 15, ground := Ground.textOnly Departure.lateStores }, { on := 16, ground := Ground.phase }, { on := 17, ground := Ground.phase }], guard := none }) rfl (fun K hK => ?_) AllReadyH.nil
                      have TS : st 47 (.pointer (some ⟨w5.heap.size, 0, none⟩)) (msgV y') x3 = .ok .skip (World.setCells x3 (w5.heap.size) 0 (encM y')) := st_rmsg y' (there_block (by exact HA3.out))
                      go_simp
                      clear TS
                      refine genw (K := K) (fun x4 hx => ?_)
                      have f3 : Fr (fun q => q = w5.heap.size) x3 x4 := by rw [hx]; exact Fr.setCells (S := fun q => q = w5.heap.size) (b := w5.heap.size) (fun _ => rfl) _ _ (Fr.refl _ _)
                      have HA4 := hid (show x4.heap[w5.heap.size]? = some (.cells (encM y').toArray _ (0, 0)) by rw [hx]; exact msg_over HA3.out y')
                      clear hx
                      have HN4 := hid (show Fr (fun _ => False) w5 x4 from HN3.out.trans f3 (fun _ h => h) (fun i hi e => by (have := HAL.out; omega)))
                      have HB4 := hid (f3.heap HB3.out (by have := HAB.out; omega))
                      have HROW4 := hid (HROW3.out.fr f3 (fun i e => HNA.out i e))
                      clear f3
                      refine hK.out _ _ ?_ (fun hH => ?_)
                      · exact HN4.out
                      clear hK K
                      refine wpAnyH_ready (rs := [19]) (by kernel_rfl) (by simp) ?_
                      refine AllReadyH.cons (o := { dst := none, op := Op.store 32 (Operand.tmp 12) (Operand.tmp 107), type := 0, pos := "law.go:88", after := #[{ on := 17, ground := Ground.data }, { on := 14, ground := Ground.data }, { on := 18, ground := Ground.chain }, { on := 0, ground := Ground.phase }, { on := 1, ground := Ground.phase }, { on := 2, ground := Ground.phase }, { on := 3, ground := Ground.phase }, { on := 4, ground := Ground.phase }, { on := 5, ground := Ground.phase }, { on := 6, ground := Ground.phase }, { on := 7, ground := Ground.phase }, { on := 8, ground := Ground.phase }, { on := 9, ground := Ground.phase }, { on := 10, ground := Ground.phase }, { on := 11, ground := Ground.phase }, { on := 12, ground := Ground.phase }, { on := 13, ground := Ground.phase }, { on := 14, ground := Ground.phase }, { on := 15, ground := Ground.textOnly Departure.lateStores }, { on := 16, ground := Ground.phase }, { on := 17, ground := Ground.phase }, { on := 18, ground := Ground.phase }], guard := none }) rfl (fun K hK => ?_) AllReadyH.nil
                      have TS : st 32 (.pointer (some ⟨x2.heap.size, 0, none⟩)) (rmV W most (.slice s' n' k')) x4 = .ok .skip (World.setCells x4 (x2.heap.size) 0 (encR W most s' n' k')) := st_rm W most s' n' k' (there_rm (by exact HB4.out))
                      go_simp
                      clear TS
                      refine genw (K := K) (fun x5 hx => ?_)
                      have f4 : Fr (fun q => q = x2.heap.size) x4 x5 := by rw [hx]; exact Fr.setCells (S := fun q => q = x2.heap.size) (b := x2.heap.size) (fun _ => rfl) _ _ (Fr.refl _ _)
                      have HB5 := hid (show x5.heap[x2.heap.size]? = some (.cells (encR W most s' n' k').toArray _ (0, 0)) by rw [hx]; exact encR_put (W' := W) (c' := most) (s' := s') (n' := n') (k' := k') HB4.out)
                      clear hx
                      have HN5 := hid (show Fr (fun _ => False) w5 x5 from HN4.out.trans f4 (fun _ h => h) (fun i hi e => by (have := HBL.out; omega)))
                      have HA5 := hid (f4.heap HA4.out (by have := HAB.out; omega))
                      have HROW5 := hid (HROW4.out.fr f4 (fun i e => HNB.out i e))
                      clear f4
                      refine hK.out _ _ ?_ (fun hH => ?_)
                      · exact HN5.out
                      clear hK K
                      refine wpAnyH_take (i := 20) (oi := { dst := some 13, op := Op.assign (Operand.tmp 108), type := 3, pos := "law.go:88", after := #[{ on := 15, ground := Ground.data }, { on := 19, ground := Ground.chain }, { on := 0, ground := Ground.phase }, { on := 1, ground := Ground.phase }, { on := 2, ground := Ground.phase }, { on := 3, ground := Ground.phase }, { on := 4, ground := Ground.phase }, { on := 5, ground := Ground.phase }, { on := 6, ground := Ground.phase }, { on := 7, ground := Ground.phase }, { on := 8, ground := Ground.phase }, { on := 9, ground := Ground.phase }, { on := 10, ground := Ground.phase }, { on := 11, ground := Ground.phase }, { on := 12, ground := Ground.phase }, { on := 13, ground := Ground.phase }, { on := 14, ground := Ground.phase }, { on := 15, ground := Ground.phase }, { on := 16, ground := Ground.phase }, { on := 17, ground := Ground.phase }, { on := 18, ground := Ground.phase }, { on := 19, ground := Ground.phase }], guard := none }) (v := ?_) rfl (by kernel_rfl) (by kernel_rfl) (by kernel_rfl) (fun _ _ _ h => h) (Or.inl ⟨by rfl, ?_⟩) hH ?_
                      rotate_left
                      · intro w hSw; (try dsimp only at hSw); go_simp <;> with_reducible rfl
                      try simp only [Act.put, List.setIfInBounds_toArray, List.set_cons_zero, List.set_cons_succ]
                      refine wpAnyH_done (by kernel_rfl) ?_ _
                      clear b0 b1 b2 r1 r2 hH
                      go_wp2_with fail
                      go_meet
                      exact ⟨y', z', s', n', k', A', _, _, rfl, rfl, rfl, HST'.out, HROW5.out, HN5.out, HNW.out, HA5.out, HB5.out⟩
                    refine AllReadyH.cons (o := { dst := some 12, op := Op.alloc 32, type := 0, pos := "law.go:88", after := #[], guard := none }) rfl (fun K hK => ?_) AllReadyH.nil
                    go_simp
                    refine genw (K := K) (fun x2 hx => ?_)
                    have f1 : Fr (fun _ => False) x1 x2 := by rw [hx]; first | exact (Fr.refl _ _).alloc _ | exact ((Fr.refl _ _).drew).alloc _ | exact ((Fr.refl _ _).drewN _).alloc _
                    have HB2 := hid (show x2.heap[x1.heap.size]? = some (.cells (encR 0 0 none 0 0).toArray 32 (0, 0)) by rw [hx]; exact heap_new _ _)
                    clear hx
                    have HBL := hid (show w5.heap.size ≤ x1.heap.size from HN1.out.size)
                    have HN2 := hid (HN1.out.trans' f1)
                    have HAB := hid (show w5.heap.size ≠ x1.heap.size by have := lt_of_block HA1.out; omega)
                    have HA2 := hid (Fr.heap f1 HA1.out (fun e => e))
                    clear f1
                    refine hK.out _ _ ?_ (fun hH => ?_)
                    · exact HN2.out
                    clear hK K
                    try simp only [Act.put, List.setIfInBounds_toArray, List.set_cons_zero, List.set_cons_succ]
                    refine wpAnyH_ready (rs := [11]) (by kernel_rfl) (by simp) ?_
                    refine AllReadyH.cons (o := { dst := some 105, op := Op.call { callee := Callee.value (Operand.func 10), args := #[Operand.tmp 94, Operand.tmp 99, Operand.tmp 104], argTypes := #[32, 3, 3] }, type := 48, pos := "law.go:88", after := #[{ on := 0, ground := Ground.data }, { on := 5, ground := Ground.data }, { on := 10, ground := Ground.data }], guard := none }) rfl (fun K hK => ?_) AllReadyH.nil
                    go_simp
                    go_at_call 10
                    go_must (refine (RR.out _ hH).mono ?_)
                    rintro e x3 ⟨y', z', s', n', k', A', rfl, hst', hrow, hfc, hnew⟩
                    go_simp
                    have HN3 := hid (show Fr (fun _ => False) w5 x3 from hH.trans' hfc)
                    have HROW3 := hid hrow
                    have HST' := hid hst'
                    have HNW := hid (show NewRow w5 sa sn sk s' n' k' from fun i e => (hnew i e).imp (fun h => h) (fun h => Nat.le_trans hH.size h))
                    have hnw := hnew
                    have HNA := hid (show ∀ i, (Value.slice s' n' k').ownBlock = some i → i ≠ w5.heap.size from fun i e => by (have h1 := HRL.out i; have h2 := lt_of_block HA2.out; have h3 := HAL.out; rcases hnw i e with h | h; (have h4 := h1 h; omega); omega))
                    clear hnw
                    have hnw := hnew
                    have HNB := hid (show ∀ i, (Value.slice s' n' k').ownBlock = some i → i ≠ x1.heap.size from fun i e => by (have h1 := HRL.out i; have h2 := lt_of_block HB2.out; have h3 := HBL.out; rcases hnw i e with h | h; (have h4 := h1 h; omega); omega))
                    clear hnw
                    have HA3 := hid (Fr.heap hfc HA2.out (fun e => e))
                    have HB3 := hid (Fr.heap hfc HB2.out (fun e => e))
                    clear hrow hst' hnew hfc
                    refine hK.out _ _ ?_ (fun hH => ?_)
                    · exact HN3.out
                    clear hK K
                    try simp only [Act.put, List.setIfInBounds_toArray, List.set_cons_zero, List.set_cons_succ]
                    refine wpAnyH_take (i := 12) (oi := { dst := some 93, op := Op.move (Operand.tmp 105), type := 48, pos := "law.go:88", after := #[{ on := 11, ground := Ground.data }], guard := none }) (v := ?_) rfl (by kernel_rfl) (by kernel_rfl) (by kernel_rfl) (fun _ _ _ h => h) (Or.inl ⟨by rfl, ?_⟩) hH ?_
                    rotate_left
                    · intro w hSw; (try dsimp only at hSw); go_simp <;> with_reducible rfl
                    try simp only [Act.put, List.setIfInBounds_toArray, List.set_cons_zero, List.set_cons_succ]
                    refine wpAnyH_take (i := 13) (oi := { dst := some 106, op := Op.extract (Operand.tmp 93) 0, type := 47, pos := "law.go:88", after := #[{ on := 12, ground := Ground.data }], guard := none }) (v := ?_) rfl (by kernel_rfl) (by kernel_rfl) (by kernel_rfl) (fun _ _ _ h => h) (Or.inl ⟨by rfl, ?_⟩) hH ?_
                    rotate_left
                    · intro w hSw; (try dsimp only at hSw); go_simp <;> with_reducible rfl
                    try simp only [Act.put, List.setIfInBounds_toArray, List.set_cons_zero, List.set_cons_succ]
                    refine wpAnyH_take (i := 14) (oi := { dst := some 107, op := Op.extract (Operand.tmp 93) 1, type := 32, pos := "law.go:88", after := #[{ on := 12, ground := Ground.data }, { on := 18, ground := Ground.gcOnly Departure.lateStores }], guard := none }) (v := ?_) rfl (by kernel_rfl) (by kernel_rfl) (by kernel_rfl) (fun _ _ _ h => h) (Or.inl ⟨by rfl, ?_⟩) hH ?_
                    rotate_left
                    · intro w hSw; (try dsimp only at hSw); go_simp <;> with_reducible rfl
                    try simp only [Act.put, List.setIfInBounds_toArray, List.set_cons_zero, List.set_cons_succ]
                    refine wpAnyH_take (i := 15) (oi := { dst := some 108, op := Op.extract (Operand.tmp 93) 2, type := 3, pos := "law.go:88", after := #[{ on := 12, ground := Ground.data }, { on := 19, ground := Ground.gcOnly Departure.lateStores }], guard := none }) (v := ?_) rfl (by kernel_rfl) (by kernel_rfl) (by kernel_rfl) (fun _ _ _ h => h) (Or.inl ⟨by rfl, ?_⟩) hH ?_
                    rotate_left
                    · intro w hSw; (try dsimp only at hSw); go_simp <;> with_reducible rfl
                    try simp only [Act.put, List.setIfInBounds_toArray, List.set_cons_zero, List.set_cons_succ]
                    refine wpAnyH_ready (rs := [18]) (by kernel_rfl) (by simp) ?_
                    refine AllReadyH.cons (o := { dst := none, op := Op.store 47 (Operand.tmp 11) (Operand.tmp 106), type := 0, pos := "law.go:88", after := #[{ on := 16, ground := Ground.data }, { on := 13, ground := Ground.data }, { on := 11, ground := Ground.chain }, { on := 0, ground := Ground.phase }, { on := 1, ground := Ground.phase }, { on := 2, ground := Ground.phase }, { on := 3, ground := Ground.phase }, { on := 4, ground := Ground.phase }, { on := 5, ground := Ground.phase }, { on := 6, ground := Ground.phase }, { on := 7, ground := Ground.phase }, { on := 8, ground := Ground.phase }, { on := 9, ground := Ground.phase }, { on := 10, ground := Ground.phase }, { on := 11, ground := Ground.phase }, { on := 12, ground := Ground.phase }, { on := 13, ground := Ground.phase }, { on := 14, ground := Ground.textOnly Departure.lateStores }, { on := 15, ground := Ground.textOnly Departure.lateStores }, { on := 16, ground := Ground.phase }, { on := 17, ground := Ground.phase }], guard := none }) rfl (fun K hK => ?_) AllReadyH.nil
                    have TS : st 47 (.pointer (some ⟨w5.heap.size, 0, none⟩)) (msgV y') x3 = .ok .skip (World.setCells x3 (w5.heap.size) 0 (encM y')) := st_rmsg y' (there_block (by exact HA3.out))
                    go_simp
                    clear TS
                    refine genw (K := K) (fun x4 hx => ?_)
                    have f3 : Fr (fun q => q = w5.heap.size) x3 x4 := by rw [hx]; exact Fr.setCells (S := fun q => q = w5.heap.size) (b := w5.heap.size) (fun _ => rfl) _ _ (Fr.refl _ _)
                    have HA4 := hid (show x4.heap[w5.heap.size]? = some (.cells (encM y').toArray _ (0, 0)) by rw [hx]; exact msg_over HA3.out y')
                    clear hx
                    have HN4 := hid (show Fr (fun _ => False) w5 x4 from HN3.out.trans f3 (fun _ h => h) (fun i hi e => by (have := HAL.out; omega)))
                    have HB4 := hid (f3.heap HB3.out (by have := HAB.out; omega))
                    have HROW4 := hid (HROW3.out.fr f3 (fun i e => HNA.out i e))
                    clear f3
                    refine hK.out _ _ ?_ (fun hH => ?_)
                    · exact HN4.out
                    clear hK K
                    refine wpAnyH_ready (rs := [19]) (by kernel_rfl) (by simp) ?_
                    refine AllReadyH.cons (o := { dst := none, op := Op.store 32 (Operand.tmp 12) (Operand.tmp 107), type := 0, pos := "law.go:88", after := #[{ on := 17, ground := Ground.data }, { on := 14, ground := Ground.data }, { on := 18, ground := Ground.chain }, { on := 0, ground := Ground.phase }, { on := 1, ground := Ground.phase }, { on := 2, ground := Ground.phase }, { on := 3, ground := Ground.phase }, { on := 4, ground := Ground.phase }, { on := 5, ground := Ground.phase }, { on := 6, ground := Ground.phase }, { on := 7, ground := Ground.phase }, { on := 8, ground := Ground.phase }, { on := 9, ground := Ground.phase }, { on := 10, ground := Ground.phase }, { on := 11, ground := Ground.phase }, { on := 12, ground := Ground.phase }, { on := 13, ground := Ground.phase }, { on := 14, ground := Ground.phase }, { on := 15, ground := Ground.textOnly Departure.lateStores }, { on := 16, ground := Ground.phase }, { on := 17, ground := Ground.phase }, { on := 18, ground := Ground.phase }], guard := none }) rfl (fun K hK => ?_) AllReadyH.nil
                    have TS : st 32 (.pointer (some ⟨x1.heap.size, 0, none⟩)) (rmV W most (.slice s' n' k')) x4 = .ok .skip (World.setCells x4 (x1.heap.size) 0 (encR W most s' n' k')) := st_rm W most s' n' k' (there_rm (by exact HB4.out))
                    go_simp
                    clear TS
                    refine genw (K := K) (fun x5 hx => ?_)
                    have f4 : Fr (fun q => q = x1.heap.size) x4 x5 := by rw [hx]; exact Fr.setCells (S := fun q => q = x1.heap.size) (b := x1.heap.size) (fun _ => rfl) _ _ (Fr.refl _ _)
                    have HB5 := hid (show x5.heap[x1.heap.size]? = some (.cells (encR W most s' n' k').toArray _ (0, 0)) by rw [hx]; exact encR_put (W' := W) (c' := most) (s' := s') (n' := n') (k' := k') HB4.out)
                    clear hx
                    have HN5 := hid (show Fr (fun _ => False) w5 x5 from HN4.out.trans f4 (fun _ h => h) (fun i hi e => by (have := HBL.out; omega)))
                    have HA5 := hid (f4.heap HA4.out (by have := HAB.out; omega))
                    have HROW5 := hid (HROW4.out.fr f4 (fun i e => HNB.out i e))
                    clear f4
                    refine hK.out _ _ ?_ (fun hH => ?_)
                    · exact HN5.out
                    clear hK K
                    refine wpAnyH_take (i := 20) (oi := { dst := some 13, op := Op.assign (Operand.tmp 108), type := 3, pos := "law.go:88", after := #[{ on := 15, ground := Ground.data }, { on := 19, ground := Ground.chain }, { on := 0, ground := Ground.phase }, { on := 1, ground := Ground.phase }, { on := 2, ground := Ground.phase }, { on := 3, ground := Ground.phase }, { on := 4, ground := Ground.phase }, { on := 5, ground := Ground.phase }, { on := 6, ground := Ground.phase }, { on := 7, ground := Ground.phase }, { on := 8, ground := Ground.phase }, { on := 9, ground := Ground.phase }, { on := 10, ground := Ground.phase }, { on := 11, ground := Ground.phase }, { on := 12, ground := Ground.phase }, { on := 13, ground := Ground.phase }, { on := 14, ground := Ground.phase }, { on := 15, ground := Ground.phase }, { on := 16, ground := Ground.phase }, { on := 17, ground := Ground.phase }, { on := 18, ground := Ground.phase }, { on := 19, ground := Ground.phase }], guard := none }) (v := ?_) rfl (by kernel_rfl) (by kernel_rfl) (by kernel_rfl) (fun _ _ _ h => h) (Or.inl ⟨by rfl, ?_⟩) hH ?_
                    rotate_left
                    · intro w hSw; (try dsimp only at hSw); go_simp <;> with_reducible rfl
                    try simp only [Act.put, List.setIfInBounds_toArray, List.set_cons_zero, List.set_cons_succ]
                    refine wpAnyH_done (by kernel_rfl) ?_ _
                    clear b0 b1 b2 r1 r2 hH
                    go_wp2_with fail
                    go_meet
                    exact ⟨y', z', s', n', k', A', _, _, rfl, rfl, rfl, HST'.out, HROW5.out, HN5.out, HNW.out, HA5.out, HB5.out⟩
                  refine AllReadyH.cons (o := { dst := some 12, op := Op.alloc 32, type := 0, pos := "law.go:88", after := #[], guard := none }) rfl (fun K hK => ?_) AllReadyH.nil
                  go_simp
                  refine genw (K := K) (fun x1 hx => ?_)
                  have f0 : Fr (fun _ => False) w5 x1 := by rw [hx]; first | exact (Fr.refl _ _).alloc _ | exact ((Fr.refl _ _).drew).alloc _ | exact ((Fr.refl _ _).drewN _).alloc _
                  have HB1 := hid (show x1.heap[w5.heap.size]? = some (.cells (encR 0 0 none 0 0).toArray 32 (0, 0)) by rw [hx]; exact heap_new _ _)
                  clear hx
                  have HBL := hid (show w5.heap.size ≤ w5.heap.size from HN0.out.size)
                  have HN1 := hid (HN0.out.trans' f0)
                  clear f0
                  refine hK.out _ _ ?_ (fun hH => ?_)
                  · exact HN1.out
                  clear hK K
                  try simp only [Act.put, List.setIfInBounds_toArray, List.set_cons_zero, List.set_cons_succ]
                  refine wpAnyH_ready (rs := [11, 16]) (by kernel_rfl) (by simp) ?_
                  refine AllReadyH.cons (o := { dst := some 105, op := Op.call { callee := Callee.value (Operand.func 10), args := #[Operand.tmp 94, Operand.tmp 99, Operand.tmp 104], argTypes := #[32, 3, 3] }, type := 48, pos := "law.go:88", after := #[{ on := 0, ground := Ground.data }, { on := 5, ground := Ground.data }, { on := 10, ground := Ground.data }], guard := none }) rfl (fun K hK => ?_) ?_
                  ·
                    go_simp
                    go_at_call 10
                    go_must (refine (RR.out _ hH).mono ?_)
                    rintro e x2 ⟨y', z', s', n', k', A', rfl, hst', hrow, hfc, hnew⟩
                    go_simp
                    have HN2 := hid (show Fr (fun _ => False) w5 x2 from hH.trans' hfc)
                    have HROW2 := hid hrow
                    have HST' := hid hst'
                    have HNW := hid (show NewRow w5 sa sn sk s' n' k' from fun i e => (hnew i e).imp (fun h => h) (fun h => Nat.le_trans hH.size h))
                    have hnw := hnew
                    have HNB := hid (show ∀ i, (Value.slice s' n' k').ownBlock = some i → i ≠ w5.heap.size from fun i e => by (have h1 := HRL.out i; have h2 := lt_of_block HB1.out; have h3 := HBL.out; rcases hnw i e with h | h; (have h4 := h1 h; omega); omega))
                    clear hnw
                    have HB2 := hid (Fr.heap hfc HB1.out (fun e => e))
                    clear hrow hst' hnew hfc
                    refine hK.out _ _ ?_ (fun hH => ?_)
                    · exact HN2.out
                    clear hK K
                    try simp only [Act.put, List.setIfInBounds_toArray, List.set_cons_zero, List.set_cons_succ]
                    refine wpAnyH_take (i := 12) (oi := { dst := some 93, op := Op.move (Operand.tmp 105), type := 48, pos := "law.go:88", after := #[{ on := 11, ground := Ground.data }], guard := none }) (v := ?_) rfl (by kernel_rfl) (by kernel_rfl) (by kernel_rfl) (fun _ _ _ h => h) (Or.inl ⟨by rfl, ?_⟩) hH ?_
                    rotate_left
                    · intro w hSw; (try dsimp only at hSw); go_simp <;> with_reducible rfl
                    try simp only [Act.put, List.setIfInBounds_toArray, List.set_cons_zero, List.set_cons_succ]
                    refine wpAnyH_take (i := 13) (oi := { dst := some 106, op := Op.extract (Operand.tmp 93) 0, type := 47, pos := "law.go:88", after := #[{ on := 12, ground := Ground.data }], guard := none }) (v := ?_) rfl (by kernel_rfl) (by kernel_rfl) (by kernel_rfl) (fun _ _ _ h => h) (Or.inl ⟨by rfl, ?_⟩) hH ?_
                    rotate_left
                    · intro w hSw; (try dsimp only at hSw); go_simp <;> with_reducible rfl
                    try simp only [Act.put, List.setIfInBounds_toArray, List.set_cons_zero, List.set_cons_succ]
                    refine wpAnyH_take (i := 14) (oi := { dst := some 107, op := Op.extract (Operand.tmp 93) 1, type := 32, pos := "law.go:88", after := #[{ on := 12, ground := Ground.data }, { on := 18, ground := Ground.gcOnly Departure.lateStores }], guard := none }) (v := ?_) rfl (by kernel_rfl) (by kernel_rfl) (by kernel_rfl) (fun _ _ _ h => h) (Or.inl ⟨by rfl, ?_⟩) hH ?_
                    rotate_left
                    · intro w hSw; (try dsimp only at hSw); go_simp <;> with_reducible rfl
                    try simp only [Act.put, List.setIfInBounds_toArray, List.set_cons_zero, List.set_cons_succ]
                    refine wpAnyH_take (i := 15) (oi := { dst := some 108, op := Op.extract (Operand.tmp 93) 2, type := 3, pos := "law.go:88", after := #[{ on := 12, ground := Ground.data }, { on := 19, ground := Ground.gcOnly Departure.lateStores }], guard := none }) (v := ?_) rfl (by kernel_rfl) (by kernel_rfl) (by kernel_rfl) (fun _ _ _ h => h) (Or.inl ⟨by rfl, ?_⟩) hH ?_
                    rotate_left
                    · intro w hSw; (try dsimp only at hSw); go_simp <;> with_reducible rfl
                    try simp only [Act.put, List.setIfInBounds_toArray, List.set_cons_zero, List.set_cons_succ]
                    refine wpAnyH_ready (rs := [16]) (by kernel_rfl) (by simp) ?_
                    refine AllReadyH.cons (o := { dst := some 11, op := Op.alloc 47, type := 0, pos := "law.go:88", after := #[], guard := none }) rfl (fun K hK => ?_) AllReadyH.nil
                    go_simp
                    refine genw (K := K) (fun x3 hx => ?_)
                    have f2 : Fr (fun _ => False) x2 x3 := by rw [hx]; first | exact (Fr.refl _ _).alloc _ | exact ((Fr.refl _ _).drew).alloc _ | exact ((Fr.refl _ _).drewN _).alloc _
                    have HA3 := hid (show x3.heap[x2.heap.size]? = some (.cells (encM noM).toArray 47 (0, 0)) by rw [hx]; exact heap_new _ _)
                    clear hx
                    have HAL := hid (show w5.heap.size ≤ x2.heap.size from HN2.out.size)
                    have HN3 := hid (HN2.out.trans' f2)
                    have HNA := hid (show ∀ i, (Value.slice s' n' k').ownBlock = some i → i ≠ x2.heap.size from fun i e => by (have := HROW2.out.lt i e; omega))
                    have HAB := hid (show w5.heap.size ≠ x2.heap.size by have := lt_of_block HB2.out; omega)
                    have HB3 := hid (Fr.heap f2 HB2.out (fun e => e))
                    have HROW3 := hid (HROW2.out.fr f2 (fun _ _ e => e))
                    clear f2
                    refine hK.out _ _ ?_ (fun hH => ?_)
                    · exact HN3.out
                    clear hK K
                    try simp only [Act.put, List.setIfInBounds_toArray, List.set_cons_zero, List.set_cons_succ]
                    refine wpAnyH_ready (rs := [18]) (by kernel_rfl) (by simp) ?_
                    refine AllReadyH.cons (o := { dst := none, op := Op.store 47 (Operand.tmp 11) (Operand.tmp 106), type := 0, pos := "law.go:88", after := #[{ on := 16, ground := Ground.data }, { on := 13, ground := Ground.data }, { on := 11, ground := Ground.chain }, { on := 0, ground := Ground.phase }, { on := 1, ground := Ground.phase }, { on := 2, ground := Ground.phase }, { on := 3, ground := Ground.phase }, { on := 4, ground := Ground.phase }, { on := 5, ground := Ground.phase }, { on := 6, ground := Ground.phase }, { on := 7, ground := Ground.phase }, { on := 8, ground := Ground.phase }, { on := 9, ground := Ground.phase }, { on := 10, ground := Ground.phase }, { on := 11, ground := Ground.phase }, { on := 12, ground := Ground.phase }, { on := 13, ground := Ground.phase }, { on := 14, ground := Ground.textOnly Departure.lateStores }, { on := 15, ground := Ground.textOnly Departure.lateStores }, { on := 16, ground := Ground.phase }, { on := 17, ground := Ground.phase }], guard := none }) rfl (fun K hK => ?_) AllReadyH.nil
                    have TS : st 47 (.pointer (some ⟨x2.heap.size, 0, none⟩)) (msgV y') x3 = .ok .skip (World.setCells x3 (x2.heap.size) 0 (encM y')) := st_rmsg y' (there_block (by exact HA3.out))
                    go_simp
                    clear TS
                    refine genw (K := K) (fun x4 hx => ?_)
                    have f3 : Fr (fun q => q = x2.heap.size) x3 x4 := by rw [hx]; exact Fr.setCells (S := fun q => q = x2.heap.size) (b := x2.heap.size) (fun _ => rfl) _ _ (Fr.refl _ _)
                    have HA4 := hid (show x4.heap[x2.heap.size]? = some (.cells (encM y').toArray _ (0, 0)) by rw [hx]; exact msg_over HA3.out y')
                    clear hx
                    have HN4 := hid (show Fr (fun _ => False) w5 x4 from HN3.out.trans f3 (fun _ h => h) (fun i hi e => by (have := HAL.out; omega)))
                    have HB4 := hid (f3.heap HB3.out (by have := HAB.out; omega))
                    have HROW4 := hid (HROW3.out.fr f3 (fun i e => HNA.out i e))
                    clear f3
                    refine hK.out _ _ ?_ (fun hH => ?_)
                    · exact HN4.out
                    clear hK K
                    refine wpAnyH_ready (rs := [19]) (by kernel_rfl) (by simp) ?_
                    refine AllReadyH.cons (o := { dst := none, op := Op.store 32 (Operand.tmp 12) (Operand.tmp 107), type := 0, pos := "law.go:88", after := #[{ on := 17, ground := Ground.data }, { on := 14, ground := Ground.data }, { on := 18, ground := Ground.chain }, { on := 0, ground := Ground.phase }, { on := 1, ground := Ground.phase }, { on := 2, ground := Ground.phase }, { on := 3, ground := Ground.phase }, { on := 4, ground := Ground.phase }, { on := 5, ground := Ground.phase }, { on := 6, ground := Ground.phase }, { on := 7, ground := Ground.phase }, { on := 8, ground := Ground.phase }, { on := 9, ground := Ground.phase }, { on := 10, ground := Ground.phase }, { on := 11, ground := Ground.phase }, { on := 12, ground := Ground.phase }, { on := 13, ground := Ground.phase }, { on := 14, ground := Ground.phase }, { on := 15, ground := Ground.textOnly Departure.lateStores }, { on := 16, ground := Ground.phase }, { on := 17, ground := Ground.phase }, { on := 18, ground := Ground.phase }], guard := none }) rfl (fun K hK => ?_) AllReadyH.nil
                    have TS : st 32 (.pointer (some ⟨w5.heap.size, 0, none⟩)) (rmV W most (.slice s' n' k')) x4 = .ok .skip (World.setCells x4 (w5.heap.size) 0 (encR W most s' n' k')) := st_rm W most s' n' k' (there_rm (by exact HB4.out))
                    go_simp
                    clear TS
                    refine genw (K := K) (fun x5 hx => ?_)
                    have f4 : Fr (fun q => q = w5.heap.size) x4 x5 := by rw [hx]; exact Fr.setCells (S := fun q => q = w5.heap.size) (b := w5.heap.size) (fun _ => rfl) _ _ (Fr.refl _ _)
                    have HB5 := hid (show x5.heap[w5.heap.size]? = some (.cells (encR W most s' n' k').toArray _ (0, 0)) by rw [hx]; exact encR_put (W' := W) (c' := most) (s' := s') (n' := n') (k' := k') HB4.out)
                    clear hx
                    have HN5 := hid (show Fr (fun _ => False) w5 x5 from HN4.out.trans f4 (fun _ h => h) (fun i hi e => by (have := HBL.out; omega)))
                    have HA5 := hid (f4.heap HA4.out (by have := HAB.out; omega))
                    have HROW5 := hid (HROW4.out.fr f4 (fun i e => HNB.out i e))
                    clear f4
                    refine hK.out _ _ ?_ (fun hH => ?_)
                    · exact HN5.out
                    clear hK K
                    refine wpAnyH_take (i := 20) (oi := { dst := some 13, op := Op.assign (Operand.tmp 108), type := 3, pos := "law.go:88", after := #[{ on := 15, ground := Ground.data }, { on := 19, ground := Ground.chain }, { on := 0, ground := Ground.phase }, { on := 1, ground := Ground.phase }, { on := 2, ground := Ground.phase }, { on := 3, ground := Ground.phase }, { on := 4, ground := Ground.phase }, { on := 5, ground := Ground.phase }, { on := 6, ground := Ground.phase }, { on := 7, ground := Ground.phase }, { on := 8, ground := Ground.phase }, { on := 9, ground := Ground.phase }, { on := 10, ground := Ground.phase }, { on := 11, ground := Ground.phase }, { on := 12, ground := Ground.phase }, { on := 13, ground := Ground.phase }, { on := 14, ground := Ground.phase }, { on := 15, ground := Ground.phase }, { on := 16, ground := Ground.phase }, { on := 17, ground := Ground.phase }, { on := 18, ground := Ground.phase }, { on := 19, ground := Ground.phase }], guard := none }) (v := ?_) rfl (by kernel_rfl) (by kernel_rfl) (by kernel_rfl) (fun _ _ _ h => h) (Or.inl ⟨by rfl, ?_⟩) hH ?_
                    rotate_left
                    · intro w hSw; (try dsimp only at hSw); go_simp <;> with_reducible rfl
                    try simp only [Act.put, List.setIfInBounds_toArray, List.set_cons_zero, List.set_cons_succ]
                    refine wpAnyH_done (by kernel_rfl) ?_ _
                    clear b0 b1 b2 r1 r2 hH
                    go_wp2_with fail
                    go_meet
                    exact ⟨y', z', s', n', k', A', _, _, rfl, rfl, rfl, HST'.out, HROW5.out, HN5.out, HNW.out, HA5.out, HB5.out⟩
                  refine AllReadyH.cons (o := { dst := some 11, op := Op.alloc 47, type := 0, pos := "law.go:88", after := #[], guard := none }) rfl (fun K hK => ?_) AllReadyH.nil
                  go_simp
                  refine genw (K := K) (fun x2 hx => ?_)
                  have f1 : Fr (fun _ => False) x1 x2 := by rw [hx]; first | exact (Fr.refl _ _).alloc _ | exact ((Fr.refl _ _).drew).alloc _ | exact ((Fr.refl _ _).drewN _).alloc _
                  have HA2 := hid (show x2.heap[x1.heap.size]? = some (.cells (encM noM).toArray 47 (0, 0)) by rw [hx]; exact heap_new _ _)
                  clear hx
                  have HAL := hid (show w5.heap.size ≤ x1.heap.size from HN1.out.size)
                  have HN2 := hid (HN1.out.trans' f1)
                  have HAB := hid (show w5.heap.size ≠ x1.heap.size by have := lt_of_block HB1.out; omega)
                  have HB2 := hid (Fr.heap f1 HB1.out (fun e => e))
                  clear f1
                  refine hK.out _ _ ?_ (fun hH => ?_)
                  · exact HN2.out
                  clear hK K
                  try simp only [Act.put, List.setIfInBounds_toArray, List.set_cons_zero, List.set_cons_succ]
                  refine wpAnyH_ready (rs := [11]) (by kernel_rfl) (by simp) ?_
                  refine AllReadyH.cons (o := { dst := some 105, op := Op.call { callee := Callee.value (Operand.func 10), args := #[Operand.tmp 94, Operand.tmp 99, Operand.tmp 104], argTypes := #[32, 3, 3] }, type := 48, pos := "law.go:88", after := #[{ on := 0, ground := Ground.data }, { on := 5, ground := Ground.data }, { on := 10, ground := Ground.data }], guard := none }) rfl (fun K hK => ?_) AllReadyH.nil
                  go_simp
                  go_at_call 10
                  go_must (refine (RR.out _ hH).mono ?_)
                  rintro e x3 ⟨y', z', s', n', k', A', rfl, hst', hrow, hfc, hnew⟩
                  go_simp
                  have HN3 := hid (show Fr (fun _ => False) w5 x3 from hH.trans' hfc)
                  have HROW3 := hid hrow
                  have HST' := hid hst'
                  have HNW := hid (show NewRow w5 sa sn sk s' n' k' from fun i e => (hnew i e).imp (fun h => h) (fun h => Nat.le_trans hH.size h))
                  have hnw := hnew
                  have HNA := hid (show ∀ i, (Value.slice s' n' k').ownBlock = some i → i ≠ x1.heap.size from fun i e => by (have h1 := HRL.out i; have h2 := lt_of_block HA2.out; have h3 := HAL.out; rcases hnw i e with h | h; (have h4 := h1 h; omega); omega))
                  clear hnw
                  have hnw := hnew
                  have HNB := hid (show ∀ i, (Value.slice s' n' k').ownBlock = some i → i ≠ w5.heap.size from fun i e => by (have h1 := HRL.out i; have h2 := lt_of_block HB2.out; have h3 := HBL.out; rcases hnw i e with h | h; (have h4 := h1 h; omega); omega))
                  clear hnw
                  have HA3 := hid (Fr.heap hfc HA2.out (fun e => e))
                  have HB3 := hid (Fr.heap hfc HB2.out (fun e => e))
                  clear hrow hst' hnew hfc
                  refine hK.out _ _ ?_ (fun hH => ?_)
                  · exact HN3.out
                  clear hK K
                  try simp only [Act.put, List.setIfInBounds_toArray, List.set_cons_zero, List.set_cons_succ]
                  refine wpAnyH_take (i := 12) (oi := { dst := some 93, op := Op.move (Operand.tmp 105), type := 48, pos := "law.go:88", after := #[{ on := 11, ground := Ground.data }], guard := none }) (v := ?_) rfl (by kernel_rfl) (by kernel_rfl) (by kernel_rfl) (fun _ _ _ h => h) (Or.inl ⟨by rfl, ?_⟩) hH ?_
                  rotate_left
                  · intro w hSw; (try dsimp only at hSw); go_simp <;> with_reducible rfl
                  try simp only [Act.put, List.setIfInBounds_toArray, List.set_cons_zero, List.set_cons_succ]
                  refine wpAnyH_take (i := 13) (oi := { dst := some 106, op := Op.extract (Operand.tmp 93) 0, type := 47, pos := "law.go:88", after := #[{ on := 12, ground := Ground.data }], guard := none }) (v := ?_) rfl (by kernel_rfl) (by kernel_rfl) (by kernel_rfl) (fun _ _ _ h => h) (Or.inl ⟨by rfl, ?_⟩) hH ?_
                  rotate_left
                  · intro w hSw; (try dsimp only at hSw); go_simp <;> with_reducible rfl
                  try simp only [Act.put, List.setIfInBounds_toArray, List.set_cons_zero, List.set_cons_succ]
                  refine wpAnyH_take (i := 14) (oi := { dst := some 107, op := Op.extract (Operand.tmp 93) 1, type := 32, pos := "law.go:88", after := #[{ on := 12, ground := Ground.data }, { on := 18, ground := Ground.gcOnly Departure.lateStores }], guard := none }) (v := ?_) rfl (by kernel_rfl) (by kernel_rfl) (by kernel_rfl) (fun _ _ _ h => h) (Or.inl ⟨by rfl, ?_⟩) hH ?_
                  rotate_left
                  · intro w hSw; (try dsimp only at hSw); go_simp <;> with_reducible rfl
                  try simp only [Act.put, List.setIfInBounds_toArray, List.set_cons_zero, List.set_cons_succ]
                  refine wpAnyH_take (i := 15) (oi := { dst := some 108, op := Op.extract (Operand.tmp 93) 2, type := 3, pos := "law.go:88", after := #[{ on := 12, ground := Ground.data }, { on := 19, ground := Ground.gcOnly Departure.lateStores }], guard := none }) (v := ?_) rfl (by kernel_rfl) (by kernel_rfl) (by kernel_rfl) (fun _ _ _ h => h) (Or.inl ⟨by rfl, ?_⟩) hH ?_
                  rotate_left
                  · intro w hSw; (try dsimp only at hSw); go_simp <;> with_reducible rfl
                  try simp only [Act.put, List.setIfInBounds_toArray, List.set_cons_zero, List.set_cons_succ]
                  refine wpAnyH_ready (rs := [18]) (by kernel_rfl) (by simp) ?_
                  refine AllReadyH.cons (o := { dst := none, op := Op.store 47 (Operand.tmp 11) (Operand.tmp 106), type := 0, pos := "law.go:88", after := #[{ on := 16, ground := Ground.data }, { on := 13, ground := Ground.data }, { on := 11, ground := Ground.chain }, { on := 0, ground := Ground.phase }, { on := 1, ground := Ground.phase }, { on := 2, ground := Ground.phase }, { on := 3, ground := Ground.phase }, { on := 4, ground := Ground.phase }, { on := 5, ground := Ground.phase }, { on := 6, ground := Ground.phase }, { on := 7, ground := Ground.phase }, { on := 8, ground := Ground.phase }, { on := 9, ground := Ground.phase }, { on := 10, ground := Ground.phase }, { on := 11, ground := Ground.phase }, { on := 12, ground := Ground.phase }, { on := 13, ground := Ground.phase }, { on := 14, ground := Ground.textOnly Departure.lateStores }, { on := 15, ground := Ground.textOnly Departure.lateStores }, { on := 16, ground := Ground.phase }, { on := 17, ground := Ground.phase }], guard := none }) rfl (fun K hK => ?_) AllReadyH.nil
                  have TS : st 47 (.pointer (some ⟨x1.heap.size, 0, none⟩)) (msgV y') x3 = .ok .skip (World.setCells x3 (x1.heap.size) 0 (encM y')) := st_rmsg y' (there_block (by exact HA3.out))
                  go_simp
                  clear TS
                  refine genw (K := K) (fun x4 hx => ?_)
                  have f3 : Fr (fun q => q = x1.heap.size) x3 x4 := by rw [hx]; exact Fr.setCells (S := fun q => q = x1.heap.size) (b := x1.heap.size) (fun _ => rfl) _ _ (Fr.refl _ _)
                  have HA4 := hid (show x4.heap[x1.heap.size]? = some (.cells (encM y').toArray _ (0, 0)) by rw [hx]; exact msg_over HA3.out y')
                  clear hx
                  have HN4 := hid (show Fr (fun _ => False) w5 x4 from HN3.out.trans f3 (fun _ h => h) (fun i hi e => by (have := HAL.out; omega)))
                  have HB4 := hid (f3.heap HB3.out (by have := HAB.out; omega))
                  have HROW4 := hid (HROW3.out.fr f3 (fun i e => HNA.out i e))
                  clear f3
                  refine hK.out _ _ ?_ (fun hH => ?_)
                  · exact HN4.out
                  clear hK K
                  refine wpAnyH_ready (rs := [19]) (by kernel_rfl) (by simp) ?_
                  refine AllReadyH.cons (o := { dst := none, op := Op.store 32 (Operand.tmp 12) (Operand.tmp 107), type := 0, pos := "law.go:88", after := #[{ on := 17, ground := Ground.data }, { on := 14, ground := Ground.data }, { on := 18, ground := Ground.chain }, { on := 0, ground := Ground.phase }, { on := 1, ground := Ground.phase }, { on := 2, ground := Ground.phase }, { on := 3, ground := Ground.phase }, { on := 4, ground := Ground.phase }, { on := 5, ground := Ground.phase }, { on := 6, ground := Ground.phase }, { on := 7, ground := Ground.phase }, { on := 8, ground := Ground.phase }, { on := 9, ground := Ground.phase }, { on := 10, ground := Ground.phase }, { on := 11, ground := Ground.phase }, { on := 12, ground := Ground.phase }, { on := 13, ground := Ground.phase }, { on := 14, ground := Ground.phase }, { on := 15, ground := Ground.textOnly Departure.lateStores }, { on := 16, ground := Ground.phase }, { on := 17, ground := Ground.phase }, { on := 18, ground := Ground.phase }], guard := none }) rfl (fun K hK => ?_) AllReadyH.nil
                  have TS : st 32 (.pointer (some ⟨w5.heap.size, 0, none⟩)) (rmV W most (.slice s' n' k')) x4 = .ok .skip (World.setCells x4 (w5.heap.size) 0 (encR W most s' n' k')) := st_rm W most s' n' k' (there_rm (by exact HB4.out))
                  go_simp
                  clear TS
                  refine genw (K := K) (fun x5 hx => ?_)
                  have f4 : Fr (fun q => q = w5.heap.size) x4 x5 := by rw [hx]; exact Fr.setCells (S := fun q => q = w5.heap.size) (b := w5.heap.size) (fun _ => rfl) _ _ (Fr.refl _ _)
                  have HB5 := hid (show x5.heap[w5.heap.size]? = some (.cells (encR W most s' n' k').toArray _ (0, 0)) by rw [hx]; exact encR_put (W' := W) (c' := most) (s' := s') (n' := n') (k' := k') HB4.out)
                  clear hx
                  have HN5 := hid (show Fr (fun _ => False) w5 x5 from HN4.out.trans f4 (fun _ h => h) (fun i hi e => by (have := HBL.out; omega)))
                  have HA5 := hid (f4.heap HA4.out (by have := HAB.out; omega))
                  have HROW5 := hid (HROW4.out.fr f4 (fun i e => HNB.out i e))
                  clear f4
                  refine hK.out _ _ ?_ (fun hH => ?_)
                  · exact HN5.out
                  clear hK K
                  refine wpAnyH_take (i := 20) (oi := { dst := some 13, op := Op.assign (Operand.tmp 108), type := 3, pos := "law.go:88", after := #[{ on := 15, ground := Ground.data }, { on := 19, ground := Ground.chain }, { on := 0, ground := Ground.phase }, { on := 1, ground := Ground.phase }, { on := 2, ground := Ground.phase }, { on := 3, ground := Ground.phase }, { on := 4, ground := Ground.phase }, { on := 5, ground := Ground.phase }, { on := 6, ground := Ground.phase }, { on := 7, ground := Ground.phase }, { on := 8, ground := Ground.phase }, { on := 9, ground := Ground.phase }, { on := 10, ground := Ground.phase }, { on := 11, ground := Ground.phase }, { on := 12, ground := Ground.phase }, { on := 13, ground := Ground.phase }, { on := 14, ground := Ground.phase }, { on := 15, ground := Ground.phase }, { on := 16, ground := Ground.phase }, { on := 17, ground := Ground.phase }, { on := 18, ground := Ground.phase }, { on := 19, ground := Ground.phase }], guard := none }) (v := ?_) rfl (by kernel_rfl) (by kernel_rfl) (by kernel_rfl) (fun _ _ _ h => h) (Or.inl ⟨by rfl, ?_⟩) hH ?_
                  rotate_left
                  · intro w hSw; (try dsimp only at hSw); go_simp <;> with_reducible rfl
                  try simp only [Act.put, List.setIfInBounds_toArray, List.set_cons_zero, List.set_cons_succ]
                  refine wpAnyH_done (by kernel_rfl) ?_ _
                  clear b0 b1 b2 r1 r2 hH
                  go_wp2_with fail
                  go_meet
                  exact ⟨y', z', s', n', k', A', _, _, rfl, rfl, rfl, HST'.out, HROW5.out, HN5.out, HNW.out, HA5.out, HB5.out⟩
              case rest =>
                as_aux_lemma =>
                  obtain ⟨y', z', s', n', k', A', ya, yb, rfl, rfl, rfl, hst', hrow, hn, hnew, hya, hyb⟩ := hcut
                  obtain ⟨x5, hx5⟩ : ∃ x5, x5 = wc := ⟨_, rfl⟩
                  rw [← hx5] at hrow hn hya hyb ⊢
                  have HST' := hid hst'
                  have HROW5 := hid hrow
                  have HN5 := hid hn
                  have HNW := hid hnew
                  have HA5 := hid hya
                  have HB5 := hid hyb
                  clear hst' hrow hn hnew hya hyb b0 b1 b2 r1 r2 hx5
                  have hL5 : ∀ j, j < W * W → AlM x5 (GG F pc) (GG F pc) (R j) (msgsTo W A j) := fun j hj => ((L2.out.al j hj).fr HF5.out (fun i e => .inl e) (fun i e => .inl e)).fr HN5.out (fun _ e => e.elim) (fun _ e => e.elim)
                  obtain ⟨hzz, hal1, hin, hal', hlen⟩ := recv_same L2.out.allin hL5 HST.out HST'.out
                  subst hzz
                  have HIN := hid hin
                  have HAL1 := hid hal1
                  have HAL' := hid hal'
                  have HLEN := hid hlen
                  have lm : ∀ w', Fr (fun _ => False) x5 w' → ld 40 (.pointer (some ⟨y9, 0, none⟩)) w' = .ok (.value (msgV y)) w' := fun w' hf => ld_msg (MsgAt.of_block (hf.heap (HN5.out.heap HY5.out (fun e => e)) (fun e => e)))
                  have lr : ∀ w', Fr (fun _ => False) x5 w' → ld 47 (.pointer (some ⟨ya, 0, none⟩)) w' = .ok (.value (msgV y')) w' := fun w' hf => ld_rmsg (MsgAt.of_block (hf.heap HA5.out (fun e => e)))
                  have U1 := hid (fun w' (hf : Fr (fun _ => False) x5 w') => lback_al (HAL1.out.fr hf (fun _ e => e.elim) (fun _ e => e.elim)))
                  clear hL5 hin hal1 hal' hlen
                  go_upto_region 17 with fail
                  refine wp_region_held_drew (S := (fun w' => Fr (fun _ => False) x5 w')) (by kernel_rfl) ?_ (fun hH => ?_)
                  · exact drew_no
                  refine wpAnyH_take (i := 0) (oi := { dst := some 109, op := Op.load 40 (Operand.tmp 9), type := 40, pos := "law.go:89", after := #[], guard := none }) (v := ?_) rfl (by kernel_rfl) (by kernel_rfl) (by kernel_rfl) (fun _ _ _ h => h) (Or.inl ⟨by rfl, ?_⟩) hH ?_
                  rotate_left
                  · intro w hSw; (try dsimp only at hSw); go_simp <;> with_reducible rfl
                  try simp only [Act.put, List.setIfInBounds_toArray, List.set_cons_zero, List.set_cons_succ]
                  refine wpAnyH_take (i := 2) (oi := { dst := some 111, op := Op.load 47 (Operand.tmp 11), type := 47, pos := "law.go:89", after := #[], guard := none }) (v := ?_) rfl (by kernel_rfl) (by kernel_rfl) (by kernel_rfl) (fun _ _ _ h => h) (Or.inl ⟨by rfl, ?_⟩) hH ?_
                  rotate_left
                  · intro w hSw; (try dsimp only at hSw); go_simp <;> with_reducible rfl
                  try simp only [Act.put, List.setIfInBounds_toArray, List.set_cons_zero, List.set_cons_succ]
                  refine wpAnyH_ready (rs := [1]) (by kernel_rfl) (by simp) ?_
                  refine AllReadyH.cons (o := { dst := some 110, op := Op.call { callee := Callee.value (Operand.func 12), args := #[Operand.tmp 109], argTypes := #[40] }, type := 47, pos := "law.go:89", after := #[{ on := 0, ground := Ground.data }], guard := none }) rfl (fun K hK => ?_) AllReadyH.nil
                  go_simp
                  go_at_call 12
                  go_must (refine (U1.out _ hH).mono ?_)
                  rintro e x7 ⟨xx, rfl, hal2, hf7⟩
                  go_simp
                  have H7 := hid (hH.trans' hf7)
                  have HAL2 := hid hal2
                  clear hal2 hf7
                  refine hK.out _ _ ?_ (fun hH => ?_)
                  · exact H7.out
                  clear hK K
                  try simp only [Act.put, List.setIfInBounds_toArray, List.set_cons_zero, List.set_cons_succ]
                  refine wpAnyH_ready (rs := [3]) (by kernel_rfl) (by simp) ?_
                  refine AllReadyH.cons (o := { dst := some 112, op := Op.call { callee := Callee.value (Operand.func 11), args := #[Operand.tmp 110, Operand.tmp 111], argTypes := #[47, 47] }, type := 4, pos := "law.go:89", after := #[{ on := 1, ground := Ground.data }, { on := 2, ground := Ground.data }, { on := 1, ground := Ground.chain }], guard := none }) rfl (fun K hK => ?_) AllReadyH.nil
                  go_simp
                  go_at_call 11
                  go_must (refine (rsame_ok HAL2.out).mono ?_)
                  rintro e x8 ⟨rfl, hf8⟩
                  go_simp
                  have H8 := hid (H7.out.trans' hf8)
                  clear hf8
                  refine hK.out _ _ ?_ (fun hH => ?_)
                  · exact H8.out
                  clear hK K
                  try simp only [Act.put, List.setIfInBounds_toArray, List.set_cons_zero, List.set_cons_succ]
                  refine wpAnyH_take (i := 4) (oi := { dst := some 113, op := Op.unOp UnOp.not 4 (Operand.tmp 112), type := 4, pos := "law.go:89", after := #[{ on := 3, ground := Ground.data }], guard := none }) (v := ?_) rfl (by kernel_rfl) (by kernel_rfl) (by kernel_rfl) (fun _ _ _ h => h) (Or.inl ⟨by rfl, ?_⟩) hH ?_
                  rotate_left
                  · intro w hSw; (try dsimp only at hSw); go_simp <;> with_reducible rfl
                  try simp only [Act.put, List.setIfInBounds_toArray, List.set_cons_zero, List.set_cons_succ]
                  refine wpAnyH_take (i := 5) (oi := { dst := some 114, op := Op.move (Operand.tmp 113), type := 4, pos := "law.go:89", after := #[{ on := 4, ground := Ground.data }, { on := 3, ground := Ground.chain }], guard := none }) (v := ?_) rfl (by kernel_rfl) (by kernel_rfl) (by kernel_rfl) (fun _ _ _ h => h) (Or.inl ⟨by rfl, ?_⟩) hH ?_
                  rotate_left
                  · intro w hSw; (try dsimp only at hSw); go_simp <;> with_reducible rfl
                  try simp only [Act.put, List.setIfInBounds_toArray, List.set_cons_zero, List.set_cons_succ]
                  refine wpAnyH_take (i := 6) (oi := { dst := some 115, op := Op.move (Operand.tmp 10), type := 26, pos := "law.go:89", after := #[{ on := 5, ground := Ground.guard }], guard := some (5, false) }) (v := ?_) rfl (by kernel_rfl) (by kernel_rfl) (by kernel_rfl) (fun _ _ _ h => h) (Or.inl ⟨by rfl, ?_⟩) hH ?_
                  rotate_left
                  · intro w hSw; (try dsimp only at hSw); go_simp <;> with_reducible rfl
                  try simp only [Act.put, List.setIfInBounds_toArray, List.set_cons_zero, List.set_cons_succ]
                  refine wpAnyH_take (i := 7) (oi := { dst := some 116, op := Op.move (Operand.tmp 13), type := 3, pos := "law.go:89", after := #[{ on := 5, ground := Ground.guard }], guard := some (5, false) }) (v := ?_) rfl (by kernel_rfl) (by kernel_rfl) (by kernel_rfl) (fun _ _ _ h => h) (Or.inl ⟨by rfl, ?_⟩) hH ?_
                  rotate_left
                  · intro w hSw; (try dsimp only at hSw); go_simp <;> with_reducible rfl
                  try simp only [Act.put, List.setIfInBounds_toArray, List.set_cons_zero, List.set_cons_succ]
                  refine wpAnyH_take (i := 8) (oi := { dst := some 117, op := Op.binOp BinOp.neq 3 (Operand.tmp 115) (Operand.tmp 116) 3, type := 4, pos := "law.go:89", after := #[{ on := 6, ground := Ground.data }, { on := 7, ground := Ground.data }, { on := 5, ground := Ground.guard }], guard := some (5, false) }) (v := ?_) rfl (by kernel_rfl) (by kernel_rfl) (by kernel_rfl) (fun _ _ _ h => h) (Or.inl ⟨by rfl, ?_⟩) hH ?_
                  rotate_left
                  · intro w hSw; (try dsimp only at hSw); go_simp <;> with_reducible rfl
                  try simp only [Act.put, List.setIfInBounds_toArray, List.set_cons_zero, List.set_cons_succ]
                  refine wpAnyH_take (i := 9) (oi := { dst := some 118, op := Op.pick (Operand.tmp 114) (Operand.const (Value.bool true)) (Operand.tmp 117), type := 4, pos := "law.go:89", after := #[{ on := 5, ground := Ground.data }, { on := 8, ground := Ground.data }], guard := none }) (v := ?_) rfl (by kernel_rfl) (by kernel_rfl) (by kernel_rfl) (fun _ _ _ h => h) (Or.inl ⟨by rfl, ?_⟩) hH ?_
                  rotate_left
                  · intro w hSw; (try dsimp only at hSw); go_simp <;> with_reducible rfl
                  try simp only [Act.put, List.setIfInBounds_toArray, List.set_cons_zero, List.set_cons_succ]
                  refine wpAnyH_done (by kernel_rfl) ?_ _
                  clear lm lr hH
                  have HQB := hid (H8.out.heap HB5.out (fun e => e))
                  have q0 := cell_of HQB.out 0 (v := .int .i64 W) rfl
                  have q1 := cell_of HQB.out 1 (v := .int .i64 most) rfl
                  have q2 := cell_of HQB.out 2 (v := .slice s' n' k') rfl
                  obtain ⟨w6, hw6⟩ : ∃ w6, w6 = World.setCells x8 pc 0 (encR W most s' n' k') := ⟨_, rfl⟩
                  have TS : st 32 (.pointer (some ⟨pc, 0, none⟩)) (.agg #[.int .i64 W, .int .i64 most, .slice s' n' k']) x8 = .ok .skip w6 := by rw [hw6]; exact st_rm W most s' n' k' (there_rm (H8.out.heap (HN5.out.heap HBL5.out (fun e => e)) (fun e => e)))
                  have HW6 := hid hw6
                  have HXE := hid (HN5.out.trans' H8.out)
                  clear hw6
                  go_wp2_with fail
                  go_meet
                  exact ⟨R', F, s', n', k', A', D2.out.turn (w3 := w5) ((HM5.out.no HN5.out).no H8.out) (fun i h => .inl h) (HROW5.out.fr H8.out (fun _ _ e => e)) (HF5.out.trans HXE.out (fun _ h => h) (fun _ _ e => e.elim)) HNW.out HF5.out.size (fun i hi => HM5.out.lt i hi) HW6.out, DRel.turn HIN.out (fun j hj => (HAL'.out j hj).fr H8.out (fun _ e => e.elim) (fun _ e => e.elim)) HW6.out, by have := HA8.out; have := HLEN.out; omega⟩

          | false =>
            have r3 : w2.cell? ⟨g, o + k * 4 + 3, none⟩ = some (.slice xs xn xc) := hrx.out w2 D2.out.bel 3 _ rfl
            have UO := hid (lown_ok (c := xc) HPA.out)
            go_wp2_with fail
            refine UO.out.mono ?_
            rintro e w3 ⟨v, Q, rfl, hown, hal, hbl⟩
            have hf3 : Fr (fun _ => False) w2 w3 := Fr.of_below hbl (fun i h1 h2 => by omega)
            have D3 := hid (D2.out.no hf3)
            have HAL := hid (show AlP w3 (GG F pc) (GG F pc) Q P from hal.of
              (fun i hi hlt => .inl (by rcases hi with h | h; · exact D2.out.mesh.lt i h
                                        · have := D2.out.pcl; omega))
              (fun i hi hlt => .inl (by rcases hi with h | h; · exact (D2.out.fb i h).1
                                        · have := D2.out.pcb; omega)))
            have L3 := hid (L2.out.no hf3)
            have US := hid (send_any D3.out.mesh hown (fun i e h => by have := (hown.lt i e).1; have := D2.out.mesh.lt i h; omega) (by have := hal.1; omega))
            have HPA3 := hid (HPA.out.fr (Fr.of_below (S := fun i => w.heap.size ≤ i) hbl (fun i h1 h2 => by have := D2.out.bel.size; omega)) (fun i h => h))
            clear hown hal hbl hf3 r0 r3 UO
            go_wp2_with fail
            refine US.out.mono ?_
            rintro e w4 ⟨z, R', F', rfl, hst, hm, hf, hF'⟩
            have HST := hid hst
            have HM4 := hid hm
            have HF4 := hid hf
            have HFN := hid hF'
            have b0 : ∀ w', Fr (fun _ => False) w4 w' → w'.cell? ⟨pc, 0, none⟩ = some (.int .i64 W) := fun w' hf => hf.cell (cell_of (HF4.out.heap D3.out.blk hFp) 0 rfl) (fun e => e)
            have b1 : ∀ w', Fr (fun _ => False) w4 w' → w'.cell? ⟨pc, 1, none⟩ = some (.int .i64 most) := fun w' hf => hf.cell (cell_of (HF4.out.heap D3.out.blk hFp) 1 rfl) (fun e => e)
            have b2 : ∀ w', Fr (fun _ => False) w4 w' → w'.cell? ⟨pc, 2, none⟩ = some (.slice sa sn sk) := fun w' hf => hf.cell (cell_of (HF4.out.heap D3.out.blk hFp) 2 rfl) (fun e => e)
            have r3 : ∀ w', Fr (fun _ => False) w4 w' → w'.cell? ⟨g, o + k * 4 + 3, none⟩ = some (.slice xs xn xc) := fun w' hf' => hf'.cell (HF4.out.cell (hrx.out w3 D3.out.bel 3 _ rfl) hFg) (fun e => e)
            have hro := HF4.out
            have RR := hid (fun w' (hf : Fr (fun _ => False) w4 w') => refSend_any (cap := most) (W := W) ((D3.out.row.fr HF4.out (fun i e => (D3.out.rb i e).1)).fr hf (fun _ _ e => e)) ((HPA3.out.fr HF4.out (fun i h => (D3.out.fb i h).1)).fr hf (fun _ e => e.elim)) (by omega) (lc := xc))
            have HRL := hid (show ∀ i, (Value.slice sa sn sk).ownBlock = some i → i < w4.heap.size from fun i e => Nat.lt_of_lt_of_le (D3.out.row.lt i e) hf.size)
            conv at RR => unfold rmV
            clear hst hm hf hF' hro US
            go_upto_region 21 with fail
            as_aux_lemma =>
              have HN0 := hid (Fr.refl (fun _ => False) w4)
              refine wp_region_held_drew (S := (fun w' => Fr (fun _ => False) w4 w')) (by kernel_rfl) ?_ (fun hH => ?_)
              · exact drew_no
              refine wpAnyH_take (i := 0) (oi := { dst := some 129, op := Op.load 32 (Operand.tmp 7), type := 32, pos := "law.go:95", after := #[], guard := none }) (v := ?_) rfl (by kernel_rfl) (by kernel_rfl) (by kernel_rfl) (fun _ _ _ h => h) (Or.inl ⟨by rfl, ?_⟩) hH ?_
              rotate_left
              · intro w hSw; (try dsimp only at hSw); go_simp <;> with_reducible rfl
              try simp only [Act.put, List.setIfInBounds_toArray, List.set_cons_zero, List.set_cons_succ]
              refine wpAnyH_take (i := 1) (oi := { dst := some 130, op := Op.move (Operand.tmp 1), type := 23, pos := "law.go:95", after := #[], guard := none }) (v := ?_) rfl (by kernel_rfl) (by kernel_rfl) (by kernel_rfl) (fun _ _ _ h => h) (Or.inl ⟨by rfl, ?_⟩) hH ?_
              rotate_left
              · intro w hSw; (try dsimp only at hSw); go_simp <;> with_reducible rfl
              try simp only [Act.put, List.setIfInBounds_toArray, List.set_cons_zero, List.set_cons_succ]
              refine wpAnyH_take (i := 2) (oi := { dst := some 131, op := Op.move (Operand.tmp 8), type := 3, pos := "law.go:95", after := #[], guard := none }) (v := ?_) rfl (by kernel_rfl) (by kernel_rfl) (by kernel_rfl) (fun _ _ _ h => h) (Or.inl ⟨by rfl, ?_⟩) hH ?_
              rotate_left
              · intro w hSw; (try dsimp only at hSw); go_simp <;> with_reducible rfl
              try simp only [Act.put, List.setIfInBounds_toArray, List.set_cons_zero, List.set_cons_succ]
              refine wpAnyH_take (i := 3) (oi := { dst := some 132, op := Op.indexAddr 23 (Operand.tmp 130) (Operand.tmp 131), type := 0, pos := "law.go:95", after := #[{ on := 1, ground := Ground.data }, { on := 2, ground := Ground.data }], guard := none }) (v := ?_) rfl (by kernel_rfl) (by kernel_rfl) (by kernel_rfl) (fun _ _ _ h => h) (Or.inl ⟨by rfl, ?_⟩) hH ?_
              rotate_left
              · intro w hSw; (try dsimp only at hSw); go_simp <;> with_reducible rfl
              try simp only [Act.put, List.setIfInBounds_toArray, List.set_cons_zero, List.set_cons_succ]
              refine wpAnyH_take (i := 4) (oi := { dst := some 133, op := Op.fieldAddr 35 (Operand.tmp 132) 3, type := 0, pos := "law.go:95", after := #[{ on := 3, ground := Ground.data }], guard := none }) (v := ?_) rfl (by kernel_rfl) (by kernel_rfl) (by kernel_rfl) (fun _ _ _ h => h) (Or.inl ⟨by rfl, ?_⟩) hH ?_
              rotate_left
              · intro w hSw; (try dsimp only at hSw); go_simp <;> with_reducible rfl
              try simp only [Act.put, List.setIfInBounds_toArray, List.set_cons_zero, List.set_cons_succ]
              refine wpAnyH_take (i := 5) (oi := { dst := some 134, op := Op.load 30 (Operand.tmp 133), type := 30, pos := "law.go:95", after := #[{ on := 4, ground := Ground.data }], guard := none }) (v := ?_) rfl (by kernel_rfl) (by kernel_rfl) (by kernel_rfl) (fun _ _ _ h => h) (Or.inl ⟨by rfl, ?_⟩) hH ?_
              rotate_left
              · intro w hSw; (try dsimp only at hSw); go_simp <;> with_reducible rfl
              try simp only [Act.put, List.setIfInBounds_toArray, List.set_cons_zero, List.set_cons_succ]
              refine wpAnyH_ready (rs := [6, 10]) (by kernel_rfl) (by simp) ?_
              refine AllReadyH.cons (o := { dst := some 135, op := Op.call { callee := Callee.value (Operand.func 15), args := #[Operand.tmp 129, Operand.tmp 134], argTypes := #[32, 30] }, type := 55, pos := "law.go:95", after := #[{ on := 0, ground := Ground.data }, { on := 5, ground := Ground.data }], guard := none }) rfl (fun K hK => ?_) ?_
              ·
                go_simp
                go_at_call 15
                go_must (refine (RR.out _ hH).mono ?_)
                rintro e x1 ⟨z', s', n', k', A', rfl, hst', hrow, hfc, hnew⟩
                go_simp
                have HN1 := hid (show Fr (fun _ => False) w4 x1 from hH.trans' hfc)
                have HROW1 := hid hrow
                have HST' := hid hst'
                have HNW := hid (show NewRow w4 sa sn sk s' n' k' from fun i e => (hnew i e).imp (fun h => h) (fun h => Nat.le_trans hH.size h))
                clear hrow hst' hnew hfc
                refine hK.out _ _ ?_ (fun hH => ?_)
                · exact HN1.out
                clear hK K
                try simp only [Act.put, List.setIfInBounds_toArray, List.set_cons_zero, List.set_cons_succ]
                refine wpAnyH_take (i := 7) (oi := { dst := some 128, op := Op.move (Operand.tmp 135), type := 55, pos := "law.go:95", after := #[{ on := 6, ground := Ground.data }], guard := none }) (v := ?_) rfl (by kernel_rfl) (by kernel_rfl) (by kernel_rfl) (fun _ _ _ h => h) (Or.inl ⟨by rfl, ?_⟩) hH ?_
                rotate_left
                · intro w hSw; (try dsimp only at hSw); go_simp <;> with_reducible rfl
                try simp only [Act.put, List.setIfInBounds_toArray, List.set_cons_zero, List.set_cons_succ]
                refine wpAnyH_take (i := 8) (oi := { dst := some 136, op := Op.extract (Operand.tmp 128) 0, type := 32, pos := "law.go:95", after := #[{ on := 7, ground := Ground.data }], guard := none }) (v := ?_) rfl (by kernel_rfl) (by kernel_rfl) (by kernel_rfl) (fun _ _ _ h => h) (Or.inl ⟨by rfl, ?_⟩) hH ?_
                rotate_left
                · intro w hSw; (try dsimp only at hSw); go_simp <;> with_reducible rfl
                try simp only [Act.put, List.setIfInBounds_toArray, List.set_cons_zero, List.set_cons_succ]
                refine wpAnyH_take (i := 9) (oi := { dst := some 137, op := Op.extract (Operand.tmp 128) 1, type := 3, pos := "law.go:95", after := #[{ on := 7, ground := Ground.data }, { on := 11, ground := Ground.gcOnly Departure.lateStores }], guard := none }) (v := ?_) rfl (by kernel_rfl) (by kernel_rfl) (by kernel_rfl) (fun _ _ _ h => h) (Or.inl ⟨by rfl, ?_⟩) hH ?_
                rotate_left
                · intro w hSw; (try dsimp only at hSw); go_simp <;> with_reducible rfl
                try simp only [Act.put, List.setIfInBounds_toArray, List.set_cons_zero, List.set_cons_succ]
                refine wpAnyH_ready (rs := [10]) (by kernel_rfl) (by simp) ?_
                refine AllReadyH.cons (o := { dst := some 15, op := Op.alloc 32, type := 0, pos := "law.go:95", after := #[], guard := none }) rfl (fun K hK => ?_) AllReadyH.nil
                go_simp
                refine genw (K := K) (fun x2 hx => ?_)
                have f1 : Fr (fun _ => False) x1 x2 := by rw [hx]; first | exact (Fr.refl _ _).alloc _ | exact ((Fr.refl _ _).drew).alloc _ | exact ((Fr.refl _ _).drewN _).alloc _
                have HB2 := hid (show x2.heap[x1.heap.size]? = some (.cells (encR 0 0 none 0 0).toArray 32 (0, 0)) by rw [hx]; exact heap_new _ _)
                clear hx
                have HBL := hid (show w4.heap.size ≤ x1.heap.size from HN1.out.size)
                have HN2 := hid (HN1.out.trans' f1)
                have HNB := hid (show ∀ i, (Value.slice s' n' k').ownBlock = some i → i ≠ x1.heap.size from fun i e => by (have := HROW1.out.lt i e; omega))
                have HROW2 := hid (HROW1.out.fr f1 (fun _ _ e => e))
                clear f1
                refine hK.out _ _ ?_ (fun hH => ?_)
                · exact HN2.out
                clear hK K
                try simp only [Act.put, List.setIfInBounds_toArray, List.set_cons_zero, List.set_cons_succ]
                refine wpAnyH_ready (rs := [11]) (by kernel_rfl) (by simp) ?_
                refine AllReadyH.cons (o := { dst := none, op := Op.store 32 (Operand.tmp 15) (Operand.tmp 136), type := 0, pos := "law.go:95", after := #[{ on := 10, ground := Ground.data }, { on := 8, ground := Ground.data }, { on := 6, ground := Ground.chain }, { on := 0, ground := Ground.phase }, { on := 1, ground := Ground.phase }, { on := 2, ground := Ground.phase }, { on := 3, ground := Ground.phase }, { on := 4, ground := Ground.phase }, { on := 5, ground := Ground.phase }, { on := 6, ground := Ground.phase }, { on := 7, ground := Ground.phase }, { on := 8, ground := Ground.phase }, { on := 9, ground := Ground.textOnly Departure.lateStores }, { on := 10, ground := Ground.phase }], guard := none }) rfl (fun K hK => ?_) AllReadyH.nil
                have TS : st 32 (.pointer (some ⟨x1.heap.size, 0, none⟩)) (rmV W most (.slice s' n' k')) x2 = .ok .skip (World.setCells x2 (x1.heap.size) 0 (encR W most s' n' k')) := st_rm W most s' n' k' (there_rm (by exact HB2.out))
                go_simp
                clear TS
                refine genw (K := K) (fun x3 hx => ?_)
                have f2 : Fr (fun q => q = x1.heap.size) x2 x3 := by rw [hx]; exact Fr.setCells (S := fun q => q = x1.heap.size) (b := x1.heap.size) (fun _ => rfl) _ _ (Fr.refl _ _)
                have HB3 := hid (show x3.heap[x1.heap.size]? = some (.cells (encR W most s' n' k').toArray _ (0, 0)) by rw [hx]; exact encR_put (W' := W) (c' := most) (s' := s') (n' := n') (k' := k') HB2.out)
                clear hx
                have HN3 := hid (show Fr (fun _ => False) w4 x3 from HN2.out.trans f2 (fun _ h => h) (fun i hi e => by (have := HBL.out; omega)))
                have HROW3 := hid (HROW2.out.fr f2 (fun i e => HNB.out i e))
                clear f2
                refine hK.out _ _ ?_ (fun hH => ?_)
                · exact HN3.out
                clear hK K
                refine wpAnyH_take (i := 12) (oi := { dst := some 16, op := Op.assign (Operand.tmp 137), type := 3, pos := "law.go:95", after := #[{ on := 9, ground := Ground.data }, { on := 11, ground := Ground.chain }, { on := 0, ground := Ground.phase }, { on := 1, ground := Ground.phase }, { on := 2, ground := Ground.phase }, { on := 3, ground := Ground.phase }, { on := 4, ground := Ground.phase }, { on := 5, ground := Ground.phase }, { on := 6, ground := Ground.phase }, { on := 7, ground := Ground.phase }, { on := 8, ground := Ground.phase }, { on := 9, ground := Ground.phase }, { on := 10, ground := Ground.phase }, { on := 11, ground := Ground.phase }], guard := none }) (v := ?_) rfl (by kernel_rfl) (by kernel_rfl) (by kernel_rfl) (fun _ _ _ h => h) (Or.inl ⟨by rfl, ?_⟩) hH ?_
                rotate_left
                · intro w hSw; (try dsimp only at hSw); go_simp <;> with_reducible rfl
                try simp only [Act.put, List.setIfInBounds_toArray, List.set_cons_zero, List.set_cons_succ]
                refine wpAnyH_done (by kernel_rfl) ?_ _
                clear b0 b1 b2 r3 hH
                have hL4 : ∀ j, j < W * W → AlM x3 (GG F' pc) (GG F' pc) (R j) (msgsTo W A j) := fun j hj => ((L3.out.al j hj).turn HF4.out HFN.out).fr HN3.out (fun _ e => e.elim) (fun _ e => e.elim)
                have hQ4 : AlP x3 (GG F' pc) (GG F' pc) Q P := (HAL.out.turn HF4.out HFN.out).fr HN3.out (fun _ e => e.elim) (fun _ e => e.elim)
                obtain ⟨hzz, hin, hal', hlen⟩ := send_same L3.out.allin hL4 (fun j hj => D3.out.mesh.cnt j hj) hQ4 HST.out HST'.out
                subst hzz
                have HIN := hid hin
                have HAL' := hid hal'
                have HLEN := hid hlen
                have HQB := hid HB3.out
                have q0 := cell_of HQB.out 0 (v := .int .i64 W) rfl
                have q1 := cell_of HQB.out 1 (v := .int .i64 most) rfl
                have q2 := cell_of HQB.out 2 (v := .slice s' n' k') rfl
                obtain ⟨w6, hw6⟩ : ∃ w6, w6 = World.setCells x3 pc 0 (encR W most s' n' k') := ⟨_, rfl⟩
                have TS : st 32 (.pointer (some ⟨pc, 0, none⟩)) (.agg #[.int .i64 W, .int .i64 most, .slice s' n' k']) x3 = .ok .skip w6 := by rw [hw6]; exact st_rm W most s' n' k' (there_rm (HN3.out.heap (HF4.out.heap D3.out.blk hFp) (fun e => e)))
                have HW6 := hid hw6
                clear hL4 hQ4 hin hal' hlen hw6
                go_wp2_with fail
                go_meet
                exact ⟨R', F', s', n', k', A', D3.out.turn (w3 := w4) (HM4.out.no HN3.out) HFN.out HROW3.out (HF4.out.trans HN3.out (fun _ h => h) (fun _ _ e => e.elim)) HNW.out HF4.out.size (fun i hi => HM4.out.lt i hi) HW6.out, DRel.turn HIN.out HAL'.out HW6.out, by have := HA8.out; have := HLEN.out; omega⟩
              refine AllReadyH.cons (o := { dst := some 15, op := Op.alloc 32, type := 0, pos := "law.go:95", after := #[], guard := none }) rfl (fun K hK => ?_) AllReadyH.nil
              go_simp
              refine genw (K := K) (fun x1 hx => ?_)
              have f0 : Fr (fun _ => False) w4 x1 := by rw [hx]; first | exact (Fr.refl _ _).alloc _ | exact ((Fr.refl _ _).drew).alloc _ | exact ((Fr.refl _ _).drewN _).alloc _
              have HB1 := hid (show x1.heap[w4.heap.size]? = some (.cells (encR 0 0 none 0 0).toArray 32 (0, 0)) by rw [hx]; exact heap_new _ _)
              clear hx
              have HBL := hid (show w4.heap.size ≤ w4.heap.size from HN0.out.size)
              have HN1 := hid (HN0.out.trans' f0)
              clear f0
              refine hK.out _ _ ?_ (fun hH => ?_)
              · exact HN1.out
              clear hK K
              try simp only [Act.put, List.setIfInBounds_toArray, List.set_cons_zero, List.set_cons_succ]
              refine wpAnyH_ready (rs := [6]) (by kernel_rfl) (by simp) ?_
              refine AllReadyH.cons (o := { dst := some 135, op := Op.call { callee := Callee.value (Operand.func 15), args := #[Operand.tmp 129, Operand.tmp 134], argTypes := #[32, 30] }, type := 55, pos := "law.go:95", after := #[{ on := 0, ground := Ground.data }, { on := 5, ground := Ground.data }], guard := none }) rfl (fun K hK => ?_) AllReadyH.nil
              go_simp
              go_at_call 15
              go_must (refine (RR.out _ hH).mono ?_)
              rintro e x2 ⟨z', s', n', k', A', rfl, hst', hrow, hfc, hnew⟩
              go_simp
              have HN2 := hid (show Fr (fun _ => False) w4 x2 from hH.trans' hfc)
              have HROW2 := hid hrow
              have HST' := hid hst'
              have HNW := hid (show NewRow w4 sa sn sk s' n' k' from fun i e => (hnew i e).imp (fun h => h) (fun h => Nat.le_trans hH.size h))
              have hnw := hnew
              have HNB := hid (show ∀ i, (Value.slice s' n' k').ownBlock = some i → i ≠ w4.heap.size from fun i e => by (have h1 := HRL.out i; have h2 := lt_of_block HB1.out; have h3 := HBL.out; rcases hnw i e with h | h; (have h4 := h1 h; omega); omega))
              clear hnw
              have HB2 := hid (Fr.heap hfc HB1.out (fun e => e))
              clear hrow hst' hnew hfc
              refine hK.out _ _ ?_ (fun hH => ?_)
              · exact HN2.out
              clear hK K
              try simp only [Act.put, List.setIfInBounds_toArray, List.set_cons_zero, List.set_cons_succ]
              refine wpAnyH_take (i := 7) (oi := { dst := some 128, op := Op.move (Operand.tmp 135), type := 55, pos := "law.go:95", after := #[{ on := 6, ground := Ground.data }], guard := none }) (v := ?_) rfl (by kernel_rfl) (by kernel_rfl) (by kernel_rfl) (fun _ _ _ h => h) (Or.inl ⟨by rfl, ?_⟩) hH ?_
              rotate_left
              · intro w hSw; (try dsimp only at hSw); go_simp <;> with_reducible rfl
              try simp only [Act.put, List.setIfInBounds_toArray, List.set_cons_zero, List.set_cons_succ]
              refine wpAnyH_take (i := 8) (oi := { dst := some 136, op := Op.extract (Operand.tmp 128) 0, type := 32, pos := "law.go:95", after := #[{ on := 7, ground := Ground.data }], guard := none }) (v := ?_) rfl (by kernel_rfl) (by kernel_rfl) (by kernel_rfl) (fun _ _ _ h => h) (Or.inl ⟨by rfl, ?_⟩) hH ?_
              rotate_left
              · intro w hSw; (try dsimp only at hSw); go_simp <;> with_reducible rfl
              try simp only [Act.put, List.setIfInBounds_toArray, List.set_cons_zero, List.set_cons_succ]
              refine wpAnyH_take (i := 9) (oi := { dst := some 137, op := Op.extract (Operand.tmp 128) 1, type := 3, pos := "law.go:95", after := #[{ on := 7, ground := Ground.data }, { on := 11, ground := Ground.gcOnly Departure.lateStores }], guard := none }) (v := ?_) rfl (by kernel_rfl) (by kernel_rfl) (by kernel_rfl) (fun _ _ _ h => h) (Or.inl ⟨by rfl, ?_⟩) hH ?_
              rotate_left
              · intro w hSw; (try dsimp only at hSw); go_simp <;> with_reducible rfl
              try simp only [Act.put, List.setIfInBounds_toArray, List.set_cons_zero, List.set_cons_succ]
              refine wpAnyH_ready (rs := [11]) (by kernel_rfl) (by simp) ?_
              refine AllReadyH.cons (o := { dst := none, op := Op.store 32 (Operand.tmp 15) (Operand.tmp 136), type := 0, pos := "law.go:95", after := #[{ on := 10, ground := Ground.data }, { on := 8, ground := Ground.data }, { on := 6, ground := Ground.chain }, { on := 0, ground := Ground.phase }, { on := 1, ground := Ground.phase }, { on := 2, ground := Ground.phase }, { on := 3, ground := Ground.phase }, { on := 4, ground := Ground.phase }, { on := 5, ground := Ground.phase }, { on := 6, ground := Ground.phase }, { on := 7, ground := Ground.phase }, { on := 8, ground := Ground.phase }, { on := 9, ground := Ground.textOnly Departure.lateStores }, { on := 10, ground := Ground.phase }], guard := none }) rfl (fun K hK => ?_) AllReadyH.nil
              have TS : st 32 (.pointer (some ⟨w4.heap.size, 0, none⟩)) (rmV W most (.slice s' n' k')) x2 = .ok .skip (World.setCells x2 (w4.heap.size) 0 (encR W most s' n' k')) := st_rm W most s' n' k' (there_rm (by exact HB2.out))
              go_simp
              clear TS
              refine genw (K := K) (fun x3 hx => ?_)
              have f2 : Fr (fun q => q = w4.heap.size) x2 x3 := by rw [hx]; exact Fr.setCells (S := fun q => q = w4.heap.size) (b := w4.heap.size) (fun _ => rfl) _ _ (Fr.refl _ _)
              have HB3 := hid (show x3.heap[w4.heap.size]? = some (.cells (encR W most s' n' k').toArray _ (0, 0)) by rw [hx]; exact encR_put (W' := W) (c' := most) (s' := s') (n' := n') (k' := k') HB2.out)
              clear hx
              have HN3 := hid (show Fr (fun _ => False) w4 x3 from HN2.out.trans f2 (fun _ h => h) (fun i hi e => by (have := HBL.out; omega)))
              have HROW3 := hid (HROW2.out.fr f2 (fun i e => HNB.out i e))
              clear f2
              refine hK.out _ _ ?_ (fun hH => ?_)
              · exact HN3.out
              clear hK K
              refine wpAnyH_take (i := 12) (oi := { dst := some 16, op := Op.assign (Operand.tmp 137), type := 3, pos := "law.go:95", after := #[{ on := 9, ground := Ground.data }, { on := 11, ground := Ground.chain }, { on := 0, ground := Ground.phase }, { on := 1, ground := Ground.phase }, { on := 2, ground := Ground.phase }, { on := 3, ground := Ground.phase }, { on := 4, ground := Ground.phase }, { on := 5, ground := Ground.phase }, { on := 6, ground := Ground.phase }, { on := 7, ground := Ground.phase }, { on := 8, ground := Ground.phase }, { on := 9, ground := Ground.phase }, { on := 10, ground := Ground.phase }, { on := 11, ground := Ground.phase }], guard := none }) (v := ?_) rfl (by kernel_rfl) (by kernel_rfl) (by kernel_rfl) (fun _ _ _ h => h) (Or.inl ⟨by rfl, ?_⟩) hH ?_
              rotate_left
              · intro w hSw; (try dsimp only at hSw); go_simp <;> with_reducible rfl
              try simp only [Act.put, List.setIfInBounds_toArray, List.set_cons_zero, List.set_cons_succ]
              refine wpAnyH_done (by kernel_rfl) ?_ _
              clear b0 b1 b2 r3 hH
              have hL4 : ∀ j, j < W * W → AlM x3 (GG F' pc) (GG F' pc) (R j) (msgsTo W A j) := fun j hj => ((L3.out.al j hj).turn HF4.out HFN.out).fr HN3.out (fun _ e => e.elim) (fun _ e => e.elim)
              have hQ4 : AlP x3 (GG F' pc) (GG F' pc) Q P := (HAL.out.turn HF4.out HFN.out).fr HN3.out (fun _ e => e.elim) (fun _ e => e.elim)
              obtain ⟨hzz, hin, hal', hlen⟩ := send_same L3.out.allin hL4 (fun j hj => D3.out.mesh.cnt j hj) hQ4 HST.out HST'.out
              subst hzz
              have HIN := hid hin
              have HAL' := hid hal'
              have HLEN := hid hlen
              have HQB := hid HB3.out
              have q0 := cell_of HQB.out 0 (v := .int .i64 W) rfl
              have q1 := cell_of HQB.out 1 (v := .int .i64 most) rfl
              have q2 := cell_of HQB.out 2 (v := .slice s' n' k') rfl
              obtain ⟨w6, hw6⟩ : ∃ w6, w6 = World.setCells x3 pc 0 (encR W most s' n' k') := ⟨_, rfl⟩
              have TS : st 32 (.pointer (some ⟨pc, 0, none⟩)) (.agg #[.int .i64 W, .int .i64 most, .slice s' n' k']) x3 = .ok .skip w6 := by rw [hw6]; exact st_rm W most s' n' k' (there_rm (HN3.out.heap (HF4.out.heap D3.out.blk hFp) (fun e => e)))
              have HW6 := hid hw6
              clear hL4 hQ4 hin hal' hlen hw6
              go_wp2_with fail
              go_meet
              exact ⟨R', F', s', n', k', A', D3.out.turn (w3 := w4) (HM4.out.no HN3.out) HFN.out HROW3.out (HF4.out.trans HN3.out (fun _ h => h) (fun _ _ e => e.elim)) HNW.out HF4.out.size (fun i hi => HM4.out.lt i hi) HW6.out, DRel.turn HIN.out HAL'.out HW6.out, by have := HA8.out; have := HLEN.out; omega⟩
        case rest =>
          obtain ⟨R2, F2, ta, tn, tk, A2, D, DR, hA8⟩ := hcut
          obtain ⟨w4, hw4⟩ : ∃ w4, w4 = wc := ⟨_, rfl⟩
          rw [← hw4] at D DR ⊢
          clear hw4 r0 D2 L2 HPA HA8 hFg hFp hgp hA
          have D4 := hid D
          have L4 := hid DR
          have HA9 := hid hA8
          have hA2 : A2.length ≤ 3000 := by omega
          clear D DR hA8
          have LST := D4.out.mesh
          go_wp2_with fail
          refine (least_ok LST).mono ?_
          rintro e w5 ⟨he, hf⟩
          rw [L4.out.least] at he
          have D5 := hid (D4.out.no hf)
          have L5 := hid (L4.out.no hf)
          have c0 := cell_of D5.out.blk 0 (v := .int .i64 W) rfl
          have c1 := cell_of D5.out.blk 1 (v := .int .i64 most) rfl
          have c2 := cell_of D5.out.blk 2 (v := .slice ta tn tk) rfl
          have RL := hid (D5.out.row.elim fun B h => refLeast_ok (v := .slice ta tn tk) h (by omega) W most)
          unfold rmV at RL
          generalize hla : lsA A2 = la at *
          obtain ⟨l1, l2⟩ := la
          subst he
          clear hf D4 L4 LST hla
          go_wp2_with fail
          refine RL.out.mono ?_
          rintro e w6 ⟨rfl, hf⟩
          have D6 := hid (D5.out.no hf)
          have L6 := hid (L5.out.no hf)
          clear c0 c1 c2 D5 L5 RL hf
          have r1 : ∀ w', Fr (fun _ => False) w6 w' → w'.cell? ⟨g, o + k * 4 + 1, none⟩ = some (.int .i64 x.a) := fun w' hf => hf.cell (hrx.out w6 D6.out.bel 1 _ rfl) (fun e => e)
          have r2 : ∀ w', Fr (fun _ => False) w6 w' → w'.cell? ⟨g, o + k * 4 + 2, none⟩ = some (.int .i64 x.b) := fun w' hf => hf.cell (hrx.out w6 D6.out.bel 2 _ rfl) (fun e => e)
          have b0 : ∀ w', Fr (fun _ => False) w6 w' → w'.cell? ⟨pc, 0, none⟩ = some (.int .i64 W) := fun w' hf => hf.cell (cell_of D6.out.blk 0 rfl) (fun e => e)
          have b1 : ∀ w', Fr (fun _ => False) w6 w' → w'.cell? ⟨pc, 1, none⟩ = some (.int .i64 most) := fun w' hf => hf.cell (cell_of D6.out.blk 1 rfl) (fun e => e)
          have b2 : ∀ w', Fr (fun _ => False) w6 w' → w'.cell? ⟨pc, 2, none⟩ = some (.slice ta tn tk) := fun w' hf => hf.cell (cell_of D6.out.blk 2 rfl) (fun e => e)
          have U1 := hid (fun w' (hf : Fr (fun _ => False) w6 w') => (show Calls Try.prog 18 #[.pointer (some ⟨p, 0, none⟩), .int .i64 x.a, .int .i64 x.b] w' fun e w'' => e = .returned (.int .i64 (cntA x.a x.b A2)) ∧ ∃ m, w'' = w'.drewN m from by
            have h := mlen_ok (D6.out.mesh.no hf) x.a x.b
            rwa [L6.out.len] at h))
          have U2 := hid (fun w' (hf : Fr (fun _ => False) w6 w') => (D6.out.row.fr hf (fun _ _ e => e)).elim fun B h => refLen_ok (v := .slice ta tn tk) h (by omega) W most x.a x.b)
          have U3 := hid (fun w' (hf : Fr (fun _ => False) w6 w') => readyL_ok (cap := most) (D6.out.mesh.no hf) (D6.out.row.fr hf (fun _ _ e => e)) (by omega) (fun a b ha hb => L6.out.cnt a b ha hb))
          unfold rmV at U2 U3
          generalize cntA x.a x.b A2 = cn at *
          cases l2
          all_goals
            go_upto_region 27 with fail
            as_aux_lemma =>
              refine wp_region_held_drew (S := (fun w' => Fr (fun _ => False) w6 w')) (by kernel_rfl) ?_ (fun hH => ?_)
              · exact drew_no
              refine wpAnyH_take (i := 0) (oi := { dst := some 152, op := Op.move (Operand.tmp 17), type := 3, pos := "law.go:103", after := #[], guard := none }) (v := ?_) rfl (by kernel_rfl) (by kernel_rfl) (by kernel_rfl) (fun _ _ _ h => h) (Or.inl ⟨by rfl, ?_⟩) hH ?_
              rotate_left
              · intro w hSw; (try dsimp only at hSw); go_simp <;> with_reducible rfl
              try simp only [Act.put, List.setIfInBounds_toArray, List.set_cons_zero, List.set_cons_succ]
              refine wpAnyH_take (i := 1) (oi := { dst := some 153, op := Op.move (Operand.tmp 19), type := 3, pos := "law.go:103", after := #[], guard := none }) (v := ?_) rfl (by kernel_rfl) (by kernel_rfl) (by kernel_rfl) (fun _ _ _ h => h) (Or.inl ⟨by rfl, ?_⟩) hH ?_
              rotate_left
              · intro w hSw; (try dsimp only at hSw); go_simp <;> with_reducible rfl
              try simp only [Act.put, List.setIfInBounds_toArray, List.set_cons_zero, List.set_cons_succ]
              refine wpAnyH_take (i := 2) (oi := { dst := some 154, op := Op.binOp BinOp.neq 3 (Operand.tmp 152) (Operand.tmp 153) 3, type := 4, pos := "law.go:103", after := #[{ on := 0, ground := Ground.data }, { on := 1, ground := Ground.data }], guard := none }) (v := ?_) rfl (by kernel_rfl) (by kernel_rfl) (by kernel_rfl) (fun _ _ _ h => h) (Or.inl ⟨by rfl, ?_⟩) hH ?_
              rotate_left
              · intro w hSw; (try dsimp only at hSw); go_simp <;> with_reducible rfl
              try simp only [Act.put, List.setIfInBounds_toArray, List.set_cons_zero, List.set_cons_succ]
              refine wpAnyH_take (i := 3) (oi := { dst := some 155, op := Op.move (Operand.tmp 154), type := 4, pos := "law.go:103", after := #[{ on := 2, ground := Ground.data }], guard := none }) (v := ?_) rfl (by kernel_rfl) (by kernel_rfl) (by kernel_rfl) (fun _ _ _ h => h) (Or.inl ⟨by rfl, ?_⟩) hH ?_
              rotate_left
              · intro w hSw; (try dsimp only at hSw); go_simp <;> with_reducible rfl
              try simp only [Act.put, List.setIfInBounds_toArray, List.set_cons_zero, List.set_cons_succ]
              refine wpAnyH_take (i := 4) (oi := { dst := some 156, op := Op.move (Operand.tmp 18), type := 4, pos := "law.go:103", after := #[{ on := 3, ground := Ground.guard }], guard := some (3, false) }) (v := ?_) rfl (by kernel_rfl) (by kernel_rfl) (by kernel_rfl) (fun _ _ _ h => h) (Or.inl ⟨by rfl, ?_⟩) hH ?_
              rotate_left
              · intro w hSw; (try dsimp only at hSw); go_simp <;> with_reducible rfl
              try simp only [Act.put, List.setIfInBounds_toArray, List.set_cons_zero, List.set_cons_succ]
              refine wpAnyH_take (i := 5) (oi := { dst := some 157, op := Op.move (Operand.tmp 20), type := 4, pos := "law.go:103", after := #[{ on := 3, ground := Ground.guard }], guard := some (3, false) }) (v := ?_) rfl (by kernel_rfl) (by kernel_rfl) (by kernel_rfl) (fun _ _ _ h => h) (Or.inl ⟨by rfl, ?_⟩) hH ?_
              rotate_left
              · intro w hSw; (try dsimp only at hSw); go_simp <;> with_reducible rfl
              try simp only [Act.put, List.setIfInBounds_toArray, List.set_cons_zero, List.set_cons_succ]
              refine wpAnyH_take (i := 6) (oi := { dst := some 158, op := Op.binOp BinOp.neq 4 (Operand.tmp 156) (Operand.tmp 157) 4, type := 4, pos := "law.go:103", after := #[{ on := 4, ground := Ground.data }, { on := 5, ground := Ground.data }, { on := 3, ground := Ground.guard }], guard := some (3, false) }) (v := ?_) rfl (by kernel_rfl) (by kernel_rfl) (by kernel_rfl) (fun _ _ _ h => h) (Or.inl ⟨by rfl, ?_⟩) hH ?_
              rotate_left
              · intro w hSw; (try dsimp only at hSw); go_simp <;> with_reducible rfl
              try simp only [Act.put, List.setIfInBounds_toArray, List.set_cons_zero, List.set_cons_succ]
              refine wpAnyH_take (i := 7) (oi := { dst := some 159, op := Op.pick (Operand.tmp 155) (Operand.const (Value.bool true)) (Operand.tmp 158), type := 4, pos := "law.go:103", after := #[{ on := 3, ground := Ground.data }, { on := 6, ground := Ground.data }], guard := none }) (v := ?_) rfl (by kernel_rfl) (by kernel_rfl) (by kernel_rfl) (fun _ _ _ h => h) (Or.inl ⟨by rfl, ?_⟩) hH ?_
              rotate_left
              · intro w hSw; (try dsimp only at hSw); go_simp <;> with_reducible rfl
              try simp only [Act.put, List.setIfInBounds_toArray, List.set_cons_zero, List.set_cons_succ]
              refine wpAnyH_take (i := 8) (oi := { dst := some 160, op := Op.move (Operand.tmp 159), type := 4, pos := "law.go:103", after := #[{ on := 7, ground := Ground.data }, { on := 3, ground := Ground.chain }], guard := none }) (v := ?_) rfl (by kernel_rfl) (by kernel_rfl) (by kernel_rfl) (fun _ _ _ h => h) (Or.inl ⟨by rfl, ?_⟩) hH ?_
              rotate_left
              · intro w hSw; (try dsimp only at hSw); go_simp <;> with_reducible rfl
              try simp only [Act.put, List.setIfInBounds_toArray, List.set_cons_zero, List.set_cons_succ]
              refine wpAnyH_take (i := 9) (oi := { dst := some 161, op := Op.move (Operand.tmp 5), type := 25, pos := "law.go:103", after := #[{ on := 8, ground := Ground.guard }], guard := some (8, false) }) (v := ?_) rfl (by kernel_rfl) (by kernel_rfl) (by kernel_rfl) (fun _ _ _ h => h) (Or.inl ⟨by rfl, ?_⟩) hH ?_
              rotate_left
              · intro w hSw; (try dsimp only at hSw); go_simp <;> with_reducible rfl
              try simp only [Act.put, List.setIfInBounds_toArray, List.set_cons_zero, List.set_cons_succ]
              refine wpAnyH_take (i := 10) (oi := { dst := some 162, op := Op.move (Operand.tmp 1), type := 23, pos := "law.go:103", after := #[{ on := 8, ground := Ground.guard }], guard := some (8, false) }) (v := ?_) rfl (by kernel_rfl) (by kernel_rfl) (by kernel_rfl) (fun _ _ _ h => h) (Or.inl ⟨by rfl, ?_⟩) hH ?_
              rotate_left
              · intro w hSw; (try dsimp only at hSw); go_simp <;> with_reducible rfl
              try simp only [Act.put, List.setIfInBounds_toArray, List.set_cons_zero, List.set_cons_succ]
              refine wpAnyH_take (i := 11) (oi := { dst := some 163, op := Op.move (Operand.tmp 8), type := 3, pos := "law.go:103", after := #[{ on := 8, ground := Ground.guard }], guard := some (8, false) }) (v := ?_) rfl (by kernel_rfl) (by kernel_rfl) (by kernel_rfl) (fun _ _ _ h => h) (Or.inl ⟨by rfl, ?_⟩) hH ?_
              rotate_left
              · intro w hSw; (try dsimp only at hSw); go_simp <;> with_reducible rfl
              try simp only [Act.put, List.setIfInBounds_toArray, List.set_cons_zero, List.set_cons_succ]
              refine wpAnyH_take (i := 12) (oi := { dst := some 164, op := Op.indexAddr 23 (Operand.tmp 162) (Operand.tmp 163), type := 0, pos := "law.go:103", after := #[{ on := 10, ground := Ground.data }, { on := 11, ground := Ground.data }, { on := 8, ground := Ground.guard }], guard := some (8, false) }) (v := ?_) rfl (by kernel_rfl) (by kernel_rfl) (by kernel_rfl) (fun _ _ _ h => h) (Or.inl ⟨by rfl, ?_⟩) hH ?_
              rotate_left
              · intro w hSw; (try dsimp only at hSw); go_simp <;> with_reducible rfl
              try simp only [Act.put, List.setIfInBounds_toArray, List.set_cons_zero, List.set_cons_succ]
              refine wpAnyH_take (i := 13) (oi := { dst := some 165, op := Op.fieldAddr 35 (Operand.tmp 164) 1, type := 0, pos := "law.go:103", after := #[{ on := 12, ground := Ground.data }, { on := 8, ground := Ground.guard }], guard := some (8, false) }) (v := ?_) rfl (by kernel_rfl) (by kernel_rfl) (by kernel_rfl) (fun _ _ _ h => h) (Or.inl ⟨by rfl, ?_⟩) hH ?_
              rotate_left
              · intro w hSw; (try dsimp only at hSw); go_simp <;> with_reducible rfl
              try simp only [Act.put, List.setIfInBounds_toArray, List.set_cons_zero, List.set_cons_succ]
              refine wpAnyH_take (i := 14) (oi := { dst := some 166, op := Op.load 3 (Operand.tmp 165), type := 3, pos := "law.go:103", after := #[{ on := 13, ground := Ground.data }, { on := 8, ground := Ground.guard }], guard := some (8, false) }) (v := ?_) rfl (by kernel_rfl) (by kernel_rfl) (by kernel_rfl) (fun _ _ _ h => h) (Or.inl ⟨by rfl, ?_⟩) hH ?_
              rotate_left
              · intro w hSw; (try dsimp only at hSw); go_simp <;> with_reducible rfl
              try simp only [Act.put, List.setIfInBounds_toArray, List.set_cons_zero, List.set_cons_succ]
              refine wpAnyH_take (i := 15) (oi := { dst := some 167, op := Op.move (Operand.tmp 1), type := 23, pos := "law.go:103", after := #[{ on := 8, ground := Ground.guard }], guard := some (8, false) }) (v := ?_) rfl (by kernel_rfl) (by kernel_rfl) (by kernel_rfl) (fun _ _ _ h => h) (Or.inl ⟨by rfl, ?_⟩) hH ?_
              rotate_left
              · intro w hSw; (try dsimp only at hSw); go_simp <;> with_reducible rfl
              try simp only [Act.put, List.setIfInBounds_toArray, List.set_cons_zero, List.set_cons_succ]
              refine wpAnyH_take (i := 16) (oi := { dst := some 168, op := Op.move (Operand.tmp 8), type := 3, pos := "law.go:103", after := #[{ on := 8, ground := Ground.guard }], guard := some (8, false) }) (v := ?_) rfl (by kernel_rfl) (by kernel_rfl) (by kernel_rfl) (fun _ _ _ h => h) (Or.inl ⟨by rfl, ?_⟩) hH ?_
              rotate_left
              · intro w hSw; (try dsimp only at hSw); go_simp <;> with_reducible rfl
              try simp only [Act.put, List.setIfInBounds_toArray, List.set_cons_zero, List.set_cons_succ]
              refine wpAnyH_take (i := 17) (oi := { dst := some 169, op := Op.indexAddr 23 (Operand.tmp 167) (Operand.tmp 168), type := 0, pos := "law.go:103", after := #[{ on := 15, ground := Ground.data }, { on := 16, ground := Ground.data }, { on := 8, ground := Ground.guard }], guard := some (8, false) }) (v := ?_) rfl (by kernel_rfl) (by kernel_rfl) (by kernel_rfl) (fun _ _ _ h => h) (Or.inl ⟨by rfl, ?_⟩) hH ?_
              rotate_left
              · intro w hSw; (try dsimp only at hSw); go_simp <;> with_reducible rfl
              try simp only [Act.put, List.setIfInBounds_toArray, List.set_cons_zero, List.set_cons_succ]
              refine wpAnyH_take (i := 18) (oi := { dst := some 170, op := Op.fieldAddr 35 (Operand.tmp 169) 2, type := 0, pos := "law.go:103", after := #[{ on := 17, ground := Ground.data }, { on := 8, ground := Ground.guard }], guard := some (8, false) }) (v := ?_) rfl (by kernel_rfl) (by kernel_rfl) (by kernel_rfl) (fun _ _ _ h => h) (Or.inl ⟨by rfl, ?_⟩) hH ?_
              rotate_left
              · intro w hSw; (try dsimp only at hSw); go_simp <;> with_reducible rfl
              try simp only [Act.put, List.setIfInBounds_toArray, List.set_cons_zero, List.set_cons_succ]
              refine wpAnyH_take (i := 19) (oi := { dst := some 171, op := Op.load 3 (Operand.tmp 170), type := 3, pos := "law.go:103", after := #[{ on := 18, ground := Ground.data }, { on := 8, ground := Ground.guard }], guard := some (8, false) }) (v := ?_) rfl (by kernel_rfl) (by kernel_rfl) (by kernel_rfl) (fun _ _ _ h => h) (Or.inl ⟨by rfl, ?_⟩) hH ?_
              rotate_left
              · intro w hSw; (try dsimp only at hSw); go_simp <;> with_reducible rfl
              try simp only [Act.put, List.setIfInBounds_toArray, List.set_cons_zero, List.set_cons_succ]
              refine wpAnyH_take (i := 21) (oi := { dst := some 173, op := Op.load 32 (Operand.tmp 7), type := 32, pos := "law.go:103", after := #[{ on := 8, ground := Ground.guard }], guard := some (8, false) }) (v := ?_) rfl (by kernel_rfl) (by kernel_rfl) (by kernel_rfl) (fun _ _ _ h => h) (Or.inl ⟨by rfl, ?_⟩) hH ?_
              rotate_left
              · intro w hSw; (try dsimp only at hSw); go_simp <;> with_reducible rfl
              try simp only [Act.put, List.setIfInBounds_toArray, List.set_cons_zero, List.set_cons_succ]
              refine wpAnyH_take (i := 22) (oi := { dst := some 174, op := Op.move (Operand.tmp 1), type := 23, pos := "law.go:103", after := #[{ on := 8, ground := Ground.guard }], guard := some (8, false) }) (v := ?_) rfl (by kernel_rfl) (by kernel_rfl) (by kernel_rfl) (fun _ _ _ h => h) (Or.inl ⟨by rfl, ?_⟩) hH ?_
              rotate_left
              · intro w hSw; (try dsimp only at hSw); go_simp <;> with_reducible rfl
              try simp only [Act.put, List.setIfInBounds_toArray, List.set_cons_zero, List.set_cons_succ]
              refine wpAnyH_take (i := 23) (oi := { dst := some 175, op := Op.move (Operand.tmp 8), type := 3, pos := "law.go:103", after := #[{ on := 8, ground := Ground.guard }], guard := some (8, false) }) (v := ?_) rfl (by kernel_rfl) (by kernel_rfl) (by kernel_rfl) (fun _ _ _ h => h) (Or.inl ⟨by rfl, ?_⟩) hH ?_
              rotate_left
              · intro w hSw; (try dsimp only at hSw); go_simp <;> with_reducible rfl
              try simp only [Act.put, List.setIfInBounds_toArray, List.set_cons_zero, List.set_cons_succ]
              refine wpAnyH_take (i := 24) (oi := { dst := some 176, op := Op.indexAddr 23 (Operand.tmp 174) (Operand.tmp 175), type := 0, pos := "law.go:103", after := #[{ on := 22, ground := Ground.data }, { on := 23, ground := Ground.data }, { on := 8, ground := Ground.guard }], guard := some (8, false) }) (v := ?_) rfl (by kernel_rfl) (by kernel_rfl) (by kernel_rfl) (fun _ _ _ h => h) (Or.inl ⟨by rfl, ?_⟩) hH ?_
              rotate_left
              · intro w hSw; (try dsimp only at hSw); go_simp <;> with_reducible rfl
              try simp only [Act.put, List.setIfInBounds_toArray, List.set_cons_zero, List.set_cons_succ]
              refine wpAnyH_take (i := 25) (oi := { dst := some 177, op := Op.fieldAddr 35 (Operand.tmp 176) 1, type := 0, pos := "law.go:103", after := #[{ on := 24, ground := Ground.data }, { on := 8, ground := Ground.guard }], guard := some (8, false) }) (v := ?_) rfl (by kernel_rfl) (by kernel_rfl) (by kernel_rfl) (fun _ _ _ h => h) (Or.inl ⟨by rfl, ?_⟩) hH ?_
              rotate_left
              · intro w hSw; (try dsimp only at hSw); go_simp <;> with_reducible rfl
              try simp only [Act.put, List.setIfInBounds_toArray, List.set_cons_zero, List.set_cons_succ]
              refine wpAnyH_take (i := 26) (oi := { dst := some 178, op := Op.load 3 (Operand.tmp 177), type := 3, pos := "law.go:103", after := #[{ on := 25, ground := Ground.data }, { on := 8, ground := Ground.guard }], guard := some (8, false) }) (v := ?_) rfl (by kernel_rfl) (by kernel_rfl) (by kernel_rfl) (fun _ _ _ h => h) (Or.inl ⟨by rfl, ?_⟩) hH ?_
              rotate_left
              · intro w hSw; (try dsimp only at hSw); go_simp <;> with_reducible rfl
              try simp only [Act.put, List.setIfInBounds_toArray, List.set_cons_zero, List.set_cons_succ]
              refine wpAnyH_take (i := 27) (oi := { dst := some 179, op := Op.move (Operand.tmp 1), type := 23, pos := "law.go:103", after := #[{ on := 8, ground := Ground.guard }], guard := some (8, false) }) (v := ?_) rfl (by kernel_rfl) (by kernel_rfl) (by kernel_rfl) (fun _ _ _ h => h) (Or.inl ⟨by rfl, ?_⟩) hH ?_
              rotate_left
              · intro w hSw; (try dsimp only at hSw); go_simp <;> with_reducible rfl
              try simp only [Act.put, List.setIfInBounds_toArray, List.set_cons_zero, List.set_cons_succ]
              refine wpAnyH_take (i := 28) (oi := { dst := some 180, op := Op.move (Operand.tmp 8), type := 3, pos := "law.go:103", after := #[{ on := 8, ground := Ground.guard }], guard := some (8, false) }) (v := ?_) rfl (by kernel_rfl) (by kernel_rfl) (by kernel_rfl) (fun _ _ _ h => h) (Or.inl ⟨by rfl, ?_⟩) hH ?_
              rotate_left
              · intro w hSw; (try dsimp only at hSw); go_simp <;> with_reducible rfl
              try simp only [Act.put, List.setIfInBounds_toArray, List.set_cons_zero, List.set_cons_succ]
              refine wpAnyH_take (i := 29) (oi := { dst := some 181, op := Op.indexAddr 23 (Operand.tmp 179) (Operand.tmp 180), type := 0, pos := "law.go:103", after := #[{ on := 27, ground := Ground.data }, { on := 28, ground := Ground.data }, { on := 8, ground := Ground.guard }], guard := some (8, false) }) (v := ?_) rfl (by kernel_rfl) (by kernel_rfl) (by kernel_rfl) (fun _ _ _ h => h) (Or.inl ⟨by rfl, ?_⟩) hH ?_
              rotate_left
              · intro w hSw; (try dsimp only at hSw); go_simp <;> with_reducible rfl
              try simp only [Act.put, List.setIfInBounds_toArray, List.set_cons_zero, List.set_cons_succ]
              refine wpAnyH_take (i := 30) (oi := { dst := some 182, op := Op.fieldAddr 35 (Operand.tmp 181) 2, type := 0, pos := "law.go:103", after := #[{ on := 29, ground := Ground.data }, { on := 8, ground := Ground.guard }], guard := some (8, false) }) (v := ?_) rfl (by kernel_rfl) (by kernel_rfl) (by kernel_rfl) (fun _ _ _ h => h) (Or.inl ⟨by rfl, ?_⟩) hH ?_
              rotate_left
              · intro w hSw; (try dsimp only at hSw); go_simp <;> with_reducible rfl
              try simp only [Act.put, List.setIfInBounds_toArray, List.set_cons_zero, List.set_cons_succ]
              refine wpAnyH_take (i := 31) (oi := { dst := some 183, op := Op.load 3 (Operand.tmp 182), type := 3, pos := "law.go:103", after := #[{ on := 30, ground := Ground.data }, { on := 8, ground := Ground.guard }], guard := some (8, false) }) (v := ?_) rfl (by kernel_rfl) (by kernel_rfl) (by kernel_rfl) (fun _ _ _ h => h) (Or.inl ⟨by rfl, ?_⟩) hH ?_
              rotate_left
              · intro w hSw; (try dsimp only at hSw); go_simp <;> with_reducible rfl
              try simp only [Act.put, List.setIfInBounds_toArray, List.set_cons_zero, List.set_cons_succ]
              refine wpAnyH_ready (rs := [20]) (by kernel_rfl) (by simp) ?_
              refine AllReadyH.cons (o := { dst := some 172, op := Op.call { callee := Callee.value (Operand.func 18), args := #[Operand.tmp 161, Operand.tmp 166, Operand.tmp 171], argTypes := #[25, 3, 3] }, type := 3, pos := "law.go:103", after := #[{ on := 9, ground := Ground.data }, { on := 14, ground := Ground.data }, { on := 19, ground := Ground.data }, { on := 8, ground := Ground.chain }, { on := 8, ground := Ground.guard }], guard := some (8, false) }) rfl (fun K hK => ?_) AllReadyH.nil
              go_simp
              go_at_call 18
              go_must (refine (U1.out _ hH).mono ?_)
              rintro e w' ⟨rfl, m, rfl⟩
              go_simp
              refine hK.out _ _ ?_ (fun hH => ?_)
              · exact (Fr.refl (fun _ => False) w6).drewN _
              clear hK K
              try simp only [Act.put, List.setIfInBounds_toArray, List.set_cons_zero, List.set_cons_succ]
              refine wpAnyH_ready (rs := [32]) (by kernel_rfl) (by simp) ?_
              refine AllReadyH.cons (o := { dst := some 184, op := Op.call { callee := Callee.value (Operand.func 19), args := #[Operand.tmp 173, Operand.tmp 178, Operand.tmp 183], argTypes := #[32, 3, 3] }, type := 3, pos := "law.go:103", after := #[{ on := 21, ground := Ground.data }, { on := 26, ground := Ground.data }, { on := 31, ground := Ground.data }, { on := 20, ground := Ground.chain }, { on := 8, ground := Ground.guard }], guard := some (8, false) }) rfl (fun K hK => ?_) AllReadyH.nil
              go_simp
              go_at_call 19
              go_must (refine (U2.out _ hH).mono ?_)
              rintro e w7 ⟨rfl, hf7⟩
              go_simp
              refine hK.out _ _ ?_ (fun hH => ?_)
              · exact hH.trans' hf7
              clear hK K
              try simp only [Act.put, List.setIfInBounds_toArray, List.set_cons_zero, List.set_cons_succ]
              refine wpAnyH_take (i := 33) (oi := { dst := some 185, op := Op.binOp BinOp.neq 3 (Operand.tmp 172) (Operand.tmp 184) 3, type := 4, pos := "law.go:103", after := #[{ on := 20, ground := Ground.data }, { on := 32, ground := Ground.data }, { on := 8, ground := Ground.guard }], guard := some (8, false) }) (v := ?_) rfl (by kernel_rfl) (by kernel_rfl) (by kernel_rfl) (fun _ _ _ h => h) (Or.inl ⟨by rfl, ?_⟩) hH ?_
              rotate_left
              · intro w hSw; (try dsimp only at hSw); go_simp <;> with_reducible rfl
              try simp only [Act.put, List.setIfInBounds_toArray, List.set_cons_zero, List.set_cons_succ]
              refine wpAnyH_take (i := 34) (oi := { dst := some 186, op := Op.pick (Operand.tmp 160) (Operand.const (Value.bool true)) (Operand.tmp 185), type := 4, pos := "law.go:103", after := #[{ on := 8, ground := Ground.data }, { on := 33, ground := Ground.data }], guard := none }) (v := ?_) rfl (by kernel_rfl) (by kernel_rfl) (by kernel_rfl) (fun _ _ _ h => h) (Or.inl ⟨by rfl, ?_⟩) hH ?_
              rotate_left
              · intro w hSw; (try dsimp only at hSw); go_simp <;> with_reducible rfl
              try simp only [Act.put, List.setIfInBounds_toArray, List.set_cons_zero, List.set_cons_succ]
              refine wpAnyH_take (i := 35) (oi := { dst := some 187, op := Op.move (Operand.tmp 186), type := 4, pos := "law.go:103", after := #[{ on := 34, ground := Ground.data }, { on := 32, ground := Ground.chain }], guard := none }) (v := ?_) rfl (by kernel_rfl) (by kernel_rfl) (by kernel_rfl) (fun _ _ _ h => h) (Or.inl ⟨by rfl, ?_⟩) hH ?_
              rotate_left
              · intro w hSw; (try dsimp only at hSw); go_simp <;> with_reducible rfl
              try simp only [Act.put, List.setIfInBounds_toArray, List.set_cons_zero, List.set_cons_succ]
              refine wpAnyH_take (i := 36) (oi := { dst := some 188, op := Op.move (Operand.tmp 5), type := 25, pos := "law.go:103", after := #[{ on := 35, ground := Ground.guard }], guard := some (35, false) }) (v := ?_) rfl (by kernel_rfl) (by kernel_rfl) (by kernel_rfl) (fun _ _ _ h => h) (Or.inl ⟨by rfl, ?_⟩) hH ?_
              rotate_left
              · intro w hSw; (try dsimp only at hSw); go_simp <;> with_reducible rfl
              try simp only [Act.put, List.setIfInBounds_toArray, List.set_cons_zero, List.set_cons_succ]
              refine wpAnyH_take (i := 37) (oi := { dst := some 189, op := Op.load 32 (Operand.tmp 7), type := 32, pos := "law.go:103", after := #[{ on := 35, ground := Ground.guard }], guard := some (35, false) }) (v := ?_) rfl (by kernel_rfl) (by kernel_rfl) (by kernel_rfl) (fun _ _ _ h => h) (Or.inl ⟨by rfl, ?_⟩) hH ?_
              rotate_left
              · intro w hSw; (try dsimp only at hSw); go_simp <;> with_reducible rfl
              try simp only [Act.put, List.setIfInBounds_toArray, List.set_cons_zero, List.set_cons_succ]
              refine wpAnyH_ready (rs := [38]) (by kernel_rfl) (by simp) ?_
              refine AllReadyH.cons (o := { dst := some 190, op := Op.call { callee := Callee.value (Operand.func 20), args := #[Operand.tmp 188, Operand.tmp 189], argTypes := #[25, 32] }, type := 4, pos := "law.go:103", after := #[{ on := 36, ground := Ground.data }, { on := 37, ground := Ground.data }, { on := 35, ground := Ground.chain }, { on := 35, ground := Ground.guard }], guard := some (35, false) }) rfl (fun K hK => ?_) AllReadyH.nil
              go_simp
              go_at_call 20
              go_must (refine (U3.out _ hH).mono ?_)
              rintro e w8 ⟨rfl, hf8⟩
              go_simp
              refine hK.out _ _ ?_ (fun hH => ?_)
              · exact hH.trans' hf8
              clear hK K
              try simp only [Act.put, List.setIfInBounds_toArray, List.set_cons_zero, List.set_cons_succ]
              refine wpAnyH_take (i := 39) (oi := { dst := some 191, op := Op.unOp UnOp.not 4 (Operand.tmp 190), type := 4, pos := "law.go:103", after := #[{ on := 38, ground := Ground.data }, { on := 35, ground := Ground.guard }], guard := some (35, false) }) (v := ?_) rfl (by kernel_rfl) (by kernel_rfl) (by kernel_rfl) (fun _ _ _ h => h) (Or.inl ⟨by rfl, ?_⟩) hH ?_
              rotate_left
              · intro w hSw; (try dsimp only at hSw); go_simp <;> with_reducible rfl
              try simp only [Act.put, List.setIfInBounds_toArray, List.set_cons_zero, List.set_cons_succ]
              refine wpAnyH_take (i := 40) (oi := { dst := some 192, op := Op.pick (Operand.tmp 187) (Operand.const (Value.bool true)) (Operand.tmp 191), type := 4, pos := "law.go:103", after := #[{ on := 35, ground := Ground.data }, { on := 39, ground := Ground.data }], guard := none }) (v := ?_) rfl (by kernel_rfl) (by kernel_rfl) (by kernel_rfl) (fun _ _ _ h => h) (Or.inl ⟨by rfl, ?_⟩) hH ?_
              rotate_left
              · intro w hSw; (try dsimp only at hSw); go_simp <;> with_reducible rfl
              try simp only [Act.put, List.setIfInBounds_toArray, List.set_cons_zero, List.set_cons_succ]
              refine wpAnyH_done (by kernel_rfl) ?_ _
              have HH := hid hH
              clear b0 b1 b2 r1 r2
              go_wp2_with fail
              go_roundw
              case rel => exact ⟨k + 1, by omega, by go_num, R2, F2, ta, tn, tk, A2, D6.out.no HH.out, L6.out.no HH.out, HA9.out⟩
              case measure => simp [intOf]; omega
      · go_wp2_with fail
        refine (awake_ok w2).mono ?_
        rintro e w' ⟨rfl, hb⟩
        have HB := hid (D2.out.bel.trans (hb.mono D2.out.bel.size))
        clear hb
        go_wp2_with fail
        go_ret
        exact ⟨rfl, HB.out⟩
    · obtain ⟨R, F, sa, sn, sk, A, D, DR, hA8⟩ := HI.out
      have hbel := D.bel
      have HBL := hid hbel
      clear D DR hA8 HI hbel
      go_wp2_with fail
      refine (awake_ok wr).mono ?_
      rintro e w' ⟨rfl, hb⟩
      have HB := hid (HBL.out.trans (hb.mono HBL.out.size))
      clear hb
      go_wp2_with fail
      go_ret
      exact ⟨rfl, HB.out⟩

end Go.Proofs.Ytakhmommcgfoaaa
