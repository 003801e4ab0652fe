/-
  MeshOrder, walked.
-/
import Derived.Test.YtakhmommcgfoaaaMeE2
import Derived.Deep.DeepCutAuto
namespace Go.Proofs.Ytakhmommcgfoaaa
open Go.RowKit

theorem drew_no' {w : World} : Fr (fun _ => False) w w.drew := (Fr.refl (fun _ => False) w).drew
theorem run_slP (ρ : Operand → Value) (dst : Option Tmp) (x : Operand) (lo hi mx : Option Operand) (ty : TypeId) (pos : String) (after : Array Edge) (guard : Option (Nat × Bool)) (w : World) :
    (execOp ρ { dst, op := .slice 53 x lo hi mx, type := ty, pos, after, guard }).run Try.prog w = sl 53 (ρ x) (lo.map ρ) (hi.map ρ) (mx.map ρ) w := rfl
theorem slP_from (gp o n k : Nat) (i : Nat) (hi : i ≤ n) (w : World) :
    sl 53 (.slice (some ⟨gp, o, none⟩) n k) (some (.int .i64 (i : Nat))) none none w = .ok (.value (.slice (if k = i then some ⟨gp, o, none⟩ else (some (⟨gp, o, none⟩ : Addr)).map (·.add (i * 9))) (n - i) (k - i))) w := by
  unfold sl
  go_simp
theorem slP_upto (gp o n k j : Nat) (hj : j ≤ k) (w : World) :
    sl 53 (.slice (some ⟨gp, o, none⟩) n k) none (some (.int .i64 (j : Nat))) none w = .ok (.value (.slice (some ⟨gp, o, none⟩) j k)) w := by
  unfold sl
  go_simp

def OInv1 (w : World) (p W most k : Nat) (v : Value) (wx : World) : Prop := ∃ F A, OMem w wx p W most F v A ∧ A.length ≤ 8 * k
def OInv2 (w : World) (p q W most : Nat) (R0 : Nat → List Mq) (F2 : Nat → Prop) (k : Nat) (v : Value) (wx : World) : Prop :=
  ∃ F A, OMem w wx p W most F v A ∧ A.length + k ≤ 80 ∧ MeshAt wx q W most R0 F2 ∧ ∀ i, F2 i → ¬ F i
def C23 (k nk : Nat) (picks : List Int) (w3 : World) (c : Value) (wx : World) : Prop := wx = w3 ∧ ∃ b : Bool, c = .bool b ∧ (b = true → k < nk ∧ ∃ pk, picks[k]? = some pk ∧ 0 < pk)
def C24 (N : Nat) (w3 : World) (u : Value) (wx : World) : Prop := wx = w3 ∧ ∃ kk : Nat, u = .int .i64 kk ∧ kk < N
/-- behind the program's Recv -/
def C25 (w2 : World) (p W most : Nat) (R : Nat → List Mq) (F : Nat → Prop) (a b : Int) (u v : Value) (wx : World) : Prop :=
  ∃ y z R' y9, u = .pointer (some ⟨y9, 0, none⟩) ∧ v = .int .i64 z ∧ RecvStep W R a b y z R' ∧ MeshAt wx p W most R' F ∧ Fr F w2 wx ∧ wx.heap[y9]? = some (.cells (encM y).toArray 40 (0, 0))
theorem step_some {W : Nat} {R R' : Nat → List Mq} {a b : Int} {y y0 : Mq} {L0 : List Mq} {z : Int} (h : RecvStep W R a b y z R') (ht : thereI W a b) (hr : R (lk W a b) = y0 :: L0) : ∃ L, R (lk W a b) = y :: L ∧ z = 0 ∧ R' = upd R (lk W a b) L := by
  rcases h with ⟨h, _⟩ | ⟨_, h, _⟩ | ⟨_, h⟩
  · exact absurd ht h
  · rw [hr] at h; simp at h
  · exact h

attribute [local go_sem ↓] run_ldM run_stM run_slP
set_option maxRecDepth 100000 in
set_option maxHeartbeats 16000000 in
theorem order_ok (W most : Nat) (ao ko : Option Addr) (nl cl nk ck : Nat) (ops : List Oq) (picks : List Int) (w : World) (h1 : 1 ≤ W) (h2 : W ≤ 4) (h3 : 1 ≤ most) (h4 : most ≤ 12) (hl : nl ≤ 10) (hk : nk ≤ 200) (ho : ops.length = nl) (hp : picks.length = nk)
    (hops : OpsIn w w.heap.size ao ops) (hpk : IntsIn w w.heap.size ko picks) :
    Calls Try.prog 4 #[.agg #[.int .i64 W, .int .i64 most], .slice ao nl cl, .slice ko nk ck] w fun e w' => e = .returned (.bool true) ∧ Below w.heap.size w w' := by
  obtain ⟨i0, hi0, hz0, hz1, hz2⟩ := info_parts info_par
  have HO := hid ho
  have HPL := hid hp
  have HOPS := hid hops
  have HPK := hid hpk
  have s1 : decide ((W : Int) < 1) = false := by simp; omega
  have s2 : decide ((4 : Int) < (W : Int)) = false := by simp; omega
  have s3 : decide ((most : Int) < 1) = false := by simp; omega
  have s4 : decide ((12 : Int) < (most : Int)) = false := by simp; omega
  have s5 : decide ((10 : Int) < (nl : Int)) = false := by simp; omega
  have s6 : decide ((200 : Int) < (nk : Int)) = false := by simp; omega
  clear ho hp hops hpk
  go_enter Try.func4, Try.ntmps4
  go_upto_region 1 with fail
  generalize hw1 : World.alloc w _ = w1
  have HB1 := hid (show Below w.heap.size w w1 by rw [← hw1]; exact (Below.refl _ _).alloc (Nat.le_refl _) _)
  have G1 : w1.heap[w.heap.size]? = some (.cells #[.int .i64 W, .int .i64 most] 22 (0, 0)) := by rw [← hw1]; exact heap_new w _
  have c0 := cell_of G1 0 (v := .int .i64 W) rfl
  have c1 := cell_of G1 1 (v := .int .i64 most) rfl
  obtain ⟨b, hb⟩ : ∃ b, b = w.heap.size := ⟨_, rfl⟩
  rw [← hb] at c0 c1
  have HBB := hid hb
  have HZ1 := hid (show w1.heap.size = w.heap.size + 1 by rw [← hw1]; simp)
  rw [← hb] at HOPS HPK HB1 ⊢
  clear hw1 hb G1
  go_wp2_with fail
  refine (mnew_ok W most w1 h1 (by omega) h3 (by omega)).mono ?_
  rintro e w2 ⟨rfl, hm, hf⟩
  obtain ⟨p, hp⟩ : ∃ p, p = w1.heap.size := ⟨_, rfl⟩
  rw [← hp] at hm ⊢
  have HPP := hid hp
  have D0 := hid (show OMem w w2 p W most (fun x => p ≤ x ∧ x < w2.heap.size) (.slice none 0 0) [] from
    ⟨by
      have e : msgsTo W [] = fun _ => [] := by funext k; rfl
      rw [e]; exact hm, World.ownsRow_nil _ _ _ _, fun x hx => by simp at hx, AlP.nil _ _ _, fun i hi => ⟨by have := HPP.out; have := HZ1.out; have := HBB.out; omega, by simp [Value.ownBlock]⟩,
      by
        have hb1 := HB1.out
        rw [HBB.out] at hb1
        exact hb1.trans (hf.below (by have := HZ1.out; have := HBB.out; omega) (fun _ _ e => e))⟩)
  clear hm hf c0 c1 hp s1 s2 s3 s4 s5 s6
  go_wp2_with fail
  go_loopw [9, 10] (fun v i wr => ∃ k : Nat, k ≤ nl ∧ i = .int .i64 k ∧ OInv1 w p W most k v wr) (fun _ i _ => nl - (intOf i).toNat)
  case atStart => exact ⟨0, Nat.zero_le _, rfl, _, _, D0.out, by simp⟩
  case round =>
    obtain ⟨k, hk1, rfl, hinv⟩ := hrel
    have HI := hid hinv
    clear hinv D0
    by_cases hkl : k < nl
    · obtain ⟨x, hop⟩ : ∃ z, ops[k]? = some z := ⟨_, List.getElem?_eq_getElem (by rw [HO.out]; exact hkl)⟩
      obtain ⟨F, A, D, hA8⟩ := HI.out
      obtain ⟨g, o, rfl, hgb, hr⟩ := HOPS.out.resolve_left (fun e => by subst e; simp at hop)
      obtain ⟨hx, P, hP⟩ := hr k x hop
      have hrx := hid (show ∀ w', Below w.heap.size w w' → w'.rangeAt g (o + k * 4) (encO x) from fun w' hb j v hv => (hb.cell (p := ⟨g, o + k * 4 + j, none⟩) (show g < w.heap.size by have := HBB.out; omega)).trans (hx j v hv))
      have hPx := hid (show ∀ w', Below w.heap.size w w' → Pr w' w.heap.size x.s x.n P from fun w' hb => (HBB.out ▸ hP).below hb)
      have hkb : (k : Int) < (nl : Int) := by omega
      have r3 : wr.cell? ⟨g, o + k * 4 + 3, none⟩ = some (.slice x.s x.n x.c) := hrx.out wr D.bel 3 _ rfl
      have U := hid (lover_ok (c := x.c) (hPx.out wr D.bel) D.bel.size)
      have DM := hid D
      have hA : A.length ≤ 100 := by omega
      have HA8 := hid hA8
      clear hop hr hx hP D hA8 HI
      go_wp2_with fail
      refine U.out.mono ?_
      rintro e w2 ⟨z, rfl, hz, hq, hf⟩
      have D2 := hid (DM.out.no hf)
      clear DM U r3 hf
      rcases hz with rfl | rfl
      · obtain ⟨hP8, hP12⟩ := hq rfl
        have HPA := hid (show Pa w2 (fun i => w.heap.size ≤ i) x.s x.n P from (hPx.out w2 D2.out.bel).few hP8 hP12)
        clear hq
        have r3 : w2.cell? ⟨g, o + k * 4 + 3, none⟩ = some (.slice x.s x.n x.c) := hrx.out w2 D2.out.bel 3 _ rfl
        have UO := hid (lown_ok (c := x.c) HPA.out)
        go_wp2_with fail
        refine UO.out.mono ?_
        rintro e w3 ⟨v, Q, rfl, hown, hal, hbl⟩
        obtain ⟨sq, cq, rfl, -⟩ := owns_view hown
        have hf3 : Fr (fun _ => False) w2 w3 := Fr.of_below hbl (fun i h1 h2 => by omega)
        have D3 := hid (D2.out.no hf3)
        have hQ8 : Q.length ≤ 8 := by have := hal.1; omega
        have hqF : ∀ i, (Value.slice sq Q.length cq).ownBlock = some i → ¬ F i := fun i e h => by have := (hown.lt i e).1; have := D2.out.mesh.lt i h; omega
        have HQS := hid hal.self
        have HQF := hid hqF
        have HOWN := hid hown
        have HZ3 := hid hf3.size
        have US := hid (send_any D3.out.mesh hown hqF (by omega))
        clear hown hal hbl hf3 r3 UO hqF
        go_wp2_with fail
        refine US.out.mono ?_
        rintro e w4 ⟨z, R', F', rfl, hst, hm, hf, hF'⟩
        have HM4 := hid hm
        have HF4 := hid hf
        have HFN := hid hF'
        clear hm hf hF' US
        rcases hst with ⟨hin, rfl, rfl⟩ | ⟨hin, hfull, rfl, rfl⟩ | ⟨hin, hfit, rfl, rfl⟩
        · clear hin
          go_wp2_with fail
          go_roundw
          case rel => exact ⟨k + 1, by omega, by go_num, F', A, D3.out.unsent HM4.out HF4.out HFN.out, by have := HA8.out; omega⟩
          case measure => simp [intOf]; omega
        · clear hin hfull
          go_wp2_with fail
          go_roundw
          case rel => exact ⟨k + 1, by omega, by go_num, F', A, D3.out.unsent HM4.out HF4.out HFN.out, by have := HA8.out; omega⟩
          case measure => simp [intOf]; omega
        · have HIN := hid hin
          have hM : MeshAt w4 p W most (msgsTo W (A ++ Q)) F' := by
            have e : msgsTo W (A ++ Q) = fun k => msgsTo W A k ++ msgsTo W Q k := by funext k; exact msgsTo_append W A Q k
            rw [e]; exact HM4.out
          have HM := hid hM
          have hown4 := HF4.out.owns D3.out.row (fun i e h => (D3.out.fb i h).2 e)
          have HO4 := hid hown4
          have HR4 := hid (Reads.of_own (HF4.out.owns HOWN.out (fun i e h => HQF.out i e h)))
          have hb4 : w.heap.size ≤ w4.heap.size := Nat.le_trans D3.out.bel.size HF4.out.size
          clear hin hfit hM hown4 HM4
          go_wp2_with (at_builtin; go_must (refine wpList_append_any _ rfl _ _ 53 rfl w.heap.size 69 i0 _ 9 104 Try.underlying53 hi0 hz0 hz1 hz2 rfl (by omega) u9 A.length _ rfl (by exact HO4.out) w4.heap.size sq Q.length cq _ rfl (by exact HR4.out) (flatP_one _) (by unfold maxLen; omega) (by omega) hb4 ?_); intro v5 w5 hown hgrow hat; have HOW := hid hown; have HGR := hid hgrow; have HAT := hid hat; clear hown hgrow hat)
          go_roundw
          case rel =>
            exact ⟨k + 1, by omega, by go_num, F', A ++ Q, D3.out.sent (S := fun i => i < w2.heap.size ∨ (Value.slice sq Q.length cq).ownBlock = some i) HM.out HF4.out HFN.out HQS.out (fun i h => .inl (D2.out.mesh.lt i h)) (fun i h => .inl (D2.out.row.lt i h).2) HIN.out HOW.out HGR.out HAT.out,
              by rw [List.length_append]; have := HA8.out; omega⟩
          case measure => simp [intOf]; omega
      · go_wp2_with fail
        refine (awake_ok w2).mono ?_
        rintro e w' ⟨rfl, hb⟩
        have HB := hid (D2.out.bel.trans (hb.mono D2.out.bel.size))
        clear hb
        go_wp2_with fail
        go_ret
        exact ⟨rfl, HB.out⟩
    · obtain rfl : k = nl := by omega
      obtain ⟨F, A, D, hA8⟩ := HI.out
      obtain ⟨sv, cv, rfl, -⟩ := owns_view D.row
      have D1 := hid D
      have HA8 := hid hA8
      have hA80 : A.length ≤ 80 := by omega
      clear D hA8 HI
      go_wp2_with fail
      refine (mfork_ok D1.out.mesh).mono ?_
      rintro e w2 ⟨rfl, hm, hf⟩
      obtain ⟨q, hq⟩ : ∃ q, q = wr.heap.size := ⟨_, rfl⟩
      rw [← hq] at hm ⊢
      obtain ⟨F2, hF2⟩ : ∃ F2 : Nat → Prop, F2 = fun x => q ≤ x ∧ x < w2.heap.size := ⟨_, rfl⟩
      rw [← hF2] at hm
      have FK := hid hm
      have D2 := hid (D1.out.no hf)
      have HFD := hid (show ∀ i, F2 i → ¬ F i from fun i hi h => by
        rw [hF2] at hi
        have := D1.out.mesh.lt i h
        omega)
      obtain ⟨R0, hR0⟩ : ∃ R0, R0 = msgsTo W A := ⟨_, rfl⟩
      have HSUM := hid (show sumL W R0 (rdy W R0 (W * W)) = A.length by rw [sumL_rdy _ _ _ (Nat.le_refl _), hR0]; exact sumR_all D2.out.inn)
      rw [← hR0] at FK
      obtain ⟨cnt, hcnt⟩ : ∃ cnt, cnt = A.length := ⟨_, rfl⟩
      rw [← hcnt] at HSUM
      have HCN := hid hcnt
      clear hm hf hq hF2 hR0 D1 hcnt
      go_upto_region 17 with fail
      rw [← HCN.out]
      have hc80 : cnt ≤ 80 := by have := HCN.out; omega
      have D2' := hid (show OInv2 w p q W most R0 F2 0 (.slice sv cnt cv) w2 from ⟨F, A, by rw [HCN.out]; exact D2.out, by omega, FK.out, HFD.out⟩)
      clear D2 FK HFD HCN hA80 HA8
      go_wp2_with fail
      go_loopw [9, 14] (fun v i wr => ∃ k : Nat, k ≤ 200 ∧ i = .int .i64 k ∧ OInv2 w p q W most R0 F2 k v wr) (fun _ i _ => 200 - (intOf i).toNat)
      case atStart => exact ⟨0, Nat.zero_le _, rfl, D2'.out⟩
      case round =>
        obtain ⟨k2, hk2, rfl, hinv⟩ := hrel
        obtain ⟨F, A, D, hAk, hfk, hFF⟩ := hinv
        obtain ⟨sv, cv, rfl, -⟩ := owns_view D.row
        have D1 := hid D
        have FK := hid hfk
        have HFD := hid hFF
        have hkb : (k2 : Int) < 200 := by omega
        have HAK := hid hAk
        have hA80 : A.length ≤ 80 := by omega
        clear D hfk hFF D2' hAk
        go_wp2_with fail
        refine (ready_ok D1.out.mesh).mono ?_
        rintro e w2 ⟨vr, rfl, hown, hbl⟩
        obtain ⟨sr, cr, rfl, -⟩ := owns_view hown
        obtain ⟨N, hN⟩ : ∃ N, N = (rdy W (msgsTo W A) (W * W)).length := ⟨_, rfl⟩
        have hnn : W * W ≤ 16 := by have := Nat.mul_le_mul h2 h2; omega
        have hN2 : N ≤ 16 := by have := rdy_len W (msgsTo W A) (W * W); omega
        have HOR := hid hown
        rw [← hN] at HOR ⊢
        have HN := hid hN
        have hf2 := Fr.of_below (S := fun _ => False) hbl (fun i h1 h2 => by omega)
        have D2 := hid (D1.out.no hf2)
        have FK2 := hid (FK.out.no hf2)
        have HGR := hid (show ∀ i, (Value.slice sr (rdy W (msgsTo W A) (W * W)).length cr).ownBlock = some i → ¬ F i from fun i e h => by have := (hown.lt i e).1; have := D1.out.mesh.lt i h; omega)
        clear hown hN D1 FK hbl hf2
        by_cases hN0 : N = 0
        · have hA0 : A = [] := all_nil D2.out.inn (rdy_nil W _ _ (by rw [← HN.out]; exact hN0))
          subst hA0
          subst hN0
          as_aux_lemma =>
            go_wp2_with fail
            refine (ready_ok FK2.out).mono ?_
            rintro e w3 ⟨vf, rfl, hown, hbl⟩
            obtain ⟨sf, cf, rfl, -⟩ := owns_view hown
            have hf3 := Fr.of_below (S := fun _ => False) hbl (fun i h1 h2 => by omega)
            have D3 := hid (D2.out.no hf3)
            have FK3 := hid (FK2.out.no hf3)
            have HOF := hid hown
            have hrl := rdy_len W R0 (W * W)
            obtain ⟨N0, hN0'⟩ : ∃ N0, N0 = (rdy W R0 (W * W)).length := ⟨_, rfl⟩
            rw [← hN0'] at hrl ⊢
            have HN0' := hid hN0'
            clear hown hbl hf3 hN0' D2 FK2
            go_wp2_with fail
            go_loopw [20, 206] (fun u i wx => ∃ j : Nat, j ≤ N0 ∧ i = .int .i64 j ∧ u = .int .i64 (sumL W R0 ((rdy W R0 (W * W)).take j) : Nat) ∧ Fr (fun _ => False) w3 wx) (fun _ i _ => N0 - (intOf i).toNat)
            case atStart => exact ⟨0, Nat.zero_le _, rfl, rfl, Fr.refl _ _⟩
            case round =>
              obtain ⟨j, hj, rfl, rfl, hf⟩ := hrel
              have HFW := hid hf
              clear hf
              by_cases hjn : j < N0
              · obtain ⟨⟨ta, tb⟩, hat⟩ : ∃ t, (rdy W R0 (W * W))[j]? = some t := ⟨_, List.getElem?_eq_getElem (by rw [← HN0'.out]; exact hjn)⟩
                obtain ⟨kq, hkq, hta, htb, hne⟩ := rdy_mem W R0 _ _ hat
                obtain ⟨hth, hlk⟩ := lk_of hkq
                rw [← hta, ← htb] at hth hlk
                have hgf : ∃ gf, sf = some ⟨gf, 0, none⟩ := by
                  rcases owns_form HOF.out with ⟨_, hz⟩ | ⟨gp, cp, e, _, _, _, hgw⟩
                  · have := HN0'.out; omega
                  · injection e with e1 e2 e3; exact ⟨gp, e1⟩
                obtain ⟨gf, rfl⟩ := hgf
                have hra := owns_range encT_len HOF.out hat
                have e0 : wr.cell? ⟨gf, j * 2, none⟩ = some (.int .i64 ta) := HFW.out.cell (hra 0 _ rfl) (fun e => e)
                have e1 : wr.cell? ⟨gf, j * 2 + 1, none⟩ = some (.int .i64 tb) := HFW.out.cell (hra 1 _ rfl) (fun e => e)
                have hsn : sumL W R0 ((rdy W R0 (W * W)).take (j + 1)) = sumL W R0 ((rdy W R0 (W * W)).take j) + (R0 (lk W ta tb)).length := by rw [take_snoc _ j _ hat, sumL_snoc]
                have hs1 := sumL_take W R0 (rdy W R0 (W * W)) (j + 1)
                rw [HSUM.out, hsn] at hs1
                have HSN := hid hsn
                have HTHJ := hid hth
                generalize sumL W R0 ((rdy W R0 (W * W)).take j) = s0 at *
                generalize hln : (R0 (lk W ta tb)).length = ln at *
                have HLN := hid hln
                have hwr : IntKind.i64.wrap ((s0 : Int) + (ln : Int)) = (s0 : Int) + (ln : Int) := IntWalk.i64_in _ (by omega)
                have hjb : (j : Int) < (N0 : Int) := by omega
                clear hat hkq hta htb hne hth hlk hra hsn hln
                go_upto_region 38 with fail
                generalize hw9 : World.alloc wr _ = w9
                have G1 : w9.heap[wr.heap.size]? = some (.cells #[.int .i64 ta, .int .i64 tb] 22 (0, 0)) := by rw [← hw9]; exact heap_new wr _
                have G2 : Fr (fun _ => False) wr w9 := by rw [← hw9]; exact (Fr.refl _ wr).alloc _
                have k0 := cell_of G1 0 (v := .int .i64 ta) rfl
                have k1 := cell_of G1 1 (v := .int .i64 tb) rfl
                have HF9 := hid (HFW.out.trans' G2)
                have U9 := hid (show Calls Try.prog 18 #[.pointer (some ⟨q, 0, none⟩), .int .i64 ta, .int .i64 tb] w9 fun e w'' => e = .returned (.int .i64 (ln : Nat)) ∧ ∃ m, w'' = w9.drewN m from by
                  have h := mlen_ok (FK3.out.no HF9.out) ta tb
                  rwa [if_pos HTHJ.out, HLN.out] at h)
                clear hw9 G1 G2 e0 e1
                go_wp2_with fail
                refine U9.out.mono ?_
                rintro e w' ⟨rfl, m, rfl⟩
                go_wp2_with fail
                go_roundw
                case rel => exact ⟨j + 1, by omega, by go_num, by rw [HSN.out]; go_num, HF9.out.drewN _⟩
                case measure => simp [intOf]; omega
              · obtain rfl : j = N0 := by omega
                have hsum : sumL W R0 ((rdy W R0 (W * W)).take j) = cnt := by rw [HN0'.out, List.take_length]; exact HSUM.out
                rw [hsum]
                have D4 := hid (D3.out.no HFW.out)
                have he0 : msgsTo W [] = fun _ => [] := by funext k; rfl
                have HE0 := hid he0
                clear hsum D3 FK3 HOF he0
                go_wp2_with fail
                refine (least_ok D4.out.mesh).mono ?_
                rintro e w5 ⟨he, hf⟩
                rw [HE0.out, lst_none] at he
                subst he
                have D5 := hid (D4.out.no hf)
                clear hf D4
                go_wp2_with fail
                refine (ready_ok D5.out.mesh).mono ?_
                rintro e w6 ⟨vq, rfl, hown, hbl⟩
                rw [HE0.out, rdy_none] at hown
                obtain ⟨sq, cq, rfl, -⟩ := owns_view hown
                have D6 := hid (D5.out.no (Fr.of_below (S := fun _ => False) hbl (fun i h1 h2 => by omega)))
                clear hown hbl D5
                go_wp2_with fail
                refine (awake_ok w6).mono ?_
                rintro e w' ⟨rfl, hb⟩
                have HB := hid (D6.out.bel.trans (hb.mono D6.out.bel.size))
                clear hb
                go_wp2_with fail
                go_ret
                exact ⟨rfl, HB.out⟩
        · have hNp : ((N : Int) == 0) = false := by simp; omega
          have hNp2 : ¬ (N : Int) = 0 := by omega
          have hNpos : 0 < N := by omega
          have hgr : ∃ gr, sr = some ⟨gr, 0, none⟩ := by
            rcases owns_form HOR.out with ⟨_, hz⟩ | ⟨gp, cp, e, _, _, _, hgw⟩
            · omega
            · injection e with e1 e2 e3; exact ⟨gp, e1⟩
          obtain ⟨gr, rfl⟩ := hgr
          go_upto_region 23 with fail
          go_cut [118] (fun c wx => C23 k2 nk picks w2 c wx)
          case first =>
            by_cases hik : k2 < nk
            · obtain ⟨pk, hpk⟩ : ∃ pk, picks[k2]? = some pk := ⟨_, List.getElem?_eq_getElem (by rw [HPL.out]; exact hik)⟩
              obtain ⟨gk, ok, rfl, hkb2, hrk⟩ := HPK.out.resolve_left (fun e => by subst e; simp at hpk)
              have rk : w2.cell? ⟨gk, ok + k2, none⟩ = some (.int .i64 pk) := (D2.out.bel.cell (p := ⟨gk, ok + k2, none⟩) (show gk < w.heap.size by have := HBB.out; omega)).trans (hrk k2 pk hpk)
              have HPKK := hid hpk
              have d1 : decide ((k2 : Int) < (nk : Int)) = true := by simp; omega
              clear hrk hpk
              by_cases hpp : 0 < pk
              · have d2 : decide (0 < pk) = true := by simpa using hpp
                go_wp2_with fail
                go_meet
                exact ⟨rfl, true, rfl, fun _ => ⟨hik, pk, HPKK.out, hpp⟩⟩
              · have d2 : decide (0 < pk) = false := by simpa using hpp
                go_wp2_with fail
                go_meet
                exact ⟨rfl, false, rfl, fun e => by simp at e⟩
            · have d1 : decide ((k2 : Int) < (nk : Int)) = false := by simp; omega
              go_wp2_with fail
              go_meet
              exact ⟨rfl, false, rfl, fun e => by simp at e⟩
          case rest =>
            obtain ⟨hwc, bb, rfl, hbb⟩ := hcut
            rw [hwc]
            clear hwc
            have HBO := hid hbb
            clear hbb
            go_upto_if 118 with fail
            go_cut [16] (fun u wx => C24 N w2 u wx)
            case first =>
              cases bb with
              | false =>
                go_wp2_with fail
                go_meet
                exact ⟨rfl, 0, rfl, hNpos⟩
              | true =>
                obtain ⟨hik, pk, hpk, hpp⟩ := HBO.out rfl
                obtain ⟨gk, ok, rfl, hkb2, hrk⟩ := HPK.out.resolve_left (fun e => by subst e; simp at hpk)
                have rk : w2.cell? ⟨gk, ok + k2, none⟩ = some (.int .i64 pk) := (D2.out.bel.cell (p := ⟨gk, ok + k2, none⟩) (show gk < w.heap.size by have := HBB.out; omega)).trans (hrk k2 pk hpk)
                have hkb3 : (k2 : Int) < (nk : Int) := by omega
                obtain ⟨kk, hkk⟩ : ∃ kk : Nat, kk = (pk % (N : Int)).toNat := ⟨_, rfl⟩
                have hm1 := Int.emod_nonneg pk (show (N : Int) ≠ 0 by omega)
                have hm2 := Int.emod_lt_of_pos pk (show (0 : Int) < (N : Int) by omega)
                have hmod : pk.tmod (N : Int) = (kk : Int) := by rw [Int.tmod_eq_emod_of_nonneg (by omega)]; omega
                have hmod2 : pk % (N : Int) = (kk : Int) := by omega
                have hkN : kk < N := by omega
                clear hrk hpk hkk hm1 hm2
                go_wp2_with fail
                go_meet
                exact ⟨rfl, kk, rfl, hkN⟩
            case rest =>
              obtain ⟨hwc, kk, rfl, hkN⟩ := hcut
              rw [hwc]
              clear hwc HBO
              obtain ⟨⟨xa, xb⟩, hat⟩ : ∃ t, (rdy W (msgsTo W A) (W * W))[kk]? = some t := ⟨_, List.getElem?_eq_getElem (by rw [← HN.out]; exact hkN)⟩
              obtain ⟨kq, hkq, hxa, hxb, hne⟩ := rdy_mem W (msgsTo W A) _ _ hat
              obtain ⟨hth, hlk⟩ := lk_of hkq
              rw [← hxa, ← hxb] at hth hlk
              have hor := HOR.out
              rw [HN.out] at hor
              have hra := owns_range encT_len hor hat
              have HRA := hid hra
              have HTH := hid hth
              have HNE := hid (show msgsTo W A (lk W xa xb) ≠ [] by rw [hlk]; intro e; rw [e] at hne; exact hne rfl)
              have hkb2 : (kk : Int) < (N : Int) := by omega
              have hgrF : ¬ F gr := HGR.out gr rfl
              have r1 : ∀ w', Fr F w2 w' → w'.cell? ⟨gr, kk * 2, none⟩ = some (.int .i64 xa) := fun w' hf => hf.cell (HRA.out 0 _ rfl) hgrF
              have r2 : ∀ w', Fr F w2 w' → w'.cell? ⟨gr, kk * 2 + 1, none⟩ = some (.int .i64 xb) := fun w' hf => hf.cell (HRA.out 1 _ rfl) hgrF
              have RV := hid (fun w' (hf : Fr (fun _ => False) w2 w') => recv_any (D2.out.mesh.no hf) xa xb)
              have HFF := hid (show ∀ i, F i → i < w2.heap.size from fun i hi => D2.out.mesh.lt i hi)
              clear hat hkq hxa hxb hne hth hlk hor hra
              go_upto_region 25 with fail
              go_cut [17, 18] (fun u v wx => C25 w2 p W most (msgsTo W A) F xa xb u v wx)
              case first =>
                as_aux_lemma =>
                  refine wp_region_held_drew (S := (fun w' => Fr F w2 w')) (by kernel_rfl) ?_ (fun hH => ?_)
                  · exact (Fr.refl F w2).drew
                  refine wpAnyH_take (i := 0) (oi := { dst := some 127, op := Op.move (Operand.tmp 7), type := 25, pos := "own.go:37", after := #[], guard := none }) (v := ?_) rfl (by kernel_rfl) (by kernel_rfl) (by kernel_rfl) (fun _ _ _ h => h) (Or.inl ⟨by rfl, ?_⟩) hH ?_
                  rotate_left
                  · intro w hSw; (try dsimp only at hSw); go_simp <;> with_reducible rfl
                  try simp only [Act.put, List.setIfInBounds_toArray, List.set_cons_zero, List.set_cons_succ]
                  refine wpAnyH_take (i := 1) (oi := { dst := some 128, op := Op.move (Operand.tmp 15), type := 66, pos := "own.go:37", after := #[], guard := none }) (v := ?_) rfl (by kernel_rfl) (by kernel_rfl) (by kernel_rfl) (fun _ _ _ h => h) (Or.inl ⟨by rfl, ?_⟩) hH ?_
                  rotate_left
                  · intro w hSw; (try dsimp only at hSw); go_simp <;> with_reducible rfl
                  try simp only [Act.put, List.setIfInBounds_toArray, List.set_cons_zero, List.set_cons_succ]
                  refine wpAnyH_take (i := 2) (oi := { dst := some 129, op := Op.move (Operand.tmp 16), type := 3, pos := "own.go:37", after := #[], guard := none }) (v := ?_) rfl (by kernel_rfl) (by kernel_rfl) (by kernel_rfl) (fun _ _ _ h => h) (Or.inl ⟨by rfl, ?_⟩) hH ?_
                  rotate_left
                  · intro w hSw; (try dsimp only at hSw); go_simp <;> with_reducible rfl
                  try simp only [Act.put, List.setIfInBounds_toArray, List.set_cons_zero, List.set_cons_succ]
                  refine wpAnyH_take (i := 3) (oi := { dst := some 130, op := Op.indexAddr 66 (Operand.tmp 128) (Operand.tmp 129), type := 0, pos := "own.go:37", after := #[{ on := 1, ground := Ground.data }, { on := 2, ground := Ground.data }], guard := none }) (v := ?_) rfl (by kernel_rfl) (by kernel_rfl) (by kernel_rfl) (fun _ _ _ h => h) (Or.inl ⟨by rfl, ?_⟩) hH ?_
                  rotate_left
                  · intro w hSw; (try dsimp only at hSw); go_simp <;> with_reducible rfl
                  try simp only [Act.put, List.setIfInBounds_toArray, List.set_cons_zero, List.set_cons_succ]
                  refine wpAnyH_take (i := 4) (oi := { dst := some 131, op := Op.indexAddr 22 (Operand.tmp 130) (Operand.const (Value.int IntKind.i64 0)), type := 0, pos := "own.go:37", after := #[{ on := 3, ground := Ground.data }], guard := none }) (v := ?_) rfl (by kernel_rfl) (by kernel_rfl) (by kernel_rfl) (fun _ _ _ h => h) (Or.inl ⟨by rfl, ?_⟩) hH ?_
                  rotate_left
                  · intro w hSw; (try dsimp only at hSw); go_simp <;> with_reducible rfl
                  try simp only [Act.put, List.setIfInBounds_toArray, List.set_cons_zero, List.set_cons_succ]
                  refine wpAnyH_take (i := 5) (oi := { dst := some 132, op := Op.load 3 (Operand.tmp 131), type := 3, pos := "own.go:37", after := #[{ on := 4, ground := Ground.data }], guard := none }) (v := ?_) rfl (by kernel_rfl) (by kernel_rfl) (by kernel_rfl) (fun _ _ _ h => h) (Or.inl ⟨by rfl, ?_⟩) hH ?_
                  rotate_left
                  · intro w hSw; (try dsimp only at hSw); go_simp <;> with_reducible rfl
                  try simp only [Act.put, List.setIfInBounds_toArray, List.set_cons_zero, List.set_cons_succ]
                  refine wpAnyH_take (i := 6) (oi := { dst := some 133, op := Op.move (Operand.tmp 15), type := 66, pos := "own.go:37", after := #[], guard := none }) (v := ?_) rfl (by kernel_rfl) (by kernel_rfl) (by kernel_rfl) (fun _ _ _ h => h) (Or.inl ⟨by rfl, ?_⟩) hH ?_
                  rotate_left
                  · intro w hSw; (try dsimp only at hSw); go_simp <;> with_reducible rfl
                  try simp only [Act.put, List.setIfInBounds_toArray, List.set_cons_zero, List.set_cons_succ]
                  refine wpAnyH_take (i := 7) (oi := { dst := some 134, op := Op.move (Operand.tmp 16), type := 3, pos := "own.go:37", after := #[], guard := none }) (v := ?_) rfl (by kernel_rfl) (by kernel_rfl) (by kernel_rfl) (fun _ _ _ h => h) (Or.inl ⟨by rfl, ?_⟩) hH ?_
                  rotate_left
                  · intro w hSw; (try dsimp only at hSw); go_simp <;> with_reducible rfl
                  try simp only [Act.put, List.setIfInBounds_toArray, List.set_cons_zero, List.set_cons_succ]
                  refine wpAnyH_take (i := 8) (oi := { dst := some 135, op := Op.indexAddr 66 (Operand.tmp 133) (Operand.tmp 134), type := 0, pos := "own.go:37", after := #[{ on := 6, ground := Ground.data }, { on := 7, ground := Ground.data }], guard := none }) (v := ?_) rfl (by kernel_rfl) (by kernel_rfl) (by kernel_rfl) (fun _ _ _ h => h) (Or.inl ⟨by rfl, ?_⟩) hH ?_
                  rotate_left
                  · intro w hSw; (try dsimp only at hSw); go_simp <;> with_reducible rfl
                  try simp only [Act.put, List.setIfInBounds_toArray, List.set_cons_zero, List.set_cons_succ]
                  refine wpAnyH_take (i := 9) (oi := { dst := some 136, op := Op.indexAddr 22 (Operand.tmp 135) (Operand.const (Value.int IntKind.i64 1)), type := 0, pos := "own.go:37", after := #[{ on := 8, ground := Ground.data }], guard := none }) (v := ?_) rfl (by kernel_rfl) (by kernel_rfl) (by kernel_rfl) (fun _ _ _ h => h) (Or.inl ⟨by rfl, ?_⟩) hH ?_
                  rotate_left
                  · intro w hSw; (try dsimp only at hSw); go_simp <;> with_reducible rfl
                  try simp only [Act.put, List.setIfInBounds_toArray, List.set_cons_zero, List.set_cons_succ]
                  refine wpAnyH_take (i := 10) (oi := { dst := some 137, op := Op.load 3 (Operand.tmp 136), type := 3, pos := "own.go:37", after := #[{ on := 9, ground := Ground.data }], guard := none }) (v := ?_) rfl (by kernel_rfl) (by kernel_rfl) (by kernel_rfl) (fun _ _ _ h => h) (Or.inl ⟨by rfl, ?_⟩) hH ?_
                  rotate_left
                  · intro w hSw; (try dsimp only at hSw); go_simp <;> with_reducible rfl
                  try simp only [Act.put, List.setIfInBounds_toArray, List.set_cons_zero, List.set_cons_succ]
                  refine wpAnyH_ready (rs := [11, 15]) (by kernel_rfl) (by simp) ?_
                  refine AllReadyH.cons (o := { dst := some 138, op := Op.call { callee := Callee.value (Operand.func 9), args := #[Operand.tmp 127, Operand.tmp 132, Operand.tmp 137], argTypes := #[25, 3, 3] }, type := 41, pos := "own.go:37", after := #[{ on := 0, ground := Ground.data }, { on := 5, ground := Ground.data }, { on := 10, ground := Ground.data }], guard := none }) rfl (fun K hK => ?_) ?_
                  ·
                    go_simp
                    go_at_call 9
                    go_must (refine (RV.out _ drew_no').mono ?_)
                    rintro e x1 ⟨y, z, R', rfl, hst, hm, hf⟩
                    go_simp
                    have HN1 := hid (show Fr F w2 x1 from ((Fr.refl F w2).drew).trans' hf)
                    have HST := hid hst
                    have HM1 := hid hm
                    clear hst hm hf
                    refine hK.out _ _ ?_ (fun hH => ?_)
                    · exact HN1.out
                    clear hK K
                    try simp only [Act.put, List.setIfInBounds_toArray, List.set_cons_zero, List.set_cons_succ]
                    refine wpAnyH_take (i := 12) (oi := { dst := some 126, op := Op.move (Operand.tmp 138), type := 41, pos := "own.go:37", after := #[{ on := 11, ground := Ground.data }], guard := none }) (v := ?_) rfl (by kernel_rfl) (by kernel_rfl) (by kernel_rfl) (fun _ _ _ h => h) (Or.inl ⟨by rfl, ?_⟩) hH ?_
                    rotate_left
                    · intro w hSw; (try dsimp only at hSw); go_simp <;> with_reducible rfl
                    try simp only [Act.put, List.setIfInBounds_toArray, List.set_cons_zero, List.set_cons_succ]
                    refine wpAnyH_take (i := 13) (oi := { dst := some 139, op := Op.extract (Operand.tmp 126) 0, type := 40, pos := "own.go:37", after := #[{ on := 12, ground := Ground.data }], guard := none }) (v := ?_) rfl (by kernel_rfl) (by kernel_rfl) (by kernel_rfl) (fun _ _ _ h => h) (Or.inl ⟨by rfl, ?_⟩) hH ?_
                    rotate_left
                    · intro w hSw; (try dsimp only at hSw); go_simp <;> with_reducible rfl
                    try simp only [Act.put, List.setIfInBounds_toArray, List.set_cons_zero, List.set_cons_succ]
                    refine wpAnyH_take (i := 14) (oi := { dst := some 140, op := Op.extract (Operand.tmp 126) 1, type := 26, pos := "own.go:37", after := #[{ on := 12, ground := Ground.data }, { on := 16, ground := Ground.gcOnly Departure.lateStores }], guard := none }) (v := ?_) rfl (by kernel_rfl) (by kernel_rfl) (by kernel_rfl) (fun _ _ _ h => h) (Or.inl ⟨by rfl, ?_⟩) hH ?_
                    rotate_left
                    · intro w hSw; (try dsimp only at hSw); go_simp <;> with_reducible rfl
                    try simp only [Act.put, List.setIfInBounds_toArray, List.set_cons_zero, List.set_cons_succ]
                    refine wpAnyH_ready (rs := [15]) (by kernel_rfl) (by simp) ?_
                    refine AllReadyH.cons (o := { dst := some 17, op := Op.alloc 40, type := 0, pos := "own.go:37", after := #[], guard := none }) rfl (fun K hK => ?_) AllReadyH.nil
                    go_simp
                    refine genw (K := K) (fun x2 hx => ?_)
                    have f1 : Fr (fun _ => False) x1 x2 := by rw [hx]; exact (Fr.refl _ _).alloc _
                    have HY2 := hid (show x2.heap[x1.heap.size]? = some (.cells (encM noM).toArray 40 (0, 0)) by rw [hx]; exact heap_new _ _)
                    have HYL := hid (show w2.heap.size ≤ x1.heap.size from HN1.out.size)
                    have HN2 := hid (show Fr F w2 x2 from HN1.out.trans f1 (fun _ h => h) (fun _ _ e => e.elim))
                    have HM2 := hid (HM1.out.no f1)
                    clear f1 hx
                    refine hK.out _ _ ?_ (fun hH => ?_)
                    · exact HN2.out
                    clear hK K
                    try simp only [Act.put, List.setIfInBounds_toArray, List.set_cons_zero, List.set_cons_succ]
                    refine wpAnyH_ready (rs := [16]) (by kernel_rfl) (by simp) ?_
                    refine AllReadyH.cons (o := { dst := none, op := Op.store 40 (Operand.tmp 17) (Operand.tmp 139), type := 0, pos := "own.go:37", after := #[{ on := 15, ground := Ground.data }, { on := 13, ground := Ground.data }, { on := 11, ground := Ground.chain }, { on := 0, ground := Ground.phase }, { on := 1, ground := Ground.phase }, { on := 2, ground := Ground.phase }, { on := 3, ground := Ground.phase }, { on := 4, ground := Ground.phase }, { on := 5, ground := Ground.phase }, { on := 6, ground := Ground.phase }, { on := 7, ground := Ground.phase }, { on := 8, ground := Ground.phase }, { on := 9, ground := Ground.phase }, { on := 10, ground := Ground.phase }, { on := 11, ground := Ground.phase }, { on := 12, ground := Ground.phase }, { on := 13, ground := Ground.phase }, { on := 14, ground := Ground.textOnly Departure.lateStores }, { on := 15, ground := Ground.phase }], guard := none }) rfl (fun K hK => ?_) AllReadyH.nil
                    have TS : st 40 (.pointer (some ⟨x1.heap.size, 0, none⟩)) (msgV y) x2 = .ok .skip (World.setCells x2 (x1.heap.size) 0 (encM y)) := st_msg y (there_block (by exact HY2.out))
                    go_simp
                    clear TS
                    refine genw (K := K) (fun w5 hx => ?_)
                    have f2 : Fr (fun q => q = x1.heap.size) x2 w5 := by rw [hx]; exact Fr.setCells (S := fun q => q = x1.heap.size) (b := x1.heap.size) (fun _ => rfl) _ _ (Fr.refl _ _)
                    have HY5 := hid (show w5.heap[x1.heap.size]? = some (.cells (encM y).toArray _ (0, 0)) by rw [hx]; exact msg_over HY2.out y)
                    have HF5 := hid (show Fr F w2 w5 from HN2.out.trans f2 (fun _ h => h) (fun i hi e => by (have := HYL.out; omega)))
                    have HM5 := hid (HM2.out.fr f2 (fun i hi e => by (have := HFF.out i hi; have := HYL.out; omega)))
                    clear f2 hx
                    refine hK.out _ _ ?_ (fun hH => ?_)
                    · exact HF5.out
                    clear hK K
                    refine wpAnyH_take (i := 17) (oi := { dst := some 18, op := Op.assign (Operand.tmp 140), type := 26, pos := "own.go:37", after := #[{ on := 14, ground := Ground.data }, { on := 16, ground := Ground.chain }, { on := 0, ground := Ground.phase }, { on := 1, ground := Ground.phase }, { on := 2, ground := Ground.phase }, { on := 3, ground := Ground.phase }, { on := 4, ground := Ground.phase }, { on := 5, ground := Ground.phase }, { on := 6, ground := Ground.phase }, { on := 7, ground := Ground.phase }, { on := 8, ground := Ground.phase }, { on := 9, ground := Ground.phase }, { on := 10, ground := Ground.phase }, { on := 11, ground := Ground.phase }, { on := 12, ground := Ground.phase }, { on := 13, ground := Ground.phase }, { on := 14, ground := Ground.phase }, { on := 15, ground := Ground.phase }, { on := 16, ground := Ground.phase }], guard := none }) (v := ?_) rfl (by kernel_rfl) (by kernel_rfl) (by kernel_rfl) (fun _ _ _ h => h) (Or.inl ⟨by rfl, ?_⟩) hH ?_
                    rotate_left
                    · intro w hSw; (try dsimp only at hSw); go_simp <;> with_reducible rfl
                    try simp only [Act.put, List.setIfInBounds_toArray, List.set_cons_zero, List.set_cons_succ]
                    refine wpAnyH_done (by kernel_rfl) ?_ _
                    clear r1 r2 hH
                    go_wp2_with fail
                    go_meet
                    exact ⟨y, z, R', _, rfl, rfl, HST.out, HM5.out, HF5.out, HY5.out⟩
                  refine AllReadyH.cons (o := { dst := some 17, op := Op.alloc 40, type := 0, pos := "own.go:37", after := #[], guard := none }) rfl (fun K hK => ?_) AllReadyH.nil
                  go_simp
                  refine genw (K := K) (fun x1 hx => ?_)
                  have HP1 := hid (show Fr (fun _ => False) w2 x1 by rw [hx]; exact (drew_no').alloc _)
                  have HY1 := hid (show x1.heap[w2.heap.size]? = some (.cells (encM noM).toArray 40 (0, 0)) by rw [hx]; exact heap_new _ _)
                  clear hx
                  refine hK.out _ _ ?_ (fun hH => ?_)
                  · exact HP1.out.mono (fun _ _ e => e.elim)
                  clear hK K
                  try simp only [Act.put, List.setIfInBounds_toArray, List.set_cons_zero, List.set_cons_succ]
                  refine wpAnyH_ready (rs := [11]) (by kernel_rfl) (by simp) ?_
                  refine AllReadyH.cons (o := { dst := some 138, op := Op.call { callee := Callee.value (Operand.func 9), args := #[Operand.tmp 127, Operand.tmp 132, Operand.tmp 137], argTypes := #[25, 3, 3] }, type := 41, pos := "own.go:37", after := #[{ on := 0, ground := Ground.data }, { on := 5, ground := Ground.data }, { on := 10, ground := Ground.data }], guard := none }) rfl (fun K hK => ?_) AllReadyH.nil
                  go_simp
                  go_at_call 9
                  go_must (refine (RV.out _ HP1.out).mono ?_)
                  rintro e x2 ⟨y, z, R', rfl, hst, hm, hf⟩
                  go_simp
                  have HN2 := hid (show Fr F w2 x2 from (HP1.out.mono (fun _ _ e => e.elim)).trans' hf)
                  have HY2 := hid (hf.heap HY1.out (fun e => by (have := HFF.out _ e; omega)))
                  have HYL := hid (Nat.le_refl w2.heap.size)
                  have HST := hid hst
                  have HM2 := hid hm
                  clear hst hm hf
                  refine hK.out _ _ ?_ (fun hH => ?_)
                  · exact HN2.out
                  clear hK K
                  try simp only [Act.put, List.setIfInBounds_toArray, List.set_cons_zero, List.set_cons_succ]
                  refine wpAnyH_take (i := 12) (oi := { dst := some 126, op := Op.move (Operand.tmp 138), type := 41, pos := "own.go:37", after := #[{ on := 11, ground := Ground.data }], guard := none }) (v := ?_) rfl (by kernel_rfl) (by kernel_rfl) (by kernel_rfl) (fun _ _ _ h => h) (Or.inl ⟨by rfl, ?_⟩) hH ?_
                  rotate_left
                  · intro w hSw; (try dsimp only at hSw); go_simp <;> with_reducible rfl
                  try simp only [Act.put, List.setIfInBounds_toArray, List.set_cons_zero, List.set_cons_succ]
                  refine wpAnyH_take (i := 13) (oi := { dst := some 139, op := Op.extract (Operand.tmp 126) 0, type := 40, pos := "own.go:37", after := #[{ on := 12, ground := Ground.data }], guard := none }) (v := ?_) rfl (by kernel_rfl) (by kernel_rfl) (by kernel_rfl) (fun _ _ _ h => h) (Or.inl ⟨by rfl, ?_⟩) hH ?_
                  rotate_left
                  · intro w hSw; (try dsimp only at hSw); go_simp <;> with_reducible rfl
                  try simp only [Act.put, List.setIfInBounds_toArray, List.set_cons_zero, List.set_cons_succ]
                  refine wpAnyH_take (i := 14) (oi := { dst := some 140, op := Op.extract (Operand.tmp 126) 1, type := 26, pos := "own.go:37", after := #[{ on := 12, ground := Ground.data }, { on := 16, ground := Ground.gcOnly Departure.lateStores }], guard := none }) (v := ?_) rfl (by kernel_rfl) (by kernel_rfl) (by kernel_rfl) (fun _ _ _ h => h) (Or.inl ⟨by rfl, ?_⟩) hH ?_
                  rotate_left
                  · intro w hSw; (try dsimp only at hSw); go_simp <;> with_reducible rfl
                  try simp only [Act.put, List.setIfInBounds_toArray, List.set_cons_zero, List.set_cons_succ]
                  refine wpAnyH_ready (rs := [16]) (by kernel_rfl) (by simp) ?_
                  refine AllReadyH.cons (o := { dst := none, op := Op.store 40 (Operand.tmp 17) (Operand.tmp 139), type := 0, pos := "own.go:37", after := #[{ on := 15, ground := Ground.data }, { on := 13, ground := Ground.data }, { on := 11, ground := Ground.chain }, { on := 0, ground := Ground.phase }, { on := 1, ground := Ground.phase }, { on := 2, ground := Ground.phase }, { on := 3, ground := Ground.phase }, { on := 4, ground := Ground.phase }, { on := 5, ground := Ground.phase }, { on := 6, ground := Ground.phase }, { on := 7, ground := Ground.phase }, { on := 8, ground := Ground.phase }, { on := 9, ground := Ground.phase }, { on := 10, ground := Ground.phase }, { on := 11, ground := Ground.phase }, { on := 12, ground := Ground.phase }, { on := 13, ground := Ground.phase }, { on := 14, ground := Ground.textOnly Departure.lateStores }, { on := 15, ground := Ground.phase }], guard := none }) rfl (fun K hK => ?_) AllReadyH.nil
                  have TS : st 40 (.pointer (some ⟨w2.heap.size, 0, none⟩)) (msgV y) x2 = .ok .skip (World.setCells x2 (w2.heap.size) 0 (encM y)) := st_msg y (there_block (by exact HY2.out))
                  go_simp
                  clear TS
                  refine genw (K := K) (fun w5 hx => ?_)
                  have f2 : Fr (fun q => q = w2.heap.size) x2 w5 := by rw [hx]; exact Fr.setCells (S := fun q => q = w2.heap.size) (b := w2.heap.size) (fun _ => rfl) _ _ (Fr.refl _ _)
                  have HY5 := hid (show w5.heap[w2.heap.size]? = some (.cells (encM y).toArray _ (0, 0)) by rw [hx]; exact msg_over HY2.out y)
                  have HF5 := hid (show Fr F w2 w5 from HN2.out.trans f2 (fun _ h => h) (fun i hi e => by (have := HYL.out; omega)))
                  have HM5 := hid (HM2.out.fr f2 (fun i hi e => by (have := HFF.out i hi; have := HYL.out; omega)))
                  clear f2 hx
                  refine hK.out _ _ ?_ (fun hH => ?_)
                  · exact HF5.out
                  clear hK K
                  refine wpAnyH_take (i := 17) (oi := { dst := some 18, op := Op.assign (Operand.tmp 140), type := 26, pos := "own.go:37", after := #[{ on := 14, ground := Ground.data }, { on := 16, ground := Ground.chain }, { on := 0, ground := Ground.phase }, { on := 1, ground := Ground.phase }, { on := 2, ground := Ground.phase }, { on := 3, ground := Ground.phase }, { on := 4, ground := Ground.phase }, { on := 5, ground := Ground.phase }, { on := 6, ground := Ground.phase }, { on := 7, ground := Ground.phase }, { on := 8, ground := Ground.phase }, { on := 9, ground := Ground.phase }, { on := 10, ground := Ground.phase }, { on := 11, ground := Ground.phase }, { on := 12, ground := Ground.phase }, { on := 13, ground := Ground.phase }, { on := 14, ground := Ground.phase }, { on := 15, ground := Ground.phase }, { on := 16, ground := Ground.phase }], guard := none }) (v := ?_) rfl (by kernel_rfl) (by kernel_rfl) (by kernel_rfl) (fun _ _ _ h => h) (Or.inl ⟨by rfl, ?_⟩) hH ?_
                  rotate_left
                  · intro w hSw; (try dsimp only at hSw); go_simp <;> with_reducible rfl
                  try simp only [Act.put, List.setIfInBounds_toArray, List.set_cons_zero, List.set_cons_succ]
                  refine wpAnyH_done (by kernel_rfl) ?_ _
                  clear r1 r2 hH
                  go_wp2_with fail
                  go_meet
                  exact ⟨y, z, R', _, rfl, rfl, HST.out, HM5.out, HF5.out, HY5.out⟩
              case rest =>
                obtain ⟨y, z, R', y9, rfl, rfl, hst, hm5, hf5, hy5⟩ := hcut
                obtain ⟨w5, hw5⟩ : ∃ w5, w5 = wc := ⟨_, rfl⟩
                rw [← hw5] at hm5 hf5 hy5 ⊢
                obtain ⟨y0, L0, hcons⟩ : ∃ y0 L0, msgsTo W A (lk W xa xb) = y0 :: L0 := by
                  cases h : msgsTo W A (lk W xa xb) with
                  | nil => exact absurd h HNE.out
                  | cons y0 L0 => exact ⟨y0, L0, rfl⟩
                obtain ⟨L, hL, rfl, rfl⟩ := step_some hst HTH.out hcons
                have HLL := hid hL
                have HM5 := hid hm5
                have HF5 := hid hf5
                have HY5 := hid hy5
                have HRS := hid (hf5.owns D2.out.row (fun i e h => (D2.out.fb i h).2 e))
                have HRA5 := hid (show w5.rangeAt gr (kk * 2) (encT (xa, xb)) from fun i u hu => hf5.cell (HRA.out i u hu) hgrF)
                clear hst hm5 hf5 hy5 hL hcons r1 r2 RV hw5
                go_wp2_with fail
                go_loopw [19] (fun i wx => ∃ j : Nat, j ≤ A.length ∧ i = .int .i64 j ∧ (∀ x ∈ A.take j, ¬ (x.f = xa ∧ x.d = xb)) ∧ ∃ m, wx = w5.drewN m) (fun i _ => A.length - (intOf i).toNat)
                case atStart => exact ⟨0, Nat.zero_le _, rfl, by simp, 0, rfl⟩
                case round =>
                  obtain ⟨j, hj, rfl, hno, m, rfl⟩ := hrel
                  have HNJ := hid hno
                  clear hno
                  have hjl : j < A.length := by
                    rcases Nat.lt_or_ge j A.length with h | h
                    · exact h
                    · exfalso
                      have h2 := HNJ.out
                      rw [List.take_of_length_le h] at h2
                      exact HNE.out (recv_none_agree D2.out.inn HTH.out h2)
                  obtain ⟨x, hxj⟩ : ∃ x, A[j]? = some x := ⟨A[j], by simp [hjl]⟩
                  have hgs : ∃ gs, sv = some ⟨gs, 0, none⟩ := by
                    rcases owns_form HRS.out with ⟨_, hz⟩ | ⟨gp, cp, e, _, _, _, hgw⟩
                    · omega
                    · injection e with e1 e2 e3; exact ⟨gp, e1⟩
                  obtain ⟨gs, rfl⟩ := hgs
                  have hpa : ParAt w5 gs (j * 9) x := owns_range encP_len HRS.out hxj
                  have x0 := hpa.c0
                  have x1 := hpa.c1
                  have e0 : w5.cell? ⟨gr, kk * 2, none⟩ = some (.int .i64 xa) := HRA5.out 0 _ rfl
                  have e1 : w5.cell? ⟨gr, kk * 2 + 1, none⟩ = some (.int .i64 xb) := HRA5.out 1 _ rfl
                  have HPA := hid hpa
                  have HX := hid hxj
                  have hjb : (j : Int) < (A.length : Int) := by omega
                  have d0 : decide ((j : Int) < (A.length : Int)) = true := by simp; omega
                  clear hpa hxj
                  by_cases q1 : x.f = xa
                  · by_cases q2 : x.d = xb
                    · have t1 : (x.f == xa) = true := by simpa using q1
                      have t1' : (x.f != xa) = false := by simpa using q1
                      have t2 : (x.d == xb) = true := by simpa using q2
                      have t2' : (x.d != xb) = false := by simpa using q2
                      have HQ1 := hid q1
                      have HQ2 := hid q2
                      clear q1 q2
                      go_wp2_with fail
                      go_quiet (fail)
                      go_upto_region 29 with fail
                      as_aux_lemma =>
                        generalize hw6 : World.drewN (World.drewN w5 m) _ = w6
                        have F56 := hid (show Fr (fun _ => False) w5 w6 by rw [← hw6]; exact ((Fr.refl _ _).drewN _).drewN _)
                        clear hw6 x0 x1 e0 e1 t1 t1' t2 t2' d0
                        have hym : y = x.m := (recv_own D2.out.inn HTH.out HX.out HQ1.out HQ2.out HNJ.out HLL.out).1
                        have lq : ∀ w', Fr (fun _ => False) w6 w' → ld 40 (.pointer (some ⟨gs, j * 9 + 2, none⟩)) w' = .ok (.value (msgV x.m)) w' := fun w' hf => ld_msg (fun i u hu => hf.cell (F56.out.cell (HPA.out.msg i u hu) (fun e => e)) (fun e => e))
                        have ly : ∀ w', Fr (fun _ => False) w6 w' → ld 40 (.pointer (some ⟨y9, 0, none⟩)) w' = .ok (.value (msgV x.m)) w' := fun w' hf => ld_msg (MsgAt.of_block (hf.heap (F56.out.heap (hym ▸ HY5.out) (fun e => e)) (fun e => e)))
                        have U29 := hid (fun w' (hf : Fr (fun _ => False) w6 w') => msame_ok ((((D2.out.al.2 j x x HX.out HX.out).2.2.fr HF5.out (fun i e => .inl e) (fun i e => .inl e)).fr F56.out (fun _ e => e.elim) (fun _ e => e.elim)).fr hf (fun _ e => e.elim) (fun _ e => e.elim)))
                        have je : ((j : Int) == (A.length : Int)) = false := by simp; omega
                        clear hym
                        refine wp_region_held_drew (S := (fun w' => Fr (fun _ => False) w6 w')) (by kernel_rfl) ?_ (fun hH => ?_)
                        · exact drew_no'
                        refine wpAnyH_take (i := 0) (oi := { dst := some 173, op := Op.move (Operand.tmp 18), type := 26, pos := "own.go:42", after := #[], guard := none }) (v := ?_) rfl (by kernel_rfl) (by kernel_rfl) (by kernel_rfl) (fun _ _ _ h => h) (Or.inl ⟨by rfl, ?_⟩) hH ?_
                        rotate_left
                        · intro w hSw; (try dsimp only at hSw); go_simp <;> with_reducible rfl
                        try simp only [Act.put, List.setIfInBounds_toArray, List.set_cons_zero, List.set_cons_succ]
                        refine wpAnyH_take (i := 1) (oi := { dst := some 174, op := Op.binOp BinOp.neq 26 (Operand.tmp 173) (Operand.const (Value.int IntKind.i64 0)) 26, type := 4, pos := "own.go:42", after := #[{ on := 0, ground := Ground.data }], guard := none }) (v := ?_) rfl (by kernel_rfl) (by kernel_rfl) (by kernel_rfl) (fun _ _ _ h => h) (Or.inl ⟨by rfl, ?_⟩) hH ?_
                        rotate_left
                        · intro w hSw; (try dsimp only at hSw); go_simp <;> with_reducible rfl
                        try simp only [Act.put, List.setIfInBounds_toArray, List.set_cons_zero, List.set_cons_succ]
                        refine wpAnyH_take (i := 2) (oi := { dst := some 175, op := Op.move (Operand.tmp 174), type := 4, pos := "own.go:42", after := #[{ on := 1, ground := Ground.data }], guard := none }) (v := ?_) rfl (by kernel_rfl) (by kernel_rfl) (by kernel_rfl) (fun _ _ _ h => h) (Or.inl ⟨by rfl, ?_⟩) hH ?_
                        rotate_left
                        · intro w hSw; (try dsimp only at hSw); go_simp <;> with_reducible rfl
                        try simp only [Act.put, List.setIfInBounds_toArray, List.set_cons_zero, List.set_cons_succ]
                        refine wpAnyH_take (i := 3) (oi := { dst := some 176, op := Op.move (Operand.tmp 19), type := 3, pos := "own.go:42", after := #[{ on := 2, ground := Ground.guard }], guard := some (2, false) }) (v := ?_) rfl (by kernel_rfl) (by kernel_rfl) (by kernel_rfl) (fun _ _ _ h => h) (Or.inl ⟨by rfl, ?_⟩) hH ?_
                        rotate_left
                        · intro w hSw; (try dsimp only at hSw); go_simp <;> with_reducible rfl
                        try simp only [Act.put, List.setIfInBounds_toArray, List.set_cons_zero, List.set_cons_succ]
                        refine wpAnyH_take (i := 4) (oi := { dst := some 177, op := Op.move (Operand.tmp 9), type := 53, pos := "own.go:42", after := #[{ on := 2, ground := Ground.guard }], guard := some (2, false) }) (v := ?_) rfl (by kernel_rfl) (by kernel_rfl) (by kernel_rfl) (fun _ _ _ h => h) (Or.inl ⟨by rfl, ?_⟩) hH ?_
                        rotate_left
                        · intro w hSw; (try dsimp only at hSw); go_simp <;> with_reducible rfl
                        try simp only [Act.put, List.setIfInBounds_toArray, List.set_cons_zero, List.set_cons_succ]
                        refine wpAnyH_take (i := 5) (oi := { dst := some 178, op := Op.call { callee := Callee.builtin Builtin.len, args := #[Operand.tmp 177], argTypes := #[53] }, type := 3, pos := "own.go:42", after := #[{ on := 4, ground := Ground.data }, { on := 2, ground := Ground.guard }], guard := some (2, false) }) (v := ?_) rfl (by kernel_rfl) (by kernel_rfl) (by kernel_rfl) (fun _ _ _ h => h) (Or.inl ⟨by rfl, ?_⟩) hH ?_
                        rotate_left
                        · intro w hSw; (try dsimp only at hSw); go_simp <;> with_reducible rfl
                        try simp only [Act.put, List.setIfInBounds_toArray, List.set_cons_zero, List.set_cons_succ]
                        refine wpAnyH_take (i := 6) (oi := { dst := some 179, op := Op.binOp BinOp.eql 3 (Operand.tmp 176) (Operand.tmp 178) 3, type := 4, pos := "own.go:42", after := #[{ on := 3, ground := Ground.data }, { on := 5, ground := Ground.data }, { on := 2, ground := Ground.guard }], guard := some (2, false) }) (v := ?_) rfl (by kernel_rfl) (by kernel_rfl) (by kernel_rfl) (fun _ _ _ h => h) (Or.inl ⟨by rfl, ?_⟩) hH ?_
                        rotate_left
                        · intro w hSw; (try dsimp only at hSw); go_simp <;> with_reducible rfl
                        try simp only [Act.put, List.setIfInBounds_toArray, List.set_cons_zero, List.set_cons_succ]
                        refine wpAnyH_take (i := 7) (oi := { dst := some 180, op := Op.pick (Operand.tmp 175) (Operand.const (Value.bool true)) (Operand.tmp 179), type := 4, pos := "own.go:42", after := #[{ on := 2, ground := Ground.data }, { on := 6, ground := Ground.data }], guard := none }) (v := ?_) rfl (by kernel_rfl) (by kernel_rfl) (by kernel_rfl) (fun _ _ _ h => h) (Or.inl ⟨by rfl, ?_⟩) hH ?_
                        rotate_left
                        · intro w hSw; (try dsimp only at hSw); go_simp <;> with_reducible rfl
                        try simp only [Act.put, List.setIfInBounds_toArray, List.set_cons_zero, List.set_cons_succ]
                        refine wpAnyH_take (i := 8) (oi := { dst := some 181, op := Op.move (Operand.tmp 180), type := 4, pos := "own.go:42", after := #[{ on := 7, ground := Ground.data }, { on := 2, ground := Ground.chain }], guard := none }) (v := ?_) rfl (by kernel_rfl) (by kernel_rfl) (by kernel_rfl) (fun _ _ _ h => h) (Or.inl ⟨by rfl, ?_⟩) hH ?_
                        rotate_left
                        · intro w hSw; (try dsimp only at hSw); go_simp <;> with_reducible rfl
                        try simp only [Act.put, List.setIfInBounds_toArray, List.set_cons_zero, List.set_cons_succ]
                        refine wpAnyH_take (i := 9) (oi := { dst := some 182, op := Op.move (Operand.tmp 9), type := 53, pos := "own.go:42", after := #[{ on := 8, ground := Ground.guard }], guard := some (8, false) }) (v := ?_) rfl (by kernel_rfl) (by kernel_rfl) (by kernel_rfl) (fun _ _ _ h => h) (Or.inl ⟨by rfl, ?_⟩) hH ?_
                        rotate_left
                        · intro w hSw; (try dsimp only at hSw); go_simp <;> with_reducible rfl
                        try simp only [Act.put, List.setIfInBounds_toArray, List.set_cons_zero, List.set_cons_succ]
                        refine wpAnyH_take (i := 10) (oi := { dst := some 183, op := Op.move (Operand.tmp 19), type := 3, pos := "own.go:42", after := #[{ on := 8, ground := Ground.guard }], guard := some (8, false) }) (v := ?_) rfl (by kernel_rfl) (by kernel_rfl) (by kernel_rfl) (fun _ _ _ h => h) (Or.inl ⟨by rfl, ?_⟩) hH ?_
                        rotate_left
                        · intro w hSw; (try dsimp only at hSw); go_simp <;> with_reducible rfl
                        try simp only [Act.put, List.setIfInBounds_toArray, List.set_cons_zero, List.set_cons_succ]
                        refine wpAnyH_take (i := 11) (oi := { dst := some 184, op := Op.indexAddr 53 (Operand.tmp 182) (Operand.tmp 183), type := 0, pos := "own.go:42", after := #[{ on := 9, ground := Ground.data }, { on := 10, ground := Ground.data }, { on := 8, ground := Ground.guard }], guard := some (8, false) }) (v := ?_) rfl (by kernel_rfl) (by kernel_rfl) (by kernel_rfl) (fun _ _ _ h => h) (Or.inl ⟨by rfl, ?_⟩) hH ?_
                        rotate_left
                        · intro w hSw; (try dsimp only at hSw); go_simp <;> with_reducible rfl
                        try simp only [Act.put, List.setIfInBounds_toArray, List.set_cons_zero, List.set_cons_succ]
                        refine wpAnyH_take (i := 12) (oi := { dst := some 185, op := Op.fieldAddr 69 (Operand.tmp 184) 2, type := 0, pos := "own.go:42", after := #[{ on := 11, ground := Ground.data }, { on := 8, ground := Ground.guard }], guard := some (8, false) }) (v := ?_) rfl (by kernel_rfl) (by kernel_rfl) (by kernel_rfl) (fun _ _ _ h => h) (Or.inl ⟨by rfl, ?_⟩) hH ?_
                        rotate_left
                        · intro w hSw; (try dsimp only at hSw); go_simp <;> with_reducible rfl
                        try simp only [Act.put, List.setIfInBounds_toArray, List.set_cons_zero, List.set_cons_succ]
                        refine wpAnyH_take (i := 13) (oi := { dst := some 186, op := Op.load 40 (Operand.tmp 185), type := 40, pos := "own.go:42", after := #[{ on := 12, ground := Ground.data }, { on := 8, ground := Ground.guard }], guard := some (8, false) }) (v := ?_) rfl (by kernel_rfl) (by kernel_rfl) (by kernel_rfl) (fun _ _ _ h => h) (Or.inl ⟨by rfl, ?_⟩) hH ?_
                        rotate_left
                        · intro w hSw; (try dsimp only at hSw); go_simp <;> with_reducible rfl
                        try simp only [Act.put, List.setIfInBounds_toArray, List.set_cons_zero, List.set_cons_succ]
                        refine wpAnyH_take (i := 14) (oi := { dst := some 187, op := Op.load 40 (Operand.tmp 17), type := 40, pos := "own.go:42", after := #[{ on := 8, ground := Ground.guard }], guard := some (8, false) }) (v := ?_) rfl (by kernel_rfl) (by kernel_rfl) (by kernel_rfl) (fun _ _ _ h => h) (Or.inl ⟨by rfl, ?_⟩) hH ?_
                        rotate_left
                        · intro w hSw; (try dsimp only at hSw); go_simp <;> with_reducible rfl
                        try simp only [Act.put, List.setIfInBounds_toArray, List.set_cons_zero, List.set_cons_succ]
                        refine wpAnyH_ready (rs := [15]) (by kernel_rfl) (by simp) ?_
                        refine AllReadyH.cons (o := { dst := some 188, op := Op.call { callee := Callee.value (Operand.func 23), args := #[Operand.tmp 186, Operand.tmp 187], argTypes := #[40, 40] }, type := 4, pos := "own.go:42", after := #[{ on := 13, ground := Ground.data }, { on := 14, ground := Ground.data }, { on := 8, ground := Ground.chain }, { on := 8, ground := Ground.guard }], guard := some (8, false) }) rfl (fun K hK => ?_) AllReadyH.nil
                        go_simp
                        go_at_call 23
                        go_must (refine (U29.out _ hH).mono ?_)
                        rintro e x8 ⟨rfl, hf8⟩
                        go_simp
                        have H8 := hid (hH.trans' hf8)
                        clear hf8
                        refine hK.out _ _ ?_ (fun hH => ?_)
                        · exact H8.out
                        clear hK K
                        try simp only [Act.put, List.setIfInBounds_toArray, List.set_cons_zero, List.set_cons_succ]
                        refine wpAnyH_take (i := 16) (oi := { dst := some 189, op := Op.unOp UnOp.not 4 (Operand.tmp 188), type := 4, pos := "own.go:42", after := #[{ on := 15, ground := Ground.data }, { on := 8, ground := Ground.guard }], guard := some (8, false) }) (v := ?_) rfl (by kernel_rfl) (by kernel_rfl) (by kernel_rfl) (fun _ _ _ h => h) (Or.inl ⟨by rfl, ?_⟩) hH ?_
                        rotate_left
                        · intro w hSw; (try dsimp only at hSw); go_simp <;> with_reducible rfl
                        try simp only [Act.put, List.setIfInBounds_toArray, List.set_cons_zero, List.set_cons_succ]
                        refine wpAnyH_take (i := 17) (oi := { dst := some 190, op := Op.pick (Operand.tmp 181) (Operand.const (Value.bool true)) (Operand.tmp 189), type := 4, pos := "own.go:42", after := #[{ on := 8, ground := Ground.data }, { on := 16, ground := Ground.data }], guard := none }) (v := ?_) rfl (by kernel_rfl) (by kernel_rfl) (by kernel_rfl) (fun _ _ _ h => h) (Or.inl ⟨by rfl, ?_⟩) hH ?_
                        rotate_left
                        · intro w hSw; (try dsimp only at hSw); go_simp <;> with_reducible rfl
                        try simp only [Act.put, List.setIfInBounds_toArray, List.set_cons_zero, List.set_cons_succ]
                        refine wpAnyH_done (by kernel_rfl) ?_ _
                        clear lq ly hH
                        have hAk : A.length ≤ cv := by
                          rcases owns_form HRS.out with ⟨_, hz⟩ | ⟨_, cp, e, h1, _⟩
                          · omega
                          · injection e with e1 e2 e3; omega
                        have hrd : Reads x8 x8.heap.size 9 (some ⟨gs, 0, none⟩) A.length (A.flatMap encP) := Reads.of_own ((F56.out.trans' H8.out).owns HRS.out (fun _ _ e => e))
                        have HRU := hid (show Reads x8 x8.heap.size 9 (some ⟨gs, 0, none⟩) j ((A.take j).flatMap encP) by have h := hrd.upto (k := j) (by omega); rwa [flatP_upto] at h)
                        obtain ⟨A2, hA2, hR2⟩ : ∃ A2, (∀ w', sl 53 (.slice (some ⟨gs, 0, none⟩) A.length cv) (some (.int .i64 ((j : Int) + 1))) none none w' = .ok (.value (.slice A2 (A.length - (j + 1)) (cv - (j + 1)))) w') ∧ Reads x8 x8.heap.size 9 A2 (A.length - (j + 1)) ((A.drop (j + 1)).flatMap encP) := by
                          have h := hrd.cut (k := j + 1) (cap := cv) (by omega) hAk
                          rw [flatP_from] at h
                          exact ⟨_, fun w' => slP_from _ _ _ _ (j + 1) (by omega) w', h⟩
                        have HRF := hid hR2
                        have hU : ∀ w', sl 53 (.slice (some ⟨gs, 0, none⟩) A.length cv) none (some (.int .i64 (j : Int))) none w' = .ok (.value (.slice (some ⟨gs, 0, none⟩) j cv)) w' := fun w' => slP_upto _ _ _ _ _ (by omega) w'
                        have hwr : IntKind.i64.wrap ((j : Int) + 1) = (j : Int) + 1 := IntWalk.i64_in _ (by omega)
                        have HN0 := hid (Fr.refl (fun _ => False) x8)
                        clear hrd hR2 je
                        go_upto_region 31 with fail
                        refine wp_region_held_drew (S := (fun w' => Fr (fun _ => False) x8 w')) (by kernel_rfl) ?_ (fun hH => ?_)
                        · exact drew_no'
                        refine wpAnyH_take (i := 1) (oi := { dst := some 192, op := Op.move (Operand.tmp 9), type := 53, pos := "own.go:45", after := #[], guard := none }) (v := ?_) rfl (by kernel_rfl) (by kernel_rfl) (by kernel_rfl) (fun _ _ _ h => h) (Or.inl ⟨by rfl, ?_⟩) hH ?_
                        rotate_left
                        · intro w hSw; (try dsimp only at hSw); go_simp <;> with_reducible rfl
                        try simp only [Act.put, List.setIfInBounds_toArray, List.set_cons_zero, List.set_cons_succ]
                        refine wpAnyH_take (i := 2) (oi := { dst := some 193, op := Op.move (Operand.tmp 19), type := 3, pos := "own.go:45", after := #[], guard := none }) (v := ?_) rfl (by kernel_rfl) (by kernel_rfl) (by kernel_rfl) (fun _ _ _ h => h) (Or.inl ⟨by rfl, ?_⟩) hH ?_
                        rotate_left
                        · intro w hSw; (try dsimp only at hSw); go_simp <;> with_reducible rfl
                        try simp only [Act.put, List.setIfInBounds_toArray, List.set_cons_zero, List.set_cons_succ]
                        refine wpAnyH_take (i := 3) (oi := { dst := some 194, op := Op.slice 53 (Operand.tmp 192) none (some (Operand.tmp 193)) none, type := 53, pos := "own.go:45", after := #[{ on := 1, ground := Ground.data }, { on := 2, ground := Ground.data }], guard := none }) (v := ?_) rfl (by kernel_rfl) (by kernel_rfl) (by kernel_rfl) (fun _ _ _ h => h) (Or.inl ⟨by rfl, ?_⟩) hH ?_
                        rotate_left
                        · intro w hSw; (try dsimp only at hSw); go_simp <;> with_reducible rfl
                        try simp only [Act.put, List.setIfInBounds_toArray, List.set_cons_zero, List.set_cons_succ]
                        refine wpAnyH_take (i := 5) (oi := { dst := some 196, op := Op.move (Operand.tmp 9), type := 53, pos := "own.go:45", after := #[], guard := none }) (v := ?_) rfl (by kernel_rfl) (by kernel_rfl) (by kernel_rfl) (fun _ _ _ h => h) (Or.inl ⟨by rfl, ?_⟩) hH ?_
                        rotate_left
                        · intro w hSw; (try dsimp only at hSw); go_simp <;> with_reducible rfl
                        try simp only [Act.put, List.setIfInBounds_toArray, List.set_cons_zero, List.set_cons_succ]
                        refine wpAnyH_take (i := 6) (oi := { dst := some 197, op := Op.move (Operand.tmp 19), type := 3, pos := "own.go:45", after := #[], guard := none }) (v := ?_) rfl (by kernel_rfl) (by kernel_rfl) (by kernel_rfl) (fun _ _ _ h => h) (Or.inl ⟨by rfl, ?_⟩) hH ?_
                        rotate_left
                        · intro w hSw; (try dsimp only at hSw); go_simp <;> with_reducible rfl
                        try simp only [Act.put, List.setIfInBounds_toArray, List.set_cons_zero, List.set_cons_succ]
                        refine wpAnyH_take (i := 7) (oi := { dst := some 198, op := Op.binOp BinOp.add 3 (Operand.tmp 197) (Operand.const (Value.int IntKind.i64 1)) 3, type := 3, pos := "own.go:45", after := #[{ on := 6, ground := Ground.data }], guard := none }) (v := ?_) rfl (by kernel_rfl) (by kernel_rfl) (by kernel_rfl) (fun _ _ _ h => h) (Or.inl ⟨by rfl, ?_⟩) hH ?_
                        rotate_left
                        · intro w hSw; (try dsimp only at hSw); go_simp <;> with_reducible rfl
                        try simp only [Act.put, List.setIfInBounds_toArray, List.set_cons_zero, List.set_cons_succ]
                        refine wpAnyH_take (i := 8) (oi := { dst := some 199, op := Op.slice 53 (Operand.tmp 196) (some (Operand.tmp 198)) none none, type := 53, pos := "own.go:45", after := #[{ on := 5, ground := Ground.data }, { on := 7, ground := Ground.data }], guard := none }) (v := ?_) rfl (by kernel_rfl) (by kernel_rfl) (by kernel_rfl) (fun _ _ _ h => h) (Or.inl ⟨by rfl, ?_⟩) hH ?_
                        rotate_left
                        · intro w hSw; (try dsimp only at hSw); go_simp <;> with_reducible rfl
                        try simp only [Act.put, List.setIfInBounds_toArray, List.set_cons_zero, List.set_cons_succ]
                        refine wpAnyH_ready (rs := [0]) (by kernel_rfl) (by simp) ?_
                        refine AllReadyH.cons (o := { dst := some 191, op := Op.buildSlice 53 0 #[], type := 53, pos := "own.go:45", after := #[], guard := none }) rfl (fun K hK => ?_) AllReadyH.nil
                        go_simp
                        refine genw (K := K) (fun x1 hx => ?_)
                        have f0 : Fr (fun _ => False) (x8.alloc (.cells #[] 69)) x1 := by rw [hx]; exact ⟨rfl, rfl, rfl, Nat.le_refl _, fun _ _ _ => rfl⟩
                        have f0' : Fr (fun _ => False) x8 x1 := ((Fr.refl _ x8).alloc _).trans' f0
                        have HZ1 := hid (show x1.heap.size = x8.heap.size + 1 by rw [hx]; simp)
                        have HN1 := hid (HN0.out.trans' f0')
                        have hle0 := HN0.out.size
                        have HE1 := hid (empty_own (B := x8.heap.size) (E := 69) (sz := 9) rfl f0 hle0 rfl)
                        clear f0 f0' hx hle0
                        refine hK.out _ _ ?_ (fun hH => ?_)
                        · exact HN1.out
                        clear hK K
                        try simp only [Act.put, List.setIfInBounds_toArray, List.set_cons_zero, List.set_cons_succ]
                        refine wpAnyH_ready (rs := [4]) (by kernel_rfl) (by simp) ?_
                        refine AllReadyH.cons (o := { dst := some 195, op := Op.call { callee := Callee.builtin Builtin.append, args := #[Operand.tmp 191, Operand.tmp 194], argTypes := #[53, 53] }, type := 53, pos := "own.go:45", after := #[{ on := 0, ground := Ground.data }, { on := 3, ground := Ground.data }], guard := none }) rfl (fun K hK => ?_) AllReadyH.nil
                        have qz1 := HZ1.out
                        have hle1 := HN1.out.size
                        have hlE : x8.heap.size ≤ x8.heap.size := by omega
                        go_must (refine step_append_any _ (by rfl) _ _ _ (by rfl) x8.heap.size 69 i0 _ 9 104 Try.underlying53 hi0 hz0 hz1 hz2 rfl (by omega) (.slice (some ⟨x8.heap.size, 0, none⟩) 0 0) 0 [] (by rfl) (by exact HE1.out) x8.heap.size (some ⟨gs, 0, none⟩) j cv ((A.take j).flatMap encP) (by rfl) (by exact HRU.out.fr HN1.out (Nat.le_refl _) (fun _ _ e => e)) (flatP_one _) (by unfold maxLen; omega) (by omega) (by omega) ?_)
                        intro v1 x2 hown hgrow hat
                        have f1' : Fr (fun q => q = x8.heap.size) x1 x2 := (Fr.refl _ x1).grown hgrow (fun q e _ => by simp [Value.ownBlock] at e; omega)
                        have HZ2 := hid (show x1.heap.size ≤ x2.heap.size from f1'.size)
                        have HN2 := hid (HN1.out.trans f1' (fun _ h => h) (fun i hi h => by omega))
                        have HR2 := hid (show x2.ownsRow x8.heap.size 69 9 v1 (j) ((A.take j).flatMap encP) by rw [Nat.zero_add, List.nil_append] at hown; exact hown)
                        clear f1' hown hgrow hat hlE hle1 qz1
                        refine hK.out _ _ ?_ (fun hH => ?_)
                        · exact HN2.out
                        clear hK K
                        try simp only [Act.put, List.setIfInBounds_toArray, List.set_cons_zero, List.set_cons_succ]
                        refine wpAnyH_ready (rs := [9]) (by kernel_rfl) (by simp) ?_
                        refine AllReadyH.cons (o := { dst := some 200, op := Op.call { callee := Callee.builtin Builtin.append, args := #[Operand.tmp 195, Operand.tmp 199], argTypes := #[53, 53] }, type := 53, pos := "own.go:45", after := #[{ on := 4, ground := Ground.data }, { on := 8, ground := Ground.data }, { on := 4, ground := Ground.chain }], guard := none }) rfl (fun K hK => ?_) AllReadyH.nil
                        have hle2 := HN2.out.size
                        have qz1 := HZ1.out
                        have qz2 := HZ2.out
                        go_must (refine step_append_any _ (by rfl) _ _ _ (by rfl) x8.heap.size 69 i0 _ 9 104 Try.underlying53 hi0 hz0 hz1 hz2 rfl (by omega) v1 (j) _ (by rfl) (by exact HR2.out) x8.heap.size A2 (A.length - (j + 1)) (cv - (j + 1)) ((A.drop (j + 1)).flatMap encP) (by rfl) (by exact HRF.out.fr HN2.out (Nat.le_refl _) (fun _ _ e => e)) (flatP_one _) (by unfold maxLen; omega) (by omega) (by omega) ?_)
                        intro v2 x3 hown hgrow hat
                        have f2' : Fr (fun q => x8.heap.size ≤ q) x2 x3 := (Fr.refl _ x2).grown hgrow (fun q e _ => (HR2.out.lt q e).1)
                        have HN3 := hid (HN2.out.trans f2' (fun _ h => h) (fun i hi h => by omega))
                        have HOW := hid hown
                        clear f2' hown hgrow hat hle2 qz1 qz2
                        refine hK.out _ _ ?_ (fun hH => ?_)
                        · exact HN3.out
                        clear hK K
                        try simp only [Act.put, List.setIfInBounds_toArray, List.set_cons_zero, List.set_cons_succ]
                        refine wpAnyH_take (i := 10) (oi := { dst := some 9, op := Op.assign (Operand.tmp 200), type := 53, pos := "own.go:45", after := #[{ on := 9, ground := Ground.data }, { on := 9, ground := Ground.chain }, { on := 0, ground := Ground.phase }, { on := 1, ground := Ground.phase }, { on := 2, ground := Ground.phase }, { on := 3, ground := Ground.phase }, { on := 4, ground := Ground.phase }, { on := 5, ground := Ground.phase }, { on := 6, ground := Ground.phase }, { on := 7, ground := Ground.phase }, { on := 8, ground := Ground.phase }, { on := 9, ground := Ground.phase }], guard := none }) (v := ?_) rfl (by kernel_rfl) (by kernel_rfl) (by kernel_rfl) (fun _ _ _ h => h) (Or.inl ⟨by rfl, ?_⟩) hH ?_
                        rotate_left
                        · intro w hSw; (try dsimp only at hSw); go_simp <;> with_reducible rfl
                        try simp only [Act.put, List.setIfInBounds_toArray, List.set_cons_zero, List.set_cons_succ]
                        refine wpAnyH_done (by kernel_rfl) ?_ _
                        have hz5 := F56.out.size
                        obtain ⟨hy, hupd⟩ := recv_own D2.out.inn HTH.out HX.out HQ1.out HQ2.out HNJ.out HLL.out
                        have hlen : (A.take j ++ A.drop (j + 1)).length = j + (A.length - (j + 1)) := by rw [List.length_append, List.length_take, List.length_drop]; omega
                        have hrow : x3.ownsRow w5.heap.size 69 9 v2 (A.take j ++ A.drop (j + 1)).length ((A.take j ++ A.drop (j + 1)).flatMap encP) := by
                          rw [hlen, List.flatMap_append]
                          exact owns_base HOW.out (Nat.le_trans hz5 H8.out.size)
                        have h7 := (F56.out.trans' H8.out).trans' HN3.out
                        have DN := hid (D2.out.took (A' := A.take j ++ A.drop (j + 1)) (by rw [← hupd]; exact HM5.out) HF5.out (fun z hz => (List.mem_append.1 hz).elim List.mem_of_mem_take List.mem_of_mem_drop) hrow h7)
                        have FK3 := hid ((FK2.out.fr HF5.out (fun i hi => HFD.out i hi)).no h7)
                        have HLN := hid (show (A.take j ++ A.drop (j + 1)).length + (k2 + 1) ≤ 80 by rw [hlen]; have := HAK.out; omega)
                        clear hz5 hy hupd hlen hrow h7 hH
                        go_wp2_with fail
                        go_roundw
                        case rel => exact ⟨k2 + 1, by omega, by go_num, F, _, DN.out, HLN.out, FK3.out, HFD.out⟩
                        case measure => simp [intOf]; omega
                    · have t1 : (x.f == xa) = true := by simpa using q1
                      have t1' : (x.f != xa) = false := by simpa using q1
                      have t2 : (x.d == xb) = false := by simpa using q2
                      have t2' : (x.d != xb) = true := by simpa using q2
                      have HQ := hid (show ¬ (x.f = xa ∧ x.d = xb) from fun h => q2 h.2)
                      clear q1 q2
                      go_wp2_with fail
                      go_quiet (fail)
                      go_wp2_with fail
                      go_roundw
                      case rel =>
                        refine ⟨j + 1, by omega, by go_num, fun y hy => ?_, _, rfl⟩
                        rw [take_snoc A j x HX.out] at hy
                        rcases List.mem_append.1 hy with hy | hy
                        · exact HNJ.out y hy
                        · rw [List.mem_singleton.1 hy]; exact HQ.out
                      case measure => simp [intOf]; omega
                  · have t1 : (x.f == xa) = false := by simpa using q1
                    have t1' : (x.f != xa) = true := by simpa using q1
                    have HQ := hid (show ¬ (x.f = xa ∧ x.d = xb) from fun h => q1 h.1)
                    clear q1
                    go_wp2_with fail
                    go_quiet (fail)
                    go_wp2_with fail
                    go_roundw
                    case rel =>
                      refine ⟨j + 1, by omega, by go_num, fun y hy => ?_, _, rfl⟩
                      rw [take_snoc A j x HX.out] at hy
                      rcases List.mem_append.1 hy with hy | hy
                      · exact HNJ.out y hy
                      · rw [List.mem_singleton.1 hy]; exact HQ.out
                    case measure => simp [intOf]; omega

end Go.Proofs.Ytakhmommcgfoaaa
