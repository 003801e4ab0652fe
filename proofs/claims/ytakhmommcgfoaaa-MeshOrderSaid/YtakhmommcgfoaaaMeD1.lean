/-
  'ready' of the mesh's laws, walked: true where both count alike.
-/
import Derived.Test.YtakhmommcgfoaaaMeL1
namespace Go.Proofs.Ytakhmommcgfoaaa
open Go.RowKit

theorem two_eq0 (a b c d : Int) (w : World) : (Op.equalIn 10000 22 (.agg #[.int .i64 a, .int .i64 b]) (.agg #[.int .i64 c, .int .i64 d])).run Try.prog w =
    (if (!(a == c)) = true then .ok false w else if (!(b == d)) = true then .ok false w else .ok true w) := by
  have h1 : ∀ (x y : Int), (Op.equalIn 9999 3 (.int .i64 x) (.int .i64 y)).run Try.prog w = .ok (x == y) w := fun x y => by
    rw [show (9999 : Nat) = 9998 + 1 from rfl]
    unfold Op.equalIn
    simp [Sem.run_bind, run_underlying Try.underlying3]
  rw [show (10000 : Nat) = 9999 + 1 from rfl]
  unfold Op.equalIn
  simp only [Sem.run_bind, run_underlying Try.underlying22, Result.andThen_ok]
  simp [part]
  rw [show List.range' 0 2 = [0, 1] from rfl]
  by_cases hac : a = c
  · by_cases hbd : b = d
    · simp [h1, hac, hbd]
    · simp [h1, hac, hbd]
  · simp [h1, hac]
theorem two_eq (a b c d : Int) (w : World) : (Op.equalIn 10000 22 (.agg #[.int .i64 a, .int .i64 b]) (.agg #[.int .i64 c, .int .i64 d])).run Try.prog w = .ok (a == c && b == d) w := by
  rw [two_eq0]
  by_cases hac : a = c <;> by_cases hbd : b = d <;> simp [hac, hbd]

set_option maxRecDepth 100000 in
set_option maxHeartbeats 2000000 in
theorem readyL_ok {w : World} {p W most cap n k : Nat} {s : Option Addr} {R : Nat → List Mq} {F : Nat → Prop} {A : List Pq} (hm : MeshAt w p W most R F) (hr : RowA w s n k A) (hA : A.length ≤ 4000)
    (hx : ∀ a b : Nat, a < W → b < W → (R (a * W + b)).length = cntA a b A) :
    Calls Try.prog 20 #[.pointer (some ⟨p, 0, none⟩), rmV W cap (.slice s n k)] w fun e w' => e = .returned (.bool true) ∧ Fr (fun _ => False) w w' := by
  have hW := hm.1
  have hnn : W * W ≤ 256 := by have := Nat.mul_le_mul hW.2.1 hW.2.1; omega
  have HM := hid hm
  have HR := hid hr
  have HX := hid hx
  clear hm hr hx
  unfold rmV
  go_enter Try.func20, Try.ntmps20
  go_upto_region 1 with fail
  generalize hw1 : World.alloc w _ = w1
  have G1 : w1.heap[w.heap.size]? = some (.cells #[.int .i64 W, .int .i64 cap, .slice s n k] 32 (0, 0)) := by rw [← hw1]; exact heap_new w _
  have F1 : Fr (fun _ => False) w w1 := by rw [← hw1]; exact (Fr.refl _ w).alloc _
  generalize hy : w.heap.size = y at *
  have HG1 := hid G1
  have HF1 := hid F1
  clear hw1 G1 F1 hy
  have RD := hid (ready_ok (HM.out.no HF1.out))
  go_wp2_with (go_at_call 22; refine RD.out.mono ?_; rintro e w2 ⟨v, rfl, hown, hbl⟩; obtain ⟨sp, cp, rfl, _⟩ := owns_view hown; have HO := hid hown; have HB := hid hbl; clear hown hbl)
  generalize hN : (rdy W R (W * W)).length = N at *
  have HN := hid hN
  have hN2 : N ≤ 256 := by have := rdy_len W R (W * W); omega
  clear hN
  have HF2 := hid (HF1.out.trans' (Fr.of_below (S := fun _ => False) HB.out (fun i h1 h2 => by omega)))
  have HG2 := hid ((Fr.of_below (S := fun _ => False) HB.out (fun i h1 h2 => by omega)).heap HG1.out (fun e => e))
  clear RD HB HG1
  go_loopw [6, 7] (fun c i wr => ∃ a : Nat, a ≤ W ∧ i = .int .i64 a ∧ c = .int .i64 (rdy W R (a * W)).length ∧ Fr (fun _ => False) w2 wr) (fun _ i _ => W - (intOf i).toNat)
  case atStart => exact ⟨0, Nat.zero_le _, rfl, by simp [rdy], Fr.refl _ _⟩
  case round =>
    obtain ⟨a, ha, rfl, rfl, hf⟩ := hrel
    have HF3 := hid hf
    have c0 := cell_of (hf.heap HG2.out (fun e => e)) 0 (v := .int .i64 W) rfl
    clear hf
    by_cases haW : a < W
    · have ha' : (a : Int) < (W : Int) := by omega
      go_wp2_with fail
      go_loopw [6, 8] (fun c i wr => ∃ b : Nat, b ≤ W ∧ i = .int .i64 b ∧ c = .int .i64 (rdy W R (a * W + b)).length ∧ Fr (fun _ => False) w2 wr) (fun _ i _ => W - (intOf i).toNat)
      case atStart => exact ⟨0, Nat.zero_le _, rfl, by simp, HF3.out⟩
      case round =>
        obtain ⟨b, hb, rfl, rfl, hf⟩ := hrel
        have HF4 := hid hf
        have hg := hf.heap HG2.out (fun e => e)
        clear c0
        have c0 := cell_of hg 0 (v := .int .i64 W) rfl
        have c1 := cell_of hg 1 (v := .int .i64 cap) rfl
        have c2 := cell_of hg 2 (v := .slice s n k) rfl
        clear hf hg
        by_cases hbW : b < W
        · have hb' : (b : Int) < (W : Int) := by omega
          have hth : thereI W a b := ⟨by omega, by omega, by omega, by omega⟩
          have hlk : lk W a b = a * W + b := by
            have := lk_int hth
            have h2 : ((a * W + b : Nat) : Int) = (a : Int) * W + b := by rw [Int.natCast_add, Int.natCast_mul]
            omega
          have hkl : a * W + b < W * W := by rw [← hlk]; exact lk_lt hth
          have L1 := hid (fun w' (hf : Fr (fun _ => False) w w') => (HR.out.fr hf (fun _ _ e => e)).elim fun B h => refLen_ok (v := .slice s n k) h (by omega) W cap a b)
          have L2 := hid (fun w' (hf : Fr (fun _ => False) w w') => mlen_ok (HM.out.no hf) a b)
          have hle : (if thereI W a b then ((R (lk W a b)).length : Int) else 0) = (cntA a b A : Int) := by rw [if_pos hth, hlk, HX.out a b haW hbW]
          rw [hle] at L2
          have HXX := hid (HX.out a b haW hbW)
          have hca := cntA_le a b A
          have HF5 := hid (HF2.out.trans' HF4.out)
          unfold rmV at L1
          by_cases hz : (R (a * W + b)).length = 0
          · have hz0 : cntA a b A = 0 := by rw [← HXX.out]; exact hz
            have hrd := hid (show rdy W R (a * W + (b + 1)) = rdy W R (a * W + b) by rw [← Nat.add_assoc, rdy, if_pos hz])
            rw [hz0] at L1 L2
            clear hz0 hle hth hlk hz
            go_wp2_with (first
              | (go_at_call 19; refine (L1.out _ HF5.out).mono ?_; rintro e w3 ⟨rfl, hf⟩; have HF6 := hid hf; clear hf)
              | (go_at_call 18; refine (L2.out _ (HF5.out.trans' HF6.out)).mono ?_; rintro e w' ⟨rfl, m, rfl⟩))
            go_roundw
            case rel => exact ⟨b + 1, by omega, by go_num, by rw [hrd.out], (HF4.out.trans' HF6.out).drewN _⟩
            case measure => simp [intOf]; omega
          · have hzp : 0 < (cntA a b A : Int) := by have := HXX.out; omega
            have hat := rdy_at W R hkl hz
            obtain ⟨hd1, hd2⟩ := divmod (a := a) hbW
            rw [hd1, hd2] at hat
            have hlt : (rdy W R (a * W + b)).length < N := by rw [← HN.out]; exact (List.getElem?_eq_some_iff.1 hat).1
            have hrd := hid (show (rdy W R (a * W + (b + 1))).length = (rdy W R (a * W + b)).length + 1 by rw [← Nat.add_assoc, rdy, if_neg hz, List.length_append]; rfl)
            generalize hq : (rdy W R (a * W + b)).length = q at *
            generalize hcn : cntA a b A = cn at *
            have HQ := hid hq
            obtain ⟨g, rfl, hgw⟩ : ∃ g, sp = some ⟨g, 0, none⟩ ∧ g < w2.heap.size := by
              rcases owns_form HO.out with ⟨_, hz⟩ | ⟨g, cp, e, _, _, _, hgw⟩
              · omega
              · injection e with e1 e2 e3; exact ⟨g, e1, hgw⟩
            have hra := owns_range encT_len HO.out hat
            have e0 : ∀ w', Fr (fun _ => False) w2 w' → w'.cell? ⟨g, q * 2, none⟩ = some (.int .i64 a) := fun w' hf => hf.cell (hra 0 _ rfl) (fun e => e)
            have e1 : ∀ w', Fr (fun _ => False) w2 w' → w'.cell? ⟨g, q * 2 + 1, none⟩ = some (.int .i64 b) := fun w' hf => hf.cell (hra 1 _ rfl) (fun e => e)
            have E0 := hid e0
            have E1 := hid e1
            have hq1 : ¬ (N : Int) ≤ (q : Int) := by omega
            have TE := two_eq
            clear hle hth hlk hz hq hcn hat hra e0 e1 hd1 hd2
            go_wp2_with (first
              | (go_at_call 19; refine (L1.out _ HF5.out).mono ?_; rintro e w3 ⟨rfl, hf⟩; have HF6 := hid hf; clear hf)
              | (go_at_call 18; refine (L2.out _ (HF5.out.trans' HF6.out)).mono ?_; rintro e w' ⟨rfl, m, rfl⟩; have e0 := E0.out (w3.drewN m) ((HF4.out.trans' HF6.out).drewN _); have e1 := E1.out (w3.drewN m) ((HF4.out.trans' HF6.out).drewN _)))
            go_roundw
            case rel => exact ⟨b + 1, by omega, by go_num, by rw [hrd.out]; go_num, (HF4.out.trans' HF6.out).drewN _⟩
            case measure => simp [intOf]; omega
        · obtain rfl : b = W := by omega
          have hrd := hid (show rdy b R ((a + 1) * b) = rdy b R (a * b + b) by rw [Nat.add_mul, Nat.one_mul])
          go_wp2_with fail
          go_roundw
          case rel => exact ⟨a + 1, by omega, by go_num, by rw [hrd.out], HF4.out⟩
          case measure => simp [intOf]; omega
    · obtain rfl : a = W := by omega
      rw [HN.out]
      go_wp2_with fail
      go_ret
      exact ⟨rfl, HF2.out.trans' HF3.out⟩

end Go.Proofs.Ytakhmommcgfoaaa
