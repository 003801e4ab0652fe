/-
  round of the document, walked.
-/
import Derived.Test.YtmlcpedbpjghhaaRealW7
import Derived.Deep.CutBlock
namespace Go.Proofs.Ytmlcpedbpjghhaa
open Go.RowKit

theorem down1_half {M X : Nat} (h : M < 2 * (2 * X)) : down1 M < 2 * X := by
  unfold down1
  rcases Nat.mod_two_eq_zero_or_one (M / 2) with h1 | h1 <;> rw [h1] <;> omega
def Up (m e M E S : Nat) : Prop := (M < 2 ^ 62 ∧ 1 ≤ E ∧ E ≤ 5006 ∧ Stk M (8 * S) (E - 1) ∧ (8 * S = M * 2 ^ (E - 1) ∨ 2 ^ 54 ≤ M)) ∧ M ≤ m ∧ e ≤ 5000 ∧ ∃ j, E = e + j ∧ M < 2 ^ (62 - j) ∧ j ≤ 6
theorem Up.step {m e M E S : Nat} (h : Up m e M E S) (h1 : 2 ^ 56 ≤ M) : Up m e (down1 M) (E + 1) S := by
  obtain ⟨⟨a, b, _, d, f⟩, hm, he, j, hj, hM, hj6⟩ := h
  obtain ⟨g, i, k, _⟩ := up_step h1 a b d
  have hl : j < 6 := by
    rcases Nat.lt_or_eq_of_le hj6 with h | h
    · exact h
    · subst h; exfalso; omega
  have h2 : down1 M < 2 ^ (62 - (j + 1)) := by
    have := down1_half (M := M) (X := 2 ^ (60 - j)) (by
      rw [← Nat.pow_succ', ← Nat.pow_succ', show (60 - j).succ.succ = 62 - j by omega]; exact hM)
    rw [← Nat.pow_succ', show (60 - j).succ = 62 - (j + 1) by omega] at this
    exact this
  have h3 := down1_le (m := M)
  exact ⟨⟨k, by omega, by omega, g, .inr i⟩, by omega, he, j + 1, by omega, h2, hl⟩
def Low (M E S : Nat) : Prop := Mid M E S ∧ E ≤ 5006

def upB (q r : Nat) : Bool := decide (4 < r) || (decide (r = 4) && decide (q % 2 = 1))
theorem upQ_eq (q r : Nat) (h : r < 8) : upQ (8 * q + r) = upB q r := by
  unfold upQ upB
  rw [show (8 * q + r) % 8 = r by omega, show (8 * q + r) / 8 = q by omega]
theorem upB_mid (q r : Nat) (h : (r : Int) = 4) : ((q : Int) % 2 == 1) = upB q r := by
  obtain rfl : r = 4 := by omega
  unfold upB
  rw [Bool.eq_iff_iff]
  simp
  omega
theorem upB_low (q r : Nat) (h : (r : Int) ≤ 4) (h' : ¬ (r : Int) = 4) : false = upB q r := by
  unfold upB
  rw [decide_eq_false (by omega), decide_eq_false (by omega)]; rfl
def Fin (M E S : Nat) : Prop := M < 2 ^ 56 ∧ 1 ≤ E ∧ E ≤ 5006 ∧ (2 ^ 55 ≤ M ∨ E = 1) ∧ fin8 M E = rne S

set_option maxRecDepth 100000 in
set_option maxHeartbeats 1000000 in
theorem round_any (s : Bool) (m e : Int) (S : Nat) (h0 : 0 ≤ m) (h1 : 0 ≤ e) (hg : Good m.toNat e.toNat S) (w : World) :
    Calls Try.prog 60 #[.bool s, .int .u64 m, .int .i64 e] w fun e w' => e = .returned (.int .u64 (wd s (rne S))) ∧ w = w' := by
  obtain ⟨m, rfl⟩ := Int.eq_ofNat_of_zero_le h0
  obtain ⟨e, rfl⟩ := Int.eq_ofNat_of_zero_le h1
  rw [Int.toNat_natCast, Int.toNat_natCast] at hg
  have hu : Up m e m e S := by obtain ⟨a, b, c, d, f⟩ := hg; exact ⟨⟨a, b, by omega, d, f⟩, Nat.le_refl _, c, 0, rfl, a, by omega⟩
  clear hg
  go_enter Try.func60, Try.ntmps60
  go_wp2
  go_loop [1, 2] (fun a b => ∃ M E : Nat, a = .int .u64 M ∧ b = .int .i64 E ∧ Up m e M E S) (fun a _ => (intOf a).toNat)
  case atStart => exact ⟨m, e, rfl, rfl, hu⟩
  case round =>
    obtain ⟨M, E, rfl, rfl, hM⟩ := hrel
    have b1 : (M : Int) < 4611686018427387904 := by have := hM.1.1; omega
    have b2 : (E : Int) ≤ 5006 := by have := hM.1.2.2.1; omega
    by_cases hlt : (72057594037927936 : Int) ≤ M
    · go_wp2_with (go_at_call 58; refine (down_any _ _ (by omega) (by omega) (by omega) (by omega) _).mono ?_; rintro e w' ⟨rfl, rfl⟩)
      refine ⟨⟨down1 M, E + 1, rfl, by go_num, hM.step (by omega)⟩, ?_⟩
      have := down1_lt (m := M) (by omega)
      simp [intOf, downN]
      omega
    · have hl : Low M E S := ⟨good_mid hM.1.2.2.2.1 hM.1.2.2.2.2 (by omega) hM.1.2.1, hM.1.2.2.1⟩
      clear hM b1 b2
      go_upto_block 2 with (fail)
      go_cut [1, 2] (fun a b wx => ∃ M E : Nat, a = .int .u64 M ∧ b = .int .i64 E ∧ Fin M E S ∧ wx = w)
      case first =>
        go_wp2
        go_loop [1, 2] (fun a b => ∃ M E : Nat, a = .int .u64 M ∧ b = .int .i64 E ∧ Low M E S) (fun _ b => (intOf b).toNat)
        case atStart => exact ⟨M, E, rfl, rfl, hl⟩
        case round =>
          clear hl hlt
          obtain ⟨M, E, rfl, rfl, hM⟩ := hrel
          have b1 : (M : Int) < 72057594037927936 := by have := hM.1.1; omega
          have b2 : (E : Int) ≤ 5006 := by have := hM.2; omega
          have b3 : (1 : Int) ≤ E := by have := hM.1.2.1; omega
          by_cases hlt : (M : Int) < 36028797018963968
          · by_cases hgt : (1 : Int) < E
            · go_wp2
              refine ⟨⟨2 * M, E - 1, by go_num, by rw [Int.natCast_sub (by omega)]; rfl, mid_step hM.1 (by omega) (by omega), by have := hM.2; omega⟩, ?_⟩
              simp [intOf]
              omega
            · have hf : Fin M E S := ⟨by omega, by omega, by omega, by omega, mid_end hM.1 (by omega)⟩
              clear hM
              go_wp2
              go_meet
              case rel => exact ⟨M, E, rfl, rfl, hf, rfl⟩
          · have hf : Fin M E S := ⟨by omega, by omega, by omega, by omega, mid_end hM.1 (by omega)⟩
            clear hM
            go_wp2
            go_meet
            case rel => exact ⟨M, E, rfl, rfl, hf, rfl⟩
      case rest =>
        obtain ⟨M, E, rfl, rfl, hf, rfl⟩ := hcut
        obtain ⟨q, r, hM, hr⟩ : ∃ q r : Nat, M = 8 * q + r ∧ r < 8 := ⟨M / 8, M % 8, by omega, by omega⟩
        have g1 : (M : Int) / 8 = q := by omega
        have g2 : (M : Int) % 8 = r := by omega
        have b1 : (q : Int) ≤ 9007199254740992 := by have := hf.1; omega
        have b2 : (E : Int) ≤ 5006 := by have := hf.2.2.1; omega
        have b3 : (1 : Int) ≤ E := by have := hf.2.1; omega
        have HM := Lib.hid hM
        have HR := Lib.hid hr
        clear hM hl hlt hr hu
        go_upto_region 9 with (fail)
        rw [g2]
        clear g1 g2
        go_cut [39] (fun c wx => c = .bool (upB q r) ∧ wx = wc)
        case first =>
          by_cases h4 : (4 : Int) < r
          · go_wp2
            go_meet
            case rel => exact ⟨congrArg Value.bool (by unfold upB; rw [decide_eq_true (by omega)]; rfl), rfl⟩
          · by_cases h5 : (r : Int) = 4
            · have h5' : ((r : Int) == 4) = true := by simpa using h5
              have H5 := Lib.hid h5
              clear h5
              go_wp2
              go_meet
              case rel => exact ⟨congrArg Value.bool (upB_mid q r H5.out), rfl⟩
            · have h5' : ((r : Int) == 4) = false := by simpa using h5
              have H5 := Lib.hid h5
              clear h5
              go_wp2
              go_meet
              case rel => exact ⟨congrArg Value.bool (upB_low q r (by omega) H5.out), rfl⟩
        case rest =>
          obtain ⟨rfl, rfl⟩ := hcut
          obtain ⟨p, hp⟩ : ∃ p : Nat, p = q + (if upB q r then 1 else 0) := ⟨_, rfl⟩
          have hfin : rne S = min ((E - 1) * 2 ^ 52 + p) infR := by
            rw [← hf.2.2.2.2]
            unfold fin8
            rw [rnd3, hp, HM.out, show (8 * q + r) / 8 = q by have := HR.out; omega, show upQ (8 * q + r) = upB q r from upQ_eq q r HR.out]
            rfl
          have hC : p < 4503599627370496 → E = 1 := fun h => by
            rcases hf.2.2.2.1 with h' | h'
            · have := HM.out; have := HR.out; omega
            · exact h'
          have hp' : (p : Int) ≤ 9007199254740992 := by have := hf.1; have := HM.out; split at hp <;> omega
          have Hfin := Lib.hid hfin
          have HC := Lib.hid hC
          clear hfin hC
          cases hb : upB q r
          · rw [hb] at hp
            obtain rfl : p = q := by simpa using hp
            clear hp
            go_upto_region 11 with (fail)
            by_cases hA : (p : Int) = 9007199254740992
            · have hA' : ((p : Int) == 9007199254740992) = true := by simpa using hA
              have HA := Lib.hid hA
              clear hA
              by_cases hE : (2046 : Int) ≤ E
              · go_wp2
                all_goals go_ret
                all_goals refine ⟨ret_int ?_, rfl⟩
                all_goals rw [Hfin.out]
                all_goals unfold wd infR
                all_goals simp only [if_true, if_false, Bool.false_eq_true]
                all_goals (have := HA.out; omega)
              · go_wp2
                all_goals go_ret
                all_goals refine ⟨ret_int ?_, rfl⟩
                all_goals rw [Hfin.out]
                all_goals unfold wd infR
                all_goals simp only [if_true, if_false, Bool.false_eq_true]
                all_goals (have := HA.out; omega)
            · have hA' : ((p : Int) == 9007199254740992) = false := by simpa using hA
              by_cases hB : (4503599627370496 : Int) ≤ p
              · by_cases hE : (2047 : Int) ≤ E
                · go_wp2
                  all_goals go_ret
                  all_goals refine ⟨ret_int ?_, rfl⟩
                  all_goals rw [Hfin.out]
                  all_goals unfold wd infR
                  all_goals simp only [if_true, if_false, Bool.false_eq_true]
                  all_goals omega
                · go_wp2
                  all_goals go_ret
                  all_goals refine ⟨ret_int ?_, rfl⟩
                  all_goals rw [Hfin.out]
                  all_goals unfold wd infR
                  all_goals simp only [if_true, if_false, Bool.false_eq_true]
                  all_goals omega
              · have hE : (E : Int) ≤ 1 := by have := HC.out (by omega); omega
                go_wp2
                all_goals go_ret
                all_goals refine ⟨ret_int ?_, rfl⟩
                all_goals rw [Hfin.out]
                all_goals unfold wd infR
                all_goals simp only [if_true, if_false, Bool.false_eq_true]
                all_goals (have := HC.out (by omega); omega)
          · rw [hb] at hp
            have hq : (q : Int) + 1 = p := by simp at hp; omega
            clear hp
            go_upto_region 11 with (fail)
            by_cases hA : (p : Int) = 9007199254740992
            · have hA' : ((p : Int) == 9007199254740992) = true := by simpa using hA
              have HA := Lib.hid hA
              clear hA
              by_cases hE : (2046 : Int) ≤ E
              · go_wp2
                all_goals go_ret
                all_goals refine ⟨ret_int ?_, rfl⟩
                all_goals rw [Hfin.out]
                all_goals unfold wd infR
                all_goals simp only [if_true, if_false, Bool.false_eq_true]
                all_goals (have := HA.out; omega)
              · go_wp2
                all_goals go_ret
                all_goals refine ⟨ret_int ?_, rfl⟩
                all_goals rw [Hfin.out]
                all_goals unfold wd infR
                all_goals simp only [if_true, if_false, Bool.false_eq_true]
                all_goals (have := HA.out; omega)
            · have hA' : ((p : Int) == 9007199254740992) = false := by simpa using hA
              by_cases hB : (4503599627370496 : Int) ≤ p
              · by_cases hE : (2047 : Int) ≤ E
                · go_wp2
                  all_goals go_ret
                  all_goals refine ⟨ret_int ?_, rfl⟩
                  all_goals rw [Hfin.out]
                  all_goals unfold wd infR
                  all_goals simp only [if_true, if_false, Bool.false_eq_true]
                  all_goals omega
                · go_wp2
                  all_goals go_ret
                  all_goals refine ⟨ret_int ?_, rfl⟩
                  all_goals rw [Hfin.out]
                  all_goals unfold wd infR
                  all_goals simp only [if_true, if_false, Bool.false_eq_true]
                  all_goals omega
              · have hE : (E : Int) ≤ 1 := by have := HC.out (by omega); omega
                go_wp2
                all_goals go_ret
                all_goals refine ⟨ret_int ?_, rfl⟩
                all_goals rw [Hfin.out]
                all_goals unfold wd infR
                all_goals simp only [if_true, if_false, Bool.false_eq_true]
                all_goals (have := HC.out (by omega); omega)
end Go.Proofs.Ytmlcpedbpjghhaa
