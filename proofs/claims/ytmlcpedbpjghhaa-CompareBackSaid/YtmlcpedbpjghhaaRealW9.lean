/-
  Add of the document, walked.
-/
import Derived.Test.YtmlcpedbpjghhaaRealW8
namespace Go.Proofs.Ytmlcpedbpjghhaa
open Go.RowKit

def infB (u : Nat) : Bool := decide (rung u = infR)
theorem beq_inf (u : Nat) : (((kindN u : Nat) : Int) == 4) = infB u := by
  rw [Bool.eq_iff_iff]
  unfold infB
  simp only [beq_iff_eq, decide_eq_true_eq]
  rcases kind_cases u with h | h | h | h | h <;> (have := h; unfold infR at this ⊢; unfold isNan at this; simp at this; omega)

/-- what the document's sum goes on with: the greater scale first -/
def Two (a b p q : Nat) : Prop := p < 18446744073709551616 ∧ q < 18446744073709551616 ∧ rung p < infR ∧ rung q < infR ∧ scaleN q ≤ scaleN p ∧ sumN p q = sumN a b

theorem arg_mul (m : Nat) : (8 * (m : Int)).toNat = 8 * m := by omega
theorem arg_sub (a b : Nat) (h : b ≤ a) : ((a : Int) - (b : Int)).toNat = a - b := by omega

theorem good_args {m e S : Nat} (h : Good m e S) {x y : Int} (hx : x = m := by omega) (hy : y = e := by omega) : Good x.toNat y.toNat S := by
  subst hx; subst hy; rw [Int.toNat_natCast, Int.toNat_natCast]; exact h

set_option maxRecDepth 100000 in
set_option maxHeartbeats 4000000 in
theorem refAdd_fin (a b : Nat) (ha : a < 18446744073709551616) (hb : b < 18446744073709551616) (fa : rung a < infR) (fb : rung b < infR) (w : World) :
    Calls Try.prog 37 #[.int .u64 a, .int .u64 b] w fun e w' => e = .returned (.int .u64 (sumN a b)) ∧ w = w' := by
  have e1 := beq_nan a
  have e2 := beq_nan b
  have e3 := beq_inf a
  have e4 := beq_inf b
  rw [show isNan a = false by unfold isNan; unfold infR at fa; simp; omega] at e1
  rw [show isNan b = false by unfold isNan; unfold infR at fb; simp; omega] at e2
  rw [show infB a = false by unfold infB; simp; omega] at e3
  rw [show infB b = false by unfold infB; simp; omega] at e4
  have s1 := scale_lt a
  have s2 := scale_lt b
  have hB : Two a b a b ∨ Two a b b a := by
    by_cases h : scaleN b ≤ scaleN a
    · exact .inl ⟨ha, hb, fa, fb, h, rfl⟩
    · exact .inr ⟨hb, ha, fb, fa, by omega, (sum_comm fa fb).symm⟩
  have HB : scaleN b ≤ scaleN a → Two a b a b := fun h => ⟨ha, hb, fa, fb, h, rfl⟩
  have HB' : scaleN a ≤ scaleN b → Two a b b a := fun h => ⟨hb, ha, fb, fa, h, (sum_comm fa fb).symm⟩
  have H1 := Lib.hid HB
  have H2 := Lib.hid HB'
  clear hB HB HB' fa fb
  go_enter Try.func37, Try.ntmps37
  go_upto_if 42 with (first | (go_at_call 55; refine (refKind_ok _ (by assumption) _).mono ?_; rintro e w' ⟨rfl, rfl⟩) | (go_at_call 56; refine (scale_ok _ (by assumption) _).mono ?_; rintro e w' ⟨rfl, rfl⟩))
  clear e1 e2 e3 e4
  go_cut [0, 1] (fun x y wx => ∃ p q : Nat, x = .int .u64 p ∧ y = .int .u64 q ∧ Two a b p q ∧ wx = w)
  case first =>
    by_cases hs : (scaleN a : Int) < scaleN b
    · go_wp2
      go_meet
      case rel => exact ⟨b, a, rfl, rfl, H2.out (by omega), rfl⟩
    · go_wp2
      go_meet
      case rel => exact ⟨a, b, rfl, rfl, H1.out (by omega), rfl⟩
  case rest =>
    obtain ⟨p, q, rfl, rfl, hT, rfl⟩ := hcut
    obtain ⟨hp, hq, fp, fq, hs, hsum⟩ := hT
    have m1 := mant_lt p
    have m2 := mant_lt q
    have t1 := scale_lt p
    have t2 := scale_pos q
    have hY := downN_le (8 * mantN q) (scaleN p - scaleN q)
    have ga := good_add hs
    have gs := good_sub hs
    have gb := good_back hs
    have gz := same_zero hs
    have hA : downN (8 * (mantN q : Int)).toNat ((scaleN p : Int) - scaleN q).toNat = downN (8 * mantN q) (scaleN p - scaleN q) := by rw [arg_mul, arg_sub _ _ hs]
    generalize downN (8 * mantN q) (scaleN p - scaleN q) = Y at *
    have n1 : (mantN p : Int) < 9007199254740992 := by omega
    have n2 : (mantN q : Int) < 9007199254740992 := by omega
    have n3 : (Y : Int) < 72057594037927936 := by omega
    have n4 : (scaleN p : Int) ≤ 2047 := by omega
    have n5 : (1 : Int) ≤ scaleN q := by omega
    have n6 : (scaleN q : Int) ≤ scaleN p := by omega
    have hA' := Lib.hid hA
    have Ga := Lib.hid ga
    have Gs := Lib.hid gs
    have Gb := Lib.hid gb
    have Gz := Lib.hid gz
    have Hsum := Lib.hid hsum
    have gp := signB_sgn hp
    have gq := signB_sgn hq
    clear hA ga gs gb gz hY m1 m2 t1 t2 hs hsum s1 s2 H1 H2 ha hb
    by_cases hsg : sgn p = sgn q
    · have hf := Lib.hid (sum_same fp fq hsg)
      rw [← hsg] at gq
      clear hsg
      cases sp : sgn p
      all_goals
        rw [sp] at gp gq
        go_wp2_with (first | (go_at_call 56; refine (scale_ok _ (by assumption) _).mono ?_; rintro e w' ⟨rfl, rfl⟩) | (go_at_call 57; refine (mantissa_ok _ (by assumption) _).mono ?_; rintro e w' ⟨rfl, rfl⟩) | (go_at_call 59; refine (sign_ok _ (by assumption) _).mono ?_; rintro e w' ⟨rfl, rfl⟩) | (go_at_call 58; refine (down_any _ _ (by omega) (by omega) (by omega) (by omega) _).mono ?_; rintro e w' ⟨rfl, rfl⟩; rw [hA'.out]) | (go_at_call 60; refine (round_any _ _ _ _ (by omega) (by omega) (good_args Ga.out) _).mono ?_; rintro e w' ⟨rfl, rfl⟩))
        go_ret
        exact ⟨ret_int (by rw [← Hsum.out, hf.out, sp]), rfl⟩
    · rcases Nat.lt_trichotomy (8 * mantN p) Y with hl | hl | hl
      · have hx : ((8 * (mantN p : Int)) == (Y : Int)) = false := by simp; omega
        have hx' : ¬ (Y : Int) < 8 * (mantN p : Int) := by omega
        have hx2 : 8 * (mantN p : Int) ≤ (Y : Int) := by omega
        obtain ⟨X, hX⟩ : ∃ X : Nat, 8 * (mantN p : Int) = (X : Int) := ⟨8 * mantN p, by omega⟩
        rw [hX] at hx hx' hx2
        obtain ⟨Z, hZ⟩ : ∃ Z : Nat, Z = Y - X := ⟨_, rfl⟩
        have hw : IntKind.u64.wrap ((Y : Int) - (X : Int)) = (Z : Int) := by rw [wrap_u]; omega
        have hz : (Z : Int) = ((Y - 8 * mantN p : Nat) : Int) := by omega
        have HZ := Lib.hid hz
        have hx3 : decide (Y < X) = false := decide_eq_false (by omega)
        clear hz hZ n3 hx'
        obtain ⟨hm, hg⟩ := Gb.out hl
        have hf := Lib.hid (sum_more fq fp (fun e => hsg e.symm) hm)
        have Hg := Lib.hid hg
        have hc := Lib.hid (sum_comm fp fq)
        clear hg hm hl
        cases sp : sgn p <;> cases sq : sgn q
        · exact absurd (sp.trans sq.symm) hsg
        · clear hsg
          rw [sp] at gp
          rw [sq] at gq
          go_wp2_with (first | (go_at_call 56; refine (scale_ok _ (by assumption) _).mono ?_; rintro e w' ⟨rfl, rfl⟩) | (go_at_call 57; refine (mantissa_ok _ (by assumption) _).mono ?_; rintro e w' ⟨rfl, rfl⟩) | (go_at_call 59; refine (sign_ok _ (by assumption) _).mono ?_; rintro e w' ⟨rfl, rfl⟩) | (go_at_call 58; refine (down_any _ _ (by omega) (by omega) (by omega) (by omega) _).mono ?_; rintro e w' ⟨rfl, rfl⟩; rw [hA'.out]) | (go_at_call 60; refine (round_any _ _ _ _ (by omega) (by omega) (good_args Hg.out (HZ.out) rfl) _).mono ?_; rintro e w' ⟨rfl, rfl⟩))
          go_ret
          exact ⟨ret_int (by rw [← Hsum.out, hc.out, hf.out, sq]), rfl⟩
        · clear hsg
          rw [sp] at gp
          rw [sq] at gq
          go_wp2_with (first | (go_at_call 56; refine (scale_ok _ (by assumption) _).mono ?_; rintro e w' ⟨rfl, rfl⟩) | (go_at_call 57; refine (mantissa_ok _ (by assumption) _).mono ?_; rintro e w' ⟨rfl, rfl⟩) | (go_at_call 59; refine (sign_ok _ (by assumption) _).mono ?_; rintro e w' ⟨rfl, rfl⟩) | (go_at_call 58; refine (down_any _ _ (by omega) (by omega) (by omega) (by omega) _).mono ?_; rintro e w' ⟨rfl, rfl⟩; rw [hA'.out]) | (go_at_call 60; refine (round_any _ _ _ _ (by omega) (by omega) (good_args Hg.out (HZ.out) rfl) _).mono ?_; rintro e w' ⟨rfl, rfl⟩))
          go_ret
          exact ⟨ret_int (by rw [← Hsum.out, hc.out, hf.out, sq]), rfl⟩
        · exact absurd (sp.trans sq.symm) hsg
      · have hx : ((8 * (mantN p : Int)) == (Y : Int)) = true := by simp; omega
        have hm := Gz.out hl
        have hf := Lib.hid (sum_none fp fq hsg hm)
        clear hm hl
        cases sp : sgn p <;> cases sq : sgn q
        · exact absurd (sp.trans sq.symm) hsg
        · clear hsg
          rw [sp] at gp
          rw [sq] at gq
          go_wp2_with (first | (go_at_call 56; refine (scale_ok _ (by assumption) _).mono ?_; rintro e w' ⟨rfl, rfl⟩) | (go_at_call 57; refine (mantissa_ok _ (by assumption) _).mono ?_; rintro e w' ⟨rfl, rfl⟩) | (go_at_call 59; refine (sign_ok _ (by assumption) _).mono ?_; rintro e w' ⟨rfl, rfl⟩) | (go_at_call 58; refine (down_any _ _ (by omega) (by omega) (by omega) (by omega) _).mono ?_; rintro e w' ⟨rfl, rfl⟩; rw [hA'.out]) | (go_at_call 60; refine (round_any _ _ _ _ (by omega) (by omega) (good_args Ga.out) _).mono ?_; rintro e w' ⟨rfl, rfl⟩))
          go_ret
          exact ⟨ret_int (by rw [← Hsum.out, hf.out]; rfl), rfl⟩
        · clear hsg
          rw [sp] at gp
          rw [sq] at gq
          go_wp2_with (first | (go_at_call 56; refine (scale_ok _ (by assumption) _).mono ?_; rintro e w' ⟨rfl, rfl⟩) | (go_at_call 57; refine (mantissa_ok _ (by assumption) _).mono ?_; rintro e w' ⟨rfl, rfl⟩) | (go_at_call 59; refine (sign_ok _ (by assumption) _).mono ?_; rintro e w' ⟨rfl, rfl⟩) | (go_at_call 58; refine (down_any _ _ (by omega) (by omega) (by omega) (by omega) _).mono ?_; rintro e w' ⟨rfl, rfl⟩; rw [hA'.out]) | (go_at_call 60; refine (round_any _ _ _ _ (by omega) (by omega) (good_args Ga.out) _).mono ?_; rintro e w' ⟨rfl, rfl⟩))
          go_ret
          exact ⟨ret_int (by rw [← Hsum.out, hf.out]; rfl), rfl⟩
        · exact absurd (sp.trans sq.symm) hsg
      · have hx : ((8 * (mantN p : Int)) == (Y : Int)) = false := by simp; omega
        have hx' : (Y : Int) < 8 * (mantN p : Int) := by omega
        obtain ⟨hm, hg⟩ := Gs.out hl
        have hf := Lib.hid (sum_more fp fq hsg hm)
        have Hg := Lib.hid hg
        clear hg hm hl
        cases sp : sgn p <;> cases sq : sgn q
        · exact absurd (sp.trans sq.symm) hsg
        · clear hsg
          rw [sp] at gp
          rw [sq] at gq
          go_wp2_with (first | (go_at_call 56; refine (scale_ok _ (by assumption) _).mono ?_; rintro e w' ⟨rfl, rfl⟩) | (go_at_call 57; refine (mantissa_ok _ (by assumption) _).mono ?_; rintro e w' ⟨rfl, rfl⟩) | (go_at_call 59; refine (sign_ok _ (by assumption) _).mono ?_; rintro e w' ⟨rfl, rfl⟩) | (go_at_call 58; refine (down_any _ _ (by omega) (by omega) (by omega) (by omega) _).mono ?_; rintro e w' ⟨rfl, rfl⟩; rw [hA'.out]) | (go_at_call 60; refine (round_any _ _ _ _ (by omega) (by omega) (good_args Hg.out) _).mono ?_; rintro e w' ⟨rfl, rfl⟩))
          go_ret
          exact ⟨ret_int (by rw [← Hsum.out, hf.out, sp]), rfl⟩
        · clear hsg
          rw [sp] at gp
          rw [sq] at gq
          go_wp2_with (first | (go_at_call 56; refine (scale_ok _ (by assumption) _).mono ?_; rintro e w' ⟨rfl, rfl⟩) | (go_at_call 57; refine (mantissa_ok _ (by assumption) _).mono ?_; rintro e w' ⟨rfl, rfl⟩) | (go_at_call 59; refine (sign_ok _ (by assumption) _).mono ?_; rintro e w' ⟨rfl, rfl⟩) | (go_at_call 58; refine (down_any _ _ (by omega) (by omega) (by omega) (by omega) _).mono ?_; rintro e w' ⟨rfl, rfl⟩; rw [hA'.out]) | (go_at_call 60; refine (round_any _ _ _ _ (by omega) (by omega) (good_args Hg.out) _).mono ?_; rintro e w' ⟨rfl, rfl⟩))
          go_ret
          exact ⟨ret_int (by rw [← Hsum.out, hf.out, sp]), rfl⟩
        · exact absurd (sp.trans sq.symm) hsg

theorem sum_nan {a b : Nat} (h : isNan a = true ∨ isNan b = true) : sumN a b = cleanU := by
  unfold sumN
  rw [if_pos (by rcases h with h | h <;> simp [h])]
theorem sum_inf {a b : Nat} (na : isNan a = false) (nb : isNan b = false) (ia : rung a = infR) (h : rung b = infR → sgn a = sgn b) : sumN a b = a := by
  unfold sumN
  rw [na, nb, if_neg (by simp), if_pos ia]
  split
  · rename_i hh; rw [if_pos (h hh)]
  · rfl
theorem sum_inf2 {a b : Nat} (na : isNan a = false) (nb : isNan b = false) (ia : rung a = infR) (ib : rung b = infR) (h : sgn a ≠ sgn b) : sumN a b = cleanU := by
  unfold sumN
  rw [na, nb, if_neg (by simp), if_pos ia, if_pos ib, if_neg h]
theorem sum_inf3 {a b : Nat} (na : isNan a = false) (nb : isNan b = false) (ia : rung a ≠ infR) (ib : rung b = infR) : sumN a b = b := by
  unfold sumN
  rw [na, nb, if_neg (by simp), if_neg ia, if_pos ib]

set_option maxRecDepth 100000 in
set_option maxHeartbeats 4000000 in
theorem refAdd_far (a b : Nat) (ha : a < 18446744073709551616) (hb : b < 18446744073709551616) (hf : ¬ (rung a < infR ∧ rung b < infR)) (w : World) :
    Calls Try.prog 37 #[.int .u64 a, .int .u64 b] w fun e w' => e = .returned (.int .u64 (sumN a b)) ∧ w = w' := by
  have e1 := beq_nan a
  have e2 := beq_nan b
  have e3 := beq_inf a
  have e4 := beq_inf b
  cases na : isNan a
  · cases nb : isNan b
    · have la : rung a ≤ infR := by unfold isNan at na; simp at na; unfold infR; omega
      have lb : rung b ≤ infR := by unfold isNan at nb; simp at nb; unfold infR; omega
      rw [na] at e1
      rw [nb] at e2
      by_cases ia : rung a = infR
      · rw [show infB a = true by unfold infB; simpa using ia] at e3
        by_cases ib : rung b = infR
        · rw [show infB b = true by unfold infB; simpa using ib] at e4
          by_cases hab : a = b
          · subst hab
            have H := Lib.hid (sum_inf na nb ia (fun _ => rfl))
            clear hf ia ib la lb na nb
            go_enter Try.func37, Try.ntmps37
            go_wp2_with (go_at_call 55; refine (refKind_ok _ (by assumption) _).mono ?_; rintro e w' ⟨rfl, rfl⟩)
            go_ret
            exact ⟨ret_int (by rw [H.out]), rfl⟩
          · have hne : ((a : Int) != (b : Int)) = true := by simp; omega
            have hs : sgn a ≠ sgn b := fun h => hab (wd_ext (by omega) (by omega) h (ia.trans ib.symm))
            have H := Lib.hid (sum_inf2 na nb ia ib hs)
            clear hf ia ib la lb na nb hab hs
            go_enter Try.func37, Try.ntmps37
            go_wp2_with (go_at_call 55; refine (refKind_ok _ (by assumption) _).mono ?_; rintro e w' ⟨rfl, rfl⟩)
            go_ret
            exact ⟨ret_int (by rw [H.out]; rfl), rfl⟩
        · rw [show infB b = false by unfold infB; simpa using ib] at e4
          have H := Lib.hid (sum_inf na nb ia (fun h => absurd h ib))
          clear hf ia ib la lb na nb
          go_enter Try.func37, Try.ntmps37
          go_wp2_with (go_at_call 55; refine (refKind_ok _ (by assumption) _).mono ?_; rintro e w' ⟨rfl, rfl⟩)
          go_ret
          exact ⟨ret_int (by rw [H.out]), rfl⟩
      · have ib : rung b = infR := by omega
        rw [show infB a = false by unfold infB; simpa using ia] at e3
        rw [show infB b = true by unfold infB; simpa using ib] at e4
        have H := Lib.hid (sum_inf3 na nb ia ib)
        clear hf ia ib la lb na nb
        go_enter Try.func37, Try.ntmps37
        go_wp2_with (go_at_call 55; refine (refKind_ok _ (by assumption) _).mono ?_; rintro e w' ⟨rfl, rfl⟩)
        go_ret
        exact ⟨ret_int (by rw [H.out]), rfl⟩
    · have H := Lib.hid (sum_nan (a := a) (b := b) (.inr nb))
      rw [na] at e1
      rw [nb] at e2
      clear hf na nb e3 e4
      go_enter Try.func37, Try.ntmps37
      go_wp2_with (go_at_call 55; refine (refKind_ok _ (by assumption) _).mono ?_; rintro e w' ⟨rfl, rfl⟩)
      go_ret
      exact ⟨ret_int (by rw [H.out]; rfl), rfl⟩
  · have H := Lib.hid (sum_nan (a := a) (b := b) (.inl na))
    rw [na] at e1
    clear hf na e2 e3 e4
    go_enter Try.func37, Try.ntmps37
    go_wp2_with (go_at_call 55; refine (refKind_ok _ (by assumption) _).mono ?_; rintro e w' ⟨rfl, rfl⟩)
    go_ret
    exact ⟨ret_int (by rw [H.out]; rfl), rfl⟩

theorem refAdd_ok (a b : Nat) (ha : a < 18446744073709551616) (hb : b < 18446744073709551616) (w : World) :
    Calls Try.prog 37 #[.int .u64 a, .int .u64 b] w fun e w' => e = .returned (.int .u64 (sumN a b)) ∧ w = w' := by
  by_cases h : rung a < infR ∧ rung b < infR
  · exact refAdd_fin a b ha hb h.1 h.2 w
  · exact refAdd_far a b ha hb h w
end Go.Proofs.Ytmlcpedbpjghhaa
