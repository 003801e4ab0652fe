/-
  Versus of the document, walked.
-/
import Derived.Test.YtmlcpedbpjghhaaRealW12
import Derived.Test.YtmlcpedbpjghhaaRealW9
namespace Go.Proofs.Ytmlcpedbpjghhaa
open Go.RowKit

theorem against_int (n : Int) (u : Nat) (h0 : 0 ≤ n) (hn : n ≤ 4611686018427387904) (hu : u < 18446744073709551616) (w : World) :
    Calls Try.prog 72 #[.int .i64 n, .int .u64 u] w fun e w' => e = .returned (.int .i64 (cmpI (n * (unit : Int)) (magv (rung u) : Nat))) ∧ w = w' := by
  obtain ⟨n, rfl⟩ := Int.eq_ofNat_of_zero_le h0
  exact against_ok n u (by omega) hu w

set_option maxRecDepth 100000 in
set_option maxHeartbeats 4000000 in
theorem refVersus_ok (n : Int) (u : Nat) (hu : u < 18446744073709551616) (w : World) :
    Calls Try.prog 49 #[.int .i64 n, .int .u64 u] w fun e w' => e = .returned (.tuple #[.int .i64 (versN n u), .bool (mayN n u)]) ∧ w = w' := by
  have e1 := beq_nan u
  have e2 := beq_zero u
  have e3 := beq_inf u
  have e4 := signB_sgn hu
  cases hm : mayN n u
  · have hv : True → versN n u = 0 := fun _ => vers_no hm
    have Hv := Lib.hid hv
    unfold mayN at hm
    clear hv e2 e3 e4
    cases hn : isNan u
    · rw [hn] at e1 hm
      simp only [Bool.not_false, Bool.true_and, Bool.and_eq_false_iff, decide_eq_false_iff_not] at hm
      by_cases h2 : n < -4611686018427387904
      · clear hm
        go_enter Try.func49, Try.ntmps49
        go_wp2_with (go_at_call 55; refine (refKind_ok _ hu _).mono ?_; rintro e w' ⟨rfl, rfl⟩)
        go_ret2
        exact ⟨ret_two (by rw [Hv.out trivial]) rfl, rfl⟩
      · have h3 : 4611686018427387904 < n := by omega
        clear hm
        go_enter Try.func49, Try.ntmps49
        go_wp2_with (go_at_call 55; refine (refKind_ok _ hu _).mono ?_; rintro e w' ⟨rfl, rfl⟩)
        go_ret2
        exact ⟨ret_two (by rw [Hv.out trivial]) rfl, rfl⟩
    · rw [hn] at e1
      clear hm
      go_enter Try.func49, Try.ntmps49
      go_wp2_with (go_at_call 55; refine (refKind_ok _ hu _).mono ?_; rintro e w' ⟨rfl, rfl⟩)
      go_ret2
      exact ⟨ret_two (by rw [Hv.out trivial]) rfl, rfl⟩
  · have hm' := hm
    unfold mayN at hm'
    simp only [Bool.and_eq_true, Bool.not_eq_true', decide_eq_true_eq] at hm'
    obtain ⟨⟨hn, h2⟩, h3⟩ := hm'
    rw [hn] at e1
    have Hm := Lib.hid hm
    have h2' : ¬ n < -4611686018427387904 := by omega
    have h3' : ¬ 4611686018427387904 < n := by omega
    clear h2 h3 hm
    cases hz : zeroB u
    · rw [hz] at e2
      cases hs : sgn u
      · rw [hs] at e4
        by_cases h0 : n ≤ 0
        · have hv : True → versN n u = -1 := fun _ => vers_pos_down Hm.out hz hs (.inl h0)
          have Hv := Lib.hid hv
          clear hv hn hz hs
          go_enter Try.func49, Try.ntmps49
          go_wp2_with (first | (go_at_call 55; refine (refKind_ok _ hu _).mono ?_; rintro e w' ⟨rfl, rfl⟩) | (go_at_call 59; refine (sign_ok _ hu _).mono ?_; rintro e w' ⟨rfl, rfl⟩))
          go_ret2
          exact ⟨ret_two (by rw [Hv.out trivial]) rfl, rfl⟩
        · cases hi : infB u
          · have hv : True → cmpI (n * (unit : Int)) (magv (rung u) : Nat) = versN n u := fun _ => vers_pos Hm.out hs
            have Hv := Lib.hid hv
            rw [hi] at e3
            clear hv hn hz hs hi
            go_enter Try.func49, Try.ntmps49
            go_wp2_with (first | (go_at_call 55; refine (refKind_ok _ hu _).mono ?_; rintro e w' ⟨rfl, rfl⟩) | (go_at_call 59; refine (sign_ok _ hu _).mono ?_; rintro e w' ⟨rfl, rfl⟩) | (go_at_call 72; refine (against_int _ _ (by omega) (by omega) hu _).mono ?_; rintro e w' ⟨rfl, rfl⟩; rw [Hv.out trivial]))
            go_ret2
            exact ⟨rfl, rfl⟩
          · have hv : True → versN n u = -1 := fun _ => vers_pos_down Hm.out hz hs (.inr (by unfold infB at hi; simpa using hi))
            have Hv := Lib.hid hv
            rw [hi] at e3
            clear hv hn hz hs hi
            go_enter Try.func49, Try.ntmps49
            go_wp2_with (first | (go_at_call 55; refine (refKind_ok _ hu _).mono ?_; rintro e w' ⟨rfl, rfl⟩) | (go_at_call 59; refine (sign_ok _ hu _).mono ?_; rintro e w' ⟨rfl, rfl⟩))
            go_ret2
            exact ⟨ret_two (by rw [Hv.out trivial]) rfl, rfl⟩
      · rw [hs] at e4
        by_cases h0 : 0 ≤ n
        · have hv : True → versN n u = 1 := fun _ => vers_neg_up Hm.out hz hs (.inl h0)
          have Hv := Lib.hid hv
          clear hv hn hz hs
          go_enter Try.func49, Try.ntmps49
          go_wp2_with (first | (go_at_call 55; refine (refKind_ok _ hu _).mono ?_; rintro e w' ⟨rfl, rfl⟩) | (go_at_call 59; refine (sign_ok _ hu _).mono ?_; rintro e w' ⟨rfl, rfl⟩))
          go_ret2
          exact ⟨ret_two (by rw [Hv.out trivial]) rfl, rfl⟩
        · cases hi : infB u
          · have hv : ∀ k, k = -n → -(cmpI (k * (unit : Int)) (magv (rung u) : Nat)) = versN n u := fun k hk => vers_neg Hm.out hs hk
            have Hv := Lib.hid hv
            have Hb := Lib.hid (fun k => cmp_bound (k * (unit : Int)) (magv (rung u) : Nat))
            rw [hi] at e3
            clear hv hn hz hs hi
            go_enter Try.func49, Try.ntmps49
            go_wp2_with (first | (go_at_call 55; refine (refKind_ok _ hu _).mono ?_; rintro e w' ⟨rfl, rfl⟩) | (go_at_call 59; refine (sign_ok _ hu _).mono ?_; rintro e w' ⟨rfl, rfl⟩) | (go_at_call 72; refine (against_int _ _ (by omega) (by omega) hu _).mono ?_; rintro e w' ⟨rfl, rfl⟩; have hq := Hv.out _ rfl; have hb := Hb.out (-n); generalize cmpI (-n * (unit : Int)) (magv (rung u) : Nat) = c at *; have Hq := Lib.hid hq; clear hq))
            go_ret2
            exact ⟨ret_two Hq.out rfl, rfl⟩
          · have hv : True → versN n u = 1 := fun _ => vers_neg_up Hm.out hz hs (.inr (by unfold infB at hi; simpa using hi))
            have Hv := Lib.hid hv
            rw [hi] at e3
            clear hv hn hz hs hi
            go_enter Try.func49, Try.ntmps49
            go_wp2_with (first | (go_at_call 55; refine (refKind_ok _ hu _).mono ?_; rintro e w' ⟨rfl, rfl⟩) | (go_at_call 59; refine (sign_ok _ hu _).mono ?_; rintro e w' ⟨rfl, rfl⟩))
            go_ret2
            exact ⟨ret_two (by rw [Hv.out trivial]) rfl, rfl⟩
    · rw [hz] at e2
      have hv : True → versN n u = if n < 0 then -1 else if n = 0 then 0 else 1 := fun _ => vers_zero Hm.out hz
      have Hv := Lib.hid hv
      clear hv hn hz
      by_cases h0 : n < 0
      · go_enter Try.func49, Try.ntmps49
        go_wp2_with (first | (go_at_call 55; refine (refKind_ok _ hu _).mono ?_; rintro e w' ⟨rfl, rfl⟩))
        go_ret2
        exact ⟨ret_two (by rw [Hv.out trivial, if_pos h0]) rfl, rfl⟩
      · go_enter Try.func49, Try.ntmps49
        go_wp2_with (first | (go_at_call 55; refine (refKind_ok _ hu _).mono ?_; rintro e w' ⟨rfl, rfl⟩))
        all_goals go_ret2
        all_goals exact ⟨ret_two (by rw [Hv.out trivial, if_neg (by omega)]; split <;> omega) rfl, rfl⟩
end Go.Proofs.Ytmlcpedbpjghhaa
