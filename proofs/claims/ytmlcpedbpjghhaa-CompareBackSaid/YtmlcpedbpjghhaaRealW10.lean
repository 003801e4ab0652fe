/-
  OfInt, Whole of the document, walked.
-/
import Derived.Test.YtmlcpedbpjghhaaRealW8
import Derived.Test.YtmlcpedbpjghhaaRealIntLaw2
import Derived.Laws.Unary
namespace Go.Proofs.Ytmlcpedbpjghhaa
open Go.RowKit

theorem two_pow63 : (2 : Nat) ^ 63 = 9223372036854775808 := by decide

theorem good_arg2 {m e S : Nat} (h : Good m e S) {x y : Int} (hx : x = m := by omega) (hy : y = e := by omega) : Good x.toNat y.toNat S := by
  subst hx; subst hy; rw [Int.toNat_natCast, Int.toNat_natCast]; exact h

set_option maxHeartbeats 1000000 in
theorem refOfInt_ok (n : Int) (hn : -9223372036854775808 ≤ n ∧ n ≤ 9223372036854775807) (w : World) : Calls Try.prog 61 #[.int .i64 n] w fun e w' => e = .returned (.int .u64 (ofIntN n)) ∧ w = w' := by
  have hM : n.natAbs ≤ 2 ^ 63 := by omega
  by_cases h0 : n = 0
  · subst h0
    have hz : True → ofIntN 0 = 0 := fun _ => by decide +kernel
    have Hz := Lib.hid hz
    clear hz hM hn
    go_enter Try.func61, Try.ntmps61
    go_wp2
    go_ret
    exact ⟨ret_int (by rw [Hz.out trivial]; rfl), rfl⟩
  · have hs := of_start n.natAbs 1078 hM rfl
    have Hs := Lib.hid hs
    have Hn := Lib.hid hn
    clear hs hM
    by_cases hneg : n < 0
    · obtain ⟨K, hK⟩ : ∃ K : Nat, (K : Int) = n + 18446744073709551616 := ⟨(n + 18446744073709551616).toNat, by omega⟩
      obtain ⟨M, hMn⟩ : ∃ M : Nat, M = n.natAbs := ⟨_, rfl⟩
      have w1 : IntKind.u64.wrap n = (K : Int) := by rw [wrap_u]; omega
      have w2 : IntKind.u64.wrap (-(K : Int)) = (M : Int) := by rw [wrap_u]; omega
      have w3 : ((M : Int) == 0) = false := by simp; omega
      rw [← hMn] at Hs
      have hv : True → ofIntN n = wd true (rne (M * unit)) := fun _ => by unfold ofIntN; rw [← hMn, decide_eq_true hneg]
      have Hv := Lib.hid hv
      clear hv
      have H0 := Lib.hid h0
      clear hK hn hMn h0
      go_enter Try.func61, Try.ntmps61
      go_wp2
      go_loop [4, 5] (fun a b => ∃ A E : Nat, a = .int .u64 A ∧ b = .int .i64 E ∧ Of (M * unit) A E) (fun a _ => (intOf a).toNat)
      case atStart => exact ⟨M, 1078, rfl, rfl, Hs.out⟩
      case round =>
        obtain ⟨A, E, rfl, rfl, hO⟩ := hrel
        have b1 : (E : Int) ≤ 1081 := by obtain ⟨_, _, j, h1, _, h2⟩ := hO; omega
        have b2 : A ≤ 2 ^ 63 := by
          obtain ⟨_, _, j, _, h2, _⟩ := hO
          exact Nat.le_trans h2 (Nat.pow_le_pow_right (by omega) (by omega))
        have B2 := Lib.hid b2
        clear b2 w1 w2 w3
        by_cases hlt : (2305843009213693952 : Int) ≤ A
        · go_wp2_with (go_at_call 58; refine (down_any _ _ (by omega) (by have := B2.out; omega) (by omega) (by omega) _).mono ?_; rintro e w' ⟨rfl, rfl⟩)
          obtain ⟨h1, h2⟩ := hO.step (by omega)
          refine ⟨⟨down1 A, E + 1, rfl, by go_num, h1⟩, ?_⟩
          simp [intOf, downN]
          omega
        · have hg := hO.good (by omega)
          have Hg := Lib.hid hg
          have hO' := Lib.hid hO
          clear hg hO
          go_wp2_with (go_at_call 60; refine (round_any _ _ _ _ (by omega) (by omega) (good_arg2 Hg.out) _).mono ?_; rintro e w' ⟨rfl, rfl⟩)
          go_ret
          exact ⟨ret_int (by rw [Hv.out trivial]), rfl⟩
    · obtain ⟨M, rfl⟩ : ∃ M : Nat, n = M := ⟨n.toNat, by omega⟩
      have w1 : IntKind.u64.wrap (M : Int) = (M : Int) := by rw [wrap_u]; omega
      have w3 : ((M : Int) == 0) = false := by simp; omega
      have hv : True → ofIntN (M : Int) = wd false (rne (M * unit)) := fun _ => by unfold ofIntN; rw [decide_eq_false hneg]; rfl
      have Hv := Lib.hid hv
      rw [Int.natAbs_natCast] at Hs
      clear hn h0 hneg hv
      go_enter Try.func61, Try.ntmps61
      go_wp2
      go_loop [4, 5] (fun a b => ∃ A E : Nat, a = .int .u64 A ∧ b = .int .i64 E ∧ Of (M * unit) A E) (fun a _ => (intOf a).toNat)
      case atStart => exact ⟨M, 1078, rfl, rfl, Hs.out⟩
      case round =>
        obtain ⟨A, E, rfl, rfl, hO⟩ := hrel
        have b1 : (E : Int) ≤ 1081 := by obtain ⟨_, _, j, h1, _, h2⟩ := hO; omega
        have b2 : A ≤ 2 ^ 63 := by
          obtain ⟨_, _, j, _, h2, _⟩ := hO
          exact Nat.le_trans h2 (Nat.pow_le_pow_right (by omega) (by omega))
        have B2 := Lib.hid b2
        clear b2 w1 w3
        by_cases hlt : (2305843009213693952 : Int) ≤ A
        · go_wp2_with (go_at_call 58; refine (down_any _ _ (by omega) (by have := B2.out; omega) (by omega) (by omega) _).mono ?_; rintro e w' ⟨rfl, rfl⟩)
          obtain ⟨h1, h2⟩ := hO.step (by omega)
          refine ⟨⟨down1 A, E + 1, rfl, by go_num, h1⟩, ?_⟩
          simp [intOf, downN]
          omega
        · have hg := hO.good (by omega)
          have Hg := Lib.hid hg
          have hO' := Lib.hid hO
          clear hg hO
          go_wp2_with (go_at_call 60; refine (round_any _ _ _ _ (by omega) (by omega) (good_arg2 Hg.out) _).mono ?_; rintro e w' ⟨rfl, rfl⟩)
          go_ret
          exact ⟨ret_int (by rw [Hv.out trivial, decide_eq_false (by omega)]), rfl⟩
end Go.Proofs.Ytmlcpedbpjghhaa
