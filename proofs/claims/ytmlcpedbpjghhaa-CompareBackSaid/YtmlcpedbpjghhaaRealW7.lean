/-
  scale, mantissa, down of the document, walked.
-/
import Derived.Test.YtmlcpedbpjghhaaRealW2
import Derived.Test.YtmlcpedbpjghhaaRealRoundLaw
import Derived.Outline
namespace Go.Proofs.Ytmlcpedbpjghhaa
open Go.RowKit

theorem scale_ok (u : Nat) (hu : u < 18446744073709551616) (w : World) : Calls Try.prog 56 #[.int .u64 u] w fun e w' => e = .returned (.int .i64 (scaleN u)) ∧ w = w' := by
  go_enter Try.func56, Try.ntmps56
  go_wp2_with (go_at_call 75; refine (exp_ok _ hu _).mono ?_; rintro e w' ⟨rfl, rfl⟩)
  all_goals go_ret
  all_goals exact ⟨ret_int (by unfold scaleN; omega), rfl⟩
theorem mantissa_ok (u : Nat) (hu : u < 18446744073709551616) (w : World) : Calls Try.prog 57 #[.int .u64 u] w fun e w' => e = .returned (.int .u64 (mantN u)) ∧ w = w' := by
  have hf : fracN u < 4503599627370496 := by unfold fracN; omega
  have he : ((expN u : Int) == 0) = decide (expN u = 0) := by
    rw [Bool.eq_iff_iff]; simp
  go_enter Try.func57, Try.ntmps57
  go_wp2_with (first | (go_at_call 75; refine (exp_ok _ hu _).mono ?_; rintro e w' ⟨rfl, rfl⟩) | (go_at_call 76; refine (frac_ok _ hu _).mono ?_; rintro e w' ⟨rfl, rfl⟩))
  all_goals go_ret
  · have h : expN u = 0 := by assumption
    exact ⟨ret_int (by unfold mantN; rw [if_pos h]), rfl⟩
  · have h : ¬ expN u = 0 := by assumption
    exact ⟨ret_int (by unfold mantN; rw [if_neg h]; exact (Int.natCast_add _ _).symm), rfl⟩

theorem down1_walk (a : Nat) (ha : (a : Int) ≤ 18446744073709551615) : IntKind.u64.wrap ((a : Int) / 2 + (a : Int) % 2 - IntKind.u64.wrap ((a : Int) / 2 % 2 * ((a : Int) % 2))) = ((down1 a : Nat) : Int) := by
  rw [wrap_u, wrap_u]
  unfold down1
  rcases Nat.mod_two_eq_zero_or_one a with h | h <;> rcases Nat.mod_two_eq_zero_or_one (a / 2) with k | k
  all_goals
    have h' : (a : Int) % 2 = ((a % 2 : Nat) : Int) := by omega
    have k' : (a : Int) / 2 % 2 = ((a / 2 % 2 : Nat) : Int) := by omega
    rw [h', k', h, k]
    omega

theorem down_any (m k : Int) (h0 : 0 ≤ m) (hm : m ≤ 18446744073709551615) (h1 : 0 ≤ k) (hk : k < 4611686018427387904) (w : World) :
    Calls Try.prog 58 #[.int .u64 m, .int .i64 k] w fun e w' => e = .returned (.int .u64 (downN m.toNat k.toNat)) ∧ w = w' := by
  obtain ⟨m, rfl⟩ := Int.eq_ofNat_of_zero_le h0
  obtain ⟨k, rfl⟩ := Int.eq_ofNat_of_zero_le h1
  rw [Int.toNat_natCast, Int.toNat_natCast]
  go_enter Try.func58, Try.ntmps58
  go_wp2
  go_loop [0, 5] (fun a i => ∃ j : Nat, j ≤ k ∧ i = .int .i64 j ∧ a = .int .u64 (downN m j)) (fun _ i => k - (intOf i).toNat)
  case atStart => exact ⟨0, Nat.zero_le _, rfl, rfl⟩
  case round =>
    obtain ⟨j, hj, rfl, rfl⟩ := hrel
    have hb : ((downN m j : Nat) : Int) ≤ 18446744073709551615 := by have := downN_le m j; omega
    generalize ha : downN m j = a at *
    have HA := Lib.hid ha
    clear ha hm
    by_cases hlt : j < k
    · by_cases hgt : (1 : Int) < (a : Int)
      · go_wp2
        refine ⟨⟨j + 1, by omega, by go_num, congrArg (Value.int .u64) ?_⟩, by simp [intOf]; omega⟩
        show _ = ((down1 (downN m j) : Nat) : Int)
        rw [HA.out]
        exact down1_walk a hb
      · go_wp2
        go_ret
        refine ⟨ret_int ?_, rfl⟩
        have := downN_small (m := m) (k := j) (by rw [HA.out]; omega) (k - j)
        rw [show j + (k - j) = k by omega] at this
        rw [this, HA.out]
    · go_wp2
      go_ret
      obtain rfl : j = k := by omega
      exact ⟨ret_int (by rw [HA.out]), rfl⟩
end Go.Proofs.Ytmlcpedbpjghhaa
