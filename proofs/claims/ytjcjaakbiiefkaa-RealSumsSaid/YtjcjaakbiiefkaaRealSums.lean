/-
  RealSums walked.
-/
import Derived.Test.YtjcjaakbiiefkaaRealAwake
import Derived.Test.YtjcjaakbiiefkaaRealSumsLaw
import Derived.Deep.CutBlock
import Derived.Laws.Unary
namespace Go.Proofs.Ytjcjaakbiiefkaa
open Go.RowKit

theorem add_top (a : Nat) (ha : a < 18446744073709551616) (w : World) : Calls Try.prog 22 #[.int .u64 a, .int .u64 9223372036854775808] w fun e w' => e = .returned (.int .u64 (cleanN a)) ∧ ∃ n, w' = w.drewN n := by
  have h := sum_zero (z := 9223372036854775808) ha (by decide) (.inl (by decide))
  exact (add_any a 9223372036854775808 ha (by omega) w).mono fun _ _ ⟨x, y⟩ => ⟨by rw [x, h], y⟩
theorem add_null (a : Nat) (ha : a < 18446744073709551616) (hz : zeroB a = false) (w : World) : Calls Try.prog 22 #[.int .u64 a, .int .u64 0] w fun e w' => e = .returned (.int .u64 (cleanN a)) ∧ ∃ n, w' = w.drewN n := by
  have h := sum_zero (z := 0) ha (by decide) (.inr (by unfold zeroB at hz; simpa using hz))
  exact (add_any a 0 ha (by omega) w).mono fun _ _ ⟨x, y⟩ => ⟨by rw [x, h], y⟩
theorem bne_zero (u : Nat) : (((kindN u : Nat) : Int) != 1) = !zeroB u := by rw [bne, beq_zero]
theorem bne_inf (u : Nat) : (((kindN u : Nat) : Int) != 4) = !infB u := by rw [bne, beq_inf]
theorem bne_num (u : Nat) : (((kindN u : Nat) : Int) != 5) = !isNan u := by rw [bne, beq_nan]

set_option maxRecDepth 100000 in
set_option maxHeartbeats 4000000 in
theorem realSums_law (a : Nat) (ha : a < 18446744073709551616) (b : Nat) (hb : b < 18446744073709551616) (c : Nat) (hc : c < 18446744073709551616) (w : World) :
    Calls Try.prog 7 #[.int .u64 a, .int .u64 b, .int .u64 c] w fun e w' => e = .returned (.bool true) ∧ ∃ n, w' = w.drewN n := by
  have hs := sum_lt ha hb
  have hna := negN_lt ha
  have hnb := negN_lt hb
  have s1 := Lib.hid (sum_swap ha hb)
  have s2 := Lib.hid (sum_clean ha hb)
  have s5 := Lib.hid (sum_neg ha hb)
  have s6 := Lib.hid (fun h => sum_self (a := a) ha h)
  have s7 := Lib.hid (fun h => sum_order (a := a) (b := b) (c := c) ha hb hc h)
  have hbc := sum_lt hb hc
  have hac := sum_lt ha hc
  have ht := sum_lt hna hnb
  go_enter Try.func7, Try.ntmps7
  go_upto_region 4 with (first | (go_at_call 22; (with_reducible refine (add_any a b ha hb _).mono ?_); rintro e w' ⟨rfl, n, rfl⟩) | (go_at_call 22; (with_reducible refine (add_any b a hb ha _).mono ?_); rintro e w' ⟨rfl, n, rfl⟩; rw [s1.out]) | (go_at_call 22; refine (add_top a ha _).mono ?_; rintro e w' ⟨rfl, n, rfl⟩) | (go_at_call 11; (with_reducible refine (clean_ok a _).mono ?_); rintro e w' ⟨rfl, rfl⟩) | (go_at_call 11; refine (clean_ok (sumN a b) _).mono ?_; rintro e w' ⟨rfl, rfl⟩; rw [s2.out]))
  go_cut [39] (fun x wx => x = .bool false ∧ ∃ n, wx = w.drewN n)
  case first =>
    have k1 := bne_zero a
    cases hz : zeroB a
    · rw [hz] at k1
      go_wp2_with (first | (go_at_call 9; refine (kind_any a ha _).mono ?_; rintro e w' ⟨rfl, n, rfl⟩) | (go_at_call 22; refine (add_null a ha hz _).mono ?_; rintro e w' ⟨rfl, n, rfl⟩) | (go_at_call 11; refine (clean_ok a _).mono ?_; rintro e w' ⟨rfl, rfl⟩))
      go_meet
      case rel => exact ⟨rfl, _, rfl⟩
    · rw [hz] at k1
      go_wp2_with (first | (go_at_call 9; refine (kind_any a ha _).mono ?_; rintro e w' ⟨rfl, n, rfl⟩))
      go_meet
      case rel => exact ⟨rfl, _, rfl⟩
  case rest =>
    obtain ⟨rfl, n1, rfl⟩ := hcut
    go_upto_region 7 with (first | (go_at_call 15; (first | (with_reducible refine (neg_ok a ha _).mono ?_) | (with_reducible refine (neg_ok b hb _).mono ?_)); rintro e w' ⟨rfl, rfl⟩) | (go_at_call 22; refine (add_any (negN a) (negN b) hna hnb _).mono ?_; rintro e w' ⟨rfl, n, rfl⟩))
    go_cut [63] (fun x wx => x = .bool false ∧ ∃ n, wx = w.drewN n)
    case first =>
      have k1 := bne_zero (sumN a b)
      have k2 := beq_zero (sumN a b)
      cases hz : zeroB (sumN a b)
      · rw [hz] at k1 k2
        have k3 : (((sumN (negN a) (negN b) : Nat) : Int) != ((negN (sumN a b) : Nat) : Int)) = false := by rw [s5.out.1 hz]; simp
        go_wp2_with (first | (go_at_call 9; refine (kind_any (sumN a b) hs _).mono ?_; rintro e w' ⟨rfl, n, rfl⟩) | (go_at_call 15; refine (neg_ok (sumN a b) hs _).mono ?_; rintro e w' ⟨rfl, rfl⟩))
        go_meet
        case rel => exact ⟨rfl, _, rfl⟩
      · rw [hz] at k1 k2
        have k3 := bne_zero (sumN (negN a) (negN b))
        rw [s5.out.2 hz] at k3
        go_wp2_with (first | (go_at_call 9; (first | (with_reducible refine (kind_any (sumN a b) hs _).mono ?_) | (with_reducible refine (kind_any (sumN (negN a) (negN b)) ht _).mono ?_)); rintro e w' ⟨rfl, n, rfl⟩))
        go_meet
        case rel => exact ⟨rfl, _, rfl⟩
    case rest =>
      obtain ⟨rfl, n2, rfl⟩ := hcut
      go_upto_region 9 with (fail)
      go_cut [78] (fun x wx => x = .bool false ∧ ∃ n, wx = w.drewN n)
      case first =>
        have k1 := bne_num a
        have k2 := bne_inf a
        cases hn : isNan a
        · rw [hn] at k1
          cases hi : infB a
          · rw [hi] at k2
            have hz := s6.out (by have := rung_le hn; unfold infB at hi; simp at hi; omega)
            have Hz := Lib.hid hz
            clear hz
            go_wp2_with (first | (go_at_call 9; refine (kind_any a ha _).mono ?_; rintro e w' ⟨rfl, n, rfl⟩) | (go_at_call 15; refine (neg_ok a ha _).mono ?_; rintro e w' ⟨rfl, rfl⟩) | (go_at_call 22; refine (add_any a (negN a) ha hna _).mono ?_; rintro e w' ⟨rfl, n, rfl⟩; rw [Hz.out]))
            go_meet
            case rel => exact ⟨rfl, _, rfl⟩
          · rw [hi] at k2
            go_wp2_with (first | (go_at_call 9; refine (kind_any a ha _).mono ?_; rintro e w' ⟨rfl, n, rfl⟩))
            go_meet
            case rel => exact ⟨rfl, _, rfl⟩
        · rw [hn] at k1
          go_wp2_with (first | (go_at_call 9; refine (kind_any a ha _).mono ?_; rintro e w' ⟨rfl, n, rfl⟩))
          go_meet
          case rel => exact ⟨rfl, _, rfl⟩
      case rest =>
        obtain ⟨rfl, n3, rfl⟩ := hcut
        cases hl : lessB a b
        · go_wp2_with (first | (go_at_call 17; refine (less_ok a b _).mono ?_; rintro e w' ⟨rfl, rfl⟩) | (go_at_call 21; refine (awake_ok _).mono ?_; rintro e w' ⟨rfl, n, rfl⟩))
          go_ret
          exact ⟨rfl, _, rfl⟩
        · have h7 := s7.out hl
          go_wp2_with (first | (go_at_call 17; (first | (with_reducible refine (less_ok a b _).mono ?_) | (with_reducible refine (less_ok (sumN b c) (sumN a c) _).mono ?_)); rintro e w' ⟨rfl, rfl⟩) | (go_at_call 22; (first | (with_reducible refine (add_any b c hb hc _).mono ?_) | (with_reducible refine (add_any a c ha hc _).mono ?_)); rintro e w' ⟨rfl, n, rfl⟩) | (go_at_call 21; refine (awake_ok _).mono ?_; rintro e w' ⟨rfl, n, rfl⟩))
          go_ret
          exact ⟨rfl, _, rfl⟩
end Go.Proofs.Ytjcjaakbiiefkaa
