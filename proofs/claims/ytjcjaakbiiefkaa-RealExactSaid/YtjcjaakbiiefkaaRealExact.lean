/-
  RealExact walked.
-/
import Derived.Test.YtjcjaakbiiefkaaRealAwake
import Derived.Test.YtjcjaakbiiefkaaRealExactLaw
import Derived.Deep.CutBlock
import Derived.Laws.Unary
namespace Go.Proofs.Ytjcjaakbiiefkaa
open Go.RowKit

theorem eq_nan (u : Nat) : (((kindN u : Nat) : Int) == 5) = isNan u := beq_nan u
theorem ne_nan (u : Nat) : (((kindN u : Nat) : Int) != 5) = !isNan u := by rw [bne, beq_nan]

set_option maxRecDepth 100000 in
set_option maxHeartbeats 4000000 in
theorem exact_out (a b : Int) (u : Nat) (hr : ¬ (-4611686018427387904 ≤ a ∧ a ≤ b ∧ b ≤ 4611686018427387904)) (w : World) :
    Calls Try.prog 8 #[.agg #[.int .i64 a, .int .i64 b], .int .u64 u] w fun e w' => e = .returned (.bool true) ∧ ∃ n, w' = (w.alloc (.cells #[.int .i64 a, .int .i64 b] 34)).drewN n := by
  by_cases h1 : a < -4611686018427387904
  · clear hr
    go_enter Try.func8, Try.ntmps8
    go_wp2
    go_quiet (fail)
    go_wp2_with (go_at_call 21; refine (awake_ok _).mono ?_; rintro e w' ⟨rfl, n, rfl⟩)
    go_ret
    exact ⟨rfl, _, rfl⟩
  · by_cases h2 : b < a
    · clear hr
      go_enter Try.func8, Try.ntmps8
      go_wp2
      go_quiet (fail)
      go_wp2_with (go_at_call 21; refine (awake_ok _).mono ?_; rintro e w' ⟨rfl, n, rfl⟩)
      go_ret
      exact ⟨rfl, _, rfl⟩
    · have h3 : 4611686018427387904 < b := by omega
      clear hr
      go_enter Try.func8, Try.ntmps8
      go_wp2
      go_quiet (fail)
      go_wp2_with (go_at_call 21; refine (awake_ok _).mono ?_; rintro e w' ⟨rfl, n, rfl⟩)
      go_ret
      exact ⟨rfl, _, rfl⟩

set_option maxRecDepth 100000 in
set_option maxHeartbeats 4000000 in
theorem exact_nan (a b : Int) (u : Nat) (hu : u < 18446744073709551616) (h1 : -4611686018427387904 ≤ a) (h2 : a ≤ b) (h3 : b ≤ 4611686018427387904) (hn : isNan u = true) (w : World) :
    Calls Try.prog 8 #[.agg #[.int .i64 a, .int .i64 b], .int .u64 u] w fun e w' => e = .returned (.bool true) ∧ ∃ n, w' = (w.alloc (.cells #[.int .i64 a, .int .i64 b] 34)).drewN n := by
  have ma : mayN a u = false := by rw [may_num h1 (by omega), hn]; rfl
  have mb : mayN b u = false := by rw [may_num (by omega) h3, hn]; rfl
  have ku := ne_nan u
  rw [hn] at ku
  have kf := eq_nan (ofIntN a)
  rw [ofInt_nan] at kf
  have ki := beq_inf (ofIntN a)
  rw [show infB (ofIntN a) = false by unfold infB; have := ofInt_fin (n := a) (by omega); simp; omega] at ki
  have hl := ofInt_order h2
  have hf := ofInt_lt a
  have hb := Lib.hid (fun h => ofInt_back (a := a) h)
  have h1' : ¬ a < -4611686018427387904 := by omega
  have h2' : ¬ b < a := by omega
  have h3' : ¬ 4611686018427387904 < b := by omega
  have Ma := Lib.hid ma
  have Mb := Lib.hid mb
  clear ma mb hn
  go_enter Try.func8, Try.ntmps8
  go_wp2
  go_quiet (fail)
  go_upto_region 13 with (first | (go_at_call 26; (first | (with_reducible refine (versus_no a u Ma.out _).mono ?_) | (with_reducible refine (versus_no b u Mb.out _).mono ?_)); rintro e w' ⟨rfl, rfl⟩) | (go_at_call 24; (first | (with_reducible refine (whole_ok u _).mono ?_) | (with_reducible refine (whole_ok (ofIntN a) _).mono ?_)); rintro e w' ⟨rfl, rfl⟩) | (go_at_call 9; (first | (with_reducible refine (kind_any u hu _).mono ?_) | (with_reducible refine (kind_any (ofIntN a) hf _).mono ?_)); rintro e w' ⟨rfl, n, rfl⟩) | (go_at_call 28; (first | (with_reducible refine (ofInt_ok a _).mono ?_) | (with_reducible refine (ofInt_ok b _).mono ?_)); rintro e w' ⟨rfl, rfl⟩) | (go_at_call 17; refine (less_ok (ofIntN b) (ofIntN a) _).mono ?_; rintro e w' ⟨rfl, rfl⟩))
  go_cut [123] (fun c wx => c = .bool false ∧ ∃ n, wx = (w.alloc (.cells #[.int .i64 a, .int .i64 b] 34)).drewN n)
  case first =>
    by_cases c1 : (-9007199254740992 : Int) ≤ a
    · by_cases c2 : a ≤ (9007199254740992 : Int)
      · obtain ⟨q1, q2⟩ := hb.out (by omega)
        have q3 : (wholeN (ofIntN a) != a) = false := by rw [q2]; simp
        have Q2 := Lib.hid q2
        clear q2
        go_wp2
        go_meet
        case rel => exact ⟨rfl, _, rfl⟩
      · go_wp2
        all_goals go_meet
        all_goals exact ⟨rfl, _, rfl⟩
    · go_wp2
      all_goals go_meet
      all_goals exact ⟨rfl, _, rfl⟩
  case rest =>
    obtain ⟨rfl, n1, rfl⟩ := hcut
    go_wp2_with (go_at_call 21; refine (awake_ok _).mono ?_; rintro e w' ⟨rfl, n, rfl⟩)
    go_ret
    exact ⟨rfl, _, rfl⟩

end Go.Proofs.Ytjcjaakbiiefkaa
