/-
  RealExact walked, of numbers.
-/
import Derived.Test.YtjcjaakbiiefkaaRealExact
import Derived.Test.YtjcjaakbiiefkaaRealExactLaw
import Derived.Deep.CutBlock
import Derived.Laws.Unary
namespace Go.Proofs.Ytjcjaakbiiefkaa
open Go.RowKit


set_option maxRecDepth 100000 in
set_option maxHeartbeats 4000000 in
theorem exact_num (a b : Int) (u : Nat) (hu : u < 18446744073709551616) (h1 : -4611686018427387904 ≤ a) (h2 : a ≤ b) (h3 : b ≤ 4611686018427387904) (hn : isNan u = false) (w : World) :
    Calls Try.prog 8 #[.agg #[.int .i64 a, .int .i64 b], .int .u64 u] w fun e w' => e = .returned (.bool true) ∧ ∃ n, w' = (w.alloc (.cells #[.int .i64 a, .int .i64 b] 34)).drewN n := by
  have ma : mayN a u = true := by rw [may_num h1 (by omega), hn]; rfl
  have mb : mayN b u = true := by rw [may_num (by omega) h3, hn]; rfl
  have ku := ne_nan u
  rw [hn] at ku
  have kf := eq_nan (ofIntN a)
  rw [ofInt_nan] at kf
  have ki := beq_inf (ofIntN a)
  rw [show infB (ofIntN a) = false by unfold infB; have := ofInt_fin (n := a) (by omega); simp; omega] at ki
  have hl := ofInt_order h2
  have hf := ofInt_lt a
  have hb := Lib.hid (fun h => ofInt_back (a := a) h)
  have h1' : ¬ a < -4611686018427387904 := by omega
  have h2' : ¬ b < a := by omega
  have h3' : ¬ 4611686018427387904 < b := by omega
  have hA := asks hn h1 h2 h3
  have Ma := Lib.hid ma
  have Mb := Lib.hid mb
  generalize hx : versN a u = x at *
  generalize hy : versN b u = y at *
  obtain ⟨W, hW⟩ : ∃ W, isWhole u = W := ⟨_, rfl⟩
  have HW := Lib.hid hW
  have Hx := Lib.hid hx
  have Hy := Lib.hid hy
  obtain ⟨l1, l2, l3, hzero, hnone, hdown, hup⟩ := hA
  rw [hW] at hzero hnone
  have Hzero := Lib.hid hzero
  have Hnone := Lib.hid hnone
  have Hdown := Lib.hid hdown
  have Hup := Lib.hid hup
  clear ma mb hn hx hy hW hzero hnone hdown hup
  have l1' : ¬ x < -1 := by omega
  have l2' : ¬ 1 < y := by omega
  have l3' : ¬ y < x := by omega
  go_enter Try.func8, Try.ntmps8
  go_wp2
  go_quiet (fail)
  go_upto_region 7 with (first | (go_at_call 26; (first | (with_reducible refine (versus_ok a u _).mono ?_) | (with_reducible refine (versus_ok b u _).mono ?_)); rintro e w' ⟨rfl, rfl⟩; (first | rw [Hx.out, Ma.out] | rw [Hy.out, Mb.out])) | (go_at_call 24; refine (whole_ok u _).mono ?_; rintro e w' ⟨rfl, rfl⟩; rw [HW.out]))
  go_cut [86] (fun c wx => c = .bool false ∧ ∃ n, wx = (w.alloc (.cells #[.int .i64 a, .int .i64 b] 34)).drewN n)
  case first =>
    by_cases hx0 : x = 0
    · cases W
      · exact absurd (Hzero.out hx0).1 (by simp)
      · have z2 := (Hzero.out hx0).2
        have e1 : (x == 0) = true := by simpa using hx0
        have e2 : (wholeN u == a) = true := by simpa using z2
        have Z2 := Lib.hid z2
        clear z2 hx0
        go_wp2_with (go_at_call 9; refine (kind_any u hu _).mono ?_; rintro e w' ⟨rfl, n, rfl⟩)
        go_meet
        case rel => exact ⟨by first | rfl | exact congrArg Value.bool (by simp; omega), _, rfl⟩
    · have e1 : (x == 0) = false := by simpa using hx0
      cases W
      · clear hx0
        go_wp2_with (go_at_call 9; refine (kind_any u hu _).mono ?_; rintro e w' ⟨rfl, n, rfl⟩)
        go_meet
        case rel => exact ⟨by first | rfl | exact congrArg Value.bool (by simp; omega), _, rfl⟩
      · have e2 : (wholeN u == a) = false := by simpa using Hnone.out hx0 rfl
        clear hx0
        go_wp2_with (go_at_call 9; refine (kind_any u hu _).mono ?_; rintro e w' ⟨rfl, n, rfl⟩)
        go_meet
        case rel => exact ⟨by first | rfl | exact congrArg Value.bool (by simp; omega), _, rfl⟩
  case rest =>
    obtain ⟨rfl, n0, rfl⟩ := hcut
    go_upto_region 13 with (first | (go_at_call 24; (first | (with_reducible refine (whole_ok u _).mono ?_) | (with_reducible refine (whole_ok (ofIntN a) _).mono ?_)); rintro e w' ⟨rfl, rfl⟩) | (go_at_call 9; (first | (with_reducible refine (kind_any u hu _).mono ?_) | (with_reducible refine (kind_any (ofIntN a) hf _).mono ?_)); rintro e w' ⟨rfl, n, rfl⟩) | (go_at_call 28; (first | (with_reducible refine (ofInt_ok a _).mono ?_) | (with_reducible refine (ofInt_ok b _).mono ?_)); rintro e w' ⟨rfl, rfl⟩) | (go_at_call 17; refine (less_ok (ofIntN b) (ofIntN a) _).mono ?_; rintro e w' ⟨rfl, rfl⟩))
    go_cut [123] (fun c wx => c = .bool false ∧ ∃ n, wx = (w.alloc (.cells #[.int .i64 a, .int .i64 b] 34)).drewN n)
    case first =>
      by_cases c1 : (-9007199254740992 : Int) ≤ a
      · by_cases c2 : a ≤ (9007199254740992 : Int)
        · obtain ⟨q1, q2⟩ := hb.out (by omega)
          have q3 : (wholeN (ofIntN a) != a) = false := by rw [q2]; simp
          have Q2 := Lib.hid q2
          clear q2
          go_wp2
          go_meet
          case rel => exact ⟨rfl, _, rfl⟩
        · go_wp2
          all_goals go_meet
          all_goals exact ⟨rfl, _, rfl⟩
      · go_wp2
        all_goals go_meet
        all_goals exact ⟨rfl, _, rfl⟩
    case rest =>
      obtain ⟨rfl, n1, rfl⟩ := hcut
      by_cases hx0 : x = 0
      · have e1 : (x == 0) = true := by simpa using hx0
        clear hx0
        go_wp2_with (first | (go_at_call 17; refine (less_ok (ofIntN a) u _).mono ?_; rintro e w' ⟨rfl, rfl⟩) | (go_at_call 19; refine (equal_ok (ofIntN a) u _).mono ?_; rintro e w' ⟨rfl, rfl⟩) | (go_at_call 21; refine (awake_ok _).mono ?_; rintro e w' ⟨rfl, n, rfl⟩))
        go_ret
        exact ⟨rfl, _, rfl⟩
      · have e1 : (x == 0) = false := by simpa using hx0
        by_cases hx1 : x < 0
        · rcases Hdown.out hx1 with hd | ⟨hd, he⟩
          · clear hx0
            go_wp2_with (first | (go_at_call 17; refine (less_ok (ofIntN a) u _).mono ?_; rintro e w' ⟨rfl, rfl⟩) | (go_at_call 19; refine (equal_ok (ofIntN a) u _).mono ?_; rintro e w' ⟨rfl, rfl⟩) | (go_at_call 21; refine (awake_ok _).mono ?_; rintro e w' ⟨rfl, n, rfl⟩))
            go_ret
            exact ⟨rfl, _, rfl⟩
          · clear hx0
            go_wp2_with (first | (go_at_call 17; refine (less_ok (ofIntN a) u _).mono ?_; rintro e w' ⟨rfl, rfl⟩) | (go_at_call 19; refine (equal_ok (ofIntN a) u _).mono ?_; rintro e w' ⟨rfl, rfl⟩) | (go_at_call 21; refine (awake_ok _).mono ?_; rintro e w' ⟨rfl, n, rfl⟩))
            go_ret
            exact ⟨rfl, _, rfl⟩
        · have hd := Hup.out (by omega)
          clear hx0
          go_wp2_with (first | (go_at_call 17; refine (less_ok (ofIntN a) u _).mono ?_; rintro e w' ⟨rfl, rfl⟩) | (go_at_call 19; refine (equal_ok (ofIntN a) u _).mono ?_; rintro e w' ⟨rfl, rfl⟩) | (go_at_call 21; refine (awake_ok _).mono ?_; rintro e w' ⟨rfl, n, rfl⟩))
          go_ret
          exact ⟨rfl, _, rfl⟩
theorem realExact_law (a b : Int) (u : Nat) (hu : u < 18446744073709551616) (w : World) :
    Calls Try.prog 8 #[.agg #[.int .i64 a, .int .i64 b], .int .u64 u] w fun e w' => e = .returned (.bool true) ∧ ∃ n, w' = (w.alloc (.cells #[.int .i64 a, .int .i64 b] 34)).drewN n := by
  by_cases hr : -4611686018427387904 ≤ a ∧ a ≤ b ∧ b ≤ 4611686018427387904
  · cases hn : isNan u
    · exact exact_num a b u hu hr.1 hr.2.1 hr.2.2 hn w
    · exact exact_nan a b u hu hr.1 hr.2.1 hr.2.2 hn w
  · exact exact_out a b u hr w
end Go.Proofs.Ytjcjaakbiiefkaa
