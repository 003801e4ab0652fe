/-
  Versus of the program, walked.
-/
import Derived.Test.YtmlcpedbpjghhaaRealW5
namespace Go.Proofs.Ytmlcpedbpjghhaa
open Go.RowKit

theorem ret_pair {a b : Int} {x y : Bool} (h : a = b) (k : x = y) : Ending.returned (.tuple #[.int .i64 a, .bool x]) = .returned (.tuple #[.int .i64 b, .bool y]) := by rw [h, k]

theorem versus_no (n : Int) (u : Nat) (h : mayN n u = false) (w : World) : Calls Try.prog 46 #[.int .i64 n, .int .u64 u] w fun e w' => e = .returned (.tuple #[.int .i64 0, .bool false]) ∧ w = w' := by
  have h1 := equal_self u
  unfold mayN at h
  cases hn : isNan u
  · rw [hn] at h1 h
    simp only [Bool.not_false, Bool.true_and, Bool.and_eq_false_iff, decide_eq_false_iff_not] at h
    by_cases h2 : n < -4611686018427387904
    · clear h
      go_enter Try.func46, Try.ntmps46
      go_wp2_with (go_at_call 44; refine (of_ok _ _).mono ?_; rintro e w' ⟨rfl, rfl⟩)
      go_ret2
      exact ⟨rfl, rfl⟩
    · have h3 : 4611686018427387904 < n := by omega
      clear h
      go_enter Try.func46, Try.ntmps46
      go_wp2_with (go_at_call 44; refine (of_ok _ _).mono ?_; rintro e w' ⟨rfl, rfl⟩)
      go_ret2
      exact ⟨rfl, rfl⟩
  · rw [hn] at h1
    clear h
    go_enter Try.func46, Try.ntmps46
    go_wp2_with (go_at_call 44; refine (of_ok _ _).mono ?_; rintro e w' ⟨rfl, rfl⟩)
    go_ret2
    exact ⟨rfl, rfl⟩

set_option maxHeartbeats 1000000 in
theorem versus_yes (n : Int) (u : Nat) (h : mayN n u = true) (w : World) : Calls Try.prog 46 #[.int .i64 n, .int .u64 u] w fun e w' => e = .returned (.tuple #[.int .i64 (cmpI (n * (unit : Int)) (key u)), .bool true]) ∧ w = w' := by
  have h1 := equal_self u
  have hm := h
  unfold mayN at h
  simp only [Bool.and_eq_true, Bool.not_eq_true', decide_eq_true_eq] at h
  obtain ⟨⟨hn, h2⟩, h3⟩ := h
  rw [hn] at h1
  have h2' : ¬ n < -4611686018427387904 := by omega
  have h3' : ¬ 4611686018427387904 < n := by omega
  cases hw : withinB u
  · have hf := Lib.hid (far_pos hw hm)
    have hg : (FloatKind.f64.format.order u 0 == some .gt) = decide (0 < key u) := order_gt u 0 hn (by rfl)
    clear hm h2 h3
    go_enter Try.func46, Try.ntmps46
    go_wp2_with (first | (go_at_call 44; refine (of_ok _ _).mono ?_; rintro e w' ⟨rfl, rfl⟩) | (go_at_call 65; refine (within_ok _ _).mono ?_; rintro e w' ⟨rfl, rfl⟩))
    all_goals go_ret2
    all_goals refine ⟨ret_pair ?_ rfl, rfl⟩
    · have hk : 0 < key u := by assumption
      rw [hf.out, if_pos hk]
    · have hk : ¬ 0 < key u := by first | assumption | omega
      rw [hf.out, if_neg hk]
  · have hf := Lib.hid (within_small hw).2.1
    have hk := key_floor hw
    have hb := floor_int hw
    have hi := run_int (by have := hk.2.2; exact rung_small (by
      have ha := key_abs (floorN u)
      have hp := unit_pos
      rw [hk.1, Int.natAbs_mul, Int.natAbs_natCast] at ha
      rw [← ha]
      refine Nat.mul_le_mul_right _ ?_
      have := hb.2
      omega)) hb.1 hb.2.1 hb.2.2
    have hg : (FloatKind.f64.format.order u (floorN u) == some .gt) = decide (key u / (unit : Int) * (unit : Int) < key u) := by
      rw [order_gt _ _ hn hk.2.1, hk.1]
    have hv := Lib.hid (versus_floor n u)
    clear hk hm h2 h3
    obtain ⟨_, hb1, hb2⟩ := hb
    generalize hF : key u / (unit : Int) = F at *
    have HF := Lib.hid hF
    clear hF
    rcases Int.lt_trichotomy n F with hl | hl | hl
    · have hl' : n < F := hl
      go_enter Try.func46, Try.ntmps46
      go_wp2_with (first | (go_at_call 44; refine (of_ok _ _).mono ?_; rintro e w' ⟨rfl, rfl⟩) | (go_at_call 65; refine (within_ok _ _).mono ?_; rintro e w' ⟨rfl, rfl⟩) | (go_at_call 66; refine (floor_ok _ hf.out _).mono ?_; rintro e w' ⟨rfl, rfl⟩))
      go_ret2
      exact ⟨ret_pair (by rw [hv.out, if_pos hl]) rfl, rfl⟩
    · by_cases hs : F * (unit : Int) < key u
      · have e1 : ¬ n < F := by omega
        have e2 : (n == F) = true := by simpa using hl
        have HL := Lib.hid hl
        clear hl
        go_enter Try.func46, Try.ntmps46
        go_wp2_with (first | (go_at_call 44; refine (of_ok _ _).mono ?_; rintro e w' ⟨rfl, rfl⟩) | (go_at_call 65; refine (within_ok _ _).mono ?_; rintro e w' ⟨rfl, rfl⟩) | (go_at_call 66; refine (floor_ok _ hf.out _).mono ?_; rintro e w' ⟨rfl, rfl⟩))
        go_ret2
        exact ⟨ret_pair (by rw [hv.out, if_neg (show ¬ n < F by omega), if_pos ⟨HL.out, hs⟩]) rfl, rfl⟩
      · have e1 : ¬ n < F := by omega
        have e2 : (n == F) = true := by simpa using hl
        have e3 : ¬ F < n := by omega
        have HL := Lib.hid hl
        clear hl
        go_enter Try.func46, Try.ntmps46
        go_wp2_with (first | (go_at_call 44; refine (of_ok _ _).mono ?_; rintro e w' ⟨rfl, rfl⟩) | (go_at_call 65; refine (within_ok _ _).mono ?_; rintro e w' ⟨rfl, rfl⟩) | (go_at_call 66; refine (floor_ok _ hf.out _).mono ?_; rintro e w' ⟨rfl, rfl⟩))
        go_ret2
        exact ⟨ret_pair (by rw [hv.out, if_neg (show ¬ n < F by omega), if_neg (fun x => by omega), if_neg (show ¬ F < n by omega)]) rfl, rfl⟩
    · have e1 : ¬ n < F := by omega
      have e2 : (n == F) = false := by simp; omega
      go_enter Try.func46, Try.ntmps46
      go_wp2_with (first | (go_at_call 44; refine (of_ok _ _).mono ?_; rintro e w' ⟨rfl, rfl⟩) | (go_at_call 65; refine (within_ok _ _).mono ?_; rintro e w' ⟨rfl, rfl⟩) | (go_at_call 66; refine (floor_ok _ hf.out _).mono ?_; rintro e w' ⟨rfl, rfl⟩))
      go_ret2
      exact ⟨ret_pair (by rw [hv.out, if_neg (show ¬ n < F by omega), if_neg (fun x => by omega), if_pos hl]) rfl, rfl⟩

theorem versus_ok (n : Int) (u : Nat) (w : World) : Calls Try.prog 46 #[.int .i64 n, .int .u64 u] w fun e w' => e = .returned (.tuple #[.int .i64 (versN n u), .bool (mayN n u)]) ∧ w = w' := by
  cases h : mayN n u
  · refine (versus_no n u h w).mono fun _ _ ⟨a, b⟩ => ⟨by rw [a]; exact ret_pair (by unfold versN; rw [h]; rfl) rfl, b⟩
  · refine (versus_yes n u h w).mono fun _ _ ⟨a, b⟩ => ⟨by rw [a]; exact ret_pair (by unfold versN; rw [h]; rfl) rfl, b⟩
end Go.Proofs.Ytmlcpedbpjghhaa
