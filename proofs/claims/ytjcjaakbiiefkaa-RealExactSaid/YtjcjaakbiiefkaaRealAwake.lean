/-
  awake: what every right program tells of some doubles: walked.
-/
import Derived.Test.YtjcjaakbiiefkaaRealW6
namespace Go.Proofs.Ytjcjaakbiiefkaa
open Go.RowKit

theorem k_zero (w : World) : Calls Try.prog 9 #[.int .u64 0] w fun e w' => e = .returned (.int .u8 1) ∧ w = w' :=
  (kind_fin 0 (by omega) (by decide) w).mono fun _ _ ⟨a, b⟩ => ⟨by rw [a]; exact ret_int (by decide +kernel), b⟩
theorem k_tiny (w : World) : Calls Try.prog 9 #[.int .u64 1] w fun e w' => e = .returned (.int .u8 2) ∧ w = w' :=
  (kind_fin 1 (by omega) (by decide) w).mono fun _ _ ⟨a, b⟩ => ⟨by rw [a]; exact ret_int (by decide +kernel), b⟩
theorem k_one (w : World) : Calls Try.prog 9 #[.int .u64 4607182418800017408] w fun e w' => e = .returned (.int .u8 3) ∧ w = w' :=
  (kind_fin 4607182418800017408 (by omega) (by decide) w).mono fun _ _ ⟨a, b⟩ => ⟨by rw [a]; exact ret_int (by decide +kernel), b⟩
theorem k_inf (w : World) : Calls Try.prog 9 #[.int .u64 9218868437227405312] w fun e w' => e = .returned (.int .u8 4) ∧ w.drew = w' := kind_inf 9218868437227405312 (by decide) w
theorem k_nan (w : World) : Calls Try.prog 9 #[.int .u64 9218868437227405313] w fun e w' => e = .returned (.int .u8 5) ∧ w = w' := kind_nan_ok 9218868437227405313 (by decide) w
theorem c_nan (w : World) : Calls Try.prog 11 #[.int .u64 9218868437227405313] w fun e w' => e = .returned (.int .u64 9221120237041090560) ∧ w = w' :=
  (clean_ok 9218868437227405313 w).mono fun _ _ ⟨a, b⟩ => ⟨by rw [a]; exact ret_int (by decide +kernel), b⟩
theorem a_one (w : World) : Calls Try.prog 22 #[.int .u64 4607182418800017408, .int .u64 4607182418800017408] w fun e w' => e = .returned (.int .u64 4611686018427387904) ∧ w = w' :=
  (add_some_ok 4607182418800017408 4607182418800017408 4611686018427387904 (by decide +kernel) w).mono fun _ _ ⟨a, b⟩ => ⟨by rw [a]; exact ret_int (by decide +kernel), b⟩
theorem a_inf (w : World) : Calls Try.prog 22 #[.int .u64 9218868437227405312, .int .u64 18442240474082181120] w fun e w' => e = .returned (.int .u64 9221120237041090560) ∧ w.drew = w' :=
  (add_none_ok 9218868437227405312 18442240474082181120 (by decide +kernel) w).mono fun _ _ ⟨a, b⟩ => ⟨by rw [a]; exact ret_int (by decide +kernel), b⟩
theorem n_zero (w : World) : Calls Try.prog 15 #[.int .u64 0] w fun e w' => e = .returned (.int .u64 9223372036854775808) ∧ w = w' :=
  (neg_ok 0 (by omega) w).mono fun _ _ ⟨a, b⟩ => ⟨by rw [a]; exact ret_int (by decide +kernel), b⟩
theorem r_top (w : World) : Calls Try.prog 13 #[.int .u64 9223372036854775808] w fun e w' => e = .returned (.int .u64 9223372036854775807) ∧ w = w' :=
  (rank_ok 9223372036854775808 (by omega) w).mono fun _ _ ⟨a, b⟩ => ⟨by rw [a]; exact ret_int (by decide +kernel), b⟩
theorem r_zero (w : World) : Calls Try.prog 13 #[.int .u64 0] w fun e w' => e = .returned (.int .u64 9223372036854775808) ∧ w = w' :=
  (rank_ok 0 (by omega) w).mono fun _ _ ⟨a, b⟩ => ⟨by rw [a]; exact ret_int (by decide +kernel), b⟩
theorem i_big (w : World) : Calls Try.prog 28 #[.int .i64 9007199254740992] w fun e w' => e = .returned (.int .u64 4845873199050653696) ∧ w = w' :=
  (ofInt_ok 9007199254740992 w).mono fun _ _ ⟨a, b⟩ => ⟨by rw [a]; exact ret_int (by decide +kernel), b⟩
theorem i_neg (w : World) : Calls Try.prog 28 #[.int .i64 (-1)] w fun e w' => e = .returned (.int .u64 13830554455654793216) ∧ w = w' :=
  (ofInt_ok (-1) w).mono fun _ _ ⟨a, b⟩ => ⟨by rw [a]; exact ret_int (by decide +kernel), b⟩
theorem e_zero (w : World) : Calls Try.prog 19 #[.int .u64 0, .int .u64 9223372036854775808] w fun e w' => e = .returned (.bool true) ∧ w = w' :=
  (equal_ok 0 9223372036854775808 w).mono fun _ _ ⟨a, b⟩ => ⟨by rw [a]; exact ret_bool (by decide +kernel), b⟩
theorem e_nan (w : World) : Calls Try.prog 19 #[.int .u64 9221120237041090560, .int .u64 9221120237041090560] w fun e w' => e = .returned (.bool false) ∧ w = w' :=
  (equal_ok 9221120237041090560 9221120237041090560 w).mono fun _ _ ⟨a, b⟩ => ⟨by rw [a]; exact ret_bool (by decide +kernel), b⟩
theorem l_zero (w : World) : Calls Try.prog 17 #[.int .u64 9223372036854775808, .int .u64 0] w fun e w' => e = .returned (.bool false) ∧ w = w' :=
  (less_ok 9223372036854775808 0 w).mono fun _ _ ⟨a, b⟩ => ⟨by rw [a]; exact ret_bool (by decide +kernel), b⟩
theorem w_two (w : World) : Calls Try.prog 24 #[.int .u64 4611686018427387904] w fun e w' => e = .returned (.tuple #[.int .i64 2, .bool true]) ∧ w = w' :=
  (whole_ok 4611686018427387904 w).mono fun _ _ ⟨a, b⟩ => ⟨by rw [a]; exact ret_pair (by decide +kernel) (by decide +kernel), b⟩
theorem w_not (w : World) : Calls Try.prog 24 #[.int .u64 4607182418800017409] w fun e w' => e = .returned (.tuple #[.int .i64 0, .bool false]) ∧ w = w' :=
  (whole_ok 4607182418800017409 w).mono fun _ _ ⟨a, b⟩ => ⟨by rw [a]; exact ret_pair (by decide +kernel) (by decide +kernel), b⟩
theorem v_big (w : World) : Calls Try.prog 26 #[.int .i64 9007199254740993, .int .u64 4845873199050653696] w fun e w' => e = .returned (.tuple #[.int .i64 1, .bool true]) ∧ w = w' :=
  (versus_ok 9007199254740993 4845873199050653696 w).mono fun _ _ ⟨a, b⟩ => ⟨by rw [a]; exact ret_pair (by decide +kernel) (by decide +kernel), b⟩
theorem v_nan (w : World) : Calls Try.prog 26 #[.int .i64 0, .int .u64 9221120237041090560] w fun e w' => e = .returned (.tuple #[.int .i64 0, .bool false]) ∧ w = w' :=
  (versus_ok 0 9221120237041090560 w).mono fun _ _ ⟨a, b⟩ => ⟨by rw [a]; exact ret_pair (by decide +kernel) (by decide +kernel), b⟩

set_option maxRecDepth 100000 in
set_option maxHeartbeats 2000000 in
theorem awake_ok (w : World) : Calls Try.prog 21 #[] w fun e w' => e = .returned (.bool true) ∧ ∃ n, w' = w.drewN n := by
  go_enter Try.func21, Try.ntmps21
  go_wp2_with (first | (go_at_call 9; (with_reducible refine (k_zero _).mono ?_); rintro e w' ⟨rfl, rfl⟩) | (go_at_call 9; (with_reducible refine (k_tiny _).mono ?_); rintro e w' ⟨rfl, rfl⟩) | (go_at_call 9; (with_reducible refine (k_one _).mono ?_); rintro e w' ⟨rfl, rfl⟩) | (go_at_call 9; (with_reducible refine (k_inf _).mono ?_); rintro e w' ⟨rfl, rfl⟩) | (go_at_call 9; (with_reducible refine (k_nan _).mono ?_); rintro e w' ⟨rfl, rfl⟩) | (go_at_call 11; (with_reducible refine (c_nan _).mono ?_); rintro e w' ⟨rfl, rfl⟩) | (go_at_call 22; (with_reducible refine (a_one _).mono ?_); rintro e w' ⟨rfl, rfl⟩) | (go_at_call 22; (with_reducible refine (a_inf _).mono ?_); rintro e w' ⟨rfl, rfl⟩) | (go_at_call 15; (with_reducible refine (n_zero _).mono ?_); rintro e w' ⟨rfl, rfl⟩) | (go_at_call 13; (with_reducible refine (r_top _).mono ?_); rintro e w' ⟨rfl, rfl⟩) | (go_at_call 13; (with_reducible refine (r_zero _).mono ?_); rintro e w' ⟨rfl, rfl⟩) | (go_at_call 28; (with_reducible refine (i_big _).mono ?_); rintro e w' ⟨rfl, rfl⟩) | (go_at_call 28; (with_reducible refine (i_neg _).mono ?_); rintro e w' ⟨rfl, rfl⟩) | (go_at_call 19; (with_reducible refine (e_zero _).mono ?_); rintro e w' ⟨rfl, rfl⟩) | (go_at_call 19; (with_reducible refine (e_nan _).mono ?_); rintro e w' ⟨rfl, rfl⟩) | (go_at_call 17; (with_reducible refine (l_zero _).mono ?_); rintro e w' ⟨rfl, rfl⟩) | (go_at_call 24; (with_reducible refine (w_two _).mono ?_); rintro e w' ⟨rfl, rfl⟩) | (go_at_call 24; (with_reducible refine (w_not _).mono ?_); rintro e w' ⟨rfl, rfl⟩) | (go_at_call 26; (with_reducible refine (v_big _).mono ?_); rintro e w' ⟨rfl, rfl⟩) | (go_at_call 26; (with_reducible refine (v_nan _).mono ?_); rintro e w' ⟨rfl, rfl⟩))
  go_ret
  exact ⟨rfl, 2, rfl⟩
end Go.Proofs.Ytjcjaakbiiefkaa
