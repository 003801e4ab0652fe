/-
  RealTells walked.
-/
import Derived.Test.YtjcjaakbiiefkaaRealAwake
namespace Go.Proofs.Ytjcjaakbiiefkaa
open Go.RowKit

set_option maxRecDepth 100000 in
set_option maxHeartbeats 2000000 in
theorem realTells_law (a : Nat) (ha : a < 18446744073709551616) (b : Nat) (hb : b < 18446744073709551616) (w : World) : Calls Try.prog 3 #[.int .u64 a, .int .u64 b] w fun e w' => e = .returned (.bool true) ∧ ∃ n, w' = w.drewN n := by
  go_enter Try.func3, Try.ntmps3
  go_wp2_with (first | (go_at_call 9; refine (kind_any a ha _).mono ?_; rintro e w' ⟨rfl, n, rfl⟩) | (go_at_call 10; refine (refKind_ok a ha _).mono ?_; rintro e w' ⟨rfl, rfl⟩) | (go_at_call 11; refine (clean_ok a _).mono ?_; rintro e w' ⟨rfl, rfl⟩) | (go_at_call 12; refine (refClean_ok a ha _).mono ?_; rintro e w' ⟨rfl, rfl⟩) | (go_at_call 13; refine (rank_ok a ha _).mono ?_; rintro e w' ⟨rfl, rfl⟩) | (go_at_call 14; refine (refRank_ok a ha _).mono ?_; rintro e w' ⟨rfl, rfl⟩) | (go_at_call 15; refine (neg_ok a ha _).mono ?_; rintro e w' ⟨rfl, rfl⟩) | (go_at_call 16; refine (refNeg_ok a ha _).mono ?_; rintro e w' ⟨rfl, rfl⟩) | (go_at_call 17; refine (less_ok a b _).mono ?_; rintro e w' ⟨rfl, rfl⟩) | (go_at_call 18; refine (refLess_ok a b ha hb _).mono ?_; rintro e w' ⟨rfl, rfl⟩) | (go_at_call 19; refine (equal_ok a b _).mono ?_; rintro e w' ⟨rfl, rfl⟩) | (go_at_call 20; refine (refEqual_ok a b ha hb _).mono ?_; rintro e w' ⟨rfl, rfl⟩) | (go_at_call 21; refine (awake_ok _).mono ?_; rintro e w' ⟨rfl, n, rfl⟩))
  go_ret
  exact ⟨rfl, _, rfl⟩
end Go.Proofs.Ytjcjaakbiiefkaa
