/-
  RealAdds walked.
-/
import Derived.Test.YtjcjaakbiiefkaaRealAwake
import Derived.Test.YtjcjaakbiiefkaaRealW9
namespace Go.Proofs.Ytjcjaakbiiefkaa
open Go.RowKit

set_option maxRecDepth 100000 in
theorem realAdds_law (a : Nat) (ha : a < 18446744073709551616) (b : Nat) (hb : b < 18446744073709551616) (w : World) : Calls Try.prog 4 #[.int .u64 a, .int .u64 b] w fun e w' => e = .returned (.bool true) ∧ ∃ n, w' = w.drewN n := by
  go_enter Try.func4, Try.ntmps4
  go_wp2_with (first | (go_at_call 22; refine (add_any a b ha hb _).mono ?_; rintro e w' ⟨rfl, n, rfl⟩) | (go_at_call 23; refine (refAdd_ok a b ha hb _).mono ?_; rintro e w' ⟨rfl, rfl⟩) | (go_at_call 21; refine (awake_ok _).mono ?_; rintro e w' ⟨rfl, n, rfl⟩))
  go_ret
  exact ⟨rfl, _, rfl⟩
end Go.Proofs.Ytjcjaakbiiefkaa
