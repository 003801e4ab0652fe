/-
  RealWhole walked.
-/
import Derived.Test.YtjcjaakbiiefkaaRealAwake
import Derived.Test.YtjcjaakbiiefkaaRealW13
namespace Go.Proofs.Ytjcjaakbiiefkaa
open Go.RowKit

set_option maxRecDepth 100000 in
set_option maxHeartbeats 2000000 in
theorem realWhole_law (n : Int) (hn : -9223372036854775808 ≤ n ∧ n ≤ 9223372036854775807) (u : Nat) (hu : u < 18446744073709551616) (w : World) : Calls Try.prog 5 #[.int .i64 n, .int .u64 u] w fun e w' => e = .returned (.bool true) ∧ ∃ n, w' = w.drewN n := by
  have Hn := Lib.hid hn
  clear hn
  go_enter Try.func5, Try.ntmps5
  go_wp2_with (first | (go_at_call 24; refine (whole_ok u _).mono ?_; rintro e w' ⟨rfl, rfl⟩) | (go_at_call 25; refine (refWhole_ok u hu _).mono ?_; rintro e w' ⟨rfl, rfl⟩) | (go_at_call 26; refine (versus_ok n u _).mono ?_; rintro e w' ⟨rfl, rfl⟩) | (go_at_call 27; refine (refVersus_ok n u hu _).mono ?_; rintro e w' ⟨rfl, rfl⟩) | (go_at_call 28; refine (ofInt_ok n _).mono ?_; rintro e w' ⟨rfl, rfl⟩) | (go_at_call 29; refine (refOfInt_ok n Hn.out _).mono ?_; rintro e w' ⟨rfl, rfl⟩) | (go_at_call 21; refine (awake_ok _).mono ?_; rintro e w' ⟨rfl, n, rfl⟩))
  go_ret
  exact ⟨rfl, _, rfl⟩
end Go.Proofs.Ytjcjaakbiiefkaa
