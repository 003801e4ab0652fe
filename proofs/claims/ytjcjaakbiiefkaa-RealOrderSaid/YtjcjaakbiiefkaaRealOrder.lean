/-
  RealOrder walked.
-/
import Derived.Test.YtjcjaakbiiefkaaRealAwake
import Derived.Test.YtjcjaakbiiefkaaRealOrderLaw
namespace Go.Proofs.Ytjcjaakbiiefkaa
open Go.RowKit

theorem bne_nan (u : Nat) : (((kindN u : Nat) : Int) != 5) = !isNan u := by rw [bne, beq_nan]

set_option maxRecDepth 100000 in
set_option maxHeartbeats 4000000 in
theorem realOrder_law (a : Nat) (ha : a < 18446744073709551616) (b : Nat) (hb : b < 18446744073709551616) (w : World) : Calls Try.prog 6 #[.int .u64 a, .int .u64 b] w fun e w' => e = .returned (.bool true) ∧ ∃ n, w' = w.drewN n := by
  have h1 := rank_beq ha hb
  have h2 := Lib.hid (neg_negN ha)
  have h3 : (((cleanN (cleanN a) : Nat) : Int) == ((cleanN a : Nat) : Int)) = true := by rw [clean_clean]; simp
  have h4 := less_negN ha hb
  have h5 := bne_nan a
  have h6 := bne_nan b
  have hna := Lib.hid (negN_lt ha)
  have hnb := Lib.hid (negN_lt hb)
  rcases stands a b with ⟨l1, l2, e1, e2, n1, n2⟩ | ⟨l1, l2, e1, e2, n1, n2⟩ | ⟨l1, l2, e1, e2, n1, n2⟩ | ⟨l1, l2, e1, e2, n1 | ⟨n1, n2⟩⟩
  all_goals
    have hr : lessB a b = true → decide (rankN b ≤ rankN a) = false := rank_lt ha hb
    rw [l1] at h4
    try (have hr' := hr l1)
    rw [n1] at h5
    try rw [n2] at h6
    try clear n2
    clear hr n1
    go_enter Try.func6, Try.ntmps6
    go_wp2_with (first | (go_at_call 13; refine (rank_ok _ (by assumption) _).mono ?_; rintro e w' ⟨rfl, rfl⟩) | (go_at_call 11; refine (clean_ok _ _).mono ?_; rintro e w' ⟨rfl, rfl⟩) | (go_at_call 17; refine (less_ok _ _ _).mono ?_; rintro e w' ⟨rfl, rfl⟩) | (go_at_call 19; refine (equal_ok _ _ _).mono ?_; rintro e w' ⟨rfl, rfl⟩) | (go_at_call 9; refine (kind_any _ (by assumption) _).mono ?_; rintro e w' ⟨rfl, n, rfl⟩) | (go_at_call 15; (first | refine (neg_ok a ha _).mono ?_ | refine (neg_ok b hb _).mono ?_ | refine (neg_ok (negN a) hna.out _).mono ?_); rintro e w' ⟨rfl, rfl⟩; try rw [h2.out]) | (go_at_call 21; refine (awake_ok _).mono ?_; rintro e w' ⟨rfl, n, rfl⟩))
    go_ret
    exact ⟨rfl, _, rfl⟩
end Go.Proofs.Ytjcjaakbiiefkaa
