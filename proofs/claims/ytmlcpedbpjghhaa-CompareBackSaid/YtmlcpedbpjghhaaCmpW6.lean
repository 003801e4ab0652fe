/-
  cmp.Compare, walked.
-/
import Derived.Test.YtmlcpedbpjghhaaCmpW5
import Derived.Test.YtmlcpedbpjghhaaRealKeyLaw
import Derived.WalkLawsBesides
namespace Go.Proofs.Ytmlcpedbpjghhaa
open Go.RowKit

theorem nan8_ok (a : Int) (w : World) : Calls Try.prog 79 #[.int .u8 a] w fun e w' => e = .returned (.bool false) ∧ w = w' := by
  go_enter Try.func79, Try.ntmps79
  go_wp2
  go_ret
  exact ⟨rfl, rfl⟩
theorem cmp8_ok (a b : Int) (w : World) : Calls Try.prog 67 #[.int .u8 a, .int .u8 b] w fun e w' => e = .returned (.int .i64 (cmpI a b)) ∧ w = w' := by
  go_enter Try.func67, Try.ntmps67
  go_wp2_with (go_at_call 79; refine (nan8_ok _ _).mono ?_; rintro e w' ⟨rfl, rfl⟩)
  all_goals go_ret
  all_goals exact ⟨retI (by unfold cmpI; (repeat' split) <;> omega), rfl⟩
theorem nanI_ok (a : Int) (w : World) : Calls Try.prog 80 #[.int .i64 a] w fun e w' => e = .returned (.bool false) ∧ w = w' := by
  go_enter Try.func80, Try.ntmps80
  go_wp2
  go_ret
  exact ⟨rfl, rfl⟩
theorem cmpI_ok (a b : Int) (w : World) : Calls Try.prog 68 #[.int .i64 a, .int .i64 b] w fun e w' => e = .returned (.int .i64 (cmpI a b)) ∧ w = w' := by
  go_enter Try.func68, Try.ntmps68
  go_wp2_with (go_at_call 80; refine (nanI_ok _ _).mono ?_; rintro e w' ⟨rfl, rfl⟩)
  all_goals go_ret
  all_goals exact ⟨retI (by unfold cmpI; (repeat' split) <;> omega), rfl⟩
theorem nan64_ok (a : Int) (w : World) : Calls Try.prog 81 #[.int .u64 a] w fun e w' => e = .returned (.bool false) ∧ w = w' := by
  go_enter Try.func81, Try.ntmps81
  go_wp2
  go_ret
  exact ⟨rfl, rfl⟩
theorem cmp64_ok (a b : Int) (w : World) : Calls Try.prog 69 #[.int .u64 a, .int .u64 b] w fun e w' => e = .returned (.int .i64 (cmpI a b)) ∧ w = w' := by
  go_enter Try.func69, Try.ntmps69
  go_wp2_with (go_at_call 81; refine (nan64_ok _ _).mono ?_; rintro e w' ⟨rfl, rfl⟩)
  all_goals go_ret
  all_goals exact ⟨retI (by unfold cmpI; (repeat' split) <;> omega), rfl⟩
theorem nanS_ok (a : ByteArray) (w : World) : Calls Try.prog 82 #[.string a] w fun e w' => e = .returned (.bool false) ∧ w = w' := by
  go_enter Try.func82, Try.ntmps82
  go_wp2
  go_ret
  exact ⟨rfl, rfl⟩
/-- how texts stand -/
def cmpT (a b : List UInt8) : Int := if Op.bytesLess a b = true then -1 else if (a == b) = true then 0 else 1
theorem cmpS_ok (a b : ByteArray) (w : World) : Calls Try.prog 71 #[.string a, .string b] w fun e w' => e = .returned (.int .i64 (cmpT a.toList b.toList)) ∧ w = w' := by
  have H : Hid (∀ x y, cmpT x y = if Op.bytesLess x y = true then -1 else if (x == y) = true then 0 else 1) := Lib.hid fun _ _ => rfl
  go_enter Try.func71, Try.ntmps71
  go_wp2_with (go_at_call 82; refine (nanS_ok _ _).mono ?_; rintro e w' ⟨rfl, rfl⟩)
  all_goals go_ret
  all_goals refine ⟨retI ?_, rfl⟩
  all_goals rw [H.out]
  all_goals simp_all
end Go.Proofs.Ytmlcpedbpjghhaa
