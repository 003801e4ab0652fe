/-
  The small functions on doubles, walked.
-/
import Derived.Test.YtmlcpedbpjghhaaRows
import Derived.Test.YtmlcpedbpjghhaaRealDefs
import Derived.Deep.QuietTactic
import Derived.BigQuiet
import Derived.StillTailTactics
import Derived.Deep.RegionWith
import Derived.Deep.RegionHeld3
import Derived.Deep.LoopGhost
import Derived.Deep.DeepCutAuto
import Derived.Lib.Hide
import Derived.Laws.Cover2
import Derived.Laws.BitsAllLaws
import Derived.Laws.BitsLemmas
namespace Go.Proofs.Ytmlcpedbpjghhaa
open Go.RowKit

theorem run_from (u : Nat) (w : World) : (callFunc 62 #[.int .u64 u]).run Try.prog w = .ok (.value (.float .f64 u)) w := by kernel_rfl
theorem run_to (u : Nat) (w : World) : (callFunc 74 #[.float .f64 u]).run Try.prog w = .ok (.value (.int .u64 u)) w := by kernel_rfl

theorem of_ok (u : Nat) (w : World) : Calls Try.prog 44 #[.int .u64 u] w fun e w' => e = .returned (.float .f64 u) ∧ w = w' := by
  have h := run_from u
  go_enter Try.func44, Try.ntmps44
  go_wp2_with fail
  go_ret
  exact ⟨rfl, rfl⟩

theorem order_eq {a b : Nat} (ha : isNan a = false) (hb : isNan b = false) : (Ieee.double.order a b == some .eq) = decide (key a = key b) := by
  rw [order_key ha hb]
  by_cases h : key a = key b
  · simp [h]
  · have : compare (key a) (key b) ≠ .eq := fun e => h (Int.compare_eq_eq.1 e)
    simp [h, this]
theorem order_lt {a b : Nat} (ha : isNan a = false) (hb : isNan b = false) : (Ieee.double.order a b == some .lt) = decide (key a < key b) := by
  rw [order_key ha hb]
  by_cases h : key a < key b
  · simp [h, Int.compare_eq_lt.2 h]
  · have : compare (key a) (key b) ≠ .lt := fun e => h (Int.compare_eq_lt.1 e)
    simp [h, this]

theorem order_nan {a b : Nat} (h : isNan a = true ∨ isNan b = true) : Ieee.double.order a b = none := by
  unfold Ieee.Format.order
  rw [← nan_iff, ← nan_iff] at h
  cases ha : Ieee.double.read a <;> cases hb : Ieee.double.read b <;> simp_all [Ieee.Datum.isNaN, Ieee.Datum.order]

def lessB (a b : Nat) : Bool := !isNan a && !isNan b && decide (key a < key b)
def equalB (a b : Nat) : Bool := !isNan a && !isNan b && decide (key a = key b)
theorem order_less (a b : Nat) : (Ieee.double.order a b == some .lt) = lessB a b := by
  unfold lessB
  cases ha : isNan a
  · cases hb : isNan b
    · rw [order_lt ha hb]; rfl
    · rw [order_nan (.inr hb)]; rfl
  · rw [order_nan (.inl ha)]; rfl
theorem order_equal (a b : Nat) : (Ieee.double.order a b == some .eq) = equalB a b := by
  unfold equalB
  cases ha : isNan a
  · cases hb : isNan b
    · rw [order_eq ha hb]; rfl
    · rw [order_nan (.inr hb)]; rfl
  · rw [order_nan (.inl ha)]; rfl

theorem less_ok (a b : Nat) (w : World) : Calls Try.prog 64 #[.int .u64 a, .int .u64 b] w fun e w' => e = .returned (.bool (lessB a b)) ∧ w = w' := by
  have h : (FloatKind.f64.format.order a b == some .lt) = lessB a b := order_less a b
  go_enter Try.func64, Try.ntmps64
  go_wp2_with (go_at_call 44; refine (of_ok _ _).mono ?_; rintro e w' ⟨rfl, rfl⟩)
  go_ret
  exact ⟨rfl, rfl⟩
theorem equal_ok (a b : Nat) (w : World) : Calls Try.prog 63 #[.int .u64 a, .int .u64 b] w fun e w' => e = .returned (.bool (equalB a b)) ∧ w = w' := by
  have h : (FloatKind.f64.format.order a b == some .eq) = equalB a b := order_equal a b
  go_enter Try.func63, Try.ntmps63
  go_wp2_with (go_at_call 44; refine (of_ok _ _).mono ?_; rintro e w' ⟨rfl, rfl⟩)
  go_ret
  exact ⟨rfl, rfl⟩
end Go.Proofs.Ytmlcpedbpjghhaa
