/-
  The document's mesh: May, There, walked.
-/
import Derived.Test.YtakhmommcgfoaaaMeS1
namespace Go.Proofs.Ytakhmommcgfoaaa
open Go.RowKit

def mayB (a n : Int) : Bool := decide (1 ≤ a) && decide (a ≤ 16) && decide (1 ≤ n) && decide (n ≤ 4096)
theorem refMay_ok (a n : Int) (w : World) :
    Calls Try.prog 7 #[.int .i64 a, .int .i64 n] w fun e w' => e = .returned (.bool (mayB a n)) ∧ w = w' := by
  unfold mayB
  cases t1 : decide (1 ≤ a) <;> cases t2 : decide (a ≤ 16) <;> cases t3 : decide (1 ≤ n) <;> cases t4 : decide (n ≤ 4096)
  all_goals
    go_enter Try.func7, Try.ntmps7
    go_wp2
    go_ret
    exact ⟨rfl, rfl⟩

def rmV (W c : Int) (v : Value) : Value := .agg #[.int .i64 W, .int .i64 c, v]
theorem refThere_ok (W : Nat) (c a b : Int) (s : Option Addr) (n k : Nat) (w : World) :
    Calls Try.prog 28 #[rmV W c (.slice s n k), .int .i64 a, .int .i64 b] w fun e w' => e = .returned (.bool (decide (thereI W a b))) ∧ Fr (fun _ => False) w w' := by
  have hd : decide (thereI W a b) = (decide (0 ≤ a) && decide (a < (W : Int)) && decide (0 ≤ b) && decide (b < (W : Int))) := by
    rw [Bool.eq_iff_iff, decide_eq_true_iff]
    simp [thereI, and_assoc]
  rw [hd]
  clear hd
  unfold rmV
  cases t1 : decide (0 ≤ a) <;> cases t2 : decide (a < (W : Int)) <;> cases t3 : decide (0 ≤ b) <;> cases t4 : decide (b < (W : Int))
  all_goals
    go_enter Try.func28, Try.ntmps28
    go_wp2
    go_ret
    exact ⟨rfl, (Fr.refl _ _).alloc _⟩

end Go.Proofs.Ytakhmommcgfoaaa
