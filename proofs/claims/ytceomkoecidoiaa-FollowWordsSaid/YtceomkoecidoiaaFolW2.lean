/-
  Has, walked.
-/
import Derived.Test.YtceomkoecidoiaaFolBits
namespace Go.Proofs.Ytceomkoecidoiaa
open Go.RowKit

theorem has_fact (x i : Nat) (hx : x < 4294967296) : (Go.bits BinOp.and IntKind.u32 ((x : Int) / 2 ^ i) 1 == 1) = x.testBit i := by
  have e : ((x : Int) / 2 ^ i) = ((x / 2 ^ i : Nat) : Int) := by
    rw [Int.natCast_ediv, Int.natCast_pow]; rfl
  rw [e, show (1 : Int) = ((1 : Nat) : Int) from rfl, u32_and_nat _ _ (Nat.lt_of_le_of_lt (Nat.div_le_self _ _) hx) (by omega), Nat.and_one_is_mod, Nat.testBit_eq_decide_div_mod_eq]
  by_cases h : x / 2 ^ i % 2 = 1
  · simp [h]
  · simp only [h, decide_false, beq_eq_false_iff_ne, ne_eq]
    omega

theorem has_in (x i : Nat) (hx : x < 4294967296) (hi : i < 32) (w : World) : Calls Try.prog 14 #[.int .u32 x, .int .i64 i] w fun e w' => e = .returned (.bool (x.testBit i)) ∧ w = w' := by
  have h1 : (0 : Int) ≤ i := by omega
  have h2 : (i : Int) < 32 := by omega
  have h3 := hid (has_fact x i hx)
  go_enter Try.func14, Try.ntmps14
  go_wp2
  go_ret
  exact ⟨by rw [← h3.out]; rfl, rfl⟩

theorem has_out (x i : Int) (hi : i < 0 ∨ 32 ≤ i) (w : World) : Calls Try.prog 14 #[.int .u32 x, .int .i64 i] w fun e w' => e = .returned (.bool false) ∧ w = w' := by
  by_cases h1 : 0 ≤ i
  · have h2 : ¬ i < 32 := by omega
    go_enter Try.func14, Try.ntmps14
    go_wp2
    go_ret
    exact ⟨rfl, rfl⟩
  · go_enter Try.func14, Try.ntmps14
    go_wp2
    go_ret
    exact ⟨rfl, rfl⟩

theorem has_any (x : Nat) (i : Int) (hx : x < 4294967296) (w : World) : Calls Try.prog 14 #[.int .u32 x, .int .i64 i] w fun e w' => e = .returned (.bool (decide (0 ≤ i ∧ i < 32) && x.testBit i.toNat)) ∧ w = w' := by
  by_cases h : 0 ≤ i ∧ i < 32
  · obtain ⟨k, rfl⟩ : ∃ k : Nat, i = k := ⟨i.toNat, by omega⟩
    have := has_in x k hx (by omega) w
    simpa [h] using this
  · have := has_out x i (by omega) w
    simpa [h] using this

end Go.Proofs.Ytceomkoecidoiaa
