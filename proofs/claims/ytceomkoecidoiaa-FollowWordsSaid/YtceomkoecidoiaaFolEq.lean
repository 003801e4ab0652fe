/-
  Two arrays of two numbers, held against each other.
-/
import Derived.Test.YtceomkoecidoiaaFolAlike
namespace Go.Proofs.Ytceomkoecidoiaa
open Go.RowKit

theorem pair_eq0 (a b c d : Int) (w : World) : (Op.equalIn 10000 81 (.agg #[.int .u32 a, .int .u32 b]) (.agg #[.int .u32 c, .int .u32 d])).run Try.prog w =
    (if (!(a == c)) = true then .ok false w else if (!(b == d)) = true then .ok false w else .ok true w) := by
  have h1 : ∀ (x y : Int), (Op.equalIn 9999 27 (.int .u32 x) (.int .u32 y)).run Try.prog w = .ok (x == y) w := fun x y => by
    rw [show (9999 : Nat) = 9998 + 1 from rfl]
    unfold Op.equalIn
    simp [Sem.run_bind, run_underlying Try.underlying27]
  rw [show (10000 : Nat) = 9999 + 1 from rfl]
  unfold Op.equalIn
  simp only [Sem.run_bind, run_underlying Try.underlying81, Result.andThen_ok]
  simp [part]
  rw [show List.range' 0 2 = [0, 1] from rfl]
  by_cases hac : a = c
  · by_cases hbd : b = d
    · simp [h1, hac, hbd]
    · simp [h1, hac, hbd]
  · simp [h1, hac]

theorem pair_eq (a b c d : Int) (w : World) : (Op.equalIn 10000 81 (.agg #[.int .u32 a, .int .u32 b]) (.agg #[.int .u32 c, .int .u32 d])).run Try.prog w = .ok (a == c && b == d) w := by
  rw [pair_eq0]
  by_cases hac : a = c <;> by_cases hbd : b = d <;> simp [hac, hbd]
end Go.Proofs.Ytceomkoecidoiaa
