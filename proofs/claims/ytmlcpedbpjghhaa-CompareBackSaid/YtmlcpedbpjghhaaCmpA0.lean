/-
  What every right program makes of some values: the parts.
-/
import Derived.Test.YtmlcpedbpjghhaaCmpH6
import Derived.Test.YtmlcpedbpjghhaaCmpS2
namespace Go.Proofs.Ytmlcpedbpjghhaa
open Go.RowKit

/-- two values lie in memory, and nothing that was there has changed -/
theorem eql_V (k n u k' n' u' : Int) (s s' : ByteArray) (w : World) : (binOp .eql 28 (.agg #[.int .u8 k, .int .i64 n, .int .u64 u, .string s]) (.agg #[.int .u8 k', .int .i64 n', .int .u64 u', .string s'])).run Try.prog w = .ok (.bool (k == k' && n == n' && u == u' && s.toList == s'.toList)) w := by
  simp only [binOp]
  simp [Op.equal, Op.maxDepth, run_equalIn_struct (P := Try.prog) w 9999 28 _ _ (by rfl) (by kernel_rfl), go_sem]
  by_cases h1 : k = k' <;> by_cases h2 : n = n' <;> by_cases h3 : u = u' <;> by_cases h4 : s.toList = s'.toList <;> simp [h1, h2, h3, h4]
/-- the kind of a sum -/
def sumK (a b : Int) : Int := if numB a = true ∧ numB b = true then max a b else 0
theorem sum_kinds (a b : Int) (w : World) : Calls Try.prog 16 #[.int .u8 a, .int .u8 b] w fun e w' => e = .returned (.int .u8 (sumK a b)) ∧ w = w' := by
  have H : Hid (sumK a b = if numB a = true ∧ numB b = true then max a b else 0) := Lib.hid rfl
  cases c1 : numB a <;> cases c2 : numB b
  all_goals
    go_enter Try.func16, Try.ntmps16
    go_wp2_with (go_at_call 26; refine (numeric_v _ _).mono ?_; rintro e w' ⟨rfl, rfl⟩)
    all_goals go_ret
    all_goals exact ⟨retI (by rw [H.out, c1, c2]; first | rfl | (simp; done) | (simp; omega)), rfl⟩
/-- whether kinds may be put in order -/
def fitsB (a b : Int) : Bool := (numB a && numB b) || (a == 4 && b == 4)
theorem sumk_ne {a b : Int} : (sumK a b != 0) = (numB a && numB b) := by
  unfold sumK
  cases c1 : numB a <;> cases c2 : numB b
  · simp
  · simp
  · simp
  · have h1 := num_cases c1
    have h2 := num_cases c2
    simp; omega
theorem fits_lt (a b : Int) (w : World) : Calls Try.prog 18 #[.int .u8 3, .int .u8 a, .int .u8 b] w fun e w' => e = .returned (.bool (fitsB a b)) ∧ w = w' := by
  have H : Hid (∀ x y : Bool, x = y → Ending.returned (.bool x) = .returned (.bool y)) := Lib.hid fun _ _ h => by rw [h]
  have hs := @sumk_ne a b
  cases c : numB a && numB b
  · rw [c] at hs
    by_cases h1 : a = b
    · subst h1
      by_cases h2 : a = 4
      · have t2 : (a == 4) = true := by simpa using h2
        clear h2
        go_enter Try.func18, Try.ntmps18
        go_wp2_with (go_at_call 16; refine (sum_kinds _ _ _).mono ?_; rintro e w' ⟨rfl, rfl⟩)
        go_ret
        exact ⟨H.out _ _ (by unfold fitsB; rw [c, t2]; rfl), rfl⟩
      · have t2 : (a == 4) = false := by simpa using h2
        clear h2
        go_enter Try.func18, Try.ntmps18
        go_wp2_with (go_at_call 16; refine (sum_kinds _ _ _).mono ?_; rintro e w' ⟨rfl, rfl⟩)
        go_ret
        exact ⟨H.out _ _ (by unfold fitsB; rw [c, t2]; rfl), rfl⟩
    · have t1 : (a == b) = false := by simpa using h1
      have H2 : Hid (fitsB a b = false) := Lib.hid (by unfold fitsB; rw [c]; simp; omega)
      clear h1
      go_enter Try.func18, Try.ntmps18
      go_wp2_with (go_at_call 16; refine (sum_kinds _ _ _).mono ?_; rintro e w' ⟨rfl, rfl⟩)
      go_ret
      exact ⟨H.out _ _ H2.out.symm, rfl⟩
  · rw [c] at hs
    go_enter Try.func18, Try.ntmps18
    go_wp2_with (go_at_call 16; refine (sum_kinds _ _ _).mono ?_; rintro e w' ⟨rfl, rfl⟩)
    go_ret
    exact ⟨H.out _ _ (by unfold fitsB; rw [c]; rfl), rfl⟩
theorem sign_ge (w : World) : Calls Try.prog 24 #[.int .u8 6] w fun e w' => e = .returned (.string ⟨#[62, 61]⟩) ∧ w = w' := by
  go_enter Try.func24, Try.ntmps24
  go_wp2
  go_ret
  exact ⟨rfl, rfl⟩
theorem sign_1 (w : World) : Calls Try.prog 24 #[.int .u8 1] w fun e w' => e = .returned (.string ⟨#[61]⟩) ∧ w = w' := by
  go_enter Try.func24, Try.ntmps24
  go_wp2
  go_ret
  exact ⟨rfl, rfl⟩
theorem sign_2 (w : World) : Calls Try.prog 24 #[.int .u8 2] w fun e w' => e = .returned (.string ⟨#[33, 61]⟩) ∧ w = w' := by
  go_enter Try.func24, Try.ntmps24
  go_wp2
  go_ret
  exact ⟨rfl, rfl⟩
theorem op_ne (w : World) : Calls Try.prog 25 #[.string ⟨#[33, 61]⟩] w fun e w' => e = .returned (.int .u8 2) ∧ w = w' := by
  go_enter Try.func25, Try.ntmps25
  go_wp2
  go_loop [3] (fun i => ∃ j : Int, (j = 1 ∨ j = 2) ∧ i = .int .u8 j) (fun i => (3 - intOf i).toNat)
  case atStart => exact ⟨1, .inl rfl, rfl⟩
  case round =>
    obtain ⟨j, hj, rfl⟩ := hrel
    rcases hj with rfl | rfl
    · go_wp2_with (go_at_call 24; refine (sign_1 _).mono ?_; rintro e w' ⟨rfl, rfl⟩)
      go_round
      case rel => exact ⟨2, .inr rfl, rfl⟩
      case measure => simp [intOf]
    · go_wp2_with (go_at_call 24; refine (sign_2 _).mono ?_; rintro e w' ⟨rfl, rfl⟩)
      go_ret
      exact ⟨rfl, rfl⟩
end Go.Proofs.Ytmlcpedbpjghhaa
