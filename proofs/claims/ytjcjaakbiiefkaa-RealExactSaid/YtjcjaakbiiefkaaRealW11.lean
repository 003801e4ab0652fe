/-
  Whole of the document, walked.
-/
import Derived.Test.YtjcjaakbiiefkaaRealW10
import Derived.Deep.CutBlock
import Derived.Laws.Unary
namespace Go.Proofs.Ytjcjaakbiiefkaa
open Go.RowKit

theorem ret_two {a b : Int} {x y : Bool} (h : a = b) (k : x = y) : Ending.returned (.tuple #[.int .i64 a, .bool x]) = .returned (.tuple #[.int .i64 b, .bool y]) := by rw [h, k]

/-- the loops' relation of the document's Whole -/
def WIs (u m e : Nat) : Prop := Is u m e ∧ e ≤ 2047 ∧ m < 2 ^ 53 ∧ True
def WIs2 (u m e : Nat) : Prop := Is u m e ∧ e ≤ 2047 ∧ m ≤ 2 ^ 63 ∧ (m = 0 ∨ 1075 ≤ e)

set_option maxRecDepth 100000 in
set_option maxHeartbeats 4000000 in
theorem refWhole_ok (u : Nat) (hu : u < 18446744073709551616) (w : World) : Calls Try.prog 25 #[.int .u64 u] w fun e w' => e = .returned (.tuple #[.int .i64 (wholeN u), .bool (isWhole u)]) ∧ w = w' := by
  by_cases hf : rung u < infR
  · have he : ((expN u : Int) == 2047) = false := by
      have := exp_inf u
      simp; omega
    have hst : WIs u (mantN u) (scaleN u) := ⟨is_start u, scale_lt u, mant_lt u, trivial⟩
    have Hf := Lib.hid hf
    have Hst := Lib.hid hst
    clear hf hst
    go_enter Try.func25, Try.ntmps25
    go_upto_block 0 with (first | (go_at_call 31; refine (exp_ok _ hu _).mono ?_; rintro e w' ⟨rfl, rfl⟩) | (go_at_call 36; refine (mantissa_ok _ hu _).mono ?_; rintro e w' ⟨rfl, rfl⟩) | (go_at_call 35; refine (scale_ok _ hu _).mono ?_; rintro e w' ⟨rfl, rfl⟩))
    clear he
    go_cut [4, 5] (fun a b wx => ∃ m e : Nat, a = .int .u64 m ∧ b = .int .i64 e ∧ WIs u m e ∧ (m = 0 ∨ 1075 ≤ e ∨ m % 2 = 1) ∧ wx = w)
    case first =>
      go_wp2
      go_loop [4, 5] (fun a b => ∃ m e : Nat, a = .int .u64 m ∧ b = .int .i64 e ∧ WIs u m e) (fun _ b => 3000 - (intOf b).toNat)
      case atStart => exact ⟨_, _, rfl, rfl, Hst.out⟩
      case round =>
        obtain ⟨m, e, rfl, rfl, hW⟩ := hrel
        have b1 : (e : Int) ≤ 2047 := by have := hW.2.1; omega
        have HW := Lib.hid hW
        clear hW
        by_cases h1 : (e : Int) < 1075
        · by_cases h2 : (0 : Int) < m
          · by_cases h3 : (m : Int) % 2 = 0
            · have h3' : ((m : Int) % 2 == 0) = true := by simpa using h3
              have H3 := Lib.hid h3
              obtain ⟨q, hq⟩ : ∃ q : Nat, (m : Int) / 2 = q := ⟨m / 2, by omega⟩
              have HQ := Lib.hid hq
              clear h3 hq
              go_wp2
              refine ⟨⟨q, e + 1, congrArg (Value.int .u64) (by rw [HQ.out, wrap_u]; have := HW.out.2.2.1; have := HQ.out; omega), by go_num, ⟨?_, by omega, ?_, trivial⟩⟩, by simp [intOf]; omega⟩
              · have := is_half HW.out.1 (by have := H3.out; omega)
                rw [show m / 2 = q by have := HQ.out; omega] at this
                exact this
              · have := HW.out.2.2.1; have := HQ.out; omega
            · have h3' : ((m : Int) % 2 == 0) = false := by simpa using h3
              have H3 := Lib.hid h3
              clear h3
              go_wp2
              go_meet
              case rel => exact ⟨m, e, rfl, rfl, HW.out, .inr (.inr (by have := H3.out; omega)), rfl⟩
          · have h4 : ((0 : Int) < m) = False := by simpa using h2
            obtain rfl : m = 0 := by omega
            clear h4 h2
            go_wp2
            go_meet
            case rel => exact ⟨0, e, rfl, rfl, HW.out, .inl rfl, rfl⟩
        · go_wp2
          go_meet
          case rel => exact ⟨m, e, rfl, rfl, HW.out, .inr (.inl (by omega)), rfl⟩
    case rest =>
      obtain ⟨m, e, rfl, rfl, hW, hx, rfl⟩ := hcut
      have b1 : (e : Int) ≤ 2047 := by have := hW.2.1; omega
      by_cases h0 : (0 : Int) < m
      · by_cases h1 : (e : Int) < 1075
        · have hn := not_whole Hf.out hW.1 (by omega) (by omega)
          clear hW hx
          go_wp2
          go_ret2
          exact ⟨ret_two (by unfold wholeN; rw [hn]; rfl) (by first | exact hn.symm | rfl), rfl⟩
        · have hst : WIs2 u m e := ⟨hW.1, hW.2.1, by have := hW.2.2.1; omega, .inr (by omega)⟩
          have Hst2 := Lib.hid hst
          clear hst hW hx
          go_upto_block 2 with (fail)
          go_cut [4, 5] (fun a b wx => ∃ m e : Nat, a = .int .u64 m ∧ b = .int .i64 e ∧ WIs2 u m e ∧ (m = 0 ∨ 2 ^ 62 < m ∨ e ≤ 1075) ∧ wx = wc)
          case first =>
            go_wp2
            go_loop [4, 5] (fun a b => ∃ m e : Nat, a = .int .u64 m ∧ b = .int .i64 e ∧ WIs2 u m e) (fun _ b => (intOf b).toNat)
            case atStart => exact ⟨_, _, rfl, rfl, Hst2.out⟩
            case round =>
              obtain ⟨m, e, rfl, rfl, hW⟩ := hrel
              have b1 : (e : Int) ≤ 2047 := by have := hW.2.1; omega
              have HW := Lib.hid hW
              clear hW
              by_cases h2 : (0 : Int) < m
              · by_cases h3 : (m : Int) ≤ 4611686018427387904
                · by_cases h1 : (1075 : Int) < e
                  · go_wp2
                    refine ⟨⟨m * 2, e - 1, by go_num, by rw [Int.natCast_sub (by omega)]; rfl, is_twice HW.out.1 (by omega), by omega, by omega, .inr (by omega)⟩, ?_⟩
                    simp [intOf]
                    omega
                  · go_wp2
                    go_meet
                    case rel => exact ⟨m, e, rfl, rfl, HW.out, .inr (.inr (by omega)), rfl⟩
                · go_wp2
                  go_meet
                  case rel => exact ⟨m, e, rfl, rfl, HW.out, .inr (.inl (by omega)), rfl⟩
              · obtain rfl : m = 0 := by omega
                clear h2
                go_wp2
                go_meet
                case rel => exact ⟨0, e, rfl, rfl, HW.out, .inl rfl, rfl⟩
          case rest =>
            obtain ⟨m, e, rfl, rfl, hW, hx, rfl⟩ := hcut
            by_cases h3 : (4611686018427387904 : Int) < m
            · have hn := too_great Hf.out hW.1 (by omega) (by have := hW.2.2.2; omega)
              clear hW hx Hst2
              go_wp2
              go_ret2
              exact ⟨ret_two (by unfold wholeN; rw [hn]; rfl) (by first | exact hn.symm | rfl), rfl⟩
            · have hn := is_whole Hf.out hW.1 (by omega) (by have := hW.2.2.2; omega)
              have hv := whole_val hn
              have Hn := Lib.hid hn.1
              have Hv := Lib.hid hv
              have hs := signB_sgn hu
              have b3 : (m : Int) ≤ 4611686018427387904 := by omega
              clear hW hx Hst2 hn hv h3
              cases hsg : sgn u
              · rw [hsg] at hs
                go_wp2_with (go_at_call 33; refine (sign_ok _ hu _).mono ?_; rintro e w' ⟨rfl, rfl⟩)
                go_ret2
                exact ⟨ret_two (by rw [Hv.out, hsg]; rfl) Hn.out.symm, rfl⟩
              · rw [hsg] at hs
                go_wp2_with (go_at_call 33; refine (sign_ok _ hu _).mono ?_; rintro e w' ⟨rfl, rfl⟩)
                go_ret2
                exact ⟨ret_two (by rw [Hv.out, hsg]; rfl) Hn.out.symm, rfl⟩
      · have hst : WIs2 u m e := ⟨hW.1, hW.2.1, by have := hW.2.2.1; omega, .inl (by omega)⟩
        have Hst2 := Lib.hid hst
        obtain rfl : m = 0 := by omega
        clear hst hW hx h0
        go_upto_block 2 with (fail)
        go_cut [4, 5] (fun a b wx => ∃ m e : Nat, a = .int .u64 m ∧ b = .int .i64 e ∧ WIs2 u m e ∧ (m = 0 ∨ 2 ^ 62 < m ∨ e ≤ 1075) ∧ wx = wc)
        case first =>
          go_wp2
          go_loop [4, 5] (fun a b => ∃ m e : Nat, a = .int .u64 m ∧ b = .int .i64 e ∧ WIs2 u m e) (fun _ b => (intOf b).toNat)
          case atStart => exact ⟨_, _, rfl, rfl, Hst2.out⟩
          case round =>
            obtain ⟨m, e, rfl, rfl, hW⟩ := hrel
            have b1 : (e : Int) ≤ 2047 := by have := hW.2.1; omega
            have HW := Lib.hid hW
            clear hW
            by_cases h2 : (0 : Int) < m
            · by_cases h3 : (m : Int) ≤ 4611686018427387904
              · by_cases h1 : (1075 : Int) < e
                · go_wp2
                  exact ⟨⟨m * 2, by omega, e - 1, by omega, is_twice HW.out.1 (by omega), by omega, by omega, .inr (by omega)⟩, by simp [intOf]; omega⟩
                · go_wp2
                  go_meet
                  case rel => exact ⟨m, e, rfl, rfl, HW.out, .inr (.inr (by omega)), rfl⟩
              · go_wp2
                go_meet
                case rel => exact ⟨m, e, rfl, rfl, HW.out, .inr (.inl (by omega)), rfl⟩
            · obtain rfl : m = 0 := by omega
              clear h2
              go_wp2
              go_meet
              case rel => exact ⟨0, e, rfl, rfl, HW.out, .inl rfl, rfl⟩
        case rest =>
          obtain ⟨m, e, rfl, rfl, hW, hx, rfl⟩ := hcut
          by_cases h3 : (4611686018427387904 : Int) < m
          · have hn := too_great Hf.out hW.1 (by omega) (by have := hW.2.2.2; omega)
            clear hW hx Hst2
            go_wp2
            go_ret2
            exact ⟨ret_two (by unfold wholeN; rw [hn]; rfl) (by first | exact hn.symm | rfl), rfl⟩
          · have hn := is_whole Hf.out hW.1 (by omega) (by have := hW.2.2.2; omega)
            have hv := whole_val hn
            have Hn := Lib.hid hn.1
            have Hv := Lib.hid hv
            have hs := signB_sgn hu
            have b3 : (m : Int) ≤ 4611686018427387904 := by omega
            clear hW hx Hst2 hn hv h3
            cases hsg : sgn u
            · rw [hsg] at hs
              go_wp2_with (go_at_call 33; refine (sign_ok _ hu _).mono ?_; rintro e w' ⟨rfl, rfl⟩)
              go_ret2
              exact ⟨ret_two (by rw [Hv.out, hsg]; rfl) Hn.out.symm, rfl⟩
            · rw [hsg] at hs
              go_wp2_with (go_at_call 33; refine (sign_ok _ hu _).mono ?_; rintro e w' ⟨rfl, rfl⟩)
              go_ret2
              exact ⟨ret_two (by rw [Hv.out, hsg]; rfl) Hn.out.symm, rfl⟩
  · have he : ((expN u : Int) == 2047) = true := by
      have := exp_inf u
      simp; omega
    have hn := not_within hf
    clear hf
    go_enter Try.func25, Try.ntmps25
    go_wp2_with (go_at_call 31; refine (exp_ok _ hu _).mono ?_; rintro e w' ⟨rfl, rfl⟩)
    go_ret2
    exact ⟨ret_two (by unfold wholeN; rw [hn]; rfl) (by first | exact hn.symm | rfl), rfl⟩
end Go.Proofs.Ytjcjaakbiiefkaa
