/-
  against, Versus of the document, walked.
-/
import Derived.Test.YtmlcpedbpjghhaaRealW11
namespace Go.Proofs.Ytmlcpedbpjghhaa
open Go.RowKit

def Ag2 (u m e : Nat) (more : Bool) : Prop := Ag u m e more ∧ e ≤ 2047 ∧ m ≤ 2 ^ 63 ∧ (1075 < e → 2 ^ 62 < m ∨ (m = 0 ∧ more = false))
def AgIs (u m e : Nat) : Prop := Is u m e ∧ e ≤ 2047 ∧ m ≤ 2 ^ 63
theorem ag2_step {u m e : Nat} {more b : Bool} (h : Ag2 u m e more) (he : e < 1075) (hb : b = (more || decide (m % 2 = 1))) : Ag2 u (m / 2) (e + 1) b := by
  obtain ⟨h1, h2, h3, h4⟩ := h
  subst hb
  exact ⟨ag_step h1, by omega, by omega, fun h => by omega⟩
theorem ag2_end {u m e n : Nat} {more : Bool} (h : Ag2 u m e more) (hn : n ≤ 2 ^ 62) (h1 : 1075 ≤ e ∨ (m = 0 ∧ more = false)) :
    cmpI ((n : Int) * (unit : Int)) (magv (rung u) : Nat) = if n < m ∨ (n = m ∧ more = true) then -1 else if n = m then 0 else 1 := by
  obtain ⟨h2, h3, h4, h5⟩ := h
  refine ag_end h2 hn ?_
  rcases h1 with h1 | h1
  · rcases Nat.lt_or_eq_of_le h1 with h6 | h6
    · rcases h5 h6 with h7 | h7
      · exact .inr (.inr ⟨h6, h7⟩)
      · exact .inr (.inl h7)
    · exact .inl h6.symm
  · exact .inr (.inl h1)

set_option maxRecDepth 100000 in
set_option maxHeartbeats 4000000 in
theorem against_ok (n : Nat) (u : Nat) (hn : n ≤ 2 ^ 62) (hu : u < 18446744073709551616) (w : World) :
    Calls Try.prog 72 #[.int .i64 n, .int .u64 u] w fun e w' => e = .returned (.int .i64 (cmpI ((n : Int) * (unit : Int)) (magv (rung u) : Nat))) ∧ w = w' := by
  have hst : AgIs u (mantN u) (scaleN u) := ⟨is_start u, scale_lt u, by have := mant_lt u; omega⟩
  have Hst := Lib.hid hst
  have b0 : (n : Int) ≤ 4611686018427387904 := by omega
  have Hn := Lib.hid hn
  clear hst hn
  go_enter Try.func72, Try.ntmps72
  go_upto_block 0 with (first | (go_at_call 57; refine (mantissa_ok _ hu _).mono ?_; rintro e w' ⟨rfl, rfl⟩) | (go_at_call 56; refine (scale_ok _ hu _).mono ?_; rintro e w' ⟨rfl, rfl⟩))
  go_cut [5, 6] (fun a b wx => ∃ m e : Nat, a = .int .u64 m ∧ b = .int .i64 e ∧ AgIs u m e ∧ (m = 0 ∨ 2 ^ 62 < m ∨ e ≤ 1075) ∧ wx = w)
  case first =>
    clear b0
    go_wp2
    go_loop [5, 6] (fun a b => ∃ m e : Nat, a = .int .u64 m ∧ b = .int .i64 e ∧ AgIs u m e) (fun _ b => (intOf b).toNat)
    case atStart => exact ⟨_, _, rfl, rfl, Hst.out⟩
    case round =>
      obtain ⟨m, e, rfl, rfl, hW⟩ := hrel
      have b1 : (e : Int) ≤ 2047 := by have := hW.2.1; omega
      have HW := Lib.hid hW
      clear hW
      by_cases h1 : (1075 : Int) < e
      · by_cases h3 : (m : Int) ≤ 4611686018427387904
        · by_cases h2 : (0 : Int) < m
          · go_wp2
            first | (refine ⟨⟨m * 2, e - 1, by go_num, by rw [Int.natCast_sub (by omega)]; rfl, is_twice HW.out.1 (by omega), by omega, by omega⟩, ?_⟩; simp [intOf]; omega) | exact ⟨⟨m * 2, by omega, e - 1, by omega, is_twice HW.out.1 (by omega), by omega, by omega⟩, by simp [intOf]; omega⟩
          · obtain rfl : m = 0 := by omega
            clear h2
            go_wp2
            go_meet
            case rel => exact ⟨0, e, rfl, rfl, HW.out, .inl rfl, rfl⟩
        · go_wp2
          go_meet
          case rel => exact ⟨m, e, rfl, rfl, HW.out, .inr (.inl (by omega)), rfl⟩
      · go_wp2
        go_meet
        case rel => exact ⟨m, e, rfl, rfl, HW.out, .inr (.inr (by omega)), rfl⟩
  case rest =>
    obtain ⟨m, e, rfl, rfl, hW, hx, rfl⟩ := hcut
    have hst : Ag2 u m e false := ⟨ag_start hW.1, hW.2.1, hW.2.2, fun h => by
      rcases hx with h1 | h1 | h1
      · exact .inr ⟨h1, rfl⟩
      · exact .inl h1
      · omega⟩
    have Hst2 := Lib.hid hst
    clear hst hW hx Hst
    go_upto_block 2 with (fail)
    go_cut [5, 6, 7] (fun a b c wx => ∃ (m e : Nat) (more : Bool), a = .int .u64 m ∧ b = .int .i64 e ∧ c = .bool more ∧ Ag2 u m e more ∧ (1075 ≤ e ∨ (m = 0 ∧ more = false)) ∧ wx = wc)
    case first =>
      clear b0
      go_wp2
      go_loop [5, 6, 7] (fun a b c => ∃ (m e : Nat) (more : Bool), a = .int .u64 m ∧ b = .int .i64 e ∧ c = .bool more ∧ Ag2 u m e more) (fun _ b _ => 3000 - (intOf b).toNat)
      case atStart => exact ⟨_, _, _, rfl, rfl, rfl, Hst2.out⟩
      case round =>
        obtain ⟨m, e, more, rfl, rfl, rfl, hW⟩ := hrel
        have b1 : (e : Int) ≤ 2047 := by have := hW.2.1; omega
        have b2 : (0 : Int) < e := by have := hW.1.2.2.2; omega
        have HW := Lib.hid hW
        clear hW
        by_cases h1 : (e : Int) < 1075
        · obtain ⟨q, hq⟩ : ∃ q : Nat, (m : Int) / 2 = q := ⟨m / 2, by omega⟩
          have HQ := Lib.hid hq
          clear hq
          have hst : ∀ b, b = (more || decide (m % 2 = 1)) → Ag2 u q (e + 1) b := fun b hb => by
            have := ag2_step HW.out (by omega) hb
            rwa [show m / 2 = q by have := HQ.out; omega] at this
          have hqb : (q : Int) ≤ 9223372036854775807 := by have := HW.out.2.2.1; have := HQ.out; omega
          have HS := Lib.hid hst
          have HB := Lib.hid hqb
          clear hst hqb
          cases more
          · by_cases h2 : (0 : Int) < m
            · by_cases h3 : (m : Int) % 2 = 1
              · have h3' : ((m : Int) % 2 == 1) = true := by simpa using h3
                have H3 := Lib.hid h3
                clear h3
                go_wp2
                first | exact ⟨⟨q, e + 1, true, congrArg (Value.int .u64) (by rw [HQ.out, wrap_u]; have := HB.out; omega), by go_num, rfl, HS.out _ (by rw [decide_eq_true (by have := H3.out; omega)]; rfl)⟩, by simp [intOf]; omega⟩ | trace_state
              · have h3' : ((m : Int) % 2 == 1) = false := by simpa using h3
                have H3 := Lib.hid h3
                clear h3
                go_wp2
                first | exact ⟨⟨q, e + 1, false, congrArg (Value.int .u64) (by rw [HQ.out, wrap_u]; have := HB.out; omega), by go_num, rfl, HS.out _ (by rw [decide_eq_false (by have := H3.out; omega)]; rfl)⟩, by simp [intOf]; omega⟩ | trace_state
            · obtain rfl : m = 0 := by omega
              clear h2 HQ HS HB
              go_wp2
              go_meet
              case rel => exact ⟨0, e, false, rfl, rfl, rfl, HW.out, .inr ⟨rfl, rfl⟩, rfl⟩
          · by_cases h2 : (0 : Int) < m
            · go_wp2
              first | exact ⟨⟨q, e + 1, true, congrArg (Value.int .u64) (by rw [HQ.out, wrap_u]; have := HB.out; omega), by go_num, rfl, HS.out _ rfl⟩, by simp [intOf]; omega⟩ | trace_state
            · obtain rfl : m = 0 := by omega
              clear h2
              go_wp2
              first | exact ⟨⟨0, e + 1, true, rfl, by go_num, rfl, by have := HS.out _ rfl; have h0 := HQ.out; rw [show q = 0 by simpa using h0.symm] at this; exact this⟩, by simp [intOf]; omega⟩ | trace_state
        · go_wp2
          all_goals go_meet
          all_goals exact ⟨m, e, more, rfl, rfl, rfl, HW.out, .inl (by omega), rfl⟩
    case rest =>
      obtain ⟨m, e, more, rfl, rfl, rfl, hW, hx, rfl⟩ := hcut
      have hv : True → cmpI ((n : Int) * (unit : Int)) (magv (rung u) : Nat) = if n < m ∨ (n = m ∧ more = true) then -1 else if n = m then 0 else 1 := fun _ => ag2_end hW Hn.out hx
      have Hv := Lib.hid hv
      clear hv hW hx Hst2
      rcases Nat.lt_trichotomy n m with hl | hl | hl
      · have h1 : decide (n < m) = true := decide_eq_true hl
        have HL := Lib.hid hl
        clear hl
        go_wp2
        go_ret
        exact ⟨ret_int (by rw [Hv.out trivial, if_pos (.inl HL.out)]), rfl⟩
      · have h1 : decide (n < m) = false := decide_eq_false (by omega)
        have h2 : ((n : Int) == (m : Int)) = true := by simp; omega
        have HL := Lib.hid hl
        clear hl
        cases more
        · go_wp2
          go_ret
          exact ⟨ret_int (by rw [Hv.out trivial, if_neg (by rintro (h | h); · have := HL.out; omega
                                                            · cases h.2), if_pos HL.out]), rfl⟩
        · go_wp2
          go_ret
          exact ⟨ret_int (by rw [Hv.out trivial, if_pos (.inr ⟨HL.out, by simp⟩)]), rfl⟩
      · have h1 : decide (n < m) = false := decide_eq_false (by omega)
        have h2 : ((n : Int) == (m : Int)) = false := by simp; omega
        have HL := Lib.hid hl
        clear hl
        go_wp2
        go_ret
        exact ⟨ret_int (by rw [Hv.out trivial, if_neg (by have := HL.out; rintro (h | h) <;> omega), if_neg (by have := HL.out; omega)]), rfl⟩

theorem cmp_neg (a b : Int) : -(cmpI (-a) (-b)) = cmpI a b := by
  unfold cmpI
  rcases Int.lt_trichotomy a b with h | h | h
  · rw [if_neg (by omega), if_neg (by omega), if_pos h]
  · rw [if_neg (by omega), if_pos (by omega), if_neg (by omega), if_pos h]; rfl
  · rw [if_pos (by omega), if_neg (by omega), if_neg (by omega)]; rfl

theorem vers_no {n : Int} {u : Nat} (h : mayN n u = false) : versN n u = 0 := by unfold versN; rw [h]; rfl
theorem vers_yes {n : Int} {u : Nat} (h : mayN n u = true) : versN n u = cmpI (n * (unit : Int)) (key u) := by unfold versN; rw [h]; rfl
theorem mul_unit {n : Int} : (0 < n → 0 < n * (unit : Int)) ∧ (n < 0 → n * (unit : Int) < 0) := by
  have hp : (0 : Int) < unit := by exact_mod_cast unit_pos
  exact ⟨fun h => Int.mul_pos h hp, fun h => Int.mul_neg_of_neg_of_pos h hp⟩
theorem vers_zero {n : Int} {u : Nat} (h : mayN n u = true) (hz : zeroB u = true) : versN n u = if n < 0 then -1 else if n = 0 then 0 else 1 := by
  have hk : key u = 0 := by
    unfold zeroB at hz; simp at hz
    unfold key; rw [hz, magv_zero]; split <;> rfl
  rw [vers_yes h, hk]
  have hm := mul_unit (n := n)
  by_cases h1 : n < 0
  · rw [if_pos h1, cmp_lt (hm.2 h1)]
  · by_cases h2 : n = 0
    · rw [if_neg h1, if_pos h2, h2]; exact cmp_eq (by simp)
    · rw [if_neg h1, if_neg h2, cmp_gt (hm.1 (by omega))]
theorem key_pos {u : Nat} (hz : zeroB u = false) : 0 < (magv (rung u) : Int) := by
  unfold zeroB at hz; simp at hz
  have : magv (rung u) ≠ 0 := fun h => hz (magv_eq_zero.1 h)
  omega
/-- an infinity is beyond all whole numbers -/
theorem inf_far {n : Int} {u : Nat} (h : mayN n u = true) (hi : rung u = infR) : -(magv (rung u) : Int) < n * (unit : Int) ∧ n * (unit : Int) < (magv (rung u) : Int) := by
  have h3 : 2 ^ 63 * unit < magv infR := by decide +kernel
  rw [hi]
  unfold mayN at h
  simp only [Bool.and_eq_true, decide_eq_true_eq] at h
  have h1 : n * (unit : Int) ≤ 2 ^ 62 * (unit : Int) := Int.mul_le_mul_of_nonneg_right h.2 (by omega)
  have h2 : -(2 ^ 62) * (unit : Int) ≤ n * (unit : Int) := Int.mul_le_mul_of_nonneg_right h.1.2 (by omega)
  rw [Int.neg_mul] at h2
  generalize magv infR = M at *
  have hp := unit_pos
  generalize n * (unit : Int) = N at *
  generalize unit = U at *
  omega
theorem vers_neg_up {n : Int} {u : Nat} (h : mayN n u = true) (hz : zeroB u = false) (hs : sgn u = true) (hn : 0 ≤ n ∨ rung u = infR) : versN n u = 1 := by
  rw [vers_yes h]
  have hp := key_pos hz
  refine cmp_gt ?_
  unfold key
  rw [hs, if_pos rfl]
  rcases hn with hn | hn
  · have : 0 ≤ n * (unit : Int) := Int.mul_nonneg hn (by omega)
    omega
  · exact (inf_far h hn).1
theorem vers_pos_down {n : Int} {u : Nat} (h : mayN n u = true) (hz : zeroB u = false) (hs : sgn u = false) (hn : n ≤ 0 ∨ rung u = infR) : versN n u = -1 := by
  rw [vers_yes h]
  have hp := key_pos hz
  refine cmp_lt ?_
  unfold key
  rw [hs, if_neg (by simp)]
  rcases hn with hn | hn
  · have : n * (unit : Int) ≤ 0 := Int.mul_nonpos_of_nonpos_of_nonneg hn (by omega)
    omega
  · exact (inf_far h hn).2
theorem vers_pos {n : Int} {u : Nat} (h : mayN n u = true) (hs : sgn u = false) : cmpI (n * (unit : Int)) (magv (rung u) : Nat) = versN n u := by
  rw [vers_yes h]; unfold key; rw [hs, if_neg (by simp)]
theorem vers_neg {n k : Int} {u : Nat} (h : mayN n u = true) (hs : sgn u = true) (hk : k = -n) : -(cmpI (k * (unit : Int)) (magv (rung u) : Nat)) = versN n u := by
  rw [vers_yes h, ← cmp_neg (n * (unit : Int)) (key u)]
  unfold key
  rw [hs, if_pos rfl, hk, Int.neg_mul, Int.neg_neg]
theorem cmp_bound (a b : Int) : -1 ≤ cmpI a b ∧ cmpI a b ≤ 1 := by unfold cmpI; split <;> (try split) <;> omega
end Go.Proofs.Ytmlcpedbpjghhaa
