/-
  FaultWraps, walked.
-/
import Derived.Test.YtjhjojoaghohjaaDoorFltKeep
import Derived.IntWalk
namespace Go.Proofs.YtjhjojoaghohjaaDoor
open Go.RowKit Go.Extern.Stop Go.Stop Go.Extern

theorem mkI_outer (v : Value) (w : World) : (Instr.makeInterface 30 (.agg #[v])).run Tryd.prog w = .ok (.iface 30 (.agg #[v])) w := by kernel_rfl
theorem build_outer1 (T : TypeId) (v : Value) (w : World) : (Instr.build 30 #[(0, .iface T v)]).run Tryd.prog w = .ok (.agg #[.iface T v]) w := by kernel_rfl
theorem build_outer (d : Nat) (T : TypeId) (v : Value) (w : World) : (Instr.build 30 #[(0, wrapE d (.iface T v))]).run Tryd.prog w = .ok (.agg #[wrapE d (.iface T v)]) w := by
  cases d <;> exact build_outer1 _ _ _
/-- what is beyond what the law takes -/
def WOut (e n0 : Int) : Prop := e < 1 ∨ (1 ≤ e ∧ 100 < e) ∨ (1 ≤ e ∧ e ≤ 100 ∧ n0 < 0) ∨ (1 ≤ e ∧ e ≤ 100 ∧ 0 ≤ n0 ∧ 50 < n0)
set_option maxRecDepth 100000 in
set_option maxHeartbeats 1000000 in
theorem wraps_out (e o n0 n1 : Int) (h : WOut e n0) (w : World) (hg : Laid w) : Calls Tryd.prog 3 #[.int .u8 e, .int .u8 o, .agg #[.int .i64 n0, .int .i64 n1]] w fun ev w' => ev = .returned (.bool true) ∧ Below w.heap.size w w' := by
  have HW := Lib.hid (awake_ok _ (hg.alloc (.cells #[.int .i64 n0, .int .i64 n1] 22)))
  have hb := one_box w (.cells #[.int .i64 n0, .int .i64 n1] 22)
  rcases h with h | ⟨h1, h2⟩ | ⟨h1, h2, h3⟩ | ⟨h1, h2, h3, h4⟩
  all_goals
    go_enter Tryd.func3, Tryd.ntmps3
    go_wp2_with (go_at_call 6; refine HW.out.mono ?_; rintro ev w1 ⟨rfl, hb1⟩)
    go_ret
    exact ⟨rfl, hb.trans (hb1.mono hb.size)⟩
set_option maxRecDepth 100000 in
set_option maxHeartbeats 4000000 in
theorem wraps_in (e o n1 : Int) (N : Nat) (h1 : 1 ≤ e) (h2 : e ≤ 100) (hN : N ≤ 50) (ho : 0 ≤ o) (ho2 : o ≤ 255) (B : Bool) (q1 : (e == o) = B) (q2 : (o == e) = B) (w : World) (hg : Laid w) : Calls Tryd.prog 3 #[.int .u8 e, .int .u8 o, .agg #[.int .i64 N, .int .i64 n1]] w fun ev w' => ev = .returned (.bool true) ∧ Below w.heap.size w w' := by
  have HN := Lib.hid fun w => new_flt e n1 (by omega) w
  have HE := Lib.hid fun w => eNew_ok ⟨#[111, 100, 100]⟩ w
  have m1 := mkI_outer
  have m2 := mkI_Errno
  have b1 := build_outer
  have HI := Lib.hid fun (b : Nat) (w : World) (hF : Flt w b e n1) => q1 ▸ Is_pF N b e n1 o w hF
  have HC := Lib.hid fun (b : Nat) (w : World) (hg : Laid w) (hF : Flt w b e n1) => code_hit N b e n1 w hg hF
  have HA := Lib.hid fun (b : Nat) (w : World) (hg : Laid w) (hF : Flt w b e n1) => at_hit N b e n1 w hg hF
  have HC2 := Lib.hid fun (w : World) (hg : Laid w) => code_errno N e w hg
  have HA2 := Lib.hid fun (w : World) (hg : Laid w) => at_errno N e w hg
  have HC3 := Lib.hid fun (p : Addr) (w : World) (hg : Laid w) => code_odd N p w hg
  have HA3 := Lib.hid fun (p : Addr) (w : World) (hg : Laid w) => at_odd N p w hg
  have Q2 := Lib.hid q2
  clear q1 q2
  have hT := one_box w (.cells #[.int .i64 (N : Int), .int .i64 n1] 22)
  replace hg := hg.next hT
  have hn : Flt (w.alloc (.cells #[.int .i64 (N : Int), .int .i64 n1] 22)) w.heap.size (N : Int) n1 := flt_new w _ _ _
  go_enter Tryd.func3, Tryd.ntmps3
  go_wp2_with (first | (go_at_call 7; ((with_reducible refine (HN.out _).mono ?_)); rintro ev w1 ⟨b, rfl, hF, hb9⟩; replace hg := hg.next hb9; replace hn := hn.next hb9; replace hT := hT.trans (hb9.mono hT.size); clear hb9) | (go_at_call 8; ((with_reducible refine (HE.out _).mono ?_)); rintro ev w2 ⟨rfl, rfl⟩; have hb9 := one_box w1 (.cells #[.string ⟨#[111, 100, 100]⟩] 53); replace hg := hg.next hb9; replace hn := hn.next hb9; replace hF := hF.next hb9; replace hT := hT.trans (hb9.mono hT.size); clear hb9))
  obtain ⟨W, hW⟩ : ∃ W, W = w1.alloc (.cells #[.string ⟨#[111, 100, 100]⟩] 53) := ⟨_, rfl⟩
  rw [← hW] at hg hn hF hT ⊢
  clear hW
  obtain ⟨P, hP⟩ : ∃ P, P = w1.heap.size := ⟨_, rfl⟩
  rw [← hP]
  clear hP
  go_loopg [7, 8, 9, 10] N (fun g x y z i wr => ∃ k : Nat, k + g = N ∧ x = wrapE k (.iface 48 (.pointer (some ⟨b, 0, none⟩))) ∧ y = wrapE k (.iface 27 (.int .i64 e)) ∧ z = wrapE k (.iface 51 (.pointer (some ⟨P, 0, none⟩))) ∧ i = .int .i64 k ∧ wr = W)
  case atStart => exact ⟨0, by omega, rfl, rfl, rfl, rfl, rfl⟩
  case round =>
    obtain ⟨k, hk, rfl, rfl, rfl, rfl, rfl⟩ := hrel
    have n0 := hn.1
    by_cases hlt : k < N
    · cases k with
      | zero =>
        have hd : decide (0 < N) = true := by simpa using hlt
        simp only [wrapE] at *
        go_wp2
        go_roundg (gk - 1)
        case rel => exact ⟨1, by omega, rfl, rfl, rfl, rfl, rfl⟩
        case measure => omega
      | succ k =>
        simp only [wrapE] at *
        go_wp2
        go_roundg (gk - 1)
        case rel => exact ⟨k + 2, by omega, rfl, rfl, rfl, by go_num, rfl⟩
        case measure => omega
    · obtain rfl : k = N := by omega
      have hd : decide (k < k) = false := by simp
      have HI1 := Lib.hid (HI.out b)
      have HC1 := Lib.hid (HC.out b)
      have HA1 := Lib.hid (HA.out b)
      have HC4 := Lib.hid (HC3.out ⟨P, 0, none⟩)
      have HA4 := Lib.hid (HA3.out ⟨P, 0, none⟩)
      clear HI HC HA HC3 HA3 HN HE b1 m1
      have n1c := hn.2
      replace hT : Blw w wr := hT
      generalize wrapE k (.iface 48 (.pointer (some ⟨b, 0, none⟩))) = X at *
      generalize wrapE k (.iface 27 (.int .i64 e)) = Y at *
      generalize wrapE k (.iface 51 (.pointer (some ⟨P, 0, none⟩))) = Z at *
      go_wp2_with (go_at_call 9; ((with_reducible refine (HI1.out _ (by first | exact hF | exact hF.draw _ | exact hF.draw1)).mono ?_)); rintro ev w9 ⟨rfl, hb9⟩; clear n1c; (first | replace hT := hT.next hb9 | replace hT := (hT.draw _).next hb9 | replace hT := hT.draw1.next hb9); (first | replace hg := hg.next hb9 | replace hg := (hg.draw _).next hb9 | replace hg := hg.draw1.next hb9); (first | replace hF := hF.next hb9 | replace hF := (hF.draw _).next hb9 | replace hF := hF.draw1.next hb9); (first | replace hn := hn.next hb9 | replace hn := (hn.draw _).next hb9 | replace hn := hn.draw1.next hb9); have n1c := hn.2; clear hb9)
      have q2 := Q2.out
      have hwe : IntKind.i64.wrap e = e := IntWalk.i64_in _ (by omega)
      clear Q2
      go_region_held3 (fun w' => w'.cell? ⟨w.heap.size, 1, none⟩ = some (.int .i64 n1)) (first | go_keep | exact n1c) (first | (go_at_call 10; ((with_reducible refine (HC1.out _ (by first | exact hg | exact hg.draw _ | exact hg.draw1) (by first | exact hF | exact hF.draw _ | exact hF.draw1)).mono ?_)); rintro ev w9 ⟨rfl, hb9⟩; clear n1c; (first | replace hT := hT.next hb9 | replace hT := (hT.draw _).next hb9 | replace hT := hT.draw1.next hb9); (first | replace hg := hg.next hb9 | replace hg := (hg.draw _).next hb9 | replace hg := hg.draw1.next hb9); (first | replace hF := hF.next hb9 | replace hF := (hF.draw _).next hb9 | replace hF := hF.draw1.next hb9); (first | replace hn := hn.next hb9 | replace hn := (hn.draw _).next hb9 | replace hn := hn.draw1.next hb9); have n1c := hn.2; clear hb9) | (go_at_call 11; ((with_reducible refine (HA1.out _ (by first | exact hg | exact hg.draw _ | exact hg.draw1) (by first | exact hF | exact hF.draw _ | exact hF.draw1)).mono ?_)); rintro ev w9 ⟨rfl, hb9⟩; clear n1c; (first | replace hT := hT.next hb9 | replace hT := (hT.draw _).next hb9 | replace hT := hT.draw1.next hb9); (first | replace hg := hg.next hb9 | replace hg := (hg.draw _).next hb9 | replace hg := hg.draw1.next hb9); (first | replace hF := hF.next hb9 | replace hF := (hF.draw _).next hb9 | replace hF := hF.draw1.next hb9); (first | replace hn := hn.next hb9 | replace hn := (hn.draw _).next hb9 | replace hn := hn.draw1.next hb9); have n1c := hn.2; clear hb9) | (go_at_call 10; ((with_reducible refine (HC2.out _ (by first | exact hg | exact hg.draw _ | exact hg.draw1)).mono ?_)); rintro ev w9 ⟨rfl, hb9⟩; clear n1c; (first | replace hT := hT.next hb9 | replace hT := (hT.draw _).next hb9 | replace hT := hT.draw1.next hb9); (first | replace hg := hg.next hb9 | replace hg := (hg.draw _).next hb9 | replace hg := hg.draw1.next hb9); (first | replace hF := hF.next hb9 | replace hF := (hF.draw _).next hb9 | replace hF := hF.draw1.next hb9); (first | replace hn := hn.next hb9 | replace hn := (hn.draw _).next hb9 | replace hn := hn.draw1.next hb9); have n1c := hn.2; clear hb9) | (go_at_call 11; ((with_reducible refine (HA2.out _ (by first | exact hg | exact hg.draw _ | exact hg.draw1)).mono ?_)); rintro ev w9 ⟨rfl, hb9⟩; clear n1c; (first | replace hT := hT.next hb9 | replace hT := (hT.draw _).next hb9 | replace hT := hT.draw1.next hb9); (first | replace hg := hg.next hb9 | replace hg := (hg.draw _).next hb9 | replace hg := hg.draw1.next hb9); (first | replace hF := hF.next hb9 | replace hF := (hF.draw _).next hb9 | replace hF := hF.draw1.next hb9); (first | replace hn := hn.next hb9 | replace hn := (hn.draw _).next hb9 | replace hn := hn.draw1.next hb9); have n1c := hn.2; clear hb9) | (go_at_call 10; ((with_reducible refine (HC4.out _ (by first | exact hg | exact hg.draw _ | exact hg.draw1)).mono ?_)); rintro ev w9 ⟨rfl, hb9⟩; clear n1c; (first | replace hT := hT.next hb9 | replace hT := (hT.draw _).next hb9 | replace hT := hT.draw1.next hb9); (first | replace hg := hg.next hb9 | replace hg := (hg.draw _).next hb9 | replace hg := hg.draw1.next hb9); (first | replace hF := hF.next hb9 | replace hF := (hF.draw _).next hb9 | replace hF := hF.draw1.next hb9); (first | replace hn := hn.next hb9 | replace hn := (hn.draw _).next hb9 | replace hn := hn.draw1.next hb9); have n1c := hn.2; clear hb9) | (go_at_call 11; ((with_reducible refine (HA4.out _ (by first | exact hg | exact hg.draw _ | exact hg.draw1)).mono ?_)); rintro ev w9 ⟨rfl, hb9⟩; clear n1c; (first | replace hT := hT.next hb9 | replace hT := (hT.draw _).next hb9 | replace hT := hT.draw1.next hb9); (first | replace hg := hg.next hb9 | replace hg := (hg.draw _).next hb9 | replace hg := hg.draw1.next hb9); (first | replace hF := hF.next hb9 | replace hF := (hF.draw _).next hb9 | replace hF := hF.draw1.next hb9); (first | replace hn := hn.next hb9 | replace hn := (hn.draw _).next hb9 | replace hn := hn.draw1.next hb9); have n1c := hn.2; clear hb9) | (go_at_call 6; ((with_reducible refine (awake_ok _ (by first | exact hg | exact hg.draw _ | exact hg.draw1)).mono ?_)); rintro ev w9 ⟨rfl, hb9⟩; clear n1c; (first | replace hT := hT.next hb9 | replace hT := (hT.draw _).next hb9 | replace hT := hT.draw1.next hb9); (first | replace hg := hg.next hb9 | replace hg := (hg.draw _).next hb9 | replace hg := hg.draw1.next hb9); (first | replace hF := hF.next hb9 | replace hF := (hF.draw _).next hb9 | replace hF := hF.draw1.next hb9); (first | replace hn := hn.next hb9 | replace hn := (hn.draw _).next hb9 | replace hn := hn.draw1.next hb9); have n1c := hn.2; clear hb9))
      all_goals go_wp2_with fail
      all_goals go_ret
      all_goals exact ⟨rfl, hT⟩
theorem wraps_law (e o n0 n1 : Int) (be : 0 ≤ e ∧ e ≤ 255) (bo : 0 ≤ o ∧ o ≤ 255) (_ : -9223372036854775808 ≤ n0 ∧ n0 ≤ 9223372036854775807) (_ : -9223372036854775808 ≤ n1 ∧ n1 ≤ 9223372036854775807) (w : World) (hg : Laid w) : Calls Tryd.prog 3 #[.int .u8 e, .int .u8 o, .agg #[.int .i64 n0, .int .i64 n1]] w fun ev w' => ev = .returned (.bool true) ∧ Below w.heap.size w w' := by
  by_cases h : WOut e n0
  · exact wraps_out e o n0 n1 h w hg
  · unfold WOut at h
    obtain ⟨N, rfl⟩ : ∃ N : Nat, n0 = N := ⟨n0.toNat, by omega⟩
    exact wraps_in e o n1 N (by omega) (by omega) (by omega) bo.1 bo.2 (e == o) rfl (Bool.eq_iff_iff.2 (by simp only [beq_iff_eq]; exact eq_comm)) w hg
end Go.Proofs.YtjhjojoaghohjaaDoor
