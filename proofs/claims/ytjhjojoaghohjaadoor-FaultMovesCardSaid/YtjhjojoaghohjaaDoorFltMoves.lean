/-
  FaultMoves, walked.
-/
import Derived.Test.YtjhjojoaghohjaaDoorFltKeep
import Derived.IntWalk
namespace Go.Proofs.YtjhjojoaghohjaaDoor
open Go.RowKit Go.Extern.Stop Go.Stop Go.Extern

theorem neq_F (x y x' y' : Int) (w : World) : (binOp .neq 37 (.agg #[.int .i64 x, .int .i64 y]) (.agg #[.int .i64 x', .int .i64 y'])).run Tryd.prog w = .ok (.bool (!(x == x' && y == y'))) w := by
  simp only [binOp]
  simp [Op.equal, Op.maxDepth, run_equalIn_struct (P := Tryd.prog) w 9999 37 _ _ (by rfl) (by kernel_rfl), go_sem]
  by_cases h1 : x = x' <;> by_cases h2 : y = y' <;> simp [h1, h2]
theorem eql_F (x y x' y' : Int) (w : World) : (binOp .eql 37 (.agg #[.int .i64 x, .int .i64 y]) (.agg #[.int .i64 x', .int .i64 y'])).run Tryd.prog w = .ok (.bool (x == x' && y == y')) w := by
  simp only [binOp]
  simp [Op.equal, Op.maxDepth, run_equalIn_struct (P := Tryd.prog) w 9999 37 _ _ (by rfl) (by kernel_rfl), go_sem]
  by_cases h1 : x = x' <;> by_cases h2 : y = y' <;> simp [h1, h2]
/-- places and moves that the law takes -/
def In40 (x : Int) : Prop := -1099511627776 ≤ x ∧ x ≤ 1099511627776
/-- numbers beyond what the law takes -/
def MOut (e0 e1 : Int) : Prop := e0 < 1 ∨ (1 ≤ e0 ∧ 100 < e0) ∨ (1 ≤ e0 ∧ e0 ≤ 100 ∧ e1 < 1) ∨ (1 ≤ e0 ∧ e0 ≤ 100 ∧ 1 ≤ e1 ∧ 100 < e1)
theorem out40 {a m : Int} (h : ¬ (In40 a ∧ In40 m)) : a < -1099511627776 ∨ (-1099511627776 ≤ a ∧ 1099511627776 < a) ∨ (-1099511627776 ≤ a ∧ a ≤ 1099511627776 ∧ m < -1099511627776) ∨ (-1099511627776 ≤ a ∧ a ≤ 1099511627776 ∧ -1099511627776 ≤ m ∧ 1099511627776 < m) := by
  unfold In40 at h
  omega
theorem three_boxes (e0 e1 a0 a1 m0 m1 : Int) (w : World) : Blw w (((w.alloc (.cells #[.int .u8 e0, .int .u8 e1] 35)).alloc (.cells #[.int .i64 a0, .int .i64 a1] 22)).alloc (.cells #[.int .i64 m0, .int .i64 m1] 22)) ∧ By2 (((w.alloc (.cells #[.int .u8 e0, .int .u8 e1] 35)).alloc (.cells #[.int .i64 a0, .int .i64 a1] 22)).alloc (.cells #[.int .i64 m0, .int .i64 m1] 22)) w.heap.size e0 e1 ∧ Flt (((w.alloc (.cells #[.int .u8 e0, .int .u8 e1] 35)).alloc (.cells #[.int .i64 a0, .int .i64 a1] 22)).alloc (.cells #[.int .i64 m0, .int .i64 m1] 22)) (w.heap.size + 1) a0 a1 ∧ Flt (((w.alloc (.cells #[.int .u8 e0, .int .u8 e1] 35)).alloc (.cells #[.int .i64 a0, .int .i64 a1] 22)).alloc (.cells #[.int .i64 m0, .int .i64 m1] 22)) (w.heap.size + 1 + 1) m0 m1 := by
  refine ⟨((Blw.alloc (Below.refl _ _) _).alloc _).alloc _, ((by2_new _ _ _ _).alloc _).alloc _, ?_, ?_⟩
  · have h := (flt_new (w.alloc (.cells #[.int .u8 e0, .int .u8 e1] 35)) a0 a1 22).alloc (.cells #[.int .i64 m0, .int .i64 m1] 22)
    simpa using h
  · have h := flt_new ((w.alloc (.cells #[.int .u8 e0, .int .u8 e1] 35)).alloc (.cells #[.int .i64 a0, .int .i64 a1] 22)) m0 m1 22
    simpa using h
set_option maxRecDepth 100000 in
set_option maxHeartbeats 4000000 in
theorem moves_out (e0 e1 a0 a1 m0 m1 : Int) (h : MOut e0 e1) (w : World) (hg : Laid w) : Calls Tryd.prog 5 #[.agg #[.int .u8 e0, .int .u8 e1], .agg #[.int .i64 a0, .int .i64 a1], .agg #[.int .i64 m0, .int .i64 m1]] w fun ev w' => ev = .returned (.bool true) ∧ Below w.heap.size w w' := by
  have HW := Lib.hid (awake_ok _ (((hg.alloc (.cells #[.int .u8 e0, .int .u8 e1] 35)).alloc (.cells #[.int .i64 a0, .int .i64 a1] 22)).alloc (.cells #[.int .i64 m0, .int .i64 m1] 22)))
  obtain ⟨hT, hE, hA, hM⟩ := three_boxes e0 e1 a0 a1 m0 m1 w
  rcases h with h | ⟨h1, h2⟩ | ⟨h1, h2, h3⟩ | ⟨h1, h2, h3, h4⟩
  all_goals
    go_enter Tryd.func5, Tryd.ntmps5
    go_wp2_with (go_at_call 6; refine HW.out.mono ?_; rintro ev w1 ⟨rfl, hb1⟩)
    go_ret
    exact ⟨rfl, hT.next hb1⟩
set_option maxRecDepth 100000 in
set_option maxHeartbeats 4000000 in
theorem moves_in (e0 e1 a0 a1 m0 m1 : Int) (h1 : 1 ≤ e0) (h2 : e0 ≤ 100) (h3 : 1 ≤ e1) (h4 : e1 ≤ 100) (w : World) (hg : Laid w) : Calls Tryd.prog 5 #[.agg #[.int .u8 e0, .int .u8 e1], .agg #[.int .i64 a0, .int .i64 a1], .agg #[.int .i64 m0, .int .i64 m1]] w fun ev w' => ev = .returned (.bool true) ∧ Below w.heap.size w w' := by
  obtain ⟨hT, hE, hA, hM⟩ := three_boxes e0 e1 a0 a1 m0 m1 w
  replace hg := ((hg.alloc (.cells #[.int .u8 e0, .int .u8 e1] 35)).alloc (.cells #[.int .i64 a0, .int .i64 a1] 22)).alloc (.cells #[.int .i64 m0, .int .i64 m1] 22)
  go_enter Tryd.func5, Tryd.ntmps5
  go_wp2
  obtain ⟨W, hW⟩ : ∃ W, W = ((w.alloc (.cells #[.int .u8 e0, .int .u8 e1] 35)).alloc (.cells #[.int .i64 a0, .int .i64 a1] 22)).alloc (.cells #[.int .i64 m0, .int .i64 m1] 22) := ⟨_, rfl⟩
  rw [← hW] at hg hT hE hA hM ⊢
  clear hW
  obtain ⟨pE, hpE⟩ : ∃ p, p = w.heap.size := ⟨_, rfl⟩
  obtain ⟨pA, hpA⟩ : ∃ p, p = w.heap.size + 1 := ⟨_, rfl⟩
  obtain ⟨pM, hpM⟩ : ∃ p, p = w.heap.size + 1 + 1 := ⟨_, rfl⟩
  rw [← hpM] at hM ⊢
  rw [← hpA] at hA ⊢
  rw [← hpE] at hE ⊢
  clear hpM hpA hpE
  have cE0 := hE.1
  have cE1 := hE.2
  have cA0 := hA.1
  have cA1 := hA.2
  have cM0 := hM.1
  have cM1 := hM.2
  go_loopg [7] 2 (fun g i wr => wr = W ∧ (g = 2 ∧ i = .int .i64 0 ∨ g = 1 ∧ i = .int .i64 1 ∧ (In40 a0 ∧ In40 m0) ∨ g = 0 ∧ i = .int .i64 2 ∧ (In40 a0 ∧ In40 m0) ∧ (In40 a1 ∧ In40 m1)))
  case atStart => exact ⟨rfl, Or.inl ⟨rfl, rfl⟩⟩
  case round =>
    obtain ⟨rfl, ⟨rfl, rfl⟩ | ⟨rfl, rfl, hi⟩ | ⟨rfl, rfl, hi, hj⟩⟩ := hrel
    · by_cases hi : In40 a0 ∧ In40 m0
      · have hi' := hi
        obtain ⟨⟨i1, i2⟩, i3, i4⟩ := hi'
        go_wp2
        go_roundg 1
        case rel => exact ⟨rfl, Or.inr (Or.inl ⟨rfl, rfl, hi⟩)⟩
        case measure => omega
      · rcases out40 hi with h | ⟨i1, i2⟩ | ⟨i1, i2, i3⟩ | ⟨i1, i2, i3, i4⟩
        all_goals
          clear hi
          go_wp2_with (go_at_call 6; refine (awake_ok _ hg).mono ?_; rintro ev w1 ⟨rfl, hb1⟩)
          go_ret
          exact ⟨rfl, hT.next hb1⟩
    · by_cases hj : In40 a1 ∧ In40 m1
      · have hi' := hj
        obtain ⟨⟨i1, i2⟩, i3, i4⟩ := hi'
        go_wp2
        go_roundg 0
        case rel => exact ⟨rfl, Or.inr (Or.inr ⟨rfl, rfl, hi, hj⟩)⟩
        case measure => omega
      · clear hi
        rcases out40 hj with h | ⟨i1, i2⟩ | ⟨i1, i2, i3⟩ | ⟨i1, i2, i3, i4⟩
        all_goals
          clear hj
          go_wp2_with (go_at_call 6; refine (awake_ok _ hg).mono ?_; rintro ev w1 ⟨rfl, hb1⟩)
          go_ret
          exact ⟨rfl, hT.next hb1⟩
    · obtain ⟨⟨i1, i2⟩, i3, i4⟩ := hi
      obtain ⟨⟨j1, j2⟩, j3, j4⟩ := hj
      have H0 := Lib.hid fun w => new_flt e0 a0 (by omega) w
      have H1 := Lib.hid fun w => new_flt e1 a1 (by omega) w
      have V1 := Lib.hid fun (b : Nat) (w : World) (hg : Laid w) (hF : Flt w b e0 a0) => move_some b e0 a0 m0 (by omega) (by omega) (by omega) w hg hF
      have V2 := Lib.hid fun (b : Nat) (w : World) (hg : Laid w) (hF : Flt w b e0 (a0 + m0)) => move_some b e0 (a0 + m0) m1 (by omega) (by omega) (by omega) w hg hF
      have V3 := Lib.hid fun (b : Nat) (w : World) (hg : Laid w) (hF : Flt w b e0 a0) => (show Calls Tryd.prog 14 #[.iface 48 (.pointer (some ⟨b, 0, none⟩)), .int .i64 (m0 + m1)] w (IsFlt w e0 (a0 + m0 + m1)) by rw [Int.add_assoc]; exact move_some b e0 a0 (m0 + m1) (by omega) (by omega) (by omega) w hg hF)
      have T1 := Lib.hid fun (b : Nat) (e a : Int) (w : World) (hg : Laid w) (hF : Flt w b e a) => told_hit b e a w hg hF
      have k0 : IntKind.i64.wrap e0 = e0 := IntWalk.i64_in _ (by omega)
      have k1 : IntKind.i64.wrap e1 = e1 := IntWalk.i64_in _ (by omega)
      have k2 : IntKind.i64.wrap (m0 + m1) = m0 + m1 := IntWalk.i64_in _ (by omega)
      have q1 := neq_F e0 (a0 + m0 + m1) e0 (a0 + m0 + m1)
      have q2 := eql_F e0 a0 e0 a0
      have q3 := eql_F e1 a1 e1 a1
      have q4 := eql_F e1 a1 e0 a0
      simp only [beq_self_eq_true, Bool.and_self, Bool.not_true] at q1 q2 q3
      go_wp2
      go_region_held3 (fun w' => w'.cell? ⟨pE, 0, none⟩ = some (.int .u8 e0) ∧ w'.cell? ⟨pE, 1, none⟩ = some (.int .u8 e1) ∧ w'.cell? ⟨pA, 0, none⟩ = some (.int .i64 a0) ∧ w'.cell? ⟨pA, 1, none⟩ = some (.int .i64 a1) ∧ w'.cell? ⟨pM, 0, none⟩ = some (.int .i64 m0) ∧ w'.cell? ⟨pM, 1, none⟩ = some (.int .i64 m1)) (first | go_keep | exact ⟨cE0, cE1, cA0, cA1, cM0, cM1⟩) (first | (go_at_call 7; ((with_reducible refine (H0.out _).mono ?_)); rintro ev w9 ⟨b, rfl, hF, hb9⟩; clear cE0 cE1 cA0 cA1 cM0 cM1; (first | replace hT := hT.next hb9 | replace hT := (hT.draw _).next hb9 | replace hT := hT.draw1.next hb9 | replace hT := (hT.alloc _).next hb9); (first | replace hg := hg.next hb9 | replace hg := (hg.draw _).next hb9 | replace hg := hg.draw1.next hb9 | replace hg := (hg.alloc _).next hb9); (first | replace hE := hE.next hb9 | replace hE := (hE.draw _).next hb9 | replace hE := hE.draw1.next hb9 | replace hE := (hE.alloc _).next hb9); (first | replace hA := hA.next hb9 | replace hA := (hA.draw _).next hb9 | replace hA := hA.draw1.next hb9 | replace hA := (hA.alloc _).next hb9); (first | replace hM := hM.next hb9 | replace hM := (hM.draw _).next hb9 | replace hM := hM.draw1.next hb9 | replace hM := (hM.alloc _).next hb9); have cE0 := hE.1; have cE1 := hE.2; have cA0 := hA.1; have cA1 := hA.2; have cM0 := hM.1; have cM1 := hM.2; clear hb9) | (go_at_call 7; ((with_reducible refine (H1.out _).mono ?_)); rintro ev w9 ⟨c, rfl, hG, hb9⟩; clear cE0 cE1 cA0 cA1 cM0 cM1; (first | replace hT := hT.next hb9 | replace hT := (hT.draw _).next hb9 | replace hT := hT.draw1.next hb9 | replace hT := (hT.alloc _).next hb9); (first | replace hg := hg.next hb9 | replace hg := (hg.draw _).next hb9 | replace hg := hg.draw1.next hb9 | replace hg := (hg.alloc _).next hb9); (first | replace hE := hE.next hb9 | replace hE := (hE.draw _).next hb9 | replace hE := hE.draw1.next hb9 | replace hE := (hE.alloc _).next hb9); (first | replace hA := hA.next hb9 | replace hA := (hA.draw _).next hb9 | replace hA := hA.draw1.next hb9 | replace hA := (hA.alloc _).next hb9); (first | replace hM := hM.next hb9 | replace hM := (hM.draw _).next hb9 | replace hM := hM.draw1.next hb9 | replace hM := (hM.alloc _).next hb9); (first | replace hF := hF.next hb9 | replace hF := (hF.draw _).next hb9 | replace hF := hF.draw1.next hb9 | replace hF := (hF.alloc _).next hb9); have cE0 := hE.1; have cE1 := hE.2; have cA0 := hA.1; have cA1 := hA.2; have cM0 := hM.1; have cM1 := hM.2; clear hb9))
      go_wp2_with fail
      go_region_held3 (fun w' => w'.cell? ⟨pE, 0, none⟩ = some (.int .u8 e0) ∧ w'.cell? ⟨pE, 1, none⟩ = some (.int .u8 e1) ∧ w'.cell? ⟨pA, 0, none⟩ = some (.int .i64 a0) ∧ w'.cell? ⟨pA, 1, none⟩ = some (.int .i64 a1) ∧ w'.cell? ⟨pM, 0, none⟩ = some (.int .i64 m0) ∧ w'.cell? ⟨pM, 1, none⟩ = some (.int .i64 m1)) (first | go_keep | exact ⟨cE0, cE1, cA0, cA1, cM0, cM1⟩) (first | (go_at_call 14; ((with_reducible refine (V1.out _ _ (by first | exact hg | exact hg.draw _ | exact hg.draw1 | exact hg.alloc _) (by first | exact hF | exact hF.draw _ | exact hF.draw1 | exact hF.alloc _)).mono ?_)); rintro ev w9 ⟨b1, rfl, hF1, hb9⟩; clear cE0 cE1 cA0 cA1 cM0 cM1; (first | replace hT := hT.next hb9 | replace hT := (hT.draw _).next hb9 | replace hT := hT.draw1.next hb9 | replace hT := (hT.alloc _).next hb9); (first | replace hg := hg.next hb9 | replace hg := (hg.draw _).next hb9 | replace hg := hg.draw1.next hb9 | replace hg := (hg.alloc _).next hb9); (first | replace hE := hE.next hb9 | replace hE := (hE.draw _).next hb9 | replace hE := hE.draw1.next hb9 | replace hE := (hE.alloc _).next hb9); (first | replace hA := hA.next hb9 | replace hA := (hA.draw _).next hb9 | replace hA := hA.draw1.next hb9 | replace hA := (hA.alloc _).next hb9); (first | replace hM := hM.next hb9 | replace hM := (hM.draw _).next hb9 | replace hM := hM.draw1.next hb9 | replace hM := (hM.alloc _).next hb9); (first | replace hF := hF.next hb9 | replace hF := (hF.draw _).next hb9 | replace hF := hF.draw1.next hb9 | replace hF := (hF.alloc _).next hb9); (first | replace hG := hG.next hb9 | replace hG := (hG.draw _).next hb9 | replace hG := hG.draw1.next hb9 | replace hG := (hG.alloc _).next hb9); have cE0 := hE.1; have cE1 := hE.2; have cA0 := hA.1; have cA1 := hA.2; have cM0 := hM.1; have cM1 := hM.2; clear hb9) | (go_at_call 14; ((with_reducible refine (V2.out _ _ (by first | exact hg | exact hg.draw _ | exact hg.draw1 | exact hg.alloc _) (by first | exact hF1 | exact hF1.draw _ | exact hF1.draw1 | exact hF1.alloc _)).mono ?_)); rintro ev w9 ⟨b2, rfl, hF2, hb9⟩; clear cE0 cE1 cA0 cA1 cM0 cM1; (first | replace hT := hT.next hb9 | replace hT := (hT.draw _).next hb9 | replace hT := hT.draw1.next hb9 | replace hT := (hT.alloc _).next hb9); (first | replace hg := hg.next hb9 | replace hg := (hg.draw _).next hb9 | replace hg := hg.draw1.next hb9 | replace hg := (hg.alloc _).next hb9); (first | replace hE := hE.next hb9 | replace hE := (hE.draw _).next hb9 | replace hE := hE.draw1.next hb9 | replace hE := (hE.alloc _).next hb9); (first | replace hA := hA.next hb9 | replace hA := (hA.draw _).next hb9 | replace hA := hA.draw1.next hb9 | replace hA := (hA.alloc _).next hb9); (first | replace hM := hM.next hb9 | replace hM := (hM.draw _).next hb9 | replace hM := hM.draw1.next hb9 | replace hM := (hM.alloc _).next hb9); (first | replace hF := hF.next hb9 | replace hF := (hF.draw _).next hb9 | replace hF := hF.draw1.next hb9 | replace hF := (hF.alloc _).next hb9); (first | replace hG := hG.next hb9 | replace hG := (hG.draw _).next hb9 | replace hG := hG.draw1.next hb9 | replace hG := (hG.alloc _).next hb9); have cE0 := hE.1; have cE1 := hE.2; have cA0 := hA.1; have cA1 := hA.2; have cM0 := hM.1; have cM1 := hM.2; clear hb9) | (go_at_call 13; ((with_reducible refine (T1.out _ _ _ _ (by first | exact hg | exact hg.draw _ | exact hg.draw1 | exact hg.alloc _) (by first | exact hF2 | exact hF2.draw _ | exact hF2.draw1 | exact hF2.alloc _)).mono ?_)); rintro ev w9 ⟨rfl, hb9⟩; clear cE0 cE1 cA0 cA1 cM0 cM1; (first | replace hT := hT.next hb9 | replace hT := (hT.draw _).next hb9 | replace hT := hT.draw1.next hb9 | replace hT := (hT.alloc _).next hb9); (first | replace hg := hg.next hb9 | replace hg := (hg.draw _).next hb9 | replace hg := hg.draw1.next hb9 | replace hg := (hg.alloc _).next hb9); (first | replace hE := hE.next hb9 | replace hE := (hE.draw _).next hb9 | replace hE := hE.draw1.next hb9 | replace hE := (hE.alloc _).next hb9); (first | replace hA := hA.next hb9 | replace hA := (hA.draw _).next hb9 | replace hA := hA.draw1.next hb9 | replace hA := (hA.alloc _).next hb9); (first | replace hM := hM.next hb9 | replace hM := (hM.draw _).next hb9 | replace hM := hM.draw1.next hb9 | replace hM := (hM.alloc _).next hb9); (first | replace hF := hF.next hb9 | replace hF := (hF.draw _).next hb9 | replace hF := hF.draw1.next hb9 | replace hF := (hF.alloc _).next hb9); (first | replace hG := hG.next hb9 | replace hG := (hG.draw _).next hb9 | replace hG := hG.draw1.next hb9 | replace hG := (hG.alloc _).next hb9); have cE0 := hE.1; have cE1 := hE.2; have cA0 := hA.1; have cA1 := hA.2; have cM0 := hM.1; have cM1 := hM.2; clear hb9; clear hF2) | (go_at_call 14; ((with_reducible refine (V3.out _ _ (by first | exact hg | exact hg.draw _ | exact hg.draw1 | exact hg.alloc _) (by first | exact hF | exact hF.draw _ | exact hF.draw1 | exact hF.alloc _)).mono ?_)); rintro ev w9 ⟨b3, rfl, hF3, hb9⟩; clear cE0 cE1 cA0 cA1 cM0 cM1; (first | replace hT := hT.next hb9 | replace hT := (hT.draw _).next hb9 | replace hT := hT.draw1.next hb9 | replace hT := (hT.alloc _).next hb9); (first | replace hg := hg.next hb9 | replace hg := (hg.draw _).next hb9 | replace hg := hg.draw1.next hb9 | replace hg := (hg.alloc _).next hb9); (first | replace hE := hE.next hb9 | replace hE := (hE.draw _).next hb9 | replace hE := hE.draw1.next hb9 | replace hE := (hE.alloc _).next hb9); (first | replace hA := hA.next hb9 | replace hA := (hA.draw _).next hb9 | replace hA := hA.draw1.next hb9 | replace hA := (hA.alloc _).next hb9); (first | replace hM := hM.next hb9 | replace hM := (hM.draw _).next hb9 | replace hM := hM.draw1.next hb9 | replace hM := (hM.alloc _).next hb9); (first | replace hF := hF.next hb9 | replace hF := (hF.draw _).next hb9 | replace hF := hF.draw1.next hb9 | replace hF := (hF.alloc _).next hb9); (first | replace hG := hG.next hb9 | replace hG := (hG.draw _).next hb9 | replace hG := hG.draw1.next hb9 | replace hG := (hG.alloc _).next hb9); have cE0 := hE.1; have cE1 := hE.2; have cA0 := hA.1; have cA1 := hA.2; have cM0 := hM.1; have cM1 := hM.2; clear hb9) | (go_at_call 13; ((with_reducible refine (T1.out _ _ _ _ (by first | exact hg | exact hg.draw _ | exact hg.draw1 | exact hg.alloc _) (by first | exact hF3 | exact hF3.draw _ | exact hF3.draw1 | exact hF3.alloc _)).mono ?_)); rintro ev w9 ⟨rfl, hb9⟩; clear cE0 cE1 cA0 cA1 cM0 cM1; (first | replace hT := hT.next hb9 | replace hT := (hT.draw _).next hb9 | replace hT := hT.draw1.next hb9 | replace hT := (hT.alloc _).next hb9); (first | replace hg := hg.next hb9 | replace hg := (hg.draw _).next hb9 | replace hg := hg.draw1.next hb9 | replace hg := (hg.alloc _).next hb9); (first | replace hE := hE.next hb9 | replace hE := (hE.draw _).next hb9 | replace hE := hE.draw1.next hb9 | replace hE := (hE.alloc _).next hb9); (first | replace hA := hA.next hb9 | replace hA := (hA.draw _).next hb9 | replace hA := hA.draw1.next hb9 | replace hA := (hA.alloc _).next hb9); (first | replace hM := hM.next hb9 | replace hM := (hM.draw _).next hb9 | replace hM := hM.draw1.next hb9 | replace hM := (hM.alloc _).next hb9); (first | replace hF := hF.next hb9 | replace hF := (hF.draw _).next hb9 | replace hF := hF.draw1.next hb9 | replace hF := (hF.alloc _).next hb9); (first | replace hG := hG.next hb9 | replace hG := (hG.draw _).next hb9 | replace hG := hG.draw1.next hb9 | replace hG := (hG.alloc _).next hb9); have cE0 := hE.1; have cE1 := hE.2; have cA0 := hA.1; have cA1 := hA.2; have cM0 := hM.1; have cM1 := hM.2; clear hb9) | (go_at_call 14; ((with_reducible refine (move_nil m0 _).mono ?_)); rintro ev w9 ⟨rfl, hb9⟩; clear cE0 cE1 cA0 cA1 cM0 cM1; (first | replace hT := hT.next hb9 | replace hT := (hT.draw _).next hb9 | replace hT := hT.draw1.next hb9 | replace hT := (hT.alloc _).next hb9); (first | replace hg := hg.next hb9 | replace hg := (hg.draw _).next hb9 | replace hg := hg.draw1.next hb9 | replace hg := (hg.alloc _).next hb9); (first | replace hE := hE.next hb9 | replace hE := (hE.draw _).next hb9 | replace hE := hE.draw1.next hb9 | replace hE := (hE.alloc _).next hb9); (first | replace hA := hA.next hb9 | replace hA := (hA.draw _).next hb9 | replace hA := hA.draw1.next hb9 | replace hA := (hA.alloc _).next hb9); (first | replace hM := hM.next hb9 | replace hM := (hM.draw _).next hb9 | replace hM := hM.draw1.next hb9 | replace hM := (hM.alloc _).next hb9); (first | replace hF := hF.next hb9 | replace hF := (hF.draw _).next hb9 | replace hF := hF.draw1.next hb9 | replace hF := (hF.alloc _).next hb9); (first | replace hG := hG.next hb9 | replace hG := (hG.draw _).next hb9 | replace hG := hG.draw1.next hb9 | replace hG := (hG.alloc _).next hb9); have cE0 := hE.1; have cE1 := hE.2; have cA0 := hA.1; have cA1 := hA.2; have cM0 := hM.1; have cM1 := hM.2; clear hb9) | (go_at_call 16; ((with_reducible refine (first_nil _ _).mono ?_)); rintro ev w9 ⟨rfl, rfl⟩))
      clear V1 V2 V3 H0 H1 q1 k0 k1 k2 cE0 cE1 cM0 cM1 hE hM
      go_wp2_with fail
      by_cases hlt : a1 < a0
      · have hfs : fst2 b c a0 a1 = c := if_pos hlt
        have hne : (a1 == a0) = false := by simp; omega
        rw [hne, Bool.and_false] at q4
        clear hne
        have F1 := Lib.hid fun (w : World) (hg : Laid w) (hF : Flt w b e0 a0) (hG : Flt w c e1 a1) => hfs ▸ first_two b c e0 a0 e1 a1 w hg hF hG
        clear hfs
        go_wp2_with (first | (go_at_call 16; ((with_reducible refine (F1.out _ (by first | exact hg | exact hg.draw _ | exact hg.draw1 | exact hg.alloc _) (by first | exact hF | exact hF.draw _ | exact hF.draw1 | exact hF.alloc _) (by first | exact hG | exact hG.draw _ | exact hG.draw1 | exact hG.alloc _)).mono ?_)); rintro ev w9 ⟨rfl, hb9⟩; clear cA0 cA1; (first | replace hT := hT.next hb9 | replace hT := (hT.draw _).next hb9 | replace hT := hT.draw1.next hb9 | replace hT := (hT.alloc _).next hb9); (first | replace hg := hg.next hb9 | replace hg := (hg.draw _).next hb9 | replace hg := hg.draw1.next hb9 | replace hg := (hg.alloc _).next hb9); (first | replace hA := hA.next hb9 | replace hA := (hA.draw _).next hb9 | replace hA := hA.draw1.next hb9 | replace hA := (hA.alloc _).next hb9); (first | replace hF := hF.next hb9 | replace hF := (hF.draw _).next hb9 | replace hF := hF.draw1.next hb9 | replace hF := (hF.alloc _).next hb9); (first | replace hG := hG.next hb9 | replace hG := (hG.draw _).next hb9 | replace hG := hG.draw1.next hb9 | replace hG := (hG.alloc _).next hb9); have cA0 := hA.1; have cA1 := hA.2; clear hb9) | (go_at_call 13; ((with_reducible refine (T1.out _ _ _ _ (by first | exact hg | exact hg.draw _ | exact hg.draw1 | exact hg.alloc _) (by first | exact hG | exact hG.draw _ | exact hG.draw1 | exact hG.alloc _)).mono ?_)); rintro ev w9 ⟨rfl, hb9⟩; clear cA0 cA1; (first | replace hT := hT.next hb9 | replace hT := (hT.draw _).next hb9 | replace hT := hT.draw1.next hb9 | replace hT := (hT.alloc _).next hb9); (first | replace hg := hg.next hb9 | replace hg := (hg.draw _).next hb9 | replace hg := hg.draw1.next hb9 | replace hg := (hg.alloc _).next hb9); (first | replace hA := hA.next hb9 | replace hA := (hA.draw _).next hb9 | replace hA := hA.draw1.next hb9 | replace hA := (hA.alloc _).next hb9); (first | replace hF := hF.next hb9 | replace hF := (hF.draw _).next hb9 | replace hF := hF.draw1.next hb9 | replace hF := (hF.alloc _).next hb9); (first | replace hG := hG.next hb9 | replace hG := (hG.draw _).next hb9 | replace hG := hG.draw1.next hb9 | replace hG := (hG.alloc _).next hb9); have cA0 := hA.1; have cA1 := hA.2; clear hb9))
        obtain ⟨V, hV⟩ : ∃ V, V = w9.alloc (.cells #[.int .i64 e1, .int .i64 a1] 37) := ⟨_, rfl⟩
        have hR : Flt V w9.heap.size e1 a1 := by subst hV; exact flt_new _ _ _ _
        have hTx : _ := hT.alloc (.cells #[.int .i64 e1, .int .i64 a1] 37)
        have hgx : _ := hg.alloc (.cells #[.int .i64 e1, .int .i64 a1] 37)
        have hAx : _ := hA.alloc (.cells #[.int .i64 e1, .int .i64 a1] 37)
        have hFx : _ := hF.alloc (.cells #[.int .i64 e1, .int .i64 a1] 37)
        have hGx : _ := hG.alloc (.cells #[.int .i64 e1, .int .i64 a1] 37)
        rw [← hV] at hTx hgx hAx hFx hGx ⊢
        clear hV hT hg hA hF hG cA0 cA1
        have hT := hTx
        have hg := hgx
        have hA := hAx
        have hF := hFx
        have hG := hGx
        clear hTx hgx hAx hFx hGx
        generalize w9.heap.size = pR at *
        have hm : (if a1 < a0 then a1 else a0) = a1 := if_pos (by omega)
        have cA0 := hA.1
        have cA1 := hA.2
        have cR0 := hR.1
        have cR1 := hR.2
        go_region_held3 (fun w' => w'.cell? ⟨pA, 0, none⟩ = some (.int .i64 a0) ∧ w'.cell? ⟨pA, 1, none⟩ = some (.int .i64 a1) ∧ w'.cell? ⟨pR, 0, none⟩ = some (.int .i64 e1) ∧ w'.cell? ⟨pR, 1, none⟩ = some (.int .i64 a1)) (first | go_keep | exact ⟨cA0, cA1, cR0, cR1⟩) (first | (go_at_call 13; ((with_reducible refine (T1.out _ _ _ _ (by first | exact hg | exact hg.draw _ | exact hg.draw1 | exact hg.alloc _) (by first | exact hF | exact hF.draw _ | exact hF.draw1 | exact hF.alloc _)).mono ?_)); rintro ev w9 ⟨rfl, hb9⟩; clear cA0 cA1 cR0 cR1; (first | replace hT := hT.next hb9 | replace hT := (hT.draw _).next hb9 | replace hT := hT.draw1.next hb9 | replace hT := (hT.alloc _).next hb9); (first | replace hg := hg.next hb9 | replace hg := (hg.draw _).next hb9 | replace hg := hg.draw1.next hb9 | replace hg := (hg.alloc _).next hb9); (first | replace hA := hA.next hb9 | replace hA := (hA.draw _).next hb9 | replace hA := hA.draw1.next hb9 | replace hA := (hA.alloc _).next hb9); (first | replace hF := hF.next hb9 | replace hF := (hF.draw _).next hb9 | replace hF := hF.draw1.next hb9 | replace hF := (hF.alloc _).next hb9); (first | replace hG := hG.next hb9 | replace hG := (hG.draw _).next hb9 | replace hG := hG.draw1.next hb9 | replace hG := (hG.alloc _).next hb9); (first | replace hR := hR.next hb9 | replace hR := (hR.draw _).next hb9 | replace hR := hR.draw1.next hb9 | replace hR := (hR.alloc _).next hb9); have cA0 := hA.1; have cA1 := hA.2; have cR0 := hR.1; have cR1 := hR.2; clear hb9) | (go_at_call 13; ((with_reducible refine (T1.out _ _ _ _ (by first | exact hg | exact hg.draw _ | exact hg.draw1 | exact hg.alloc _) (by first | exact hG | exact hG.draw _ | exact hG.draw1 | exact hG.alloc _)).mono ?_)); rintro ev w9 ⟨rfl, hb9⟩; clear cA0 cA1 cR0 cR1; (first | replace hT := hT.next hb9 | replace hT := (hT.draw _).next hb9 | replace hT := hT.draw1.next hb9 | replace hT := (hT.alloc _).next hb9); (first | replace hg := hg.next hb9 | replace hg := (hg.draw _).next hb9 | replace hg := hg.draw1.next hb9 | replace hg := (hg.alloc _).next hb9); (first | replace hA := hA.next hb9 | replace hA := (hA.draw _).next hb9 | replace hA := hA.draw1.next hb9 | replace hA := (hA.alloc _).next hb9); (first | replace hF := hF.next hb9 | replace hF := (hF.draw _).next hb9 | replace hF := hF.draw1.next hb9 | replace hF := (hF.alloc _).next hb9); (first | replace hG := hG.next hb9 | replace hG := (hG.draw _).next hb9 | replace hG := hG.draw1.next hb9 | replace hG := (hG.alloc _).next hb9); (first | replace hR := hR.next hb9 | replace hR := (hR.draw _).next hb9 | replace hR := hR.draw1.next hb9 | replace hR := (hR.alloc _).next hb9); have cA0 := hA.1; have cA1 := hA.2; have cR0 := hR.1; have cR1 := hR.2; clear hb9) | (go_at_call 16; ((with_reducible refine (first_nil _ _).mono ?_)); rintro ev w9 ⟨rfl, rfl⟩) | (go_at_call 16; ((with_reducible refine (first_one _ _).mono ?_)); rintro ev w9 ⟨rfl, rfl⟩) | (go_at_call 6; ((with_reducible refine (awake_ok _ (by first | exact hg | exact hg.draw _ | exact hg.draw1 | exact hg.alloc _)).mono ?_)); rintro ev w9 ⟨rfl, hb9⟩; clear cA0 cA1 cR0 cR1; (first | replace hT := hT.next hb9 | replace hT := (hT.draw _).next hb9 | replace hT := hT.draw1.next hb9 | replace hT := (hT.alloc _).next hb9); (first | replace hg := hg.next hb9 | replace hg := (hg.draw _).next hb9 | replace hg := hg.draw1.next hb9 | replace hg := (hg.alloc _).next hb9); (first | replace hA := hA.next hb9 | replace hA := (hA.draw _).next hb9 | replace hA := hA.draw1.next hb9 | replace hA := (hA.alloc _).next hb9); (first | replace hF := hF.next hb9 | replace hF := (hF.draw _).next hb9 | replace hF := hF.draw1.next hb9 | replace hF := (hF.alloc _).next hb9); (first | replace hG := hG.next hb9 | replace hG := (hG.draw _).next hb9 | replace hG := hG.draw1.next hb9 | replace hG := (hG.alloc _).next hb9); (first | replace hR := hR.next hb9 | replace hR := (hR.draw _).next hb9 | replace hR := hR.draw1.next hb9 | replace hR := (hR.alloc _).next hb9); have cA0 := hA.1; have cA1 := hA.2; have cR0 := hR.1; have cR1 := hR.2; clear hb9))
        go_wp2_with fail
        go_ret
        exact ⟨rfl, hT⟩
      · have hfs : fst2 b c a0 a1 = b := if_neg hlt
        clear q4
        have F1 := Lib.hid fun (w : World) (hg : Laid w) (hF : Flt w b e0 a0) (hG : Flt w c e1 a1) => hfs ▸ first_two b c e0 a0 e1 a1 w hg hF hG
        clear hfs
        go_wp2_with (first | (go_at_call 16; ((with_reducible refine (F1.out _ (by first | exact hg | exact hg.draw _ | exact hg.draw1 | exact hg.alloc _) (by first | exact hF | exact hF.draw _ | exact hF.draw1 | exact hF.alloc _) (by first | exact hG | exact hG.draw _ | exact hG.draw1 | exact hG.alloc _)).mono ?_)); rintro ev w9 ⟨rfl, hb9⟩; clear cA0 cA1; (first | replace hT := hT.next hb9 | replace hT := (hT.draw _).next hb9 | replace hT := hT.draw1.next hb9 | replace hT := (hT.alloc _).next hb9); (first | replace hg := hg.next hb9 | replace hg := (hg.draw _).next hb9 | replace hg := hg.draw1.next hb9 | replace hg := (hg.alloc _).next hb9); (first | replace hA := hA.next hb9 | replace hA := (hA.draw _).next hb9 | replace hA := hA.draw1.next hb9 | replace hA := (hA.alloc _).next hb9); (first | replace hF := hF.next hb9 | replace hF := (hF.draw _).next hb9 | replace hF := hF.draw1.next hb9 | replace hF := (hF.alloc _).next hb9); (first | replace hG := hG.next hb9 | replace hG := (hG.draw _).next hb9 | replace hG := hG.draw1.next hb9 | replace hG := (hG.alloc _).next hb9); have cA0 := hA.1; have cA1 := hA.2; clear hb9) | (go_at_call 13; ((with_reducible refine (T1.out _ _ _ _ (by first | exact hg | exact hg.draw _ | exact hg.draw1 | exact hg.alloc _) (by first | exact hF | exact hF.draw _ | exact hF.draw1 | exact hF.alloc _)).mono ?_)); rintro ev w9 ⟨rfl, hb9⟩; clear cA0 cA1; (first | replace hT := hT.next hb9 | replace hT := (hT.draw _).next hb9 | replace hT := hT.draw1.next hb9 | replace hT := (hT.alloc _).next hb9); (first | replace hg := hg.next hb9 | replace hg := (hg.draw _).next hb9 | replace hg := hg.draw1.next hb9 | replace hg := (hg.alloc _).next hb9); (first | replace hA := hA.next hb9 | replace hA := (hA.draw _).next hb9 | replace hA := hA.draw1.next hb9 | replace hA := (hA.alloc _).next hb9); (first | replace hF := hF.next hb9 | replace hF := (hF.draw _).next hb9 | replace hF := hF.draw1.next hb9 | replace hF := (hF.alloc _).next hb9); (first | replace hG := hG.next hb9 | replace hG := (hG.draw _).next hb9 | replace hG := hG.draw1.next hb9 | replace hG := (hG.alloc _).next hb9); have cA0 := hA.1; have cA1 := hA.2; clear hb9))
        obtain ⟨V, hV⟩ : ∃ V, V = w9.alloc (.cells #[.int .i64 e0, .int .i64 a0] 37) := ⟨_, rfl⟩
        have hR : Flt V w9.heap.size e0 a0 := by subst hV; exact flt_new _ _ _ _
        have hTx : _ := hT.alloc (.cells #[.int .i64 e0, .int .i64 a0] 37)
        have hgx : _ := hg.alloc (.cells #[.int .i64 e0, .int .i64 a0] 37)
        have hAx : _ := hA.alloc (.cells #[.int .i64 e0, .int .i64 a0] 37)
        have hFx : _ := hF.alloc (.cells #[.int .i64 e0, .int .i64 a0] 37)
        have hGx : _ := hG.alloc (.cells #[.int .i64 e0, .int .i64 a0] 37)
        rw [← hV] at hTx hgx hAx hFx hGx ⊢
        clear hV hT hg hA hF hG cA0 cA1
        have hT := hTx
        have hg := hgx
        have hA := hAx
        have hF := hFx
        have hG := hGx
        clear hTx hgx hAx hFx hGx
        generalize w9.heap.size = pR at *
        have hm : (if a1 < a0 then a1 else a0) = a0 := if_neg (by omega)
        have cA0 := hA.1
        have cA1 := hA.2
        have cR0 := hR.1
        have cR1 := hR.2
        refine wp_region_held_drew (S := (fun w' => w'.cell? ⟨pA, 0, none⟩ = some (.int .i64 a0) ∧ w'.cell? ⟨pA, 1, none⟩ = some (.int .i64 a1) ∧ w'.cell? ⟨pR, 0, none⟩ = some (.int .i64 e0) ∧ w'.cell? ⟨pR, 1, none⟩ = some (.int .i64 a0))) (by kernel_rfl) ?_ (fun hH => ?_)
        · (first | go_keep | exact ⟨cA0, cA1, cR0, cR1⟩)
        refine wpAnyH_take (i := 0) (oi := { dst := some 100, op := Op.load 37 (Operand.tmp 10), type := 37, pos := "own.go:47", after := #[], guard := none }) (v := ?_) rfl (by kernel_rfl) (by kernel_rfl) (by kernel_rfl) (fun _ _ _ h => h) (Or.inl ⟨by rfl, ?_⟩) hH ?_
        rotate_left
        · intro w hSw; (try dsimp only at hSw); go_simp <;> with_reducible rfl
        try simp only [Act.put, List.setIfInBounds_toArray, List.set_cons_zero, List.set_cons_succ]
        refine wpAnyH_take (i := 1) (oi := { dst := some 101, op := Op.move (Operand.tmp 8), type := 25, pos := "own.go:47", after := #[], guard := none }) (v := ?_) rfl (by kernel_rfl) (by kernel_rfl) (by kernel_rfl) (fun _ _ _ h => h) (Or.inl ⟨by rfl, ?_⟩) hH ?_
        rotate_left
        · intro w hSw; (try dsimp only at hSw); go_simp <;> with_reducible rfl
        try simp only [Act.put, List.setIfInBounds_toArray, List.set_cons_zero, List.set_cons_succ]
        refine wpAnyH_ready (rs := [2]) (by kernel_rfl) (by simp) ?_
        refine AllReadyH.cons (o := { dst := some 102, op := Op.call { callee := Callee.value (Operand.func 13), args := #[Operand.tmp 101], argTypes := #[25] }, type := 37, pos := "own.go:47", after := #[{ on := 1, ground := Ground.data }], guard := none }) rfl (fun K hK => ?_) AllReadyH.nil
        go_simp
        go_at_call 13
        refine (T1.out _ _ _ _ (by first | exact hg | exact hg.draw _ | exact hg.draw1 | exact hg.alloc _) (by first | exact hF | exact hF.draw _ | exact hF.draw1 | exact hF.alloc _)).mono ?_
        rintro ev w9 ⟨rfl, hb9⟩
        clear cA0 cA1 cR0 cR1
        (first | replace hT := hT.next hb9 | replace hT := (hT.draw _).next hb9 | replace hT := hT.draw1.next hb9 | replace hT := (hT.alloc _).next hb9)
        (first | replace hg := hg.next hb9 | replace hg := (hg.draw _).next hb9 | replace hg := hg.draw1.next hb9 | replace hg := (hg.alloc _).next hb9)
        (first | replace hA := hA.next hb9 | replace hA := (hA.draw _).next hb9 | replace hA := hA.draw1.next hb9 | replace hA := (hA.alloc _).next hb9)
        (first | replace hF := hF.next hb9 | replace hF := (hF.draw _).next hb9 | replace hF := hF.draw1.next hb9 | replace hF := (hF.alloc _).next hb9)
        (first | replace hG := hG.next hb9 | replace hG := (hG.draw _).next hb9 | replace hG := hG.draw1.next hb9 | replace hG := (hG.alloc _).next hb9)
        (first | replace hR := hR.next hb9 | replace hR := (hR.draw _).next hb9 | replace hR := hR.draw1.next hb9 | replace hR := (hR.alloc _).next hb9)
        have cA0 := hA.1
        have cA1 := hA.2
        have cR0 := hR.1
        have cR1 := hR.2
        clear hb9
        go_simp
        refine hK.out _ _ ?_ (fun hH => ?_)
        · (first | go_keep | exact ⟨cA0, cA1, cR0, cR1⟩)
        clear hK K
        try simp only [Act.put, List.setIfInBounds_toArray, List.set_cons_zero, List.set_cons_succ]
        refine wpAnyH_take (i := 3) (oi := { dst := some 103, op := Op.binOp BinOp.eql 37 (Operand.tmp 100) (Operand.tmp 102) 37, type := 4, pos := "own.go:47", after := #[{ on := 0, ground := Ground.data }, { on := 2, ground := Ground.data }], guard := none }) (v := ?_) rfl (by kernel_rfl) (by kernel_rfl) (by kernel_rfl) (fun _ _ _ h => h) (Or.inl ⟨by rfl, ?_⟩) hH ?_
        rotate_left
        · intro w hSw; (try dsimp only at hSw); go_simp <;> with_reducible rfl
        try simp only [Act.put, List.setIfInBounds_toArray, List.set_cons_zero, List.set_cons_succ]
        refine wpAnyH_take (i := 4) (oi := { dst := some 104, op := Op.move (Operand.tmp 103), type := 4, pos := "own.go:47", after := #[{ on := 3, ground := Ground.data }, { on := 2, ground := Ground.chain }], guard := none }) (v := ?_) rfl (by kernel_rfl) (by kernel_rfl) (by kernel_rfl) (fun _ _ _ h => h) (Or.inl ⟨by rfl, ?_⟩) hH ?_
        rotate_left
        · intro w hSw; (try dsimp only at hSw); go_simp <;> with_reducible rfl
        try simp only [Act.put, List.setIfInBounds_toArray, List.set_cons_zero, List.set_cons_succ]
        refine wpAnyH_take (i := 5) (oi := { dst := some 105, op := Op.load 37 (Operand.tmp 10), type := 37, pos := "own.go:47", after := #[{ on := 4, ground := Ground.guard }], guard := some (4, false) }) (v := undef) rfl (by kernel_rfl) (by kernel_rfl) (by kernel_rfl) (fun _ _ _ h => h) (Or.inr ⟨by rfl, rfl⟩) hH ?_
        try simp only [Act.put, List.setIfInBounds_toArray, List.set_cons_zero, List.set_cons_succ]
        refine wpAnyH_take (i := 6) (oi := { dst := some 106, op := Op.move (Operand.tmp 9), type := 25, pos := "own.go:47", after := #[{ on := 4, ground := Ground.guard }], guard := some (4, false) }) (v := undef) rfl (by kernel_rfl) (by kernel_rfl) (by kernel_rfl) (fun _ _ _ h => h) (Or.inr ⟨by rfl, rfl⟩) hH ?_
        try simp only [Act.put, List.setIfInBounds_toArray, List.set_cons_zero, List.set_cons_succ]
        refine wpAnyH_take (i := 7) (oi := { dst := some 107, op := Op.call { callee := Callee.value (Operand.func 13), args := #[Operand.tmp 106], argTypes := #[25] }, type := 37, pos := "own.go:47", after := #[{ on := 6, ground := Ground.data }, { on := 4, ground := Ground.chain }, { on := 4, ground := Ground.guard }], guard := some (4, false) }) (v := undef) rfl (by kernel_rfl) (by kernel_rfl) (by kernel_rfl) (fun _ _ _ h => h) (Or.inr ⟨by rfl, rfl⟩) hH ?_
        try simp only [Act.put, List.setIfInBounds_toArray, List.set_cons_zero, List.set_cons_succ]
        refine wpAnyH_take (i := 8) (oi := { dst := some 108, op := Op.binOp BinOp.eql 37 (Operand.tmp 105) (Operand.tmp 107) 37, type := 4, pos := "own.go:47", after := #[{ on := 5, ground := Ground.data }, { on := 7, ground := Ground.data }, { on := 4, ground := Ground.guard }], guard := some (4, false) }) (v := undef) rfl (by kernel_rfl) (by kernel_rfl) (by kernel_rfl) (fun _ _ _ h => h) (Or.inr ⟨by rfl, rfl⟩) hH ?_
        try simp only [Act.put, List.setIfInBounds_toArray, List.set_cons_zero, List.set_cons_succ]
        refine wpAnyH_take (i := 9) (oi := { dst := some 109, op := Op.pick (Operand.tmp 104) (Operand.const (Value.bool true)) (Operand.tmp 108), type := 4, pos := "own.go:47", after := #[{ on := 4, ground := Ground.data }, { on := 8, ground := Ground.data }], guard := none }) (v := ?_) rfl (by kernel_rfl) (by kernel_rfl) (by kernel_rfl) (fun _ _ _ h => h) (Or.inl ⟨by rfl, ?_⟩) hH ?_
        rotate_left
        · intro w hSw; (try dsimp only at hSw); go_simp <;> with_reducible rfl
        try simp only [Act.put, List.setIfInBounds_toArray, List.set_cons_zero, List.set_cons_succ]
        refine wpAnyH_take (i := 10) (oi := { dst := some 110, op := Op.move (Operand.tmp 109), type := 4, pos := "own.go:47", after := #[{ on := 9, ground := Ground.data }, { on := 7, ground := Ground.chain }], guard := none }) (v := ?_) rfl (by kernel_rfl) (by kernel_rfl) (by kernel_rfl) (fun _ _ _ h => h) (Or.inl ⟨by rfl, ?_⟩) hH ?_
        rotate_left
        · intro w hSw; (try dsimp only at hSw); go_simp <;> with_reducible rfl
        try simp only [Act.put, List.setIfInBounds_toArray, List.set_cons_zero, List.set_cons_succ]
        refine wpAnyH_take (i := 11) (oi := { dst := some 111, op := Op.fieldAddr 37 (Operand.tmp 10) 1, type := 0, pos := "own.go:47", after := #[{ on := 10, ground := Ground.guard }], guard := some (10, true) }) (v := ?_) rfl (by kernel_rfl) (by kernel_rfl) (by kernel_rfl) (fun _ _ _ h => h) (Or.inl ⟨by rfl, ?_⟩) hH ?_
        rotate_left
        · intro w hSw; (try dsimp only at hSw); go_simp <;> with_reducible rfl
        try simp only [Act.put, List.setIfInBounds_toArray, List.set_cons_zero, List.set_cons_succ]
        refine wpAnyH_take (i := 12) (oi := { dst := some 112, op := Op.load 3 (Operand.tmp 111), type := 3, pos := "own.go:47", after := #[{ on := 11, ground := Ground.data }, { on := 10, ground := Ground.guard }], guard := some (10, true) }) (v := ?_) rfl (by kernel_rfl) (by kernel_rfl) (by kernel_rfl) (fun _ _ _ h => h) (Or.inl ⟨by rfl, ?_⟩) hH ?_
        rotate_left
        · intro w hSw; (try dsimp only at hSw); go_simp <;> with_reducible rfl
        try simp only [Act.put, List.setIfInBounds_toArray, List.set_cons_zero, List.set_cons_succ]
        refine wpAnyH_take (i := 13) (oi := { dst := some 113, op := Op.indexAddr 22 (Operand.tmp 4) (Operand.const (Value.int IntKind.i64 0)), type := 0, pos := "own.go:47", after := #[{ on := 10, ground := Ground.guard }], guard := some (10, true) }) (v := ?_) rfl (by kernel_rfl) (by kernel_rfl) (by kernel_rfl) (fun _ _ _ h => h) (Or.inl ⟨by rfl, ?_⟩) hH ?_
        rotate_left
        · intro w hSw; (try dsimp only at hSw); go_simp <;> with_reducible rfl
        try simp only [Act.put, List.setIfInBounds_toArray, List.set_cons_zero, List.set_cons_succ]
        refine wpAnyH_take (i := 14) (oi := { dst := some 114, op := Op.load 3 (Operand.tmp 113), type := 3, pos := "own.go:47", after := #[{ on := 13, ground := Ground.data }, { on := 10, ground := Ground.guard }], guard := some (10, true) }) (v := ?_) rfl (by kernel_rfl) (by kernel_rfl) (by kernel_rfl) (fun _ _ _ h => h) (Or.inl ⟨by rfl, ?_⟩) hH ?_
        rotate_left
        · intro w hSw; (try dsimp only at hSw); go_simp <;> with_reducible rfl
        try simp only [Act.put, List.setIfInBounds_toArray, List.set_cons_zero, List.set_cons_succ]
        refine wpAnyH_take (i := 15) (oi := { dst := some 115, op := Op.indexAddr 22 (Operand.tmp 4) (Operand.const (Value.int IntKind.i64 1)), type := 0, pos := "own.go:47", after := #[{ on := 10, ground := Ground.guard }], guard := some (10, true) }) (v := ?_) rfl (by kernel_rfl) (by kernel_rfl) (by kernel_rfl) (fun _ _ _ h => h) (Or.inl ⟨by rfl, ?_⟩) hH ?_
        rotate_left
        · intro w hSw; (try dsimp only at hSw); go_simp <;> with_reducible rfl
        try simp only [Act.put, List.setIfInBounds_toArray, List.set_cons_zero, List.set_cons_succ]
        refine wpAnyH_take (i := 16) (oi := { dst := some 116, op := Op.load 3 (Operand.tmp 115), type := 3, pos := "own.go:47", after := #[{ on := 15, ground := Ground.data }, { on := 10, ground := Ground.guard }], guard := some (10, true) }) (v := ?_) rfl (by kernel_rfl) (by kernel_rfl) (by kernel_rfl) (fun _ _ _ h => h) (Or.inl ⟨by rfl, ?_⟩) hH ?_
        rotate_left
        · intro w hSw; (try dsimp only at hSw); go_simp <;> with_reducible rfl
        try simp only [Act.put, List.setIfInBounds_toArray, List.set_cons_zero, List.set_cons_succ]
        refine wpAnyH_take (i := 17) (oi := { dst := some 117, op := Op.call { callee := Callee.builtin Builtin.min, args := #[Operand.tmp 114, Operand.tmp 116], argTypes := #[3, 3] }, type := 3, pos := "own.go:47", after := #[{ on := 14, ground := Ground.data }, { on := 16, ground := Ground.data }, { on := 10, ground := Ground.guard }], guard := some (10, true) }) (v := ?_) rfl (by kernel_rfl) (by kernel_rfl) (by kernel_rfl) (fun _ _ _ h => h) (Or.inl ⟨by rfl, ?_⟩) hH ?_
        rotate_left
        · intro w hSw; (try dsimp only at hSw); go_simp <;> with_reducible rfl
        try simp only [Act.put, List.setIfInBounds_toArray, List.set_cons_zero, List.set_cons_succ]
        refine wpAnyH_take (i := 18) (oi := { dst := some 118, op := Op.binOp BinOp.eql 3 (Operand.tmp 112) (Operand.tmp 117) 3, type := 4, pos := "own.go:47", after := #[{ on := 12, ground := Ground.data }, { on := 17, ground := Ground.data }, { on := 10, ground := Ground.guard }], guard := some (10, true) }) (v := ?_) rfl (by kernel_rfl) (by kernel_rfl) (by kernel_rfl) (fun _ _ _ h => h) (Or.inl ⟨by rfl, ?_⟩) hH ?_
        rotate_left
        · intro w hSw; (try dsimp only at hSw); go_simp <;> with_reducible rfl
        try simp only [Act.put, List.setIfInBounds_toArray, List.set_cons_zero, List.set_cons_succ]
        refine wpAnyH_take (i := 19) (oi := { dst := some 119, op := Op.pick (Operand.tmp 110) (Operand.tmp 118) (Operand.const (Value.bool false)), type := 4, pos := "own.go:47", after := #[{ on := 10, ground := Ground.data }, { on := 18, ground := Ground.data }], guard := none }) (v := ?_) rfl (by kernel_rfl) (by kernel_rfl) (by kernel_rfl) (fun _ _ _ h => h) (Or.inl ⟨by rfl, ?_⟩) hH ?_
        rotate_left
        · intro w hSw; (try dsimp only at hSw); go_simp <;> with_reducible rfl
        try simp only [Act.put, List.setIfInBounds_toArray, List.set_cons_zero, List.set_cons_succ]
        refine wpAnyH_take (i := 20) (oi := { dst := some 120, op := Op.move (Operand.tmp 119), type := 4, pos := "own.go:47", after := #[{ on := 19, ground := Ground.data }, { on := 10, ground := Ground.chain }], guard := none }) (v := ?_) rfl (by kernel_rfl) (by kernel_rfl) (by kernel_rfl) (fun _ _ _ h => h) (Or.inl ⟨by rfl, ?_⟩) hH ?_
        rotate_left
        · intro w hSw; (try dsimp only at hSw); go_simp <;> with_reducible rfl
        try simp only [Act.put, List.setIfInBounds_toArray, List.set_cons_zero, List.set_cons_succ]
        refine wpAnyH_take (i := 21) (oi := { dst := some 121, op := Op.move (Operand.tmp 9), type := 25, pos := "own.go:47", after := #[{ on := 20, ground := Ground.guard }], guard := some (20, true) }) (v := ?_) rfl (by kernel_rfl) (by kernel_rfl) (by kernel_rfl) (fun _ _ _ h => h) (Or.inl ⟨by rfl, ?_⟩) hH ?_
        rotate_left
        · intro w hSw; (try dsimp only at hSw); go_simp <;> with_reducible rfl
        try simp only [Act.put, List.setIfInBounds_toArray, List.set_cons_zero, List.set_cons_succ]
        refine wpAnyH_take (i := 24) (oi := { dst := some 124, op := Op.move (Operand.tmp 9), type := 25, pos := "own.go:47", after := #[{ on := 20, ground := Ground.guard }], guard := some (20, true) }) (v := ?_) rfl (by kernel_rfl) (by kernel_rfl) (by kernel_rfl) (fun _ _ _ h => h) (Or.inl ⟨by rfl, ?_⟩) hH ?_
        rotate_left
        · intro w hSw; (try dsimp only at hSw); go_simp <;> with_reducible rfl
        try simp only [Act.put, List.setIfInBounds_toArray, List.set_cons_zero, List.set_cons_succ]
        refine wpAnyH_ready (rs := [22]) (by kernel_rfl) (by simp) ?_
        refine AllReadyH.cons (o := { dst := some 122, op := Op.call { callee := Callee.value (Operand.func 16), args := #[Operand.const Value.nilIface, Operand.tmp 121], argTypes := #[25, 25] }, type := 25, pos := "own.go:47", after := #[{ on := 21, ground := Ground.data }, { on := 20, ground := Ground.chain }, { on := 20, ground := Ground.guard }], guard := some (20, true) }) rfl (fun K hK => ?_) AllReadyH.nil
        go_simp
        go_at_call 16
        refine (first_nil _ _).mono ?_
        rintro ev w9 ⟨rfl, rfl⟩
        go_simp
        refine hK.out _ _ ?_ (fun hH => ?_)
        · exact hH
        clear hK K
        try simp only [Act.put, List.setIfInBounds_toArray, List.set_cons_zero, List.set_cons_succ]
        refine wpAnyH_ready (rs := [23]) (by kernel_rfl) (by simp) ?_
        refine AllReadyH.cons (o := { dst := some 123, op := Op.call { callee := Callee.value (Operand.func 13), args := #[Operand.tmp 122], argTypes := #[25] }, type := 37, pos := "own.go:47", after := #[{ on := 22, ground := Ground.data }, { on := 22, ground := Ground.chain }, { on := 20, ground := Ground.guard }], guard := some (20, true) }) rfl (fun K hK => ?_) AllReadyH.nil
        go_simp
        go_at_call 13
        refine (T1.out _ _ _ _ (by first | exact hg | exact hg.draw _ | exact hg.draw1 | exact hg.alloc _) (by first | exact hG | exact hG.draw _ | exact hG.draw1 | exact hG.alloc _)).mono ?_
        rintro ev w9 ⟨rfl, hb9⟩
        clear cA0 cA1 cR0 cR1
        (first | replace hT := hT.next hb9 | replace hT := (hT.draw _).next hb9 | replace hT := hT.draw1.next hb9 | replace hT := (hT.alloc _).next hb9)
        (first | replace hg := hg.next hb9 | replace hg := (hg.draw _).next hb9 | replace hg := hg.draw1.next hb9 | replace hg := (hg.alloc _).next hb9)
        (first | replace hA := hA.next hb9 | replace hA := (hA.draw _).next hb9 | replace hA := hA.draw1.next hb9 | replace hA := (hA.alloc _).next hb9)
        (first | replace hF := hF.next hb9 | replace hF := (hF.draw _).next hb9 | replace hF := hF.draw1.next hb9 | replace hF := (hF.alloc _).next hb9)
        (first | replace hG := hG.next hb9 | replace hG := (hG.draw _).next hb9 | replace hG := hG.draw1.next hb9 | replace hG := (hG.alloc _).next hb9)
        (first | replace hR := hR.next hb9 | replace hR := (hR.draw _).next hb9 | replace hR := hR.draw1.next hb9 | replace hR := (hR.alloc _).next hb9)
        have cA0 := hA.1
        have cA1 := hA.2
        have cR0 := hR.1
        have cR1 := hR.2
        clear hb9
        go_simp
        refine hK.out _ _ ?_ (fun hH => ?_)
        · (first | go_keep | exact ⟨cA0, cA1, cR0, cR1⟩)
        clear hK K
        try simp only [Act.put, List.setIfInBounds_toArray, List.set_cons_zero, List.set_cons_succ]
        refine wpAnyH_ready (rs := [25]) (by kernel_rfl) (by simp) ?_
        refine AllReadyH.cons (o := { dst := some 125, op := Op.call { callee := Callee.value (Operand.func 13), args := #[Operand.tmp 124], argTypes := #[25] }, type := 37, pos := "own.go:47", after := #[{ on := 24, ground := Ground.data }, { on := 23, ground := Ground.chain }, { on := 20, ground := Ground.guard }], guard := some (20, true) }) rfl (fun K hK => ?_) AllReadyH.nil
        go_simp
        go_at_call 13
        refine (T1.out _ _ _ _ (by first | exact hg | exact hg.draw _ | exact hg.draw1 | exact hg.alloc _) (by first | exact hG | exact hG.draw _ | exact hG.draw1 | exact hG.alloc _)).mono ?_
        rintro ev w9 ⟨rfl, hb9⟩
        clear cA0 cA1 cR0 cR1
        (first | replace hT := hT.next hb9 | replace hT := (hT.draw _).next hb9 | replace hT := hT.draw1.next hb9 | replace hT := (hT.alloc _).next hb9)
        (first | replace hg := hg.next hb9 | replace hg := (hg.draw _).next hb9 | replace hg := hg.draw1.next hb9 | replace hg := (hg.alloc _).next hb9)
        (first | replace hA := hA.next hb9 | replace hA := (hA.draw _).next hb9 | replace hA := hA.draw1.next hb9 | replace hA := (hA.alloc _).next hb9)
        (first | replace hF := hF.next hb9 | replace hF := (hF.draw _).next hb9 | replace hF := hF.draw1.next hb9 | replace hF := (hF.alloc _).next hb9)
        (first | replace hG := hG.next hb9 | replace hG := (hG.draw _).next hb9 | replace hG := hG.draw1.next hb9 | replace hG := (hG.alloc _).next hb9)
        (first | replace hR := hR.next hb9 | replace hR := (hR.draw _).next hb9 | replace hR := hR.draw1.next hb9 | replace hR := (hR.alloc _).next hb9)
        have cA0 := hA.1
        have cA1 := hA.2
        have cR0 := hR.1
        have cR1 := hR.2
        clear hb9
        go_simp
        refine hK.out _ _ ?_ (fun hH => ?_)
        · (first | go_keep | exact ⟨cA0, cA1, cR0, cR1⟩)
        clear hK K
        try simp only [Act.put, List.setIfInBounds_toArray, List.set_cons_zero, List.set_cons_succ]
        refine wpAnyH_take (i := 26) (oi := { dst := some 126, op := Op.binOp BinOp.eql 37 (Operand.tmp 123) (Operand.tmp 125) 37, type := 4, pos := "own.go:47", after := #[{ on := 23, ground := Ground.data }, { on := 25, ground := Ground.data }, { on := 20, ground := Ground.guard }], guard := some (20, true) }) (v := ?_) rfl (by kernel_rfl) (by kernel_rfl) (by kernel_rfl) (fun _ _ _ h => h) (Or.inl ⟨by rfl, ?_⟩) hH ?_
        rotate_left
        · intro w hSw; (try dsimp only at hSw); go_simp <;> with_reducible rfl
        try simp only [Act.put, List.setIfInBounds_toArray, List.set_cons_zero, List.set_cons_succ]
        refine wpAnyH_take (i := 27) (oi := { dst := some 127, op := Op.pick (Operand.tmp 120) (Operand.tmp 126) (Operand.const (Value.bool false)), type := 4, pos := "own.go:47", after := #[{ on := 20, ground := Ground.data }, { on := 26, ground := Ground.data }], guard := none }) (v := ?_) rfl (by kernel_rfl) (by kernel_rfl) (by kernel_rfl) (fun _ _ _ h => h) (Or.inl ⟨by rfl, ?_⟩) hH ?_
        rotate_left
        · intro w hSw; (try dsimp only at hSw); go_simp <;> with_reducible rfl
        try simp only [Act.put, List.setIfInBounds_toArray, List.set_cons_zero, List.set_cons_succ]
        refine wpAnyH_take (i := 28) (oi := { dst := some 128, op := Op.move (Operand.tmp 127), type := 4, pos := "own.go:47", after := #[{ on := 27, ground := Ground.data }, { on := 25, ground := Ground.chain }], guard := none }) (v := ?_) rfl (by kernel_rfl) (by kernel_rfl) (by kernel_rfl) (fun _ _ _ h => h) (Or.inl ⟨by rfl, ?_⟩) hH ?_
        rotate_left
        · intro w hSw; (try dsimp only at hSw); go_simp <;> with_reducible rfl
        try simp only [Act.put, List.setIfInBounds_toArray, List.set_cons_zero, List.set_cons_succ]
        refine wpAnyH_take (i := 29) (oi := { dst := some 129, op := Op.move (Operand.tmp 8), type := 25, pos := "own.go:47", after := #[{ on := 28, ground := Ground.guard }], guard := some (28, true) }) (v := ?_) rfl (by kernel_rfl) (by kernel_rfl) (by kernel_rfl) (fun _ _ _ h => h) (Or.inl ⟨by rfl, ?_⟩) hH ?_
        rotate_left
        · intro w hSw; (try dsimp only at hSw); go_simp <;> with_reducible rfl
        try simp only [Act.put, List.setIfInBounds_toArray, List.set_cons_zero, List.set_cons_succ]
        refine wpAnyH_take (i := 32) (oi := { dst := some 132, op := Op.move (Operand.tmp 8), type := 25, pos := "own.go:47", after := #[{ on := 28, ground := Ground.guard }], guard := some (28, true) }) (v := ?_) rfl (by kernel_rfl) (by kernel_rfl) (by kernel_rfl) (fun _ _ _ h => h) (Or.inl ⟨by rfl, ?_⟩) hH ?_
        rotate_left
        · intro w hSw; (try dsimp only at hSw); go_simp <;> with_reducible rfl
        try simp only [Act.put, List.setIfInBounds_toArray, List.set_cons_zero, List.set_cons_succ]
        refine wpAnyH_ready (rs := [30]) (by kernel_rfl) (by simp) ?_
        refine AllReadyH.cons (o := { dst := some 130, op := Op.call { callee := Callee.value (Operand.func 16), args := #[Operand.tmp 129, Operand.const Value.nilIface], argTypes := #[25, 25] }, type := 25, pos := "own.go:47", after := #[{ on := 29, ground := Ground.data }, { on := 28, ground := Ground.chain }, { on := 28, ground := Ground.guard }], guard := some (28, true) }) rfl (fun K hK => ?_) AllReadyH.nil
        go_simp
        go_at_call 16
        refine (first_one _ _).mono ?_
        rintro ev w9 ⟨rfl, rfl⟩
        go_simp
        refine hK.out _ _ ?_ (fun hH => ?_)
        · exact hH
        clear hK K
        try simp only [Act.put, List.setIfInBounds_toArray, List.set_cons_zero, List.set_cons_succ]
        refine wpAnyH_ready (rs := [31]) (by kernel_rfl) (by simp) ?_
        refine AllReadyH.cons (o := { dst := some 131, op := Op.call { callee := Callee.value (Operand.func 13), args := #[Operand.tmp 130], argTypes := #[25] }, type := 37, pos := "own.go:47", after := #[{ on := 30, ground := Ground.data }, { on := 30, ground := Ground.chain }, { on := 28, ground := Ground.guard }], guard := some (28, true) }) rfl (fun K hK => ?_) AllReadyH.nil
        go_simp
        go_at_call 13
        refine (T1.out _ _ _ _ (by first | exact hg | exact hg.draw _ | exact hg.draw1 | exact hg.alloc _) (by first | exact hF | exact hF.draw _ | exact hF.draw1 | exact hF.alloc _)).mono ?_
        rintro ev w9 ⟨rfl, hb9⟩
        clear cA0 cA1 cR0 cR1
        (first | replace hT := hT.next hb9 | replace hT := (hT.draw _).next hb9 | replace hT := hT.draw1.next hb9 | replace hT := (hT.alloc _).next hb9)
        (first | replace hg := hg.next hb9 | replace hg := (hg.draw _).next hb9 | replace hg := hg.draw1.next hb9 | replace hg := (hg.alloc _).next hb9)
        (first | replace hA := hA.next hb9 | replace hA := (hA.draw _).next hb9 | replace hA := hA.draw1.next hb9 | replace hA := (hA.alloc _).next hb9)
        (first | replace hF := hF.next hb9 | replace hF := (hF.draw _).next hb9 | replace hF := hF.draw1.next hb9 | replace hF := (hF.alloc _).next hb9)
        (first | replace hG := hG.next hb9 | replace hG := (hG.draw _).next hb9 | replace hG := hG.draw1.next hb9 | replace hG := (hG.alloc _).next hb9)
        (first | replace hR := hR.next hb9 | replace hR := (hR.draw _).next hb9 | replace hR := hR.draw1.next hb9 | replace hR := (hR.alloc _).next hb9)
        have cA0 := hA.1
        have cA1 := hA.2
        have cR0 := hR.1
        have cR1 := hR.2
        clear hb9
        go_simp
        refine hK.out _ _ ?_ (fun hH => ?_)
        · (first | go_keep | exact ⟨cA0, cA1, cR0, cR1⟩)
        clear hK K
        try simp only [Act.put, List.setIfInBounds_toArray, List.set_cons_zero, List.set_cons_succ]
        refine wpAnyH_ready (rs := [33]) (by kernel_rfl) (by simp) ?_
        refine AllReadyH.cons (o := { dst := some 133, op := Op.call { callee := Callee.value (Operand.func 13), args := #[Operand.tmp 132], argTypes := #[25] }, type := 37, pos := "own.go:47", after := #[{ on := 32, ground := Ground.data }, { on := 31, ground := Ground.chain }, { on := 28, ground := Ground.guard }], guard := some (28, true) }) rfl (fun K hK => ?_) AllReadyH.nil
        go_simp
        go_at_call 13
        refine (T1.out _ _ _ _ (by first | exact hg | exact hg.draw _ | exact hg.draw1 | exact hg.alloc _) (by first | exact hF | exact hF.draw _ | exact hF.draw1 | exact hF.alloc _)).mono ?_
        rintro ev w9 ⟨rfl, hb9⟩
        clear cA0 cA1 cR0 cR1
        (first | replace hT := hT.next hb9 | replace hT := (hT.draw _).next hb9 | replace hT := hT.draw1.next hb9 | replace hT := (hT.alloc _).next hb9)
        (first | replace hg := hg.next hb9 | replace hg := (hg.draw _).next hb9 | replace hg := hg.draw1.next hb9 | replace hg := (hg.alloc _).next hb9)
        (first | replace hA := hA.next hb9 | replace hA := (hA.draw _).next hb9 | replace hA := hA.draw1.next hb9 | replace hA := (hA.alloc _).next hb9)
        (first | replace hF := hF.next hb9 | replace hF := (hF.draw _).next hb9 | replace hF := hF.draw1.next hb9 | replace hF := (hF.alloc _).next hb9)
        (first | replace hG := hG.next hb9 | replace hG := (hG.draw _).next hb9 | replace hG := hG.draw1.next hb9 | replace hG := (hG.alloc _).next hb9)
        (first | replace hR := hR.next hb9 | replace hR := (hR.draw _).next hb9 | replace hR := hR.draw1.next hb9 | replace hR := (hR.alloc _).next hb9)
        have cA0 := hA.1
        have cA1 := hA.2
        have cR0 := hR.1
        have cR1 := hR.2
        clear hb9
        go_simp
        refine hK.out _ _ ?_ (fun hH => ?_)
        · (first | go_keep | exact ⟨cA0, cA1, cR0, cR1⟩)
        clear hK K
        try simp only [Act.put, List.setIfInBounds_toArray, List.set_cons_zero, List.set_cons_succ]
        refine wpAnyH_take (i := 34) (oi := { dst := some 134, op := Op.binOp BinOp.eql 37 (Operand.tmp 131) (Operand.tmp 133) 37, type := 4, pos := "own.go:47", after := #[{ on := 31, ground := Ground.data }, { on := 33, ground := Ground.data }, { on := 28, ground := Ground.guard }], guard := some (28, true) }) (v := ?_) rfl (by kernel_rfl) (by kernel_rfl) (by kernel_rfl) (fun _ _ _ h => h) (Or.inl ⟨by rfl, ?_⟩) hH ?_
        rotate_left
        · intro w hSw; (try dsimp only at hSw); go_simp <;> with_reducible rfl
        try simp only [Act.put, List.setIfInBounds_toArray, List.set_cons_zero, List.set_cons_succ]
        refine wpAnyH_take (i := 35) (oi := { dst := some 135, op := Op.pick (Operand.tmp 128) (Operand.tmp 134) (Operand.const (Value.bool false)), type := 4, pos := "own.go:47", after := #[{ on := 28, ground := Ground.data }, { on := 34, ground := Ground.data }], guard := none }) (v := ?_) rfl (by kernel_rfl) (by kernel_rfl) (by kernel_rfl) (fun _ _ _ h => h) (Or.inl ⟨by rfl, ?_⟩) hH ?_
        rotate_left
        · intro w hSw; (try dsimp only at hSw); go_simp <;> with_reducible rfl
        try simp only [Act.put, List.setIfInBounds_toArray, List.set_cons_zero, List.set_cons_succ]
        refine wpAnyH_take (i := 36) (oi := { dst := some 136, op := Op.move (Operand.tmp 135), type := 4, pos := "own.go:47", after := #[{ on := 35, ground := Ground.data }, { on := 33, ground := Ground.chain }], guard := none }) (v := ?_) rfl (by kernel_rfl) (by kernel_rfl) (by kernel_rfl) (fun _ _ _ h => h) (Or.inl ⟨by rfl, ?_⟩) hH ?_
        rotate_left
        · intro w hSw; (try dsimp only at hSw); go_simp <;> with_reducible rfl
        try simp only [Act.put, List.setIfInBounds_toArray, List.set_cons_zero, List.set_cons_succ]
        refine wpAnyH_ready (rs := [37]) (by kernel_rfl) (by simp) ?_
        refine AllReadyH.cons (o := { dst := some 137, op := Op.call { callee := Callee.value (Operand.func 6), args := #[], argTypes := #[] }, type := 4, pos := "own.go:47", after := #[{ on := 36, ground := Ground.chain }, { on := 36, ground := Ground.guard }], guard := some (36, true) }) rfl (fun K hK => ?_) AllReadyH.nil
        go_simp
        go_at_call 6
        refine (awake_ok _ (by first | exact hg | exact hg.draw _ | exact hg.draw1 | exact hg.alloc _)).mono ?_
        rintro ev w9 ⟨rfl, hb9⟩
        clear cA0 cA1 cR0 cR1
        (first | replace hT := hT.next hb9 | replace hT := (hT.draw _).next hb9 | replace hT := hT.draw1.next hb9 | replace hT := (hT.alloc _).next hb9)
        (first | replace hg := hg.next hb9 | replace hg := (hg.draw _).next hb9 | replace hg := hg.draw1.next hb9 | replace hg := (hg.alloc _).next hb9)
        (first | replace hA := hA.next hb9 | replace hA := (hA.draw _).next hb9 | replace hA := hA.draw1.next hb9 | replace hA := (hA.alloc _).next hb9)
        (first | replace hF := hF.next hb9 | replace hF := (hF.draw _).next hb9 | replace hF := hF.draw1.next hb9 | replace hF := (hF.alloc _).next hb9)
        (first | replace hG := hG.next hb9 | replace hG := (hG.draw _).next hb9 | replace hG := hG.draw1.next hb9 | replace hG := (hG.alloc _).next hb9)
        (first | replace hR := hR.next hb9 | replace hR := (hR.draw _).next hb9 | replace hR := hR.draw1.next hb9 | replace hR := (hR.alloc _).next hb9)
        have cA0 := hA.1
        have cA1 := hA.2
        have cR0 := hR.1
        have cR1 := hR.2
        clear hb9
        go_simp
        refine hK.out _ _ ?_ (fun hH => ?_)
        · (first | go_keep | exact ⟨cA0, cA1, cR0, cR1⟩)
        clear hK K
        try simp only [Act.put, List.setIfInBounds_toArray, List.set_cons_zero, List.set_cons_succ]
        refine wpAnyH_take (i := 38) (oi := { dst := some 138, op := Op.pick (Operand.tmp 136) (Operand.tmp 137) (Operand.const (Value.bool false)), type := 4, pos := "own.go:47", after := #[{ on := 36, ground := Ground.data }, { on := 37, ground := Ground.data }], guard := none }) (v := ?_) rfl (by kernel_rfl) (by kernel_rfl) (by kernel_rfl) (fun _ _ _ h => h) (Or.inl ⟨by rfl, ?_⟩) hH ?_
        rotate_left
        · intro w hSw; (try dsimp only at hSw); go_simp <;> with_reducible rfl
        try simp only [Act.put, List.setIfInBounds_toArray, List.set_cons_zero, List.set_cons_succ]
        refine wpAnyH_take (i := 39) (oi := { dst := some 6, op := Op.assign (Operand.tmp 138), type := 4, pos := "own.go:47", after := #[{ on := 38, ground := Ground.data }, { on := 37, ground := Ground.chain }, { on := 0, ground := Ground.phase }, { on := 1, ground := Ground.phase }, { on := 2, ground := Ground.phase }, { on := 3, ground := Ground.phase }, { on := 4, ground := Ground.phase }, { on := 5, ground := Ground.phase }, { on := 6, ground := Ground.phase }, { on := 7, ground := Ground.phase }, { on := 8, ground := Ground.phase }, { on := 9, ground := Ground.phase }, { on := 10, ground := Ground.phase }, { on := 11, ground := Ground.phase }, { on := 12, ground := Ground.phase }, { on := 13, ground := Ground.phase }, { on := 14, ground := Ground.phase }, { on := 15, ground := Ground.phase }, { on := 16, ground := Ground.phase }, { on := 17, ground := Ground.phase }, { on := 18, ground := Ground.phase }, { on := 19, ground := Ground.phase }, { on := 20, ground := Ground.phase }, { on := 21, ground := Ground.phase }, { on := 22, ground := Ground.phase }, { on := 23, ground := Ground.phase }, { on := 24, ground := Ground.phase }, { on := 25, ground := Ground.phase }, { on := 26, ground := Ground.phase }, { on := 27, ground := Ground.phase }, { on := 28, ground := Ground.phase }, { on := 29, ground := Ground.phase }, { on := 30, ground := Ground.phase }, { on := 31, ground := Ground.phase }, { on := 32, ground := Ground.phase }, { on := 33, ground := Ground.phase }, { on := 34, ground := Ground.phase }, { on := 35, ground := Ground.phase }, { on := 36, ground := Ground.phase }, { on := 37, ground := Ground.phase }, { on := 38, ground := Ground.phase }], guard := none }) (v := ?_) rfl (by kernel_rfl) (by kernel_rfl) (by kernel_rfl) (fun _ _ _ h => h) (Or.inl ⟨by rfl, ?_⟩) hH ?_
        rotate_left
        · intro w hSw; (try dsimp only at hSw); go_simp <;> with_reducible rfl
        try simp only [Act.put, List.setIfInBounds_toArray, List.set_cons_zero, List.set_cons_succ]
        refine wpAnyH_done (by kernel_rfl) ?_ _
        go_wp2_with fail
        go_ret
        exact ⟨rfl, hT⟩
theorem moves_law (e0 e1 a0 a1 m0 m1 : Int) (be0 : 0 ≤ e0 ∧ e0 ≤ 255) (be1 : 0 ≤ e1 ∧ e1 ≤ 255) (_ : -9223372036854775808 ≤ a0 ∧ a0 ≤ 9223372036854775807) (_ : -9223372036854775808 ≤ a1 ∧ a1 ≤ 9223372036854775807) (_ : -9223372036854775808 ≤ m0 ∧ m0 ≤ 9223372036854775807) (_ : -9223372036854775808 ≤ m1 ∧ m1 ≤ 9223372036854775807) (w : World) (hg : Laid w) : Calls Tryd.prog 5 #[.agg #[.int .u8 e0, .int .u8 e1], .agg #[.int .i64 a0, .int .i64 a1], .agg #[.int .i64 m0, .int .i64 m1]] w fun ev w' => ev = .returned (.bool true) ∧ Below w.heap.size w w' := by
  by_cases h : MOut e0 e1
  · exact moves_out e0 e1 a0 a1 m0 m1 h w hg
  · unfold MOut at h
    exact moves_in e0 e1 a0 a1 m0 m1 (by omega) (by omega) (by omega) (by omega) w hg
end Go.Proofs.YtjhjojoaghohjaaDoor
