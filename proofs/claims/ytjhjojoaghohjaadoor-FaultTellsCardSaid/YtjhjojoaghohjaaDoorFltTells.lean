/-
  FaultTells, walked.
-/
import Derived.Test.YtjhjojoaghohjaaDoorFltEr
import Derived.IntWalk
namespace Go.Proofs.YtjhjojoaghohjaaDoor
open Go.RowKit Go.Extern.Stop Go.Stop Go.Extern

theorem neq_F (x y x' y' : Int) (w : World) : (binOp .neq 37 (.agg #[.int .i64 x, .int .i64 y]) (.agg #[.int .i64 x', .int .i64 y'])).run Tryd.prog w = .ok (.bool (!(x == x' && y == y'))) w := by
  simp only [binOp]
  simp [Op.equal, Op.maxDepth, run_equalIn_struct (P := Tryd.prog) w 9999 37 _ _ (by rfl) (by kernel_rfl), go_sem]
  by_cases h1 : x = x' <;> by_cases h2 : y = y' <;> simp [h1, h2]
theorem eql_F (x y x' y' : Int) (w : World) : (binOp .eql 37 (.agg #[.int .i64 x, .int .i64 y]) (.agg #[.int .i64 x', .int .i64 y'])).run Tryd.prog w = .ok (.bool (x == x' && y == y')) w := by
  simp only [binOp]
  simp [Op.equal, Op.maxDepth, run_equalIn_struct (P := Tryd.prog) w 9999 37 _ _ (by rfl) (by kernel_rfl), go_sem]
  by_cases h1 : x = x' <;> by_cases h2 : y = y' <;> simp [h1, h2]
/-- what is beyond what the law takes -/
def TOut (e0 e1 a0 a1 m : Int) : Prop := 100 < e0 ∨ (e0 ≤ 100 ∧ 100 < e1) ∨ (e0 ≤ 100 ∧ e1 ≤ 100 ∧ a0 < -1099511627776) ∨ (e0 ≤ 100 ∧ e1 ≤ 100 ∧ -1099511627776 ≤ a0 ∧ 1099511627776 < a0)
  ∨ (e0 ≤ 100 ∧ e1 ≤ 100 ∧ -1099511627776 ≤ a0 ∧ a0 ≤ 1099511627776 ∧ a1 < -1099511627776) ∨ (e0 ≤ 100 ∧ e1 ≤ 100 ∧ -1099511627776 ≤ a0 ∧ a0 ≤ 1099511627776 ∧ -1099511627776 ≤ a1 ∧ 1099511627776 < a1)
  ∨ (e0 ≤ 100 ∧ e1 ≤ 100 ∧ -1099511627776 ≤ a0 ∧ a0 ≤ 1099511627776 ∧ -1099511627776 ≤ a1 ∧ a1 ≤ 1099511627776 ∧ m < -1099511627776) ∨ (e0 ≤ 100 ∧ e1 ≤ 100 ∧ -1099511627776 ≤ a0 ∧ a0 ≤ 1099511627776 ∧ -1099511627776 ≤ a1 ∧ a1 ≤ 1099511627776 ∧ -1099511627776 ≤ m ∧ 1099511627776 < m)
theorem two_boxes (e0 e1 a0 a1 : Int) (w : World) : Blw w ((w.alloc (.cells #[.int .u8 e0, .int .u8 e1] 35)).alloc (.cells #[.int .i64 a0, .int .i64 a1] 22)) ∧ By2 ((w.alloc (.cells #[.int .u8 e0, .int .u8 e1] 35)).alloc (.cells #[.int .i64 a0, .int .i64 a1] 22)) w.heap.size e0 e1 ∧ Flt ((w.alloc (.cells #[.int .u8 e0, .int .u8 e1] 35)).alloc (.cells #[.int .i64 a0, .int .i64 a1] 22)) (w.heap.size + 1) a0 a1 := by
  refine ⟨(Blw.alloc (Below.refl _ _) _).alloc _, (by2_new _ _ _ _).alloc _, ?_⟩
  have h := flt_new (w.alloc (.cells #[.int .u8 e0, .int .u8 e1] 35)) a0 a1 22
  simpa using h
set_option maxRecDepth 100000 in
set_option maxHeartbeats 4000000 in
theorem tells_out (e0 e1 a0 a1 m : Int) (h : TOut e0 e1 a0 a1 m) (w : World) (hg : Laid w) : Calls Tryd.prog 4 #[.agg #[.int .u8 e0, .int .u8 e1], .agg #[.int .i64 a0, .int .i64 a1], .int .i64 m] w fun ev w' => ev = .returned (.bool true) ∧ Below w.heap.size w w' := by
  have HW := Lib.hid (awake_ok _ ((hg.alloc (.cells #[.int .u8 e0, .int .u8 e1] 35)).alloc (.cells #[.int .i64 a0, .int .i64 a1] 22)))
  obtain ⟨hT, hE, hA⟩ := two_boxes e0 e1 a0 a1 w
  rcases h with h | ⟨h1, h2⟩ | ⟨h1, h2, h3⟩ | ⟨h1, h2, h3, h4⟩ | ⟨h1, h2, h3, h4, h5⟩ | ⟨h1, h2, h3, h4, h5, h6⟩ | ⟨h1, h2, h3, h4, h5, h6, h7⟩ | ⟨h1, h2, h3, h4, h5, h6, h7, h8⟩
  all_goals
    go_enter Tryd.func4, Tryd.ntmps4
    go_wp2_with (go_at_call 6; refine HW.out.mono ?_; rintro ev w1 ⟨rfl, hb1⟩)
    go_ret
    exact ⟨rfl, hT.next hb1⟩
set_option maxRecDepth 100000 in
set_option maxHeartbeats 4000000 in
theorem tells_in (e0 e1 a0 a1 m : Int) (h0 : 0 ≤ e0) (h1 : e0 ≤ 100) (h2 : 0 ≤ e1) (h3 : e1 ≤ 100) (i1 : -1099511627776 ≤ a0) (i2 : a0 ≤ 1099511627776) (i3 : -1099511627776 ≤ a1) (i4 : a1 ≤ 1099511627776) (i5 : -1099511627776 ≤ m) (i6 : m ≤ 1099511627776) (w : World) (hg : Laid w) : Calls Tryd.prog 4 #[.agg #[.int .u8 e0, .int .u8 e1], .agg #[.int .i64 a0, .int .i64 a1], .int .i64 m] w fun ev w' => ev = .returned (.bool true) ∧ Below w.heap.size w w' := by
  obtain ⟨hT, hE, hA⟩ := two_boxes e0 e1 a0 a1 w
  replace hg := (hg.alloc (.cells #[.int .u8 e0, .int .u8 e1] 35)).alloc (.cells #[.int .i64 a0, .int .i64 a1] 22)
  go_enter Tryd.func4, Tryd.ntmps4
  go_wp2
  obtain ⟨W, hW⟩ : ∃ W, W = (w.alloc (.cells #[.int .u8 e0, .int .u8 e1] 35)).alloc (.cells #[.int .i64 a0, .int .i64 a1] 22) := ⟨_, rfl⟩
  rw [← hW] at hg hT hE hA ⊢
  clear hW
  obtain ⟨pE, hpE⟩ : ∃ p, p = w.heap.size := ⟨_, rfl⟩
  obtain ⟨pA, hpA⟩ : ∃ p, p = w.heap.size + 1 := ⟨_, rfl⟩
  rw [← hpA] at hA ⊢
  rw [← hpE] at hE ⊢
  clear hpA hpE
  have cE0 := hE.1
  have cE1 := hE.2
  have cA0 := hA.1
  have cA1 := hA.2
  have k0 : IntKind.i64.wrap e0 = e0 := IntWalk.i64_in _ (by omega)
  have k1 : IntKind.i64.wrap e1 = e1 := IntWalk.i64_in _ (by omega)
  go_region_held3 (fun w' => w'.cell? ⟨pE, 0, none⟩ = some (.int .u8 e0) ∧ w'.cell? ⟨pE, 1, none⟩ = some (.int .u8 e1) ∧ w'.cell? ⟨pA, 0, none⟩ = some (.int .i64 a0) ∧ w'.cell? ⟨pA, 1, none⟩ = some (.int .i64 a1)) (first | go_keep | exact ⟨cE0, cE1, cA0, cA1⟩) (first | (go_at_call 7; ((with_reducible refine (new_er e0 a0 _).mono ?_)); rintro ev w9 ⟨u, rfl, hU, hb9⟩; clear cE0 cE1 cA0 cA1; (first | replace hT := hT.next hb9 | replace hT := (hT.draw _).next hb9 | replace hT := hT.draw1.next hb9 | replace hT := (hT.alloc _).next hb9); (first | replace hg := hg.next hb9 | replace hg := (hg.draw _).next hb9 | replace hg := hg.draw1.next hb9 | replace hg := (hg.alloc _).next hb9); (first | replace hE := hE.next hb9 | replace hE := (hE.draw _).next hb9 | replace hE := hE.draw1.next hb9 | replace hE := (hE.alloc _).next hb9); (first | replace hA := hA.next hb9 | replace hA := (hA.draw _).next hb9 | replace hA := hA.draw1.next hb9 | replace hA := (hA.alloc _).next hb9); have cE0 := hE.1; have cE1 := hE.2; have cA0 := hA.1; have cA1 := hA.2; clear hb9) | (go_at_call 7; ((with_reducible refine (new_er e1 a1 _).mono ?_)); rintro ev w9 ⟨v, rfl, hV, hb9⟩; clear cE0 cE1 cA0 cA1; (first | replace hT := hT.next hb9 | replace hT := (hT.draw _).next hb9 | replace hT := hT.draw1.next hb9 | replace hT := (hT.alloc _).next hb9); (first | replace hg := hg.next hb9 | replace hg := (hg.draw _).next hb9 | replace hg := hg.draw1.next hb9 | replace hg := (hg.alloc _).next hb9); (first | replace hE := hE.next hb9 | replace hE := (hE.draw _).next hb9 | replace hE := hE.draw1.next hb9 | replace hE := (hE.alloc _).next hb9); (first | replace hA := hA.next hb9 | replace hA := (hA.draw _).next hb9 | replace hA := hA.draw1.next hb9 | replace hA := (hA.alloc _).next hb9); (first | replace hU := hU.next hb9 | replace hU := (hU.draw _).next hb9 | replace hU := hU.draw1.next hb9 | replace hU := (hU.alloc _).next hb9); have cE0 := hE.1; have cE1 := hE.2; have cA0 := hA.1; have cA1 := hA.2; clear hb9))
  go_wp2_with fail
  go_cut [9, 10] (fun x y wx => CutR w9 e0 (plc e0 a0) e1 (plc e1 a1) x y wx)
  case first =>
    have hN : Blw w9 w9 := Below.refl _ _
    refine wp_region_held_drew (S := (fun w' => w'.cell? ⟨pE, 0, none⟩ = some (.int .u8 e0) ∧ w'.cell? ⟨pE, 1, none⟩ = some (.int .u8 e1) ∧ w'.cell? ⟨pA, 0, none⟩ = some (.int .i64 a0) ∧ w'.cell? ⟨pA, 1, none⟩ = some (.int .i64 a1))) (by kernel_rfl) ?_ (fun hH => ?_)
    · (first | go_keep | exact ⟨cE0, cE1, cA0, cA1⟩)
    refine wpAnyH_take (i := 0) (oi := { dst := some 60, op := Op.indexAddr 35 (Operand.tmp 3) (Operand.const (Value.int IntKind.i64 0)), type := 0, pos := "law.go:27", after := #[], guard := none }) (v := ?_) rfl (by kernel_rfl) (by kernel_rfl) (by kernel_rfl) (fun _ _ _ h => h) (Or.inl ⟨by rfl, ?_⟩) hH ?_
    rotate_left
    · intro w hSw; (try dsimp only at hSw); go_simp <;> with_reducible rfl
    try simp only [Act.put, List.setIfInBounds_toArray, List.set_cons_zero, List.set_cons_succ]
    refine wpAnyH_take (i := 1) (oi := { dst := some 61, op := Op.load 5 (Operand.tmp 60), type := 5, pos := "law.go:27", after := #[{ on := 0, ground := Ground.data }], guard := none }) (v := ?_) rfl (by kernel_rfl) (by kernel_rfl) (by kernel_rfl) (fun _ _ _ h => h) (Or.inl ⟨by rfl, ?_⟩) hH ?_
    rotate_left
    · intro w hSw; (try dsimp only at hSw); go_simp <;> with_reducible rfl
    try simp only [Act.put, List.setIfInBounds_toArray, List.set_cons_zero, List.set_cons_succ]
    refine wpAnyH_take (i := 2) (oi := { dst := some 62, op := Op.convert 5 3 (Operand.tmp 61), type := 3, pos := "law.go:27", after := #[{ on := 1, ground := Ground.data }], guard := none }) (v := ?_) rfl (by kernel_rfl) (by kernel_rfl) (by kernel_rfl) (fun _ _ _ h => h) (Or.inl ⟨by rfl, ?_⟩) hH ?_
    rotate_left
    · intro w hSw; (try dsimp only at hSw); go_simp <;> with_reducible rfl
    try simp only [Act.put, List.setIfInBounds_toArray, List.set_cons_zero, List.set_cons_succ]
    refine wpAnyH_take (i := 3) (oi := { dst := some 63, op := Op.indexAddr 22 (Operand.tmp 4) (Operand.const (Value.int IntKind.i64 0)), type := 0, pos := "law.go:27", after := #[], guard := none }) (v := ?_) rfl (by kernel_rfl) (by kernel_rfl) (by kernel_rfl) (fun _ _ _ h => h) (Or.inl ⟨by rfl, ?_⟩) hH ?_
    rotate_left
    · intro w hSw; (try dsimp only at hSw); go_simp <;> with_reducible rfl
    try simp only [Act.put, List.setIfInBounds_toArray, List.set_cons_zero, List.set_cons_succ]
    refine wpAnyH_take (i := 4) (oi := { dst := some 64, op := Op.load 3 (Operand.tmp 63), type := 3, pos := "law.go:27", after := #[{ on := 3, ground := Ground.data }], guard := none }) (v := ?_) rfl (by kernel_rfl) (by kernel_rfl) (by kernel_rfl) (fun _ _ _ h => h) (Or.inl ⟨by rfl, ?_⟩) hH ?_
    rotate_left
    · intro w hSw; (try dsimp only at hSw); go_simp <;> with_reducible rfl
    try simp only [Act.put, List.setIfInBounds_toArray, List.set_cons_zero, List.set_cons_succ]
    refine wpAnyH_take (i := 6) (oi := { dst := some 66, op := Op.indexAddr 35 (Operand.tmp 3) (Operand.const (Value.int IntKind.i64 1)), type := 0, pos := "law.go:27", after := #[], guard := none }) (v := ?_) rfl (by kernel_rfl) (by kernel_rfl) (by kernel_rfl) (fun _ _ _ h => h) (Or.inl ⟨by rfl, ?_⟩) hH ?_
    rotate_left
    · intro w hSw; (try dsimp only at hSw); go_simp <;> with_reducible rfl
    try simp only [Act.put, List.setIfInBounds_toArray, List.set_cons_zero, List.set_cons_succ]
    refine wpAnyH_take (i := 7) (oi := { dst := some 67, op := Op.load 5 (Operand.tmp 66), type := 5, pos := "law.go:27", after := #[{ on := 6, ground := Ground.data }], guard := none }) (v := ?_) rfl (by kernel_rfl) (by kernel_rfl) (by kernel_rfl) (fun _ _ _ h => h) (Or.inl ⟨by rfl, ?_⟩) hH ?_
    rotate_left
    · intro w hSw; (try dsimp only at hSw); go_simp <;> with_reducible rfl
    try simp only [Act.put, List.setIfInBounds_toArray, List.set_cons_zero, List.set_cons_succ]
    refine wpAnyH_take (i := 8) (oi := { dst := some 68, op := Op.convert 5 3 (Operand.tmp 67), type := 3, pos := "law.go:27", after := #[{ on := 7, ground := Ground.data }], guard := none }) (v := ?_) rfl (by kernel_rfl) (by kernel_rfl) (by kernel_rfl) (fun _ _ _ h => h) (Or.inl ⟨by rfl, ?_⟩) hH ?_
    rotate_left
    · intro w hSw; (try dsimp only at hSw); go_simp <;> with_reducible rfl
    try simp only [Act.put, List.setIfInBounds_toArray, List.set_cons_zero, List.set_cons_succ]
    refine wpAnyH_take (i := 9) (oi := { dst := some 69, op := Op.indexAddr 22 (Operand.tmp 4) (Operand.const (Value.int IntKind.i64 1)), type := 0, pos := "law.go:27", after := #[], guard := none }) (v := ?_) rfl (by kernel_rfl) (by kernel_rfl) (by kernel_rfl) (fun _ _ _ h => h) (Or.inl ⟨by rfl, ?_⟩) hH ?_
    rotate_left
    · intro w hSw; (try dsimp only at hSw); go_simp <;> with_reducible rfl
    try simp only [Act.put, List.setIfInBounds_toArray, List.set_cons_zero, List.set_cons_succ]
    refine wpAnyH_take (i := 10) (oi := { dst := some 70, op := Op.load 3 (Operand.tmp 69), type := 3, pos := "law.go:27", after := #[{ on := 9, ground := Ground.data }], guard := none }) (v := ?_) rfl (by kernel_rfl) (by kernel_rfl) (by kernel_rfl) (fun _ _ _ h => h) (Or.inl ⟨by rfl, ?_⟩) hH ?_
    rotate_left
    · intro w hSw; (try dsimp only at hSw); go_simp <;> with_reducible rfl
    try simp only [Act.put, List.setIfInBounds_toArray, List.set_cons_zero, List.set_cons_succ]
    refine wpAnyH_ready (rs := [5, 12, 13]) (by kernel_rfl) (by simp) ?_
    refine AllReadyH.cons (o := { dst := some 65, op := Op.call { callee := Callee.value (Operand.func 12), args := #[Operand.tmp 62, Operand.tmp 64], argTypes := #[3, 3] }, type := 37, pos := "law.go:27", after := #[{ on := 2, ground := Ground.data }, { on := 4, ground := Ground.data }], guard := none }) rfl (fun K hK => ?_) ?_
    ·
      go_simp
      go_at_call 12
      refine (rNew_er e0 a0 _).mono ?_
      rintro ev v5 ⟨rfl, hb9⟩
      (first | replace hN := hN.next hb9 | replace hN := (hN.draw _).next hb9 | replace hN := hN.draw1.next hb9 | replace hN := (hN.alloc _).next hb9)
      clear hb9
      go_simp
      refine hK.out _ _ ?_ (fun hH => ?_)
      · (first | exact ⟨(Below.cell hN (block_lt cE0)).trans cE0, (Below.cell hN (block_lt cE1)).trans cE1, (Below.cell hN (block_lt cA0)).trans cA0, (Below.cell hN (block_lt cA1)).trans cA1⟩ | go_keep)
      clear hK K
      try simp only [Act.put, List.setIfInBounds_toArray, List.set_cons_zero, List.set_cons_succ]
      refine wpAnyH_ready (rs := [11, 12, 13]) (by kernel_rfl) (by simp) ?_
      refine AllReadyH.cons (o := { dst := some 71, op := Op.call { callee := Callee.value (Operand.func 12), args := #[Operand.tmp 68, Operand.tmp 70], argTypes := #[3, 3] }, type := 37, pos := "law.go:27", after := #[{ on := 8, ground := Ground.data }, { on := 10, ground := Ground.data }, { on := 5, ground := Ground.chain }], guard := none }) rfl (fun K hK => ?_) ?_
      ·
        go_simp
        go_at_call 12
        refine (rNew_er e1 a1 _).mono ?_
        rintro ev v5_11 ⟨rfl, hb9⟩
        (first | replace hN := hN.next hb9 | replace hN := (hN.draw _).next hb9 | replace hN := hN.draw1.next hb9 | replace hN := (hN.alloc _).next hb9)
        clear hb9
        go_simp
        refine hK.out _ _ ?_ (fun hH => ?_)
        · (first | exact ⟨(Below.cell hN (block_lt cE0)).trans cE0, (Below.cell hN (block_lt cE1)).trans cE1, (Below.cell hN (block_lt cA0)).trans cA0, (Below.cell hN (block_lt cA1)).trans cA1⟩ | go_keep)
        clear hK K
        try simp only [Act.put, List.setIfInBounds_toArray, List.set_cons_zero, List.set_cons_succ]
        refine wpAnyH_ready (rs := [12, 13]) (by kernel_rfl) (by simp) ?_
        refine AllReadyH.cons (o := { dst := some 9, op := Op.alloc 37, type := 0, pos := "law.go:27", after := #[], guard := none }) rfl (fun K hK => ?_) ?_
        ·
          go_simp
          generalize hV9 : World.alloc _ _ = v5_11_12
          have hXc := Below.size hN
          have hX := own2_of hV9
          replace hN := hN.of_alloc hV9
          clear hV9
          refine hK.out _ _ ?_ (fun hH => ?_)
          · (first | exact ⟨(Below.cell hN (block_lt cE0)).trans cE0, (Below.cell hN (block_lt cE1)).trans cE1, (Below.cell hN (block_lt cA0)).trans cA0, (Below.cell hN (block_lt cA1)).trans cA1⟩ | go_keep)
          clear hK K
          try simp only [Act.put, List.setIfInBounds_toArray, List.set_cons_zero, List.set_cons_succ]
          refine wpAnyH_ready (rs := [13]) (by kernel_rfl) (by simp) ?_
          refine AllReadyH.cons (o := { dst := some 10, op := Op.alloc 37, type := 0, pos := "law.go:27", after := #[], guard := none }) rfl (fun K hK => ?_) AllReadyH.nil
          go_simp
          generalize hV9 : World.alloc _ _ = v5_11_12_13
          have hne := Nat.ne_of_lt (block_lt hX.1.1)
          replace hX := hX.of_alloc hV9
          have hYc := Below.size hN
          have hY := own2_of hV9
          replace hN := hN.of_alloc hV9
          clear hV9
          refine hK.out _ _ ?_ (fun hH => ?_)
          · (first | exact ⟨(Below.cell hN (block_lt cE0)).trans cE0, (Below.cell hN (block_lt cE1)).trans cE1, (Below.cell hN (block_lt cA0)).trans cA0, (Below.cell hN (block_lt cA1)).trans cA1⟩ | go_keep)
          clear hK K
          try simp only [Act.put, List.setIfInBounds_toArray, List.set_cons_zero, List.set_cons_succ]
          refine wpAnyH_ready (rs := [14]) (by kernel_rfl) (by simp) ?_
          refine AllReadyH.cons (o := { dst := none, op := Op.store 37 (Operand.tmp 9) (Operand.tmp 65), type := 0, pos := "law.go:27", after := #[{ on := 12, ground := Ground.data }, { on := 5, ground := Ground.data }, { on := 11, ground := Ground.chain }, { on := 0, ground := Ground.phase }, { on := 1, ground := Ground.phase }, { on := 2, ground := Ground.phase }, { on := 3, ground := Ground.phase }, { on := 4, ground := Ground.phase }, { on := 5, ground := Ground.phase }, { on := 6, ground := Ground.textOnly Departure.lateStores }, { on := 7, ground := Ground.textOnly Departure.lateStores }, { on := 8, ground := Ground.textOnly Departure.lateStores }, { on := 9, ground := Ground.textOnly Departure.lateStores }, { on := 10, ground := Ground.textOnly Departure.lateStores }, { on := 11, ground := Ground.textOnly Departure.lateStoresUnsure }, { on := 12, ground := Ground.phase }, { on := 13, ground := Ground.phase }], guard := none }) rfl (fun K hK => ?_) AllReadyH.nil
          have x0 := hX.1.1
          have x1 := hX.1.2
          have x2 := hX.2.1
          have x3 := hX.2.2
          go_simp
          generalize hV9 : World.setCell _ _ _ = v5_11_12_13_14
          clear x0 x1 x2 x3
          replace hX := flt_set hX hV9
          replace hY := hY.set_other hne hV9
          replace hN := hN.set hXc hV9
          clear hV9
          refine hK.out _ _ ?_ (fun hH => ?_)
          · (first | exact ⟨(Below.cell hN (block_lt cE0)).trans cE0, (Below.cell hN (block_lt cE1)).trans cE1, (Below.cell hN (block_lt cA0)).trans cA0, (Below.cell hN (block_lt cA1)).trans cA1⟩ | go_keep)
          clear hK K
          refine wpAnyH_ready (rs := [15]) (by kernel_rfl) (by simp) ?_
          refine AllReadyH.cons (o := { dst := none, op := Op.store 37 (Operand.tmp 10) (Operand.tmp 71), type := 0, pos := "law.go:27", after := #[{ on := 13, ground := Ground.data }, { on := 11, ground := Ground.data }, { on := 14, ground := Ground.chain }, { on := 0, ground := Ground.phase }, { on := 1, ground := Ground.phase }, { on := 2, ground := Ground.phase }, { on := 3, ground := Ground.phase }, { on := 4, ground := Ground.phase }, { on := 5, ground := Ground.phase }, { on := 6, ground := Ground.phase }, { on := 7, ground := Ground.phase }, { on := 8, ground := Ground.phase }, { on := 9, ground := Ground.phase }, { on := 10, ground := Ground.phase }, { on := 11, ground := Ground.phase }, { on := 12, ground := Ground.phase }, { on := 13, ground := Ground.phase }, { on := 14, ground := Ground.phase }], guard := none }) rfl (fun K hK => ?_) AllReadyH.nil
          have x0 := hY.1.1
          have x1 := hY.1.2
          have x2 := hY.2.1
          have x3 := hY.2.2
          go_simp
          generalize hV9 : World.setCell _ _ _ = v5_11_12_13_14_15
          clear x0 x1 x2 x3
          replace hY := flt_set hY hV9
          replace hX := hX.set_other hne.symm hV9
          replace hN := hN.set hYc hV9
          clear hV9
          refine hK.out _ _ ?_ (fun hH => ?_)
          · (first | exact ⟨(Below.cell hN (block_lt cE0)).trans cE0, (Below.cell hN (block_lt cE1)).trans cE1, (Below.cell hN (block_lt cA0)).trans cA0, (Below.cell hN (block_lt cA1)).trans cA1⟩ | go_keep)
          clear hK K
          refine wpAnyH_done (by kernel_rfl) ?_ _
          go_wp2_with fail
          go_meet
          exact ⟨_, _, rfl, rfl, hX, hY, hN⟩
        refine AllReadyH.cons (o := { dst := some 10, op := Op.alloc 37, type := 0, pos := "law.go:27", after := #[], guard := none }) rfl (fun K hK => ?_) AllReadyH.nil
        go_simp
        generalize hV9 : World.alloc _ _ = v5_11_13
        have hYc := Below.size hN
        have hY := own2_of hV9
        replace hN := hN.of_alloc hV9
        clear hV9
        refine hK.out _ _ ?_ (fun hH => ?_)
        · (first | exact ⟨(Below.cell hN (block_lt cE0)).trans cE0, (Below.cell hN (block_lt cE1)).trans cE1, (Below.cell hN (block_lt cA0)).trans cA0, (Below.cell hN (block_lt cA1)).trans cA1⟩ | go_keep)
        clear hK K
        try simp only [Act.put, List.setIfInBounds_toArray, List.set_cons_zero, List.set_cons_succ]
        refine wpAnyH_ready (rs := [12]) (by kernel_rfl) (by simp) ?_
        refine AllReadyH.cons (o := { dst := some 9, op := Op.alloc 37, type := 0, pos := "law.go:27", after := #[], guard := none }) rfl (fun K hK => ?_) AllReadyH.nil
        go_simp
        generalize hV9 : World.alloc _ _ = v5_11_13_12
        have hne := Nat.ne_of_lt (block_lt hY.1.1)
        replace hY := hY.of_alloc hV9
        have hXc := Below.size hN
        have hX := own2_of hV9
        replace hN := hN.of_alloc hV9
        clear hV9
        refine hK.out _ _ ?_ (fun hH => ?_)
        · (first | exact ⟨(Below.cell hN (block_lt cE0)).trans cE0, (Below.cell hN (block_lt cE1)).trans cE1, (Below.cell hN (block_lt cA0)).trans cA0, (Below.cell hN (block_lt cA1)).trans cA1⟩ | go_keep)
        clear hK K
        try simp only [Act.put, List.setIfInBounds_toArray, List.set_cons_zero, List.set_cons_succ]
        refine wpAnyH_ready (rs := [14]) (by kernel_rfl) (by simp) ?_
        refine AllReadyH.cons (o := { dst := none, op := Op.store 37 (Operand.tmp 9) (Operand.tmp 65), type := 0, pos := "law.go:27", after := #[{ on := 12, ground := Ground.data }, { on := 5, ground := Ground.data }, { on := 11, ground := Ground.chain }, { on := 0, ground := Ground.phase }, { on := 1, ground := Ground.phase }, { on := 2, ground := Ground.phase }, { on := 3, ground := Ground.phase }, { on := 4, ground := Ground.phase }, { on := 5, ground := Ground.phase }, { on := 6, ground := Ground.textOnly Departure.lateStores }, { on := 7, ground := Ground.textOnly Departure.lateStores }, { on := 8, ground := Ground.textOnly Departure.lateStores }, { on := 9, ground := Ground.textOnly Departure.lateStores }, { on := 10, ground := Ground.textOnly Departure.lateStores }, { on := 11, ground := Ground.textOnly Departure.lateStoresUnsure }, { on := 12, ground := Ground.phase }, { on := 13, ground := Ground.phase }], guard := none }) rfl (fun K hK => ?_) AllReadyH.nil
        have x0 := hX.1.1
        have x1 := hX.1.2
        have x2 := hX.2.1
        have x3 := hX.2.2
        go_simp
        generalize hV9 : World.setCell _ _ _ = v5_11_13_12_14
        clear x0 x1 x2 x3
        replace hX := flt_set hX hV9
        replace hY := hY.set_other hne.symm hV9
        replace hN := hN.set hXc hV9
        clear hV9
        refine hK.out _ _ ?_ (fun hH => ?_)
        · (first | exact ⟨(Below.cell hN (block_lt cE0)).trans cE0, (Below.cell hN (block_lt cE1)).trans cE1, (Below.cell hN (block_lt cA0)).trans cA0, (Below.cell hN (block_lt cA1)).trans cA1⟩ | go_keep)
        clear hK K
        refine wpAnyH_ready (rs := [15]) (by kernel_rfl) (by simp) ?_
        refine AllReadyH.cons (o := { dst := none, op := Op.store 37 (Operand.tmp 10) (Operand.tmp 71), type := 0, pos := "law.go:27", after := #[{ on := 13, ground := Ground.data }, { on := 11, ground := Ground.data }, { on := 14, ground := Ground.chain }, { on := 0, ground := Ground.phase }, { on := 1, ground := Ground.phase }, { on := 2, ground := Ground.phase }, { on := 3, ground := Ground.phase }, { on := 4, ground := Ground.phase }, { on := 5, ground := Ground.phase }, { on := 6, ground := Ground.phase }, { on := 7, ground := Ground.phase }, { on := 8, ground := Ground.phase }, { on := 9, ground := Ground.phase }, { on := 10, ground := Ground.phase }, { on := 11, ground := Ground.phase }, { on := 12, ground := Ground.phase }, { on := 13, ground := Ground.phase }, { on := 14, ground := Ground.phase }], guard := none }) rfl (fun K hK => ?_) AllReadyH.nil
        have x0 := hY.1.1
        have x1 := hY.1.2
        have x2 := hY.2.1
        have x3 := hY.2.2
        go_simp
        generalize hV9 : World.setCell _ _ _ = v5_11_13_12_14_15
        clear x0 x1 x2 x3
        replace hY := flt_set hY hV9
        replace hX := hX.set_other hne hV9
        replace hN := hN.set hYc hV9
        clear hV9
        refine hK.out _ _ ?_ (fun hH => ?_)
        · (first | exact ⟨(Below.cell hN (block_lt cE0)).trans cE0, (Below.cell hN (block_lt cE1)).trans cE1, (Below.cell hN (block_lt cA0)).trans cA0, (Below.cell hN (block_lt cA1)).trans cA1⟩ | go_keep)
        clear hK K
        refine wpAnyH_done (by kernel_rfl) ?_ _
        go_wp2_with fail
        go_meet
        exact ⟨_, _, rfl, rfl, hX, hY, hN⟩
      refine AllReadyH.cons (o := { dst := some 9, op := Op.alloc 37, type := 0, pos := "law.go:27", after := #[], guard := none }) rfl (fun K hK => ?_) ?_
      ·
        go_simp
        generalize hV9 : World.alloc _ _ = v5_12
        have hXc := Below.size hN
        have hX := own2_of hV9
        replace hN := hN.of_alloc hV9
        clear hV9
        refine hK.out _ _ ?_ (fun hH => ?_)
        · (first | exact ⟨(Below.cell hN (block_lt cE0)).trans cE0, (Below.cell hN (block_lt cE1)).trans cE1, (Below.cell hN (block_lt cA0)).trans cA0, (Below.cell hN (block_lt cA1)).trans cA1⟩ | go_keep)
        clear hK K
        try simp only [Act.put, List.setIfInBounds_toArray, List.set_cons_zero, List.set_cons_succ]
        refine wpAnyH_ready (rs := [11, 13]) (by kernel_rfl) (by simp) ?_
        refine AllReadyH.cons (o := { dst := some 71, op := Op.call { callee := Callee.value (Operand.func 12), args := #[Operand.tmp 68, Operand.tmp 70], argTypes := #[3, 3] }, type := 37, pos := "law.go:27", after := #[{ on := 8, ground := Ground.data }, { on := 10, ground := Ground.data }, { on := 5, ground := Ground.chain }], guard := none }) rfl (fun K hK => ?_) ?_
        ·
          go_simp
          go_at_call 12
          refine (rNew_er e1 a1 _).mono ?_
          rintro ev v5_12_11 ⟨rfl, hb9⟩
          (first | replace hX := hX.next hb9 | replace hX := (hX.draw _).next hb9 | replace hX := hX.draw1.next hb9 | replace hX := (hX.alloc _).next hb9)
          (first | replace hN := hN.next hb9 | replace hN := (hN.draw _).next hb9 | replace hN := hN.draw1.next hb9 | replace hN := (hN.alloc _).next hb9)
          clear hb9
          go_simp
          refine hK.out _ _ ?_ (fun hH => ?_)
          · (first | exact ⟨(Below.cell hN (block_lt cE0)).trans cE0, (Below.cell hN (block_lt cE1)).trans cE1, (Below.cell hN (block_lt cA0)).trans cA0, (Below.cell hN (block_lt cA1)).trans cA1⟩ | go_keep)
          clear hK K
          try simp only [Act.put, List.setIfInBounds_toArray, List.set_cons_zero, List.set_cons_succ]
          refine wpAnyH_ready (rs := [13]) (by kernel_rfl) (by simp) ?_
          refine AllReadyH.cons (o := { dst := some 10, op := Op.alloc 37, type := 0, pos := "law.go:27", after := #[], guard := none }) rfl (fun K hK => ?_) AllReadyH.nil
          go_simp
          generalize hV9 : World.alloc _ _ = v5_12_11_13
          have hne := Nat.ne_of_lt (block_lt hX.1.1)
          replace hX := hX.of_alloc hV9
          have hYc := Below.size hN
          have hY := own2_of hV9
          replace hN := hN.of_alloc hV9
          clear hV9
          refine hK.out _ _ ?_ (fun hH => ?_)
          · (first | exact ⟨(Below.cell hN (block_lt cE0)).trans cE0, (Below.cell hN (block_lt cE1)).trans cE1, (Below.cell hN (block_lt cA0)).trans cA0, (Below.cell hN (block_lt cA1)).trans cA1⟩ | go_keep)
          clear hK K
          try simp only [Act.put, List.setIfInBounds_toArray, List.set_cons_zero, List.set_cons_succ]
          refine wpAnyH_ready (rs := [14]) (by kernel_rfl) (by simp) ?_
          refine AllReadyH.cons (o := { dst := none, op := Op.store 37 (Operand.tmp 9) (Operand.tmp 65), type := 0, pos := "law.go:27", after := #[{ on := 12, ground := Ground.data }, { on := 5, ground := Ground.data }, { on := 11, ground := Ground.chain }, { on := 0, ground := Ground.phase }, { on := 1, ground := Ground.phase }, { on := 2, ground := Ground.phase }, { on := 3, ground := Ground.phase }, { on := 4, ground := Ground.phase }, { on := 5, ground := Ground.phase }, { on := 6, ground := Ground.textOnly Departure.lateStores }, { on := 7, ground := Ground.textOnly Departure.lateStores }, { on := 8, ground := Ground.textOnly Departure.lateStores }, { on := 9, ground := Ground.textOnly Departure.lateStores }, { on := 10, ground := Ground.textOnly Departure.lateStores }, { on := 11, ground := Ground.textOnly Departure.lateStoresUnsure }, { on := 12, ground := Ground.phase }, { on := 13, ground := Ground.phase }], guard := none }) rfl (fun K hK => ?_) AllReadyH.nil
          have x0 := hX.1.1
          have x1 := hX.1.2
          have x2 := hX.2.1
          have x3 := hX.2.2
          go_simp
          generalize hV9 : World.setCell _ _ _ = v5_12_11_13_14
          clear x0 x1 x2 x3
          replace hX := flt_set hX hV9
          replace hY := hY.set_other hne hV9
          replace hN := hN.set hXc hV9
          clear hV9
          refine hK.out _ _ ?_ (fun hH => ?_)
          · (first | exact ⟨(Below.cell hN (block_lt cE0)).trans cE0, (Below.cell hN (block_lt cE1)).trans cE1, (Below.cell hN (block_lt cA0)).trans cA0, (Below.cell hN (block_lt cA1)).trans cA1⟩ | go_keep)
          clear hK K
          refine wpAnyH_ready (rs := [15]) (by kernel_rfl) (by simp) ?_
          refine AllReadyH.cons (o := { dst := none, op := Op.store 37 (Operand.tmp 10) (Operand.tmp 71), type := 0, pos := "law.go:27", after := #[{ on := 13, ground := Ground.data }, { on := 11, ground := Ground.data }, { on := 14, ground := Ground.chain }, { on := 0, ground := Ground.phase }, { on := 1, ground := Ground.phase }, { on := 2, ground := Ground.phase }, { on := 3, ground := Ground.phase }, { on := 4, ground := Ground.phase }, { on := 5, ground := Ground.phase }, { on := 6, ground := Ground.phase }, { on := 7, ground := Ground.phase }, { on := 8, ground := Ground.phase }, { on := 9, ground := Ground.phase }, { on := 10, ground := Ground.phase }, { on := 11, ground := Ground.phase }, { on := 12, ground := Ground.phase }, { on := 13, ground := Ground.phase }, { on := 14, ground := Ground.phase }], guard := none }) rfl (fun K hK => ?_) AllReadyH.nil
          have x0 := hY.1.1
          have x1 := hY.1.2
          have x2 := hY.2.1
          have x3 := hY.2.2
          go_simp
          generalize hV9 : World.setCell _ _ _ = v5_12_11_13_14_15
          clear x0 x1 x2 x3
          replace hY := flt_set hY hV9
          replace hX := hX.set_other hne.symm hV9
          replace hN := hN.set hYc hV9
          clear hV9
          refine hK.out _ _ ?_ (fun hH => ?_)
          · (first | exact ⟨(Below.cell hN (block_lt cE0)).trans cE0, (Below.cell hN (block_lt cE1)).trans cE1, (Below.cell hN (block_lt cA0)).trans cA0, (Below.cell hN (block_lt cA1)).trans cA1⟩ | go_keep)
          clear hK K
          refine wpAnyH_done (by kernel_rfl) ?_ _
          go_wp2_with fail
          go_meet
          exact ⟨_, _, rfl, rfl, hX, hY, hN⟩
        refine AllReadyH.cons (o := { dst := some 10, op := Op.alloc 37, type := 0, pos := "law.go:27", after := #[], guard := none }) rfl (fun K hK => ?_) AllReadyH.nil
        go_simp
        generalize hV9 : World.alloc _ _ = v5_12_13
        have hne := Nat.ne_of_lt (block_lt hX.1.1)
        replace hX := hX.of_alloc hV9
        have hYc := Below.size hN
        have hY := own2_of hV9
        replace hN := hN.of_alloc hV9
        clear hV9
        refine hK.out _ _ ?_ (fun hH => ?_)
        · (first | exact ⟨(Below.cell hN (block_lt cE0)).trans cE0, (Below.cell hN (block_lt cE1)).trans cE1, (Below.cell hN (block_lt cA0)).trans cA0, (Below.cell hN (block_lt cA1)).trans cA1⟩ | go_keep)
        clear hK K
        try simp only [Act.put, List.setIfInBounds_toArray, List.set_cons_zero, List.set_cons_succ]
        refine wpAnyH_ready (rs := [11]) (by kernel_rfl) (by simp) ?_
        refine AllReadyH.cons (o := { dst := some 71, op := Op.call { callee := Callee.value (Operand.func 12), args := #[Operand.tmp 68, Operand.tmp 70], argTypes := #[3, 3] }, type := 37, pos := "law.go:27", after := #[{ on := 8, ground := Ground.data }, { on := 10, ground := Ground.data }, { on := 5, ground := Ground.chain }], guard := none }) rfl (fun K hK => ?_) AllReadyH.nil
        go_simp
        go_at_call 12
        refine (rNew_er e1 a1 _).mono ?_
        rintro ev v5_12_13_11 ⟨rfl, hb9⟩
        (first | replace hX := hX.next hb9 | replace hX := (hX.draw _).next hb9 | replace hX := hX.draw1.next hb9 | replace hX := (hX.alloc _).next hb9)
        (first | replace hY := hY.next hb9 | replace hY := (hY.draw _).next hb9 | replace hY := hY.draw1.next hb9 | replace hY := (hY.alloc _).next hb9)
        (first | replace hN := hN.next hb9 | replace hN := (hN.draw _).next hb9 | replace hN := hN.draw1.next hb9 | replace hN := (hN.alloc _).next hb9)
        clear hb9
        go_simp
        refine hK.out _ _ ?_ (fun hH => ?_)
        · (first | exact ⟨(Below.cell hN (block_lt cE0)).trans cE0, (Below.cell hN (block_lt cE1)).trans cE1, (Below.cell hN (block_lt cA0)).trans cA0, (Below.cell hN (block_lt cA1)).trans cA1⟩ | go_keep)
        clear hK K
        try simp only [Act.put, List.setIfInBounds_toArray, List.set_cons_zero, List.set_cons_succ]
        refine wpAnyH_ready (rs := [14]) (by kernel_rfl) (by simp) ?_
        refine AllReadyH.cons (o := { dst := none, op := Op.store 37 (Operand.tmp 9) (Operand.tmp 65), type := 0, pos := "law.go:27", after := #[{ on := 12, ground := Ground.data }, { on := 5, ground := Ground.data }, { on := 11, ground := Ground.chain }, { on := 0, ground := Ground.phase }, { on := 1, ground := Ground.phase }, { on := 2, ground := Ground.phase }, { on := 3, ground := Ground.phase }, { on := 4, ground := Ground.phase }, { on := 5, ground := Ground.phase }, { on := 6, ground := Ground.textOnly Departure.lateStores }, { on := 7, ground := Ground.textOnly Departure.lateStores }, { on := 8, ground := Ground.textOnly Departure.lateStores }, { on := 9, ground := Ground.textOnly Departure.lateStores }, { on := 10, ground := Ground.textOnly Departure.lateStores }, { on := 11, ground := Ground.textOnly Departure.lateStoresUnsure }, { on := 12, ground := Ground.phase }, { on := 13, ground := Ground.phase }], guard := none }) rfl (fun K hK => ?_) AllReadyH.nil
        have x0 := hX.1.1
        have x1 := hX.1.2
        have x2 := hX.2.1
        have x3 := hX.2.2
        go_simp
        generalize hV9 : World.setCell _ _ _ = v5_12_13_11_14
        clear x0 x1 x2 x3
        replace hX := flt_set hX hV9
        replace hY := hY.set_other hne hV9
        replace hN := hN.set hXc hV9
        clear hV9
        refine hK.out _ _ ?_ (fun hH => ?_)
        · (first | exact ⟨(Below.cell hN (block_lt cE0)).trans cE0, (Below.cell hN (block_lt cE1)).trans cE1, (Below.cell hN (block_lt cA0)).trans cA0, (Below.cell hN (block_lt cA1)).trans cA1⟩ | go_keep)
        clear hK K
        refine wpAnyH_ready (rs := [15]) (by kernel_rfl) (by simp) ?_
        refine AllReadyH.cons (o := { dst := none, op := Op.store 37 (Operand.tmp 10) (Operand.tmp 71), type := 0, pos := "law.go:27", after := #[{ on := 13, ground := Ground.data }, { on := 11, ground := Ground.data }, { on := 14, ground := Ground.chain }, { on := 0, ground := Ground.phase }, { on := 1, ground := Ground.phase }, { on := 2, ground := Ground.phase }, { on := 3, ground := Ground.phase }, { on := 4, ground := Ground.phase }, { on := 5, ground := Ground.phase }, { on := 6, ground := Ground.phase }, { on := 7, ground := Ground.phase }, { on := 8, ground := Ground.phase }, { on := 9, ground := Ground.phase }, { on := 10, ground := Ground.phase }, { on := 11, ground := Ground.phase }, { on := 12, ground := Ground.phase }, { on := 13, ground := Ground.phase }, { on := 14, ground := Ground.phase }], guard := none }) rfl (fun K hK => ?_) AllReadyH.nil
        have x0 := hY.1.1
        have x1 := hY.1.2
        have x2 := hY.2.1
        have x3 := hY.2.2
        go_simp
        generalize hV9 : World.setCell _ _ _ = v5_12_13_11_14_15
        clear x0 x1 x2 x3
        replace hY := flt_set hY hV9
        replace hX := hX.set_other hne.symm hV9
        replace hN := hN.set hYc hV9
        clear hV9
        refine hK.out _ _ ?_ (fun hH => ?_)
        · (first | exact ⟨(Below.cell hN (block_lt cE0)).trans cE0, (Below.cell hN (block_lt cE1)).trans cE1, (Below.cell hN (block_lt cA0)).trans cA0, (Below.cell hN (block_lt cA1)).trans cA1⟩ | go_keep)
        clear hK K
        refine wpAnyH_done (by kernel_rfl) ?_ _
        go_wp2_with fail
        go_meet
        exact ⟨_, _, rfl, rfl, hX, hY, hN⟩
      refine AllReadyH.cons (o := { dst := some 10, op := Op.alloc 37, type := 0, pos := "law.go:27", after := #[], guard := none }) rfl (fun K hK => ?_) AllReadyH.nil
      go_simp
      generalize hV9 : World.alloc _ _ = v5_13
      have hYc := Below.size hN
      have hY := own2_of hV9
      replace hN := hN.of_alloc hV9
      clear hV9
      refine hK.out _ _ ?_ (fun hH => ?_)
      · (first | exact ⟨(Below.cell hN (block_lt cE0)).trans cE0, (Below.cell hN (block_lt cE1)).trans cE1, (Below.cell hN (block_lt cA0)).trans cA0, (Below.cell hN (block_lt cA1)).trans cA1⟩ | go_keep)
      clear hK K
      try simp only [Act.put, List.setIfInBounds_toArray, List.set_cons_zero, List.set_cons_succ]
      refine wpAnyH_ready (rs := [11, 12]) (by kernel_rfl) (by simp) ?_
      refine AllReadyH.cons (o := { dst := some 71, op := Op.call { callee := Callee.value (Operand.func 12), args := #[Operand.tmp 68, Operand.tmp 70], argTypes := #[3, 3] }, type := 37, pos := "law.go:27", after := #[{ on := 8, ground := Ground.data }, { on := 10, ground := Ground.data }, { on := 5, ground := Ground.chain }], guard := none }) rfl (fun K hK => ?_) ?_
      ·
        go_simp
        go_at_call 12
        refine (rNew_er e1 a1 _).mono ?_
        rintro ev v5_13_11 ⟨rfl, hb9⟩
        (first | replace hY := hY.next hb9 | replace hY := (hY.draw _).next hb9 | replace hY := hY.draw1.next hb9 | replace hY := (hY.alloc _).next hb9)
        (first | replace hN := hN.next hb9 | replace hN := (hN.draw _).next hb9 | replace hN := hN.draw1.next hb9 | replace hN := (hN.alloc _).next hb9)
        clear hb9
        go_simp
        refine hK.out _ _ ?_ (fun hH => ?_)
        · (first | exact ⟨(Below.cell hN (block_lt cE0)).trans cE0, (Below.cell hN (block_lt cE1)).trans cE1, (Below.cell hN (block_lt cA0)).trans cA0, (Below.cell hN (block_lt cA1)).trans cA1⟩ | go_keep)
        clear hK K
        try simp only [Act.put, List.setIfInBounds_toArray, List.set_cons_zero, List.set_cons_succ]
        refine wpAnyH_ready (rs := [12]) (by kernel_rfl) (by simp) ?_
        refine AllReadyH.cons (o := { dst := some 9, op := Op.alloc 37, type := 0, pos := "law.go:27", after := #[], guard := none }) rfl (fun K hK => ?_) AllReadyH.nil
        go_simp
        generalize hV9 : World.alloc _ _ = v5_13_11_12
        have hne := Nat.ne_of_lt (block_lt hY.1.1)
        replace hY := hY.of_alloc hV9
        have hXc := Below.size hN
        have hX := own2_of hV9
        replace hN := hN.of_alloc hV9
        clear hV9
        refine hK.out _ _ ?_ (fun hH => ?_)
        · (first | exact ⟨(Below.cell hN (block_lt cE0)).trans cE0, (Below.cell hN (block_lt cE1)).trans cE1, (Below.cell hN (block_lt cA0)).trans cA0, (Below.cell hN (block_lt cA1)).trans cA1⟩ | go_keep)
        clear hK K
        try simp only [Act.put, List.setIfInBounds_toArray, List.set_cons_zero, List.set_cons_succ]
        refine wpAnyH_ready (rs := [14]) (by kernel_rfl) (by simp) ?_
        refine AllReadyH.cons (o := { dst := none, op := Op.store 37 (Operand.tmp 9) (Operand.tmp 65), type := 0, pos := "law.go:27", after := #[{ on := 12, ground := Ground.data }, { on := 5, ground := Ground.data }, { on := 11, ground := Ground.chain }, { on := 0, ground := Ground.phase }, { on := 1, ground := Ground.phase }, { on := 2, ground := Ground.phase }, { on := 3, ground := Ground.phase }, { on := 4, ground := Ground.phase }, { on := 5, ground := Ground.phase }, { on := 6, ground := Ground.textOnly Departure.lateStores }, { on := 7, ground := Ground.textOnly Departure.lateStores }, { on := 8, ground := Ground.textOnly Departure.lateStores }, { on := 9, ground := Ground.textOnly Departure.lateStores }, { on := 10, ground := Ground.textOnly Departure.lateStores }, { on := 11, ground := Ground.textOnly Departure.lateStoresUnsure }, { on := 12, ground := Ground.phase }, { on := 13, ground := Ground.phase }], guard := none }) rfl (fun K hK => ?_) AllReadyH.nil
        have x0 := hX.1.1
        have x1 := hX.1.2
        have x2 := hX.2.1
        have x3 := hX.2.2
        go_simp
        generalize hV9 : World.setCell _ _ _ = v5_13_11_12_14
        clear x0 x1 x2 x3
        replace hX := flt_set hX hV9
        replace hY := hY.set_other hne.symm hV9
        replace hN := hN.set hXc hV9
        clear hV9
        refine hK.out _ _ ?_ (fun hH => ?_)
        · (first | exact ⟨(Below.cell hN (block_lt cE0)).trans cE0, (Below.cell hN (block_lt cE1)).trans cE1, (Below.cell hN (block_lt cA0)).trans cA0, (Below.cell hN (block_lt cA1)).trans cA1⟩ | go_keep)
        clear hK K
        refine wpAnyH_ready (rs := [15]) (by kernel_rfl) (by simp) ?_
        refine AllReadyH.cons (o := { dst := none, op := Op.store 37 (Operand.tmp 10) (Operand.tmp 71), type := 0, pos := "law.go:27", after := #[{ on := 13, ground := Ground.data }, { on := 11, ground := Ground.data }, { on := 14, ground := Ground.chain }, { on := 0, ground := Ground.phase }, { on := 1, ground := Ground.phase }, { on := 2, ground := Ground.phase }, { on := 3, ground := Ground.phase }, { on := 4, ground := Ground.phase }, { on := 5, ground := Ground.phase }, { on := 6, ground := Ground.phase }, { on := 7, ground := Ground.phase }, { on := 8, ground := Ground.phase }, { on := 9, ground := Ground.phase }, { on := 10, ground := Ground.phase }, { on := 11, ground := Ground.phase }, { on := 12, ground := Ground.phase }, { on := 13, ground := Ground.phase }, { on := 14, ground := Ground.phase }], guard := none }) rfl (fun K hK => ?_) AllReadyH.nil
        have x0 := hY.1.1
        have x1 := hY.1.2
        have x2 := hY.2.1
        have x3 := hY.2.2
        go_simp
        generalize hV9 : World.setCell _ _ _ = v5_13_11_12_14_15
        clear x0 x1 x2 x3
        replace hY := flt_set hY hV9
        replace hX := hX.set_other hne hV9
        replace hN := hN.set hYc hV9
        clear hV9
        refine hK.out _ _ ?_ (fun hH => ?_)
        · (first | exact ⟨(Below.cell hN (block_lt cE0)).trans cE0, (Below.cell hN (block_lt cE1)).trans cE1, (Below.cell hN (block_lt cA0)).trans cA0, (Below.cell hN (block_lt cA1)).trans cA1⟩ | go_keep)
        clear hK K
        refine wpAnyH_done (by kernel_rfl) ?_ _
        go_wp2_with fail
        go_meet
        exact ⟨_, _, rfl, rfl, hX, hY, hN⟩
      refine AllReadyH.cons (o := { dst := some 9, op := Op.alloc 37, type := 0, pos := "law.go:27", after := #[], guard := none }) rfl (fun K hK => ?_) AllReadyH.nil
      go_simp
      generalize hV9 : World.alloc _ _ = v5_13_12
      have hne := Nat.ne_of_lt (block_lt hY.1.1)
      replace hY := hY.of_alloc hV9
      have hXc := Below.size hN
      have hX := own2_of hV9
      replace hN := hN.of_alloc hV9
      clear hV9
      refine hK.out _ _ ?_ (fun hH => ?_)
      · (first | exact ⟨(Below.cell hN (block_lt cE0)).trans cE0, (Below.cell hN (block_lt cE1)).trans cE1, (Below.cell hN (block_lt cA0)).trans cA0, (Below.cell hN (block_lt cA1)).trans cA1⟩ | go_keep)
      clear hK K
      try simp only [Act.put, List.setIfInBounds_toArray, List.set_cons_zero, List.set_cons_succ]
      refine wpAnyH_ready (rs := [11]) (by kernel_rfl) (by simp) ?_
      refine AllReadyH.cons (o := { dst := some 71, op := Op.call { callee := Callee.value (Operand.func 12), args := #[Operand.tmp 68, Operand.tmp 70], argTypes := #[3, 3] }, type := 37, pos := "law.go:27", after := #[{ on := 8, ground := Ground.data }, { on := 10, ground := Ground.data }, { on := 5, ground := Ground.chain }], guard := none }) rfl (fun K hK => ?_) AllReadyH.nil
      go_simp
      go_at_call 12
      refine (rNew_er e1 a1 _).mono ?_
      rintro ev v5_13_12_11 ⟨rfl, hb9⟩
      (first | replace hX := hX.next hb9 | replace hX := (hX.draw _).next hb9 | replace hX := hX.draw1.next hb9 | replace hX := (hX.alloc _).next hb9)
      (first | replace hY := hY.next hb9 | replace hY := (hY.draw _).next hb9 | replace hY := hY.draw1.next hb9 | replace hY := (hY.alloc _).next hb9)
      (first | replace hN := hN.next hb9 | replace hN := (hN.draw _).next hb9 | replace hN := hN.draw1.next hb9 | replace hN := (hN.alloc _).next hb9)
      clear hb9
      go_simp
      refine hK.out _ _ ?_ (fun hH => ?_)
      · (first | exact ⟨(Below.cell hN (block_lt cE0)).trans cE0, (Below.cell hN (block_lt cE1)).trans cE1, (Below.cell hN (block_lt cA0)).trans cA0, (Below.cell hN (block_lt cA1)).trans cA1⟩ | go_keep)
      clear hK K
      try simp only [Act.put, List.setIfInBounds_toArray, List.set_cons_zero, List.set_cons_succ]
      refine wpAnyH_ready (rs := [14]) (by kernel_rfl) (by simp) ?_
      refine AllReadyH.cons (o := { dst := none, op := Op.store 37 (Operand.tmp 9) (Operand.tmp 65), type := 0, pos := "law.go:27", after := #[{ on := 12, ground := Ground.data }, { on := 5, ground := Ground.data }, { on := 11, ground := Ground.chain }, { on := 0, ground := Ground.phase }, { on := 1, ground := Ground.phase }, { on := 2, ground := Ground.phase }, { on := 3, ground := Ground.phase }, { on := 4, ground := Ground.phase }, { on := 5, ground := Ground.phase }, { on := 6, ground := Ground.textOnly Departure.lateStores }, { on := 7, ground := Ground.textOnly Departure.lateStores }, { on := 8, ground := Ground.textOnly Departure.lateStores }, { on := 9, ground := Ground.textOnly Departure.lateStores }, { on := 10, ground := Ground.textOnly Departure.lateStores }, { on := 11, ground := Ground.textOnly Departure.lateStoresUnsure }, { on := 12, ground := Ground.phase }, { on := 13, ground := Ground.phase }], guard := none }) rfl (fun K hK => ?_) AllReadyH.nil
      have x0 := hX.1.1
      have x1 := hX.1.2
      have x2 := hX.2.1
      have x3 := hX.2.2
      go_simp
      generalize hV9 : World.setCell _ _ _ = v5_13_12_11_14
      clear x0 x1 x2 x3
      replace hX := flt_set hX hV9
      replace hY := hY.set_other hne.symm hV9
      replace hN := hN.set hXc hV9
      clear hV9
      refine hK.out _ _ ?_ (fun hH => ?_)
      · (first | exact ⟨(Below.cell hN (block_lt cE0)).trans cE0, (Below.cell hN (block_lt cE1)).trans cE1, (Below.cell hN (block_lt cA0)).trans cA0, (Below.cell hN (block_lt cA1)).trans cA1⟩ | go_keep)
      clear hK K
      refine wpAnyH_ready (rs := [15]) (by kernel_rfl) (by simp) ?_
      refine AllReadyH.cons (o := { dst := none, op := Op.store 37 (Operand.tmp 10) (Operand.tmp 71), type := 0, pos := "law.go:27", after := #[{ on := 13, ground := Ground.data }, { on := 11, ground := Ground.data }, { on := 14, ground := Ground.chain }, { on := 0, ground := Ground.phase }, { on := 1, ground := Ground.phase }, { on := 2, ground := Ground.phase }, { on := 3, ground := Ground.phase }, { on := 4, ground := Ground.phase }, { on := 5, ground := Ground.phase }, { on := 6, ground := Ground.phase }, { on := 7, ground := Ground.phase }, { on := 8, ground := Ground.phase }, { on := 9, ground := Ground.phase }, { on := 10, ground := Ground.phase }, { on := 11, ground := Ground.phase }, { on := 12, ground := Ground.phase }, { on := 13, ground := Ground.phase }, { on := 14, ground := Ground.phase }], guard := none }) rfl (fun K hK => ?_) AllReadyH.nil
      have x0 := hY.1.1
      have x1 := hY.1.2
      have x2 := hY.2.1
      have x3 := hY.2.2
      go_simp
      generalize hV9 : World.setCell _ _ _ = v5_13_12_11_14_15
      clear x0 x1 x2 x3
      replace hY := flt_set hY hV9
      replace hX := hX.set_other hne hV9
      replace hN := hN.set hYc hV9
      clear hV9
      refine hK.out _ _ ?_ (fun hH => ?_)
      · (first | exact ⟨(Below.cell hN (block_lt cE0)).trans cE0, (Below.cell hN (block_lt cE1)).trans cE1, (Below.cell hN (block_lt cA0)).trans cA0, (Below.cell hN (block_lt cA1)).trans cA1⟩ | go_keep)
      clear hK K
      refine wpAnyH_done (by kernel_rfl) ?_ _
      go_wp2_with fail
      go_meet
      exact ⟨_, _, rfl, rfl, hX, hY, hN⟩
    refine AllReadyH.cons (o := { dst := some 9, op := Op.alloc 37, type := 0, pos := "law.go:27", after := #[], guard := none }) rfl (fun K hK => ?_) ?_
    ·
      go_simp
      generalize hV9 : World.alloc _ _ = v12
      have hXc := Below.size hN
      have hX := own2_of hV9
      replace hN := hN.of_alloc hV9
      clear hV9
      refine hK.out _ _ ?_ (fun hH => ?_)
      · (first | exact ⟨(Below.cell hN (block_lt cE0)).trans cE0, (Below.cell hN (block_lt cE1)).trans cE1, (Below.cell hN (block_lt cA0)).trans cA0, (Below.cell hN (block_lt cA1)).trans cA1⟩ | go_keep)
      clear hK K
      try simp only [Act.put, List.setIfInBounds_toArray, List.set_cons_zero, List.set_cons_succ]
      refine wpAnyH_ready (rs := [5, 13]) (by kernel_rfl) (by simp) ?_
      refine AllReadyH.cons (o := { dst := some 65, op := Op.call { callee := Callee.value (Operand.func 12), args := #[Operand.tmp 62, Operand.tmp 64], argTypes := #[3, 3] }, type := 37, pos := "law.go:27", after := #[{ on := 2, ground := Ground.data }, { on := 4, ground := Ground.data }], guard := none }) rfl (fun K hK => ?_) ?_
      ·
        go_simp
        go_at_call 12
        refine (rNew_er e0 a0 _).mono ?_
        rintro ev v12_5 ⟨rfl, hb9⟩
        (first | replace hX := hX.next hb9 | replace hX := (hX.draw _).next hb9 | replace hX := hX.draw1.next hb9 | replace hX := (hX.alloc _).next hb9)
        (first | replace hN := hN.next hb9 | replace hN := (hN.draw _).next hb9 | replace hN := hN.draw1.next hb9 | replace hN := (hN.alloc _).next hb9)
        clear hb9
        go_simp
        refine hK.out _ _ ?_ (fun hH => ?_)
        · (first | exact ⟨(Below.cell hN (block_lt cE0)).trans cE0, (Below.cell hN (block_lt cE1)).trans cE1, (Below.cell hN (block_lt cA0)).trans cA0, (Below.cell hN (block_lt cA1)).trans cA1⟩ | go_keep)
        clear hK K
        try simp only [Act.put, List.setIfInBounds_toArray, List.set_cons_zero, List.set_cons_succ]
        refine wpAnyH_ready (rs := [11, 13]) (by kernel_rfl) (by simp) ?_
        refine AllReadyH.cons (o := { dst := some 71, op := Op.call { callee := Callee.value (Operand.func 12), args := #[Operand.tmp 68, Operand.tmp 70], argTypes := #[3, 3] }, type := 37, pos := "law.go:27", after := #[{ on := 8, ground := Ground.data }, { on := 10, ground := Ground.data }, { on := 5, ground := Ground.chain }], guard := none }) rfl (fun K hK => ?_) ?_
        ·
          go_simp
          go_at_call 12
          refine (rNew_er e1 a1 _).mono ?_
          rintro ev v12_5_11 ⟨rfl, hb9⟩
          (first | replace hX := hX.next hb9 | replace hX := (hX.draw _).next hb9 | replace hX := hX.draw1.next hb9 | replace hX := (hX.alloc _).next hb9)
          (first | replace hN := hN.next hb9 | replace hN := (hN.draw _).next hb9 | replace hN := hN.draw1.next hb9 | replace hN := (hN.alloc _).next hb9)
          clear hb9
          go_simp
          refine hK.out _ _ ?_ (fun hH => ?_)
          · (first | exact ⟨(Below.cell hN (block_lt cE0)).trans cE0, (Below.cell hN (block_lt cE1)).trans cE1, (Below.cell hN (block_lt cA0)).trans cA0, (Below.cell hN (block_lt cA1)).trans cA1⟩ | go_keep)
          clear hK K
          try simp only [Act.put, List.setIfInBounds_toArray, List.set_cons_zero, List.set_cons_succ]
          refine wpAnyH_ready (rs := [13]) (by kernel_rfl) (by simp) ?_
          refine AllReadyH.cons (o := { dst := some 10, op := Op.alloc 37, type := 0, pos := "law.go:27", after := #[], guard := none }) rfl (fun K hK => ?_) AllReadyH.nil
          go_simp
          generalize hV9 : World.alloc _ _ = v12_5_11_13
          have hne := Nat.ne_of_lt (block_lt hX.1.1)
          replace hX := hX.of_alloc hV9
          have hYc := Below.size hN
          have hY := own2_of hV9
          replace hN := hN.of_alloc hV9
          clear hV9
          refine hK.out _ _ ?_ (fun hH => ?_)
          · (first | exact ⟨(Below.cell hN (block_lt cE0)).trans cE0, (Below.cell hN (block_lt cE1)).trans cE1, (Below.cell hN (block_lt cA0)).trans cA0, (Below.cell hN (block_lt cA1)).trans cA1⟩ | go_keep)
          clear hK K
          try simp only [Act.put, List.setIfInBounds_toArray, List.set_cons_zero, List.set_cons_succ]
          refine wpAnyH_ready (rs := [14]) (by kernel_rfl) (by simp) ?_
          refine AllReadyH.cons (o := { dst := none, op := Op.store 37 (Operand.tmp 9) (Operand.tmp 65), type := 0, pos := "law.go:27", after := #[{ on := 12, ground := Ground.data }, { on := 5, ground := Ground.data }, { on := 11, ground := Ground.chain }, { on := 0, ground := Ground.phase }, { on := 1, ground := Ground.phase }, { on := 2, ground := Ground.phase }, { on := 3, ground := Ground.phase }, { on := 4, ground := Ground.phase }, { on := 5, ground := Ground.phase }, { on := 6, ground := Ground.textOnly Departure.lateStores }, { on := 7, ground := Ground.textOnly Departure.lateStores }, { on := 8, ground := Ground.textOnly Departure.lateStores }, { on := 9, ground := Ground.textOnly Departure.lateStores }, { on := 10, ground := Ground.textOnly Departure.lateStores }, { on := 11, ground := Ground.textOnly Departure.lateStoresUnsure }, { on := 12, ground := Ground.phase }, { on := 13, ground := Ground.phase }], guard := none }) rfl (fun K hK => ?_) AllReadyH.nil
          have x0 := hX.1.1
          have x1 := hX.1.2
          have x2 := hX.2.1
          have x3 := hX.2.2
          go_simp
          generalize hV9 : World.setCell _ _ _ = v12_5_11_13_14
          clear x0 x1 x2 x3
          replace hX := flt_set hX hV9
          replace hY := hY.set_other hne hV9
          replace hN := hN.set hXc hV9
          clear hV9
          refine hK.out _ _ ?_ (fun hH => ?_)
          · (first | exact ⟨(Below.cell hN (block_lt cE0)).trans cE0, (Below.cell hN (block_lt cE1)).trans cE1, (Below.cell hN (block_lt cA0)).trans cA0, (Below.cell hN (block_lt cA1)).trans cA1⟩ | go_keep)
          clear hK K
          refine wpAnyH_ready (rs := [15]) (by kernel_rfl) (by simp) ?_
          refine AllReadyH.cons (o := { dst := none, op := Op.store 37 (Operand.tmp 10) (Operand.tmp 71), type := 0, pos := "law.go:27", after := #[{ on := 13, ground := Ground.data }, { on := 11, ground := Ground.data }, { on := 14, ground := Ground.chain }, { on := 0, ground := Ground.phase }, { on := 1, ground := Ground.phase }, { on := 2, ground := Ground.phase }, { on := 3, ground := Ground.phase }, { on := 4, ground := Ground.phase }, { on := 5, ground := Ground.phase }, { on := 6, ground := Ground.phase }, { on := 7, ground := Ground.phase }, { on := 8, ground := Ground.phase }, { on := 9, ground := Ground.phase }, { on := 10, ground := Ground.phase }, { on := 11, ground := Ground.phase }, { on := 12, ground := Ground.phase }, { on := 13, ground := Ground.phase }, { on := 14, ground := Ground.phase }], guard := none }) rfl (fun K hK => ?_) AllReadyH.nil
          have x0 := hY.1.1
          have x1 := hY.1.2
          have x2 := hY.2.1
          have x3 := hY.2.2
          go_simp
          generalize hV9 : World.setCell _ _ _ = v12_5_11_13_14_15
          clear x0 x1 x2 x3
          replace hY := flt_set hY hV9
          replace hX := hX.set_other hne.symm hV9
          replace hN := hN.set hYc hV9
          clear hV9
          refine hK.out _ _ ?_ (fun hH => ?_)
          · (first | exact ⟨(Below.cell hN (block_lt cE0)).trans cE0, (Below.cell hN (block_lt cE1)).trans cE1, (Below.cell hN (block_lt cA0)).trans cA0, (Below.cell hN (block_lt cA1)).trans cA1⟩ | go_keep)
          clear hK K
          refine wpAnyH_done (by kernel_rfl) ?_ _
          go_wp2_with fail
          go_meet
          exact ⟨_, _, rfl, rfl, hX, hY, hN⟩
        refine AllReadyH.cons (o := { dst := some 10, op := Op.alloc 37, type := 0, pos := "law.go:27", after := #[], guard := none }) rfl (fun K hK => ?_) AllReadyH.nil
        go_simp
        generalize hV9 : World.alloc _ _ = v12_5_13
        have hne := Nat.ne_of_lt (block_lt hX.1.1)
        replace hX := hX.of_alloc hV9
        have hYc := Below.size hN
        have hY := own2_of hV9
        replace hN := hN.of_alloc hV9
        clear hV9
        refine hK.out _ _ ?_ (fun hH => ?_)
        · (first | exact ⟨(Below.cell hN (block_lt cE0)).trans cE0, (Below.cell hN (block_lt cE1)).trans cE1, (Below.cell hN (block_lt cA0)).trans cA0, (Below.cell hN (block_lt cA1)).trans cA1⟩ | go_keep)
        clear hK K
        try simp only [Act.put, List.setIfInBounds_toArray, List.set_cons_zero, List.set_cons_succ]
        refine wpAnyH_ready (rs := [11]) (by kernel_rfl) (by simp) ?_
        refine AllReadyH.cons (o := { dst := some 71, op := Op.call { callee := Callee.value (Operand.func 12), args := #[Operand.tmp 68, Operand.tmp 70], argTypes := #[3, 3] }, type := 37, pos := "law.go:27", after := #[{ on := 8, ground := Ground.data }, { on := 10, ground := Ground.data }, { on := 5, ground := Ground.chain }], guard := none }) rfl (fun K hK => ?_) AllReadyH.nil
        go_simp
        go_at_call 12
        refine (rNew_er e1 a1 _).mono ?_
        rintro ev v12_5_13_11 ⟨rfl, hb9⟩
        (first | replace hX := hX.next hb9 | replace hX := (hX.draw _).next hb9 | replace hX := hX.draw1.next hb9 | replace hX := (hX.alloc _).next hb9)
        (first | replace hY := hY.next hb9 | replace hY := (hY.draw _).next hb9 | replace hY := hY.draw1.next hb9 | replace hY := (hY.alloc _).next hb9)
        (first | replace hN := hN.next hb9 | replace hN := (hN.draw _).next hb9 | replace hN := hN.draw1.next hb9 | replace hN := (hN.alloc _).next hb9)
        clear hb9
        go_simp
        refine hK.out _ _ ?_ (fun hH => ?_)
        · (first | exact ⟨(Below.cell hN (block_lt cE0)).trans cE0, (Below.cell hN (block_lt cE1)).trans cE1, (Below.cell hN (block_lt cA0)).trans cA0, (Below.cell hN (block_lt cA1)).trans cA1⟩ | go_keep)
        clear hK K
        try simp only [Act.put, List.setIfInBounds_toArray, List.set_cons_zero, List.set_cons_succ]
        refine wpAnyH_ready (rs := [14]) (by kernel_rfl) (by simp) ?_
        refine AllReadyH.cons (o := { dst := none, op := Op.store 37 (Operand.tmp 9) (Operand.tmp 65), type := 0, pos := "law.go:27", after := #[{ on := 12, ground := Ground.data }, { on := 5, ground := Ground.data }, { on := 11, ground := Ground.chain }, { on := 0, ground := Ground.phase }, { on := 1, ground := Ground.phase }, { on := 2, ground := Ground.phase }, { on := 3, ground := Ground.phase }, { on := 4, ground := Ground.phase }, { on := 5, ground := Ground.phase }, { on := 6, ground := Ground.textOnly Departure.lateStores }, { on := 7, ground := Ground.textOnly Departure.lateStores }, { on := 8, ground := Ground.textOnly Departure.lateStores }, { on := 9, ground := Ground.textOnly Departure.lateStores }, { on := 10, ground := Ground.textOnly Departure.lateStores }, { on := 11, ground := Ground.textOnly Departure.lateStoresUnsure }, { on := 12, ground := Ground.phase }, { on := 13, ground := Ground.phase }], guard := none }) rfl (fun K hK => ?_) AllReadyH.nil
        have x0 := hX.1.1
        have x1 := hX.1.2
        have x2 := hX.2.1
        have x3 := hX.2.2
        go_simp
        generalize hV9 : World.setCell _ _ _ = v12_5_13_11_14
        clear x0 x1 x2 x3
        replace hX := flt_set hX hV9
        replace hY := hY.set_other hne hV9
        replace hN := hN.set hXc hV9
        clear hV9
        refine hK.out _ _ ?_ (fun hH => ?_)
        · (first | exact ⟨(Below.cell hN (block_lt cE0)).trans cE0, (Below.cell hN (block_lt cE1)).trans cE1, (Below.cell hN (block_lt cA0)).trans cA0, (Below.cell hN (block_lt cA1)).trans cA1⟩ | go_keep)
        clear hK K
        refine wpAnyH_ready (rs := [15]) (by kernel_rfl) (by simp) ?_
        refine AllReadyH.cons (o := { dst := none, op := Op.store 37 (Operand.tmp 10) (Operand.tmp 71), type := 0, pos := "law.go:27", after := #[{ on := 13, ground := Ground.data }, { on := 11, ground := Ground.data }, { on := 14, ground := Ground.chain }, { on := 0, ground := Ground.phase }, { on := 1, ground := Ground.phase }, { on := 2, ground := Ground.phase }, { on := 3, ground := Ground.phase }, { on := 4, ground := Ground.phase }, { on := 5, ground := Ground.phase }, { on := 6, ground := Ground.phase }, { on := 7, ground := Ground.phase }, { on := 8, ground := Ground.phase }, { on := 9, ground := Ground.phase }, { on := 10, ground := Ground.phase }, { on := 11, ground := Ground.phase }, { on := 12, ground := Ground.phase }, { on := 13, ground := Ground.phase }, { on := 14, ground := Ground.phase }], guard := none }) rfl (fun K hK => ?_) AllReadyH.nil
        have x0 := hY.1.1
        have x1 := hY.1.2
        have x2 := hY.2.1
        have x3 := hY.2.2
        go_simp
        generalize hV9 : World.setCell _ _ _ = v12_5_13_11_14_15
        clear x0 x1 x2 x3
        replace hY := flt_set hY hV9
        replace hX := hX.set_other hne.symm hV9
        replace hN := hN.set hYc hV9
        clear hV9
        refine hK.out _ _ ?_ (fun hH => ?_)
        · (first | exact ⟨(Below.cell hN (block_lt cE0)).trans cE0, (Below.cell hN (block_lt cE1)).trans cE1, (Below.cell hN (block_lt cA0)).trans cA0, (Below.cell hN (block_lt cA1)).trans cA1⟩ | go_keep)
        clear hK K
        refine wpAnyH_done (by kernel_rfl) ?_ _
        go_wp2_with fail
        go_meet
        exact ⟨_, _, rfl, rfl, hX, hY, hN⟩
      refine AllReadyH.cons (o := { dst := some 10, op := Op.alloc 37, type := 0, pos := "law.go:27", after := #[], guard := none }) rfl (fun K hK => ?_) AllReadyH.nil
      go_simp
      generalize hV9 : World.alloc _ _ = v12_13
      have hne := Nat.ne_of_lt (block_lt hX.1.1)
      replace hX := hX.of_alloc hV9
      have hYc := Below.size hN
      have hY := own2_of hV9
      replace hN := hN.of_alloc hV9
      clear hV9
      refine hK.out _ _ ?_ (fun hH => ?_)
      · (first | exact ⟨(Below.cell hN (block_lt cE0)).trans cE0, (Below.cell hN (block_lt cE1)).trans cE1, (Below.cell hN (block_lt cA0)).trans cA0, (Below.cell hN (block_lt cA1)).trans cA1⟩ | go_keep)
      clear hK K
      try simp only [Act.put, List.setIfInBounds_toArray, List.set_cons_zero, List.set_cons_succ]
      refine wpAnyH_ready (rs := [5]) (by kernel_rfl) (by simp) ?_
      refine AllReadyH.cons (o := { dst := some 65, op := Op.call { callee := Callee.value (Operand.func 12), args := #[Operand.tmp 62, Operand.tmp 64], argTypes := #[3, 3] }, type := 37, pos := "law.go:27", after := #[{ on := 2, ground := Ground.data }, { on := 4, ground := Ground.data }], guard := none }) rfl (fun K hK => ?_) AllReadyH.nil
      go_simp
      go_at_call 12
      refine (rNew_er e0 a0 _).mono ?_
      rintro ev v12_13_5 ⟨rfl, hb9⟩
      (first | replace hX := hX.next hb9 | replace hX := (hX.draw _).next hb9 | replace hX := hX.draw1.next hb9 | replace hX := (hX.alloc _).next hb9)
      (first | replace hY := hY.next hb9 | replace hY := (hY.draw _).next hb9 | replace hY := hY.draw1.next hb9 | replace hY := (hY.alloc _).next hb9)
      (first | replace hN := hN.next hb9 | replace hN := (hN.draw _).next hb9 | replace hN := hN.draw1.next hb9 | replace hN := (hN.alloc _).next hb9)
      clear hb9
      go_simp
      refine hK.out _ _ ?_ (fun hH => ?_)
      · (first | exact ⟨(Below.cell hN (block_lt cE0)).trans cE0, (Below.cell hN (block_lt cE1)).trans cE1, (Below.cell hN (block_lt cA0)).trans cA0, (Below.cell hN (block_lt cA1)).trans cA1⟩ | go_keep)
      clear hK K
      try simp only [Act.put, List.setIfInBounds_toArray, List.set_cons_zero, List.set_cons_succ]
      refine wpAnyH_ready (rs := [11]) (by kernel_rfl) (by simp) ?_
      refine AllReadyH.cons (o := { dst := some 71, op := Op.call { callee := Callee.value (Operand.func 12), args := #[Operand.tmp 68, Operand.tmp 70], argTypes := #[3, 3] }, type := 37, pos := "law.go:27", after := #[{ on := 8, ground := Ground.data }, { on := 10, ground := Ground.data }, { on := 5, ground := Ground.chain }], guard := none }) rfl (fun K hK => ?_) AllReadyH.nil
      go_simp
      go_at_call 12
      refine (rNew_er e1 a1 _).mono ?_
      rintro ev v12_13_5_11 ⟨rfl, hb9⟩
      (first | replace hX := hX.next hb9 | replace hX := (hX.draw _).next hb9 | replace hX := hX.draw1.next hb9 | replace hX := (hX.alloc _).next hb9)
      (first | replace hY := hY.next hb9 | replace hY := (hY.draw _).next hb9 | replace hY := hY.draw1.next hb9 | replace hY := (hY.alloc _).next hb9)
      (first | replace hN := hN.next hb9 | replace hN := (hN.draw _).next hb9 | replace hN := hN.draw1.next hb9 | replace hN := (hN.alloc _).next hb9)
      clear hb9
      go_simp
      refine hK.out _ _ ?_ (fun hH => ?_)
      · (first | exact ⟨(Below.cell hN (block_lt cE0)).trans cE0, (Below.cell hN (block_lt cE1)).trans cE1, (Below.cell hN (block_lt cA0)).trans cA0, (Below.cell hN (block_lt cA1)).trans cA1⟩ | go_keep)
      clear hK K
      try simp only [Act.put, List.setIfInBounds_toArray, List.set_cons_zero, List.set_cons_succ]
      refine wpAnyH_ready (rs := [14]) (by kernel_rfl) (by simp) ?_
      refine AllReadyH.cons (o := { dst := none, op := Op.store 37 (Operand.tmp 9) (Operand.tmp 65), type := 0, pos := "law.go:27", after := #[{ on := 12, ground := Ground.data }, { on := 5, ground := Ground.data }, { on := 11, ground := Ground.chain }, { on := 0, ground := Ground.phase }, { on := 1, ground := Ground.phase }, { on := 2, ground := Ground.phase }, { on := 3, ground := Ground.phase }, { on := 4, ground := Ground.phase }, { on := 5, ground := Ground.phase }, { on := 6, ground := Ground.textOnly Departure.lateStores }, { on := 7, ground := Ground.textOnly Departure.lateStores }, { on := 8, ground := Ground.textOnly Departure.lateStores }, { on := 9, ground := Ground.textOnly Departure.lateStores }, { on := 10, ground := Ground.textOnly Departure.lateStores }, { on := 11, ground := Ground.textOnly Departure.lateStoresUnsure }, { on := 12, ground := Ground.phase }, { on := 13, ground := Ground.phase }], guard := none }) rfl (fun K hK => ?_) AllReadyH.nil
      have x0 := hX.1.1
      have x1 := hX.1.2
      have x2 := hX.2.1
      have x3 := hX.2.2
      go_simp
      generalize hV9 : World.setCell _ _ _ = v12_13_5_11_14
      clear x0 x1 x2 x3
      replace hX := flt_set hX hV9
      replace hY := hY.set_other hne hV9
      replace hN := hN.set hXc hV9
      clear hV9
      refine hK.out _ _ ?_ (fun hH => ?_)
      · (first | exact ⟨(Below.cell hN (block_lt cE0)).trans cE0, (Below.cell hN (block_lt cE1)).trans cE1, (Below.cell hN (block_lt cA0)).trans cA0, (Below.cell hN (block_lt cA1)).trans cA1⟩ | go_keep)
      clear hK K
      refine wpAnyH_ready (rs := [15]) (by kernel_rfl) (by simp) ?_
      refine AllReadyH.cons (o := { dst := none, op := Op.store 37 (Operand.tmp 10) (Operand.tmp 71), type := 0, pos := "law.go:27", after := #[{ on := 13, ground := Ground.data }, { on := 11, ground := Ground.data }, { on := 14, ground := Ground.chain }, { on := 0, ground := Ground.phase }, { on := 1, ground := Ground.phase }, { on := 2, ground := Ground.phase }, { on := 3, ground := Ground.phase }, { on := 4, ground := Ground.phase }, { on := 5, ground := Ground.phase }, { on := 6, ground := Ground.phase }, { on := 7, ground := Ground.phase }, { on := 8, ground := Ground.phase }, { on := 9, ground := Ground.phase }, { on := 10, ground := Ground.phase }, { on := 11, ground := Ground.phase }, { on := 12, ground := Ground.phase }, { on := 13, ground := Ground.phase }, { on := 14, ground := Ground.phase }], guard := none }) rfl (fun K hK => ?_) AllReadyH.nil
      have x0 := hY.1.1
      have x1 := hY.1.2
      have x2 := hY.2.1
      have x3 := hY.2.2
      go_simp
      generalize hV9 : World.setCell _ _ _ = v12_13_5_11_14_15
      clear x0 x1 x2 x3
      replace hY := flt_set hY hV9
      replace hX := hX.set_other hne.symm hV9
      replace hN := hN.set hYc hV9
      clear hV9
      refine hK.out _ _ ?_ (fun hH => ?_)
      · (first | exact ⟨(Below.cell hN (block_lt cE0)).trans cE0, (Below.cell hN (block_lt cE1)).trans cE1, (Below.cell hN (block_lt cA0)).trans cA0, (Below.cell hN (block_lt cA1)).trans cA1⟩ | go_keep)
      clear hK K
      refine wpAnyH_done (by kernel_rfl) ?_ _
      go_wp2_with fail
      go_meet
      exact ⟨_, _, rfl, rfl, hX, hY, hN⟩
    refine AllReadyH.cons (o := { dst := some 10, op := Op.alloc 37, type := 0, pos := "law.go:27", after := #[], guard := none }) rfl (fun K hK => ?_) AllReadyH.nil
    go_simp
    generalize hV9 : World.alloc _ _ = v13
    have hYc := Below.size hN
    have hY := own2_of hV9
    replace hN := hN.of_alloc hV9
    clear hV9
    refine hK.out _ _ ?_ (fun hH => ?_)
    · (first | exact ⟨(Below.cell hN (block_lt cE0)).trans cE0, (Below.cell hN (block_lt cE1)).trans cE1, (Below.cell hN (block_lt cA0)).trans cA0, (Below.cell hN (block_lt cA1)).trans cA1⟩ | go_keep)
    clear hK K
    try simp only [Act.put, List.setIfInBounds_toArray, List.set_cons_zero, List.set_cons_succ]
    refine wpAnyH_ready (rs := [5, 12]) (by kernel_rfl) (by simp) ?_
    refine AllReadyH.cons (o := { dst := some 65, op := Op.call { callee := Callee.value (Operand.func 12), args := #[Operand.tmp 62, Operand.tmp 64], argTypes := #[3, 3] }, type := 37, pos := "law.go:27", after := #[{ on := 2, ground := Ground.data }, { on := 4, ground := Ground.data }], guard := none }) rfl (fun K hK => ?_) ?_
    ·
      go_simp
      go_at_call 12
      refine (rNew_er e0 a0 _).mono ?_
      rintro ev v13_5 ⟨rfl, hb9⟩
      (first | replace hY := hY.next hb9 | replace hY := (hY.draw _).next hb9 | replace hY := hY.draw1.next hb9 | replace hY := (hY.alloc _).next hb9)
      (first | replace hN := hN.next hb9 | replace hN := (hN.draw _).next hb9 | replace hN := hN.draw1.next hb9 | replace hN := (hN.alloc _).next hb9)
      clear hb9
      go_simp
      refine hK.out _ _ ?_ (fun hH => ?_)
      · (first | exact ⟨(Below.cell hN (block_lt cE0)).trans cE0, (Below.cell hN (block_lt cE1)).trans cE1, (Below.cell hN (block_lt cA0)).trans cA0, (Below.cell hN (block_lt cA1)).trans cA1⟩ | go_keep)
      clear hK K
      try simp only [Act.put, List.setIfInBounds_toArray, List.set_cons_zero, List.set_cons_succ]
      refine wpAnyH_ready (rs := [11, 12]) (by kernel_rfl) (by simp) ?_
      refine AllReadyH.cons (o := { dst := some 71, op := Op.call { callee := Callee.value (Operand.func 12), args := #[Operand.tmp 68, Operand.tmp 70], argTypes := #[3, 3] }, type := 37, pos := "law.go:27", after := #[{ on := 8, ground := Ground.data }, { on := 10, ground := Ground.data }, { on := 5, ground := Ground.chain }], guard := none }) rfl (fun K hK => ?_) ?_
      ·
        go_simp
        go_at_call 12
        refine (rNew_er e1 a1 _).mono ?_
        rintro ev v13_5_11 ⟨rfl, hb9⟩
        (first | replace hY := hY.next hb9 | replace hY := (hY.draw _).next hb9 | replace hY := hY.draw1.next hb9 | replace hY := (hY.alloc _).next hb9)
        (first | replace hN := hN.next hb9 | replace hN := (hN.draw _).next hb9 | replace hN := hN.draw1.next hb9 | replace hN := (hN.alloc _).next hb9)
        clear hb9
        go_simp
        refine hK.out _ _ ?_ (fun hH => ?_)
        · (first | exact ⟨(Below.cell hN (block_lt cE0)).trans cE0, (Below.cell hN (block_lt cE1)).trans cE1, (Below.cell hN (block_lt cA0)).trans cA0, (Below.cell hN (block_lt cA1)).trans cA1⟩ | go_keep)
        clear hK K
        try simp only [Act.put, List.setIfInBounds_toArray, List.set_cons_zero, List.set_cons_succ]
        refine wpAnyH_ready (rs := [12]) (by kernel_rfl) (by simp) ?_
        refine AllReadyH.cons (o := { dst := some 9, op := Op.alloc 37, type := 0, pos := "law.go:27", after := #[], guard := none }) rfl (fun K hK => ?_) AllReadyH.nil
        go_simp
        generalize hV9 : World.alloc _ _ = v13_5_11_12
        have hne := Nat.ne_of_lt (block_lt hY.1.1)
        replace hY := hY.of_alloc hV9
        have hXc := Below.size hN
        have hX := own2_of hV9
        replace hN := hN.of_alloc hV9
        clear hV9
        refine hK.out _ _ ?_ (fun hH => ?_)
        · (first | exact ⟨(Below.cell hN (block_lt cE0)).trans cE0, (Below.cell hN (block_lt cE1)).trans cE1, (Below.cell hN (block_lt cA0)).trans cA0, (Below.cell hN (block_lt cA1)).trans cA1⟩ | go_keep)
        clear hK K
        try simp only [Act.put, List.setIfInBounds_toArray, List.set_cons_zero, List.set_cons_succ]
        refine wpAnyH_ready (rs := [14]) (by kernel_rfl) (by simp) ?_
        refine AllReadyH.cons (o := { dst := none, op := Op.store 37 (Operand.tmp 9) (Operand.tmp 65), type := 0, pos := "law.go:27", after := #[{ on := 12, ground := Ground.data }, { on := 5, ground := Ground.data }, { on := 11, ground := Ground.chain }, { on := 0, ground := Ground.phase }, { on := 1, ground := Ground.phase }, { on := 2, ground := Ground.phase }, { on := 3, ground := Ground.phase }, { on := 4, ground := Ground.phase }, { on := 5, ground := Ground.phase }, { on := 6, ground := Ground.textOnly Departure.lateStores }, { on := 7, ground := Ground.textOnly Departure.lateStores }, { on := 8, ground := Ground.textOnly Departure.lateStores }, { on := 9, ground := Ground.textOnly Departure.lateStores }, { on := 10, ground := Ground.textOnly Departure.lateStores }, { on := 11, ground := Ground.textOnly Departure.lateStoresUnsure }, { on := 12, ground := Ground.phase }, { on := 13, ground := Ground.phase }], guard := none }) rfl (fun K hK => ?_) AllReadyH.nil
        have x0 := hX.1.1
        have x1 := hX.1.2
        have x2 := hX.2.1
        have x3 := hX.2.2
        go_simp
        generalize hV9 : World.setCell _ _ _ = v13_5_11_12_14
        clear x0 x1 x2 x3
        replace hX := flt_set hX hV9
        replace hY := hY.set_other hne.symm hV9
        replace hN := hN.set hXc hV9
        clear hV9
        refine hK.out _ _ ?_ (fun hH => ?_)
        · (first | exact ⟨(Below.cell hN (block_lt cE0)).trans cE0, (Below.cell hN (block_lt cE1)).trans cE1, (Below.cell hN (block_lt cA0)).trans cA0, (Below.cell hN (block_lt cA1)).trans cA1⟩ | go_keep)
        clear hK K
        refine wpAnyH_ready (rs := [15]) (by kernel_rfl) (by simp) ?_
        refine AllReadyH.cons (o := { dst := none, op := Op.store 37 (Operand.tmp 10) (Operand.tmp 71), type := 0, pos := "law.go:27", after := #[{ on := 13, ground := Ground.data }, { on := 11, ground := Ground.data }, { on := 14, ground := Ground.chain }, { on := 0, ground := Ground.phase }, { on := 1, ground := Ground.phase }, { on := 2, ground := Ground.phase }, { on := 3, ground := Ground.phase }, { on := 4, ground := Ground.phase }, { on := 5, ground := Ground.phase }, { on := 6, ground := Ground.phase }, { on := 7, ground := Ground.phase }, { on := 8, ground := Ground.phase }, { on := 9, ground := Ground.phase }, { on := 10, ground := Ground.phase }, { on := 11, ground := Ground.phase }, { on := 12, ground := Ground.phase }, { on := 13, ground := Ground.phase }, { on := 14, ground := Ground.phase }], guard := none }) rfl (fun K hK => ?_) AllReadyH.nil
        have x0 := hY.1.1
        have x1 := hY.1.2
        have x2 := hY.2.1
        have x3 := hY.2.2
        go_simp
        generalize hV9 : World.setCell _ _ _ = v13_5_11_12_14_15
        clear x0 x1 x2 x3
        replace hY := flt_set hY hV9
        replace hX := hX.set_other hne hV9
        replace hN := hN.set hYc hV9
        clear hV9
        refine hK.out _ _ ?_ (fun hH => ?_)
        · (first | exact ⟨(Below.cell hN (block_lt cE0)).trans cE0, (Below.cell hN (block_lt cE1)).trans cE1, (Below.cell hN (block_lt cA0)).trans cA0, (Below.cell hN (block_lt cA1)).trans cA1⟩ | go_keep)
        clear hK K
        refine wpAnyH_done (by kernel_rfl) ?_ _
        go_wp2_with fail
        go_meet
        exact ⟨_, _, rfl, rfl, hX, hY, hN⟩
      refine AllReadyH.cons (o := { dst := some 9, op := Op.alloc 37, type := 0, pos := "law.go:27", after := #[], guard := none }) rfl (fun K hK => ?_) AllReadyH.nil
      go_simp
      generalize hV9 : World.alloc _ _ = v13_5_12
      have hne := Nat.ne_of_lt (block_lt hY.1.1)
      replace hY := hY.of_alloc hV9
      have hXc := Below.size hN
      have hX := own2_of hV9
      replace hN := hN.of_alloc hV9
      clear hV9
      refine hK.out _ _ ?_ (fun hH => ?_)
      · (first | exact ⟨(Below.cell hN (block_lt cE0)).trans cE0, (Below.cell hN (block_lt cE1)).trans cE1, (Below.cell hN (block_lt cA0)).trans cA0, (Below.cell hN (block_lt cA1)).trans cA1⟩ | go_keep)
      clear hK K
      try simp only [Act.put, List.setIfInBounds_toArray, List.set_cons_zero, List.set_cons_succ]
      refine wpAnyH_ready (rs := [11]) (by kernel_rfl) (by simp) ?_
      refine AllReadyH.cons (o := { dst := some 71, op := Op.call { callee := Callee.value (Operand.func 12), args := #[Operand.tmp 68, Operand.tmp 70], argTypes := #[3, 3] }, type := 37, pos := "law.go:27", after := #[{ on := 8, ground := Ground.data }, { on := 10, ground := Ground.data }, { on := 5, ground := Ground.chain }], guard := none }) rfl (fun K hK => ?_) AllReadyH.nil
      go_simp
      go_at_call 12
      refine (rNew_er e1 a1 _).mono ?_
      rintro ev v13_5_12_11 ⟨rfl, hb9⟩
      (first | replace hX := hX.next hb9 | replace hX := (hX.draw _).next hb9 | replace hX := hX.draw1.next hb9 | replace hX := (hX.alloc _).next hb9)
      (first | replace hY := hY.next hb9 | replace hY := (hY.draw _).next hb9 | replace hY := hY.draw1.next hb9 | replace hY := (hY.alloc _).next hb9)
      (first | replace hN := hN.next hb9 | replace hN := (hN.draw _).next hb9 | replace hN := hN.draw1.next hb9 | replace hN := (hN.alloc _).next hb9)
      clear hb9
      go_simp
      refine hK.out _ _ ?_ (fun hH => ?_)
      · (first | exact ⟨(Below.cell hN (block_lt cE0)).trans cE0, (Below.cell hN (block_lt cE1)).trans cE1, (Below.cell hN (block_lt cA0)).trans cA0, (Below.cell hN (block_lt cA1)).trans cA1⟩ | go_keep)
      clear hK K
      try simp only [Act.put, List.setIfInBounds_toArray, List.set_cons_zero, List.set_cons_succ]
      refine wpAnyH_ready (rs := [14]) (by kernel_rfl) (by simp) ?_
      refine AllReadyH.cons (o := { dst := none, op := Op.store 37 (Operand.tmp 9) (Operand.tmp 65), type := 0, pos := "law.go:27", after := #[{ on := 12, ground := Ground.data }, { on := 5, ground := Ground.data }, { on := 11, ground := Ground.chain }, { on := 0, ground := Ground.phase }, { on := 1, ground := Ground.phase }, { on := 2, ground := Ground.phase }, { on := 3, ground := Ground.phase }, { on := 4, ground := Ground.phase }, { on := 5, ground := Ground.phase }, { on := 6, ground := Ground.textOnly Departure.lateStores }, { on := 7, ground := Ground.textOnly Departure.lateStores }, { on := 8, ground := Ground.textOnly Departure.lateStores }, { on := 9, ground := Ground.textOnly Departure.lateStores }, { on := 10, ground := Ground.textOnly Departure.lateStores }, { on := 11, ground := Ground.textOnly Departure.lateStoresUnsure }, { on := 12, ground := Ground.phase }, { on := 13, ground := Ground.phase }], guard := none }) rfl (fun K hK => ?_) AllReadyH.nil
      have x0 := hX.1.1
      have x1 := hX.1.2
      have x2 := hX.2.1
      have x3 := hX.2.2
      go_simp
      generalize hV9 : World.setCell _ _ _ = v13_5_12_11_14
      clear x0 x1 x2 x3
      replace hX := flt_set hX hV9
      replace hY := hY.set_other hne.symm hV9
      replace hN := hN.set hXc hV9
      clear hV9
      refine hK.out _ _ ?_ (fun hH => ?_)
      · (first | exact ⟨(Below.cell hN (block_lt cE0)).trans cE0, (Below.cell hN (block_lt cE1)).trans cE1, (Below.cell hN (block_lt cA0)).trans cA0, (Below.cell hN (block_lt cA1)).trans cA1⟩ | go_keep)
      clear hK K
      refine wpAnyH_ready (rs := [15]) (by kernel_rfl) (by simp) ?_
      refine AllReadyH.cons (o := { dst := none, op := Op.store 37 (Operand.tmp 10) (Operand.tmp 71), type := 0, pos := "law.go:27", after := #[{ on := 13, ground := Ground.data }, { on := 11, ground := Ground.data }, { on := 14, ground := Ground.chain }, { on := 0, ground := Ground.phase }, { on := 1, ground := Ground.phase }, { on := 2, ground := Ground.phase }, { on := 3, ground := Ground.phase }, { on := 4, ground := Ground.phase }, { on := 5, ground := Ground.phase }, { on := 6, ground := Ground.phase }, { on := 7, ground := Ground.phase }, { on := 8, ground := Ground.phase }, { on := 9, ground := Ground.phase }, { on := 10, ground := Ground.phase }, { on := 11, ground := Ground.phase }, { on := 12, ground := Ground.phase }, { on := 13, ground := Ground.phase }, { on := 14, ground := Ground.phase }], guard := none }) rfl (fun K hK => ?_) AllReadyH.nil
      have x0 := hY.1.1
      have x1 := hY.1.2
      have x2 := hY.2.1
      have x3 := hY.2.2
      go_simp
      generalize hV9 : World.setCell _ _ _ = v13_5_12_11_14_15
      clear x0 x1 x2 x3
      replace hY := flt_set hY hV9
      replace hX := hX.set_other hne hV9
      replace hN := hN.set hYc hV9
      clear hV9
      refine hK.out _ _ ?_ (fun hH => ?_)
      · (first | exact ⟨(Below.cell hN (block_lt cE0)).trans cE0, (Below.cell hN (block_lt cE1)).trans cE1, (Below.cell hN (block_lt cA0)).trans cA0, (Below.cell hN (block_lt cA1)).trans cA1⟩ | go_keep)
      clear hK K
      refine wpAnyH_done (by kernel_rfl) ?_ _
      go_wp2_with fail
      go_meet
      exact ⟨_, _, rfl, rfl, hX, hY, hN⟩
    refine AllReadyH.cons (o := { dst := some 9, op := Op.alloc 37, type := 0, pos := "law.go:27", after := #[], guard := none }) rfl (fun K hK => ?_) AllReadyH.nil
    go_simp
    generalize hV9 : World.alloc _ _ = v13_12
    have hne := Nat.ne_of_lt (block_lt hY.1.1)
    replace hY := hY.of_alloc hV9
    have hXc := Below.size hN
    have hX := own2_of hV9
    replace hN := hN.of_alloc hV9
    clear hV9
    refine hK.out _ _ ?_ (fun hH => ?_)
    · (first | exact ⟨(Below.cell hN (block_lt cE0)).trans cE0, (Below.cell hN (block_lt cE1)).trans cE1, (Below.cell hN (block_lt cA0)).trans cA0, (Below.cell hN (block_lt cA1)).trans cA1⟩ | go_keep)
    clear hK K
    try simp only [Act.put, List.setIfInBounds_toArray, List.set_cons_zero, List.set_cons_succ]
    refine wpAnyH_ready (rs := [5]) (by kernel_rfl) (by simp) ?_
    refine AllReadyH.cons (o := { dst := some 65, op := Op.call { callee := Callee.value (Operand.func 12), args := #[Operand.tmp 62, Operand.tmp 64], argTypes := #[3, 3] }, type := 37, pos := "law.go:27", after := #[{ on := 2, ground := Ground.data }, { on := 4, ground := Ground.data }], guard := none }) rfl (fun K hK => ?_) AllReadyH.nil
    go_simp
    go_at_call 12
    refine (rNew_er e0 a0 _).mono ?_
    rintro ev v13_12_5 ⟨rfl, hb9⟩
    (first | replace hX := hX.next hb9 | replace hX := (hX.draw _).next hb9 | replace hX := hX.draw1.next hb9 | replace hX := (hX.alloc _).next hb9)
    (first | replace hY := hY.next hb9 | replace hY := (hY.draw _).next hb9 | replace hY := hY.draw1.next hb9 | replace hY := (hY.alloc _).next hb9)
    (first | replace hN := hN.next hb9 | replace hN := (hN.draw _).next hb9 | replace hN := hN.draw1.next hb9 | replace hN := (hN.alloc _).next hb9)
    clear hb9
    go_simp
    refine hK.out _ _ ?_ (fun hH => ?_)
    · (first | exact ⟨(Below.cell hN (block_lt cE0)).trans cE0, (Below.cell hN (block_lt cE1)).trans cE1, (Below.cell hN (block_lt cA0)).trans cA0, (Below.cell hN (block_lt cA1)).trans cA1⟩ | go_keep)
    clear hK K
    try simp only [Act.put, List.setIfInBounds_toArray, List.set_cons_zero, List.set_cons_succ]
    refine wpAnyH_ready (rs := [11]) (by kernel_rfl) (by simp) ?_
    refine AllReadyH.cons (o := { dst := some 71, op := Op.call { callee := Callee.value (Operand.func 12), args := #[Operand.tmp 68, Operand.tmp 70], argTypes := #[3, 3] }, type := 37, pos := "law.go:27", after := #[{ on := 8, ground := Ground.data }, { on := 10, ground := Ground.data }, { on := 5, ground := Ground.chain }], guard := none }) rfl (fun K hK => ?_) AllReadyH.nil
    go_simp
    go_at_call 12
    refine (rNew_er e1 a1 _).mono ?_
    rintro ev v13_12_5_11 ⟨rfl, hb9⟩
    (first | replace hX := hX.next hb9 | replace hX := (hX.draw _).next hb9 | replace hX := hX.draw1.next hb9 | replace hX := (hX.alloc _).next hb9)
    (first | replace hY := hY.next hb9 | replace hY := (hY.draw _).next hb9 | replace hY := hY.draw1.next hb9 | replace hY := (hY.alloc _).next hb9)
    (first | replace hN := hN.next hb9 | replace hN := (hN.draw _).next hb9 | replace hN := hN.draw1.next hb9 | replace hN := (hN.alloc _).next hb9)
    clear hb9
    go_simp
    refine hK.out _ _ ?_ (fun hH => ?_)
    · (first | exact ⟨(Below.cell hN (block_lt cE0)).trans cE0, (Below.cell hN (block_lt cE1)).trans cE1, (Below.cell hN (block_lt cA0)).trans cA0, (Below.cell hN (block_lt cA1)).trans cA1⟩ | go_keep)
    clear hK K
    try simp only [Act.put, List.setIfInBounds_toArray, List.set_cons_zero, List.set_cons_succ]
    refine wpAnyH_ready (rs := [14]) (by kernel_rfl) (by simp) ?_
    refine AllReadyH.cons (o := { dst := none, op := Op.store 37 (Operand.tmp 9) (Operand.tmp 65), type := 0, pos := "law.go:27", after := #[{ on := 12, ground := Ground.data }, { on := 5, ground := Ground.data }, { on := 11, ground := Ground.chain }, { on := 0, ground := Ground.phase }, { on := 1, ground := Ground.phase }, { on := 2, ground := Ground.phase }, { on := 3, ground := Ground.phase }, { on := 4, ground := Ground.phase }, { on := 5, ground := Ground.phase }, { on := 6, ground := Ground.textOnly Departure.lateStores }, { on := 7, ground := Ground.textOnly Departure.lateStores }, { on := 8, ground := Ground.textOnly Departure.lateStores }, { on := 9, ground := Ground.textOnly Departure.lateStores }, { on := 10, ground := Ground.textOnly Departure.lateStores }, { on := 11, ground := Ground.textOnly Departure.lateStoresUnsure }, { on := 12, ground := Ground.phase }, { on := 13, ground := Ground.phase }], guard := none }) rfl (fun K hK => ?_) AllReadyH.nil
    have x0 := hX.1.1
    have x1 := hX.1.2
    have x2 := hX.2.1
    have x3 := hX.2.2
    go_simp
    generalize hV9 : World.setCell _ _ _ = v13_12_5_11_14
    clear x0 x1 x2 x3
    replace hX := flt_set hX hV9
    replace hY := hY.set_other hne.symm hV9
    replace hN := hN.set hXc hV9
    clear hV9
    refine hK.out _ _ ?_ (fun hH => ?_)
    · (first | exact ⟨(Below.cell hN (block_lt cE0)).trans cE0, (Below.cell hN (block_lt cE1)).trans cE1, (Below.cell hN (block_lt cA0)).trans cA0, (Below.cell hN (block_lt cA1)).trans cA1⟩ | go_keep)
    clear hK K
    refine wpAnyH_ready (rs := [15]) (by kernel_rfl) (by simp) ?_
    refine AllReadyH.cons (o := { dst := none, op := Op.store 37 (Operand.tmp 10) (Operand.tmp 71), type := 0, pos := "law.go:27", after := #[{ on := 13, ground := Ground.data }, { on := 11, ground := Ground.data }, { on := 14, ground := Ground.chain }, { on := 0, ground := Ground.phase }, { on := 1, ground := Ground.phase }, { on := 2, ground := Ground.phase }, { on := 3, ground := Ground.phase }, { on := 4, ground := Ground.phase }, { on := 5, ground := Ground.phase }, { on := 6, ground := Ground.phase }, { on := 7, ground := Ground.phase }, { on := 8, ground := Ground.phase }, { on := 9, ground := Ground.phase }, { on := 10, ground := Ground.phase }, { on := 11, ground := Ground.phase }, { on := 12, ground := Ground.phase }, { on := 13, ground := Ground.phase }, { on := 14, ground := Ground.phase }], guard := none }) rfl (fun K hK => ?_) AllReadyH.nil
    have x0 := hY.1.1
    have x1 := hY.1.2
    have x2 := hY.2.1
    have x3 := hY.2.2
    go_simp
    generalize hV9 : World.setCell _ _ _ = v13_12_5_11_14_15
    clear x0 x1 x2 x3
    replace hY := flt_set hY hV9
    replace hX := hX.set_other hne hV9
    replace hN := hN.set hYc hV9
    clear hV9
    refine hK.out _ _ ?_ (fun hH => ?_)
    · (first | exact ⟨(Below.cell hN (block_lt cE0)).trans cE0, (Below.cell hN (block_lt cE1)).trans cE1, (Below.cell hN (block_lt cA0)).trans cA0, (Below.cell hN (block_lt cA1)).trans cA1⟩ | go_keep)
    clear hK K
    refine wpAnyH_done (by kernel_rfl) ?_ _
    go_wp2_with fail
    go_meet
    exact ⟨_, _, rfl, rfl, hX, hY, hN⟩
  case rest =>
    unfold CutR at hcut
    obtain ⟨pX, pY, rfl, rfl, hX, hY, hN⟩ := hcut
    clear cE0 cE1 cA0 cA1 k0 k1
    replace hT := hT.next hN
    replace hg := hg.next hN
    replace hE := hE.next hN
    replace hU := hU.next hN
    replace hV := hV.next hN
    clear hA hN
    have T1 := Lib.hid fun (v : Value) (e a : Int) (w : World) (hg : Laid w) (hE : Er w v e a) => told_er v e a w hg hE
    have M1 := Lib.hid fun (v : Value) (w : World) (hg : Laid w) (hE : Er w v e0 a0) => move_er v e0 a0 m (by omega) (by omega) w hg hE
    have M2 := Lib.hid fun (w : World) => rMove_er e0 a0 m (by omega) (by omega) w
    have F1 := Lib.hid fun (x y : Value) (w : World) (hg : Laid w) (hE : Er w x e0 a0) (hF : Er w y e1 a1) => first_er x y e0 a0 e1 a1 w hg hE hF
    have F2 := Lib.hid fun (w : World) => rFirst_er e0 a0 e1 a1 w
    have q1 := neq_F e0 (plc e0 a0) e0 (plc e0 a0)
    have q2 := neq_F e1 (plc e1 a1) e1 (plc e1 a1)
    have q3 := neq_F e0 (plc e0 (a0 + m)) e0 (plc e0 (a0 + m))
    have q4 := eql_F (fstE e0 e1 a0 a1) (plc (fstE e0 e1 a0 a1) (fstA e0 e1 a0 a1)) (fstE e0 e1 a0 a1) (plc (fstE e0 e1 a0 a1) (fstA e0 e1 a0 a1))
    simp only [beq_self_eq_true, Bool.and_self, Bool.not_true] at q1 q2 q3 q4
    clear i1 i2 i3 i4 i5 i6
    have cE0 := hE.1
    have cX0 := hX.1
    have cX1 := hX.2
    have cY0 := hY.1
    have cY1 := hY.2
    have hU' := hU
    rcases hU' with ⟨rfl, rfl⟩ | ⟨he, b, rfl, _⟩
    · go_wp2_with fail
      go_region_held3 (fun w' => w'.cell? ⟨pE, 0, none⟩ = some (.int .u8 0) ∧ w'.cell? ⟨pX, 0, none⟩ = some (.int .i64 0) ∧ w'.cell? ⟨pX, 1, none⟩ = some (.int .i64 (plc 0 a0)) ∧ w'.cell? ⟨pY, 0, none⟩ = some (.int .i64 e1) ∧ w'.cell? ⟨pY, 1, none⟩ = some (.int .i64 (plc e1 a1))) (first | go_keep | exact ⟨cE0, cX0, cX1, cY0, cY1⟩) (first | (go_at_call 13; ((with_reducible refine (T1.out _ _ _ _ (by first | exact hg | exact hg.draw _ | exact hg.draw1 | exact hg.alloc _) (by first | exact hU | exact hU.draw _ | exact hU.draw1 | exact hU.alloc _)).mono ?_)); rintro ev w9 ⟨rfl, hb9⟩; clear cE0 cX0 cX1 cY0 cY1; (first | replace hT := hT.next hb9 | replace hT := (hT.draw _).next hb9 | replace hT := hT.draw1.next hb9 | replace hT := (hT.alloc _).next hb9); (first | replace hg := hg.next hb9 | replace hg := (hg.draw _).next hb9 | replace hg := hg.draw1.next hb9 | replace hg := (hg.alloc _).next hb9); (first | replace hE := hE.next hb9 | replace hE := (hE.draw _).next hb9 | replace hE := hE.draw1.next hb9 | replace hE := (hE.alloc _).next hb9); (first | replace hX := hX.next hb9 | replace hX := (hX.draw _).next hb9 | replace hX := hX.draw1.next hb9 | replace hX := (hX.alloc _).next hb9); (first | replace hY := hY.next hb9 | replace hY := (hY.draw _).next hb9 | replace hY := hY.draw1.next hb9 | replace hY := (hY.alloc _).next hb9); (first | replace hU := hU.next hb9 | replace hU := (hU.draw _).next hb9 | replace hU := hU.draw1.next hb9 | replace hU := (hU.alloc _).next hb9); (first | replace hV := hV.next hb9 | replace hV := (hV.draw _).next hb9 | replace hV := hV.draw1.next hb9 | replace hV := (hV.alloc _).next hb9); have cE0 := hE.1; have cX0 := hX.1; have cX1 := hX.2; have cY0 := hY.1; have cY1 := hY.2; clear hb9) | (go_at_call 13; ((with_reducible refine (T1.out _ _ _ _ (by first | exact hg | exact hg.draw _ | exact hg.draw1 | exact hg.alloc _) (by first | exact hV | exact hV.draw _ | exact hV.draw1 | exact hV.alloc _)).mono ?_)); rintro ev w9 ⟨rfl, hb9⟩; clear cE0 cX0 cX1 cY0 cY1; (first | replace hT := hT.next hb9 | replace hT := (hT.draw _).next hb9 | replace hT := hT.draw1.next hb9 | replace hT := (hT.alloc _).next hb9); (first | replace hg := hg.next hb9 | replace hg := (hg.draw _).next hb9 | replace hg := hg.draw1.next hb9 | replace hg := (hg.alloc _).next hb9); (first | replace hE := hE.next hb9 | replace hE := (hE.draw _).next hb9 | replace hE := hE.draw1.next hb9 | replace hE := (hE.alloc _).next hb9); (first | replace hX := hX.next hb9 | replace hX := (hX.draw _).next hb9 | replace hX := hX.draw1.next hb9 | replace hX := (hX.alloc _).next hb9); (first | replace hY := hY.next hb9 | replace hY := (hY.draw _).next hb9 | replace hY := hY.draw1.next hb9 | replace hY := (hY.alloc _).next hb9); (first | replace hU := hU.next hb9 | replace hU := (hU.draw _).next hb9 | replace hU := hU.draw1.next hb9 | replace hU := (hU.alloc _).next hb9); (first | replace hV := hV.next hb9 | replace hV := (hV.draw _).next hb9 | replace hV := hV.draw1.next hb9 | replace hV := (hV.alloc _).next hb9); have cE0 := hE.1; have cX0 := hX.1; have cX1 := hX.2; have cY0 := hY.1; have cY1 := hY.2; clear hb9) | (go_at_call 14; ((with_reducible refine (M1.out _ _ (by first | exact hg | exact hg.draw _ | exact hg.draw1 | exact hg.alloc _) (by first | exact hU | exact hU.draw _ | exact hU.draw1 | exact hU.alloc _)).mono ?_)); rintro ev w9 ⟨x, rfl, hM, hb9⟩; clear cE0 cX0 cX1 cY0 cY1; (first | replace hT := hT.next hb9 | replace hT := (hT.draw _).next hb9 | replace hT := hT.draw1.next hb9 | replace hT := (hT.alloc _).next hb9); (first | replace hg := hg.next hb9 | replace hg := (hg.draw _).next hb9 | replace hg := hg.draw1.next hb9 | replace hg := (hg.alloc _).next hb9); (first | replace hE := hE.next hb9 | replace hE := (hE.draw _).next hb9 | replace hE := hE.draw1.next hb9 | replace hE := (hE.alloc _).next hb9); (first | replace hX := hX.next hb9 | replace hX := (hX.draw _).next hb9 | replace hX := hX.draw1.next hb9 | replace hX := (hX.alloc _).next hb9); (first | replace hY := hY.next hb9 | replace hY := (hY.draw _).next hb9 | replace hY := hY.draw1.next hb9 | replace hY := (hY.alloc _).next hb9); (first | replace hU := hU.next hb9 | replace hU := (hU.draw _).next hb9 | replace hU := hU.draw1.next hb9 | replace hU := (hU.alloc _).next hb9); (first | replace hV := hV.next hb9 | replace hV := (hV.draw _).next hb9 | replace hV := hV.draw1.next hb9 | replace hV := (hV.alloc _).next hb9); have cE0 := hE.1; have cX0 := hX.1; have cX1 := hX.2; have cY0 := hY.1; have cY1 := hY.2; clear hb9) | (go_at_call 13; ((with_reducible refine (T1.out _ _ _ _ (by first | exact hg | exact hg.draw _ | exact hg.draw1 | exact hg.alloc _) (by first | exact hM | exact hM.draw _ | exact hM.draw1 | exact hM.alloc _)).mono ?_)); rintro ev w9 ⟨rfl, hb9⟩; clear cE0 cX0 cX1 cY0 cY1; (first | replace hT := hT.next hb9 | replace hT := (hT.draw _).next hb9 | replace hT := hT.draw1.next hb9 | replace hT := (hT.alloc _).next hb9); (first | replace hg := hg.next hb9 | replace hg := (hg.draw _).next hb9 | replace hg := hg.draw1.next hb9 | replace hg := (hg.alloc _).next hb9); (first | replace hE := hE.next hb9 | replace hE := (hE.draw _).next hb9 | replace hE := hE.draw1.next hb9 | replace hE := (hE.alloc _).next hb9); (first | replace hX := hX.next hb9 | replace hX := (hX.draw _).next hb9 | replace hX := hX.draw1.next hb9 | replace hX := (hX.alloc _).next hb9); (first | replace hY := hY.next hb9 | replace hY := (hY.draw _).next hb9 | replace hY := hY.draw1.next hb9 | replace hY := (hY.alloc _).next hb9); (first | replace hU := hU.next hb9 | replace hU := (hU.draw _).next hb9 | replace hU := hU.draw1.next hb9 | replace hU := (hU.alloc _).next hb9); (first | replace hV := hV.next hb9 | replace hV := (hV.draw _).next hb9 | replace hV := hV.draw1.next hb9 | replace hV := (hV.alloc _).next hb9); have cE0 := hE.1; have cX0 := hX.1; have cX1 := hX.2; have cY0 := hY.1; have cY1 := hY.2; clear hb9) | (go_at_call 15; ((with_reducible refine (M2.out _).mono ?_)); rintro ev w9 ⟨rfl, hb9⟩; clear cE0 cX0 cX1 cY0 cY1; (first | replace hT := hT.next hb9 | replace hT := (hT.draw _).next hb9 | replace hT := hT.draw1.next hb9 | replace hT := (hT.alloc _).next hb9); (first | replace hg := hg.next hb9 | replace hg := (hg.draw _).next hb9 | replace hg := hg.draw1.next hb9 | replace hg := (hg.alloc _).next hb9); (first | replace hE := hE.next hb9 | replace hE := (hE.draw _).next hb9 | replace hE := hE.draw1.next hb9 | replace hE := (hE.alloc _).next hb9); (first | replace hX := hX.next hb9 | replace hX := (hX.draw _).next hb9 | replace hX := hX.draw1.next hb9 | replace hX := (hX.alloc _).next hb9); (first | replace hY := hY.next hb9 | replace hY := (hY.draw _).next hb9 | replace hY := hY.draw1.next hb9 | replace hY := (hY.alloc _).next hb9); (first | replace hU := hU.next hb9 | replace hU := (hU.draw _).next hb9 | replace hU := hU.draw1.next hb9 | replace hU := (hU.alloc _).next hb9); (first | replace hV := hV.next hb9 | replace hV := (hV.draw _).next hb9 | replace hV := hV.draw1.next hb9 | replace hV := (hV.alloc _).next hb9); have cE0 := hE.1; have cX0 := hX.1; have cX1 := hX.2; have cY0 := hY.1; have cY1 := hY.2; clear hb9))
      go_wp2_with fail
      go_region_held3 (fun w' => w'.cell? ⟨pE, 0, none⟩ = some (.int .u8 0) ∧ w'.cell? ⟨pX, 0, none⟩ = some (.int .i64 0) ∧ w'.cell? ⟨pX, 1, none⟩ = some (.int .i64 (plc 0 a0)) ∧ w'.cell? ⟨pY, 0, none⟩ = some (.int .i64 e1) ∧ w'.cell? ⟨pY, 1, none⟩ = some (.int .i64 (plc e1 a1))) (first | go_keep | exact ⟨cE0, cX0, cX1, cY0, cY1⟩) (first | (go_at_call 16; ((with_reducible refine (F1.out _ _ _ (by first | exact hg | exact hg.draw _ | exact hg.draw1 | exact hg.alloc _) (by first | exact hU | exact hU.draw _ | exact hU.draw1 | exact hU.alloc _) (by first | exact hV | exact hV.draw _ | exact hV.draw1 | exact hV.alloc _)).mono ?_)); rintro ev w9 ⟨r, rfl, hR, hb9⟩; clear cE0 cX0 cX1 cY0 cY1; (first | replace hT := hT.next hb9 | replace hT := (hT.draw _).next hb9 | replace hT := hT.draw1.next hb9 | replace hT := (hT.alloc _).next hb9); (first | replace hg := hg.next hb9 | replace hg := (hg.draw _).next hb9 | replace hg := hg.draw1.next hb9 | replace hg := (hg.alloc _).next hb9); (first | replace hE := hE.next hb9 | replace hE := (hE.draw _).next hb9 | replace hE := hE.draw1.next hb9 | replace hE := (hE.alloc _).next hb9); (first | replace hX := hX.next hb9 | replace hX := (hX.draw _).next hb9 | replace hX := hX.draw1.next hb9 | replace hX := (hX.alloc _).next hb9); (first | replace hY := hY.next hb9 | replace hY := (hY.draw _).next hb9 | replace hY := hY.draw1.next hb9 | replace hY := (hY.alloc _).next hb9); (first | replace hU := hU.next hb9 | replace hU := (hU.draw _).next hb9 | replace hU := hU.draw1.next hb9 | replace hU := (hU.alloc _).next hb9); (first | replace hV := hV.next hb9 | replace hV := (hV.draw _).next hb9 | replace hV := hV.draw1.next hb9 | replace hV := (hV.alloc _).next hb9); have cE0 := hE.1; have cX0 := hX.1; have cX1 := hX.2; have cY0 := hY.1; have cY1 := hY.2; clear hb9) | (go_at_call 13; ((with_reducible refine (T1.out _ _ _ _ (by first | exact hg | exact hg.draw _ | exact hg.draw1 | exact hg.alloc _) (by first | exact hR | exact hR.draw _ | exact hR.draw1 | exact hR.alloc _)).mono ?_)); rintro ev w9 ⟨rfl, hb9⟩; clear cE0 cX0 cX1 cY0 cY1; (first | replace hT := hT.next hb9 | replace hT := (hT.draw _).next hb9 | replace hT := hT.draw1.next hb9 | replace hT := (hT.alloc _).next hb9); (first | replace hg := hg.next hb9 | replace hg := (hg.draw _).next hb9 | replace hg := hg.draw1.next hb9 | replace hg := (hg.alloc _).next hb9); (first | replace hE := hE.next hb9 | replace hE := (hE.draw _).next hb9 | replace hE := hE.draw1.next hb9 | replace hE := (hE.alloc _).next hb9); (first | replace hX := hX.next hb9 | replace hX := (hX.draw _).next hb9 | replace hX := hX.draw1.next hb9 | replace hX := (hX.alloc _).next hb9); (first | replace hY := hY.next hb9 | replace hY := (hY.draw _).next hb9 | replace hY := hY.draw1.next hb9 | replace hY := (hY.alloc _).next hb9); (first | replace hU := hU.next hb9 | replace hU := (hU.draw _).next hb9 | replace hU := hU.draw1.next hb9 | replace hU := (hU.alloc _).next hb9); (first | replace hV := hV.next hb9 | replace hV := (hV.draw _).next hb9 | replace hV := hV.draw1.next hb9 | replace hV := (hV.alloc _).next hb9); have cE0 := hE.1; have cX0 := hX.1; have cX1 := hX.2; have cY0 := hY.1; have cY1 := hY.2; clear hb9) | (go_at_call 17; ((with_reducible refine (F2.out _).mono ?_)); rintro ev w9 ⟨rfl, hb9⟩; clear cE0 cX0 cX1 cY0 cY1; (first | replace hT := hT.next hb9 | replace hT := (hT.draw _).next hb9 | replace hT := hT.draw1.next hb9 | replace hT := (hT.alloc _).next hb9); (first | replace hg := hg.next hb9 | replace hg := (hg.draw _).next hb9 | replace hg := hg.draw1.next hb9 | replace hg := (hg.alloc _).next hb9); (first | replace hE := hE.next hb9 | replace hE := (hE.draw _).next hb9 | replace hE := hE.draw1.next hb9 | replace hE := (hE.alloc _).next hb9); (first | replace hX := hX.next hb9 | replace hX := (hX.draw _).next hb9 | replace hX := hX.draw1.next hb9 | replace hX := (hX.alloc _).next hb9); (first | replace hY := hY.next hb9 | replace hY := (hY.draw _).next hb9 | replace hY := hY.draw1.next hb9 | replace hY := (hY.alloc _).next hb9); (first | replace hU := hU.next hb9 | replace hU := (hU.draw _).next hb9 | replace hU := hU.draw1.next hb9 | replace hU := (hU.alloc _).next hb9); (first | replace hV := hV.next hb9 | replace hV := (hV.draw _).next hb9 | replace hV := hV.draw1.next hb9 | replace hV := (hV.alloc _).next hb9); have cE0 := hE.1; have cX0 := hX.1; have cX1 := hX.2; have cY0 := hY.1; have cY1 := hY.2; clear hb9) | (go_at_call 6; ((with_reducible refine (awake_ok _ (by first | exact hg | exact hg.draw _ | exact hg.draw1 | exact hg.alloc _)).mono ?_)); rintro ev w9 ⟨rfl, hb9⟩; clear cE0 cX0 cX1 cY0 cY1; (first | replace hT := hT.next hb9 | replace hT := (hT.draw _).next hb9 | replace hT := hT.draw1.next hb9 | replace hT := (hT.alloc _).next hb9); (first | replace hg := hg.next hb9 | replace hg := (hg.draw _).next hb9 | replace hg := hg.draw1.next hb9 | replace hg := (hg.alloc _).next hb9); (first | replace hE := hE.next hb9 | replace hE := (hE.draw _).next hb9 | replace hE := hE.draw1.next hb9 | replace hE := (hE.alloc _).next hb9); (first | replace hX := hX.next hb9 | replace hX := (hX.draw _).next hb9 | replace hX := hX.draw1.next hb9 | replace hX := (hX.alloc _).next hb9); (first | replace hY := hY.next hb9 | replace hY := (hY.draw _).next hb9 | replace hY := hY.draw1.next hb9 | replace hY := (hY.alloc _).next hb9); (first | replace hU := hU.next hb9 | replace hU := (hU.draw _).next hb9 | replace hU := hU.draw1.next hb9 | replace hU := (hU.alloc _).next hb9); (first | replace hV := hV.next hb9 | replace hV := (hV.draw _).next hb9 | replace hV := hV.draw1.next hb9 | replace hV := (hV.alloc _).next hb9); have cE0 := hE.1; have cX0 := hX.1; have cX1 := hX.2; have cY0 := hY.1; have cY1 := hY.2; clear hb9))
      go_wp2_with fail
      go_ret
      exact ⟨rfl, hT⟩
    · have hz : (e0 == 0) = false := by simpa using he
      clear he
      go_wp2_with fail
      go_region_held3 (fun w' => w'.cell? ⟨pE, 0, none⟩ = some (.int .u8 e0) ∧ w'.cell? ⟨pX, 0, none⟩ = some (.int .i64 e0) ∧ w'.cell? ⟨pX, 1, none⟩ = some (.int .i64 (plc e0 a0)) ∧ w'.cell? ⟨pY, 0, none⟩ = some (.int .i64 e1) ∧ w'.cell? ⟨pY, 1, none⟩ = some (.int .i64 (plc e1 a1))) (first | go_keep | exact ⟨cE0, cX0, cX1, cY0, cY1⟩) (first | (go_at_call 13; ((with_reducible refine (T1.out _ _ _ _ (by first | exact hg | exact hg.draw _ | exact hg.draw1 | exact hg.alloc _) (by first | exact hU | exact hU.draw _ | exact hU.draw1 | exact hU.alloc _)).mono ?_)); rintro ev w9 ⟨rfl, hb9⟩; clear cE0 cX0 cX1 cY0 cY1; (first | replace hT := hT.next hb9 | replace hT := (hT.draw _).next hb9 | replace hT := hT.draw1.next hb9 | replace hT := (hT.alloc _).next hb9); (first | replace hg := hg.next hb9 | replace hg := (hg.draw _).next hb9 | replace hg := hg.draw1.next hb9 | replace hg := (hg.alloc _).next hb9); (first | replace hE := hE.next hb9 | replace hE := (hE.draw _).next hb9 | replace hE := hE.draw1.next hb9 | replace hE := (hE.alloc _).next hb9); (first | replace hX := hX.next hb9 | replace hX := (hX.draw _).next hb9 | replace hX := hX.draw1.next hb9 | replace hX := (hX.alloc _).next hb9); (first | replace hY := hY.next hb9 | replace hY := (hY.draw _).next hb9 | replace hY := hY.draw1.next hb9 | replace hY := (hY.alloc _).next hb9); (first | replace hU := hU.next hb9 | replace hU := (hU.draw _).next hb9 | replace hU := hU.draw1.next hb9 | replace hU := (hU.alloc _).next hb9); (first | replace hV := hV.next hb9 | replace hV := (hV.draw _).next hb9 | replace hV := hV.draw1.next hb9 | replace hV := (hV.alloc _).next hb9); have cE0 := hE.1; have cX0 := hX.1; have cX1 := hX.2; have cY0 := hY.1; have cY1 := hY.2; clear hb9) | (go_at_call 13; ((with_reducible refine (T1.out _ _ _ _ (by first | exact hg | exact hg.draw _ | exact hg.draw1 | exact hg.alloc _) (by first | exact hV | exact hV.draw _ | exact hV.draw1 | exact hV.alloc _)).mono ?_)); rintro ev w9 ⟨rfl, hb9⟩; clear cE0 cX0 cX1 cY0 cY1; (first | replace hT := hT.next hb9 | replace hT := (hT.draw _).next hb9 | replace hT := hT.draw1.next hb9 | replace hT := (hT.alloc _).next hb9); (first | replace hg := hg.next hb9 | replace hg := (hg.draw _).next hb9 | replace hg := hg.draw1.next hb9 | replace hg := (hg.alloc _).next hb9); (first | replace hE := hE.next hb9 | replace hE := (hE.draw _).next hb9 | replace hE := hE.draw1.next hb9 | replace hE := (hE.alloc _).next hb9); (first | replace hX := hX.next hb9 | replace hX := (hX.draw _).next hb9 | replace hX := hX.draw1.next hb9 | replace hX := (hX.alloc _).next hb9); (first | replace hY := hY.next hb9 | replace hY := (hY.draw _).next hb9 | replace hY := hY.draw1.next hb9 | replace hY := (hY.alloc _).next hb9); (first | replace hU := hU.next hb9 | replace hU := (hU.draw _).next hb9 | replace hU := hU.draw1.next hb9 | replace hU := (hU.alloc _).next hb9); (first | replace hV := hV.next hb9 | replace hV := (hV.draw _).next hb9 | replace hV := hV.draw1.next hb9 | replace hV := (hV.alloc _).next hb9); have cE0 := hE.1; have cX0 := hX.1; have cX1 := hX.2; have cY0 := hY.1; have cY1 := hY.2; clear hb9) | (go_at_call 14; ((with_reducible refine (M1.out _ _ (by first | exact hg | exact hg.draw _ | exact hg.draw1 | exact hg.alloc _) (by first | exact hU | exact hU.draw _ | exact hU.draw1 | exact hU.alloc _)).mono ?_)); rintro ev w9 ⟨x, rfl, hM, hb9⟩; clear cE0 cX0 cX1 cY0 cY1; (first | replace hT := hT.next hb9 | replace hT := (hT.draw _).next hb9 | replace hT := hT.draw1.next hb9 | replace hT := (hT.alloc _).next hb9); (first | replace hg := hg.next hb9 | replace hg := (hg.draw _).next hb9 | replace hg := hg.draw1.next hb9 | replace hg := (hg.alloc _).next hb9); (first | replace hE := hE.next hb9 | replace hE := (hE.draw _).next hb9 | replace hE := hE.draw1.next hb9 | replace hE := (hE.alloc _).next hb9); (first | replace hX := hX.next hb9 | replace hX := (hX.draw _).next hb9 | replace hX := hX.draw1.next hb9 | replace hX := (hX.alloc _).next hb9); (first | replace hY := hY.next hb9 | replace hY := (hY.draw _).next hb9 | replace hY := hY.draw1.next hb9 | replace hY := (hY.alloc _).next hb9); (first | replace hU := hU.next hb9 | replace hU := (hU.draw _).next hb9 | replace hU := hU.draw1.next hb9 | replace hU := (hU.alloc _).next hb9); (first | replace hV := hV.next hb9 | replace hV := (hV.draw _).next hb9 | replace hV := hV.draw1.next hb9 | replace hV := (hV.alloc _).next hb9); have cE0 := hE.1; have cX0 := hX.1; have cX1 := hX.2; have cY0 := hY.1; have cY1 := hY.2; clear hb9) | (go_at_call 13; ((with_reducible refine (T1.out _ _ _ _ (by first | exact hg | exact hg.draw _ | exact hg.draw1 | exact hg.alloc _) (by first | exact hM | exact hM.draw _ | exact hM.draw1 | exact hM.alloc _)).mono ?_)); rintro ev w9 ⟨rfl, hb9⟩; clear cE0 cX0 cX1 cY0 cY1; (first | replace hT := hT.next hb9 | replace hT := (hT.draw _).next hb9 | replace hT := hT.draw1.next hb9 | replace hT := (hT.alloc _).next hb9); (first | replace hg := hg.next hb9 | replace hg := (hg.draw _).next hb9 | replace hg := hg.draw1.next hb9 | replace hg := (hg.alloc _).next hb9); (first | replace hE := hE.next hb9 | replace hE := (hE.draw _).next hb9 | replace hE := hE.draw1.next hb9 | replace hE := (hE.alloc _).next hb9); (first | replace hX := hX.next hb9 | replace hX := (hX.draw _).next hb9 | replace hX := hX.draw1.next hb9 | replace hX := (hX.alloc _).next hb9); (first | replace hY := hY.next hb9 | replace hY := (hY.draw _).next hb9 | replace hY := hY.draw1.next hb9 | replace hY := (hY.alloc _).next hb9); (first | replace hU := hU.next hb9 | replace hU := (hU.draw _).next hb9 | replace hU := hU.draw1.next hb9 | replace hU := (hU.alloc _).next hb9); (first | replace hV := hV.next hb9 | replace hV := (hV.draw _).next hb9 | replace hV := hV.draw1.next hb9 | replace hV := (hV.alloc _).next hb9); have cE0 := hE.1; have cX0 := hX.1; have cX1 := hX.2; have cY0 := hY.1; have cY1 := hY.2; clear hb9) | (go_at_call 15; ((with_reducible refine (M2.out _).mono ?_)); rintro ev w9 ⟨rfl, hb9⟩; clear cE0 cX0 cX1 cY0 cY1; (first | replace hT := hT.next hb9 | replace hT := (hT.draw _).next hb9 | replace hT := hT.draw1.next hb9 | replace hT := (hT.alloc _).next hb9); (first | replace hg := hg.next hb9 | replace hg := (hg.draw _).next hb9 | replace hg := hg.draw1.next hb9 | replace hg := (hg.alloc _).next hb9); (first | replace hE := hE.next hb9 | replace hE := (hE.draw _).next hb9 | replace hE := hE.draw1.next hb9 | replace hE := (hE.alloc _).next hb9); (first | replace hX := hX.next hb9 | replace hX := (hX.draw _).next hb9 | replace hX := hX.draw1.next hb9 | replace hX := (hX.alloc _).next hb9); (first | replace hY := hY.next hb9 | replace hY := (hY.draw _).next hb9 | replace hY := hY.draw1.next hb9 | replace hY := (hY.alloc _).next hb9); (first | replace hU := hU.next hb9 | replace hU := (hU.draw _).next hb9 | replace hU := hU.draw1.next hb9 | replace hU := (hU.alloc _).next hb9); (first | replace hV := hV.next hb9 | replace hV := (hV.draw _).next hb9 | replace hV := hV.draw1.next hb9 | replace hV := (hV.alloc _).next hb9); have cE0 := hE.1; have cX0 := hX.1; have cX1 := hX.2; have cY0 := hY.1; have cY1 := hY.2; clear hb9))
      go_wp2_with fail
      go_region_held3 (fun w' => w'.cell? ⟨pE, 0, none⟩ = some (.int .u8 e0) ∧ w'.cell? ⟨pX, 0, none⟩ = some (.int .i64 e0) ∧ w'.cell? ⟨pX, 1, none⟩ = some (.int .i64 (plc e0 a0)) ∧ w'.cell? ⟨pY, 0, none⟩ = some (.int .i64 e1) ∧ w'.cell? ⟨pY, 1, none⟩ = some (.int .i64 (plc e1 a1))) (first | go_keep | exact ⟨cE0, cX0, cX1, cY0, cY1⟩) (first | (go_at_call 16; ((with_reducible refine (F1.out _ _ _ (by first | exact hg | exact hg.draw _ | exact hg.draw1 | exact hg.alloc _) (by first | exact hU | exact hU.draw _ | exact hU.draw1 | exact hU.alloc _) (by first | exact hV | exact hV.draw _ | exact hV.draw1 | exact hV.alloc _)).mono ?_)); rintro ev w9 ⟨r, rfl, hR, hb9⟩; clear cE0 cX0 cX1 cY0 cY1; (first | replace hT := hT.next hb9 | replace hT := (hT.draw _).next hb9 | replace hT := hT.draw1.next hb9 | replace hT := (hT.alloc _).next hb9); (first | replace hg := hg.next hb9 | replace hg := (hg.draw _).next hb9 | replace hg := hg.draw1.next hb9 | replace hg := (hg.alloc _).next hb9); (first | replace hE := hE.next hb9 | replace hE := (hE.draw _).next hb9 | replace hE := hE.draw1.next hb9 | replace hE := (hE.alloc _).next hb9); (first | replace hX := hX.next hb9 | replace hX := (hX.draw _).next hb9 | replace hX := hX.draw1.next hb9 | replace hX := (hX.alloc _).next hb9); (first | replace hY := hY.next hb9 | replace hY := (hY.draw _).next hb9 | replace hY := hY.draw1.next hb9 | replace hY := (hY.alloc _).next hb9); (first | replace hU := hU.next hb9 | replace hU := (hU.draw _).next hb9 | replace hU := hU.draw1.next hb9 | replace hU := (hU.alloc _).next hb9); (first | replace hV := hV.next hb9 | replace hV := (hV.draw _).next hb9 | replace hV := hV.draw1.next hb9 | replace hV := (hV.alloc _).next hb9); have cE0 := hE.1; have cX0 := hX.1; have cX1 := hX.2; have cY0 := hY.1; have cY1 := hY.2; clear hb9) | (go_at_call 13; ((with_reducible refine (T1.out _ _ _ _ (by first | exact hg | exact hg.draw _ | exact hg.draw1 | exact hg.alloc _) (by first | exact hR | exact hR.draw _ | exact hR.draw1 | exact hR.alloc _)).mono ?_)); rintro ev w9 ⟨rfl, hb9⟩; clear cE0 cX0 cX1 cY0 cY1; (first | replace hT := hT.next hb9 | replace hT := (hT.draw _).next hb9 | replace hT := hT.draw1.next hb9 | replace hT := (hT.alloc _).next hb9); (first | replace hg := hg.next hb9 | replace hg := (hg.draw _).next hb9 | replace hg := hg.draw1.next hb9 | replace hg := (hg.alloc _).next hb9); (first | replace hE := hE.next hb9 | replace hE := (hE.draw _).next hb9 | replace hE := hE.draw1.next hb9 | replace hE := (hE.alloc _).next hb9); (first | replace hX := hX.next hb9 | replace hX := (hX.draw _).next hb9 | replace hX := hX.draw1.next hb9 | replace hX := (hX.alloc _).next hb9); (first | replace hY := hY.next hb9 | replace hY := (hY.draw _).next hb9 | replace hY := hY.draw1.next hb9 | replace hY := (hY.alloc _).next hb9); (first | replace hU := hU.next hb9 | replace hU := (hU.draw _).next hb9 | replace hU := hU.draw1.next hb9 | replace hU := (hU.alloc _).next hb9); (first | replace hV := hV.next hb9 | replace hV := (hV.draw _).next hb9 | replace hV := hV.draw1.next hb9 | replace hV := (hV.alloc _).next hb9); have cE0 := hE.1; have cX0 := hX.1; have cX1 := hX.2; have cY0 := hY.1; have cY1 := hY.2; clear hb9) | (go_at_call 17; ((with_reducible refine (F2.out _).mono ?_)); rintro ev w9 ⟨rfl, hb9⟩; clear cE0 cX0 cX1 cY0 cY1; (first | replace hT := hT.next hb9 | replace hT := (hT.draw _).next hb9 | replace hT := hT.draw1.next hb9 | replace hT := (hT.alloc _).next hb9); (first | replace hg := hg.next hb9 | replace hg := (hg.draw _).next hb9 | replace hg := hg.draw1.next hb9 | replace hg := (hg.alloc _).next hb9); (first | replace hE := hE.next hb9 | replace hE := (hE.draw _).next hb9 | replace hE := hE.draw1.next hb9 | replace hE := (hE.alloc _).next hb9); (first | replace hX := hX.next hb9 | replace hX := (hX.draw _).next hb9 | replace hX := hX.draw1.next hb9 | replace hX := (hX.alloc _).next hb9); (first | replace hY := hY.next hb9 | replace hY := (hY.draw _).next hb9 | replace hY := hY.draw1.next hb9 | replace hY := (hY.alloc _).next hb9); (first | replace hU := hU.next hb9 | replace hU := (hU.draw _).next hb9 | replace hU := hU.draw1.next hb9 | replace hU := (hU.alloc _).next hb9); (first | replace hV := hV.next hb9 | replace hV := (hV.draw _).next hb9 | replace hV := hV.draw1.next hb9 | replace hV := (hV.alloc _).next hb9); have cE0 := hE.1; have cX0 := hX.1; have cX1 := hX.2; have cY0 := hY.1; have cY1 := hY.2; clear hb9) | (go_at_call 6; ((with_reducible refine (awake_ok _ (by first | exact hg | exact hg.draw _ | exact hg.draw1 | exact hg.alloc _)).mono ?_)); rintro ev w9 ⟨rfl, hb9⟩; clear cE0 cX0 cX1 cY0 cY1; (first | replace hT := hT.next hb9 | replace hT := (hT.draw _).next hb9 | replace hT := hT.draw1.next hb9 | replace hT := (hT.alloc _).next hb9); (first | replace hg := hg.next hb9 | replace hg := (hg.draw _).next hb9 | replace hg := hg.draw1.next hb9 | replace hg := (hg.alloc _).next hb9); (first | replace hE := hE.next hb9 | replace hE := (hE.draw _).next hb9 | replace hE := hE.draw1.next hb9 | replace hE := (hE.alloc _).next hb9); (first | replace hX := hX.next hb9 | replace hX := (hX.draw _).next hb9 | replace hX := hX.draw1.next hb9 | replace hX := (hX.alloc _).next hb9); (first | replace hY := hY.next hb9 | replace hY := (hY.draw _).next hb9 | replace hY := hY.draw1.next hb9 | replace hY := (hY.alloc _).next hb9); (first | replace hU := hU.next hb9 | replace hU := (hU.draw _).next hb9 | replace hU := hU.draw1.next hb9 | replace hU := (hU.alloc _).next hb9); (first | replace hV := hV.next hb9 | replace hV := (hV.draw _).next hb9 | replace hV := hV.draw1.next hb9 | replace hV := (hV.alloc _).next hb9); have cE0 := hE.1; have cX0 := hX.1; have cX1 := hX.2; have cY0 := hY.1; have cY1 := hY.2; clear hb9))
      go_wp2_with fail
      go_ret
      exact ⟨rfl, hT⟩
theorem tells_law (e0 e1 a0 a1 m : Int) (be0 : 0 ≤ e0 ∧ e0 ≤ 255) (be1 : 0 ≤ e1 ∧ e1 ≤ 255) (_ : -9223372036854775808 ≤ a0 ∧ a0 ≤ 9223372036854775807) (_ : -9223372036854775808 ≤ a1 ∧ a1 ≤ 9223372036854775807) (_ : -9223372036854775808 ≤ m ∧ m ≤ 9223372036854775807) (w : World) (hg : Laid w) : Calls Tryd.prog 4 #[.agg #[.int .u8 e0, .int .u8 e1], .agg #[.int .i64 a0, .int .i64 a1], .int .i64 m] w fun ev w' => ev = .returned (.bool true) ∧ Below w.heap.size w w' := by
  by_cases d0 : 100 < e0
  · exact tells_out e0 e1 a0 a1 m (Or.inl d0) w hg
  have c0 : e0 ≤ 100 := by omega
  clear d0
  by_cases d1 : 100 < e1
  · exact tells_out e0 e1 a0 a1 m (Or.inr (Or.inl ⟨c0, d1⟩)) w hg
  have c1 : e1 ≤ 100 := by omega
  clear d1
  by_cases d2 : a0 < -1099511627776
  · exact tells_out e0 e1 a0 a1 m (Or.inr (Or.inr (Or.inl ⟨c0, c1, d2⟩))) w hg
  have c2 : -1099511627776 ≤ a0 := by omega
  clear d2
  by_cases d3 : 1099511627776 < a0
  · exact tells_out e0 e1 a0 a1 m (Or.inr (Or.inr (Or.inr (Or.inl ⟨c0, c1, c2, d3⟩)))) w hg
  have c3 : a0 ≤ 1099511627776 := by omega
  clear d3
  by_cases d4 : a1 < -1099511627776
  · exact tells_out e0 e1 a0 a1 m (Or.inr (Or.inr (Or.inr (Or.inr (Or.inl ⟨c0, c1, c2, c3, d4⟩))))) w hg
  have c4 : -1099511627776 ≤ a1 := by omega
  clear d4
  by_cases d5 : 1099511627776 < a1
  · exact tells_out e0 e1 a0 a1 m (Or.inr (Or.inr (Or.inr (Or.inr (Or.inr (Or.inl ⟨c0, c1, c2, c3, c4, d5⟩)))))) w hg
  have c5 : a1 ≤ 1099511627776 := by omega
  clear d5
  by_cases d6 : m < -1099511627776
  · exact tells_out e0 e1 a0 a1 m (Or.inr (Or.inr (Or.inr (Or.inr (Or.inr (Or.inr (Or.inl ⟨c0, c1, c2, c3, c4, c5, d6⟩))))))) w hg
  have c6 : -1099511627776 ≤ m := by omega
  clear d6
  by_cases d7 : 1099511627776 < m
  · exact tells_out e0 e1 a0 a1 m (Or.inr (Or.inr (Or.inr (Or.inr (Or.inr (Or.inr (Or.inr ⟨c0, c1, c2, c3, c4, c5, c6, d7⟩))))))) w hg
  have c7 : m ≤ 1099511627776 := by omega
  clear d7
  exact tells_in e0 e1 a0 a1 m be0.1 c0 be1.1 c1 c2 c3 c4 c5 c6 c7 w hg
end Go.Proofs.YtjhjojoaghohjaaDoor
