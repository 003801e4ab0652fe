/-
  CompareBack, walked: whole numbers.
-/
import Derived.Test.YtmlcpedbpjghhaaCmpBackA
namespace Go.Proofs.Ytmlcpedbpjghhaa
open Go.RowKit

set_option maxRecDepth 100000 in
set_option maxHeartbeats 2000000 in
theorem back_ww (n : Int) (n' : Int) (u' : Nat) (s' : ByteArray) (hn0 : -9223372036854775808 ≤ n ∧ n ≤ 9223372036854775807) (hc' : Came n' u' s') (g2 : ¬ (100 : Int) < s'.size) (h : checkN 1 n 0 ⟨#[]⟩ = 0) (h' : checkN 1 n' u' s' = 0) (o1 : wholeOk n n' = true) (o2 : wholeOk n (-n') = true) (w : World) : Calls Try.prog 5 #[V 1 n 0 ⟨#[]⟩, V 1 n' u' s'] w fun e w' => e = .returned (.bool true) ∧ Below w.heap.size w w' := by
  have hc : Came n 0 ⟨#[]⟩ := ⟨hn0, by omega, by decide⟩
  have g1 : ¬ (100 : Int) < (⟨#[]⟩ : ByteArray).size := by decide
  obtain ⟨hn, hu, hs⟩ := hc
  obtain ⟨hn', hu', hs'⟩ := hc'
  have S1 := Lib.hid fun w => small_v 1 n 0 ⟨#[]⟩ hs w
  have S2 := Lib.hid fun w => small_v 1 n' u' s' hs' w
  have A1 := Lib.hid fun w => awake_ok w
  have sd1 := small_dec ⟨#[]⟩
  have sd2 := small_dec s'
  rw [decide_eq_false g1] at sd1
  rw [decide_eq_false g2] at sd2
  clear g1 g2
  have g3 := check_num_bounds h
  have g4 := check_num_bounds h'
  have hsum : sumB 1 n 0 ⟨#[]⟩ 1 n' u' s' = true := by unfold sumB; rw [h, h']; rfl
  have ep : plusV 1 n 0 ⟨#[]⟩ 1 n' u' s' = .tuple #[V 1 (n + n') 0 ⟨#[]⟩, .bool true] := by unfold plusV; rw [if_pos hsum, if_pos ⟨rfl, rfl⟩]; exact wsum_of.1 o1
  have eq : plusV 1 n' u' s' 1 n 0 ⟨#[]⟩ = .tuple #[V 1 (n + n') 0 ⟨#[]⟩, .bool true] := by rw [plus_swap hu hu']; exact ep
  have em : minusV 1 n 0 ⟨#[]⟩ 1 n' u' s' = .tuple #[V 1 (n + -n') 0 ⟨#[]⟩, .bool true] := by unfold minusV; rw [if_pos hsum, if_pos ⟨rfl, rfl⟩]; exact wsum_of.1 o2
  have P1 : Hid (∀ w, Calls Try.prog 12 #[V 1 n 0 ⟨#[]⟩, V 1 n' u' s'] w fun e w' => e = .returned (.tuple #[V 1 (n + n') 0 ⟨#[]⟩, .bool true]) ∧ Below w.heap.size w w') := Lib.hid fun w => by rw [← ep]; exact plus_ok 1 n 0 ⟨#[]⟩ 1 n' u' s' hu hu' w
  have P2 : Hid (∀ w, Calls Try.prog 12 #[V 1 n' u' s', V 1 n 0 ⟨#[]⟩] w fun e w' => e = .returned (.tuple #[V 1 (n + n') 0 ⟨#[]⟩, .bool true]) ∧ Below w.heap.size w w') := Lib.hid fun w => by rw [← eq]; exact plus_ok 1 n' u' s' 1 n 0 ⟨#[]⟩ hu' hu w
  have M2 : Hid (∀ w, Calls Try.prog 14 #[V 1 n 0 ⟨#[]⟩, V 1 n' u' s'] w fun e w' => e = .returned (.tuple #[V 1 (n + -n') 0 ⟨#[]⟩, .bool true]) ∧ Below w.heap.size w w') := Lib.hid fun w => by rw [← em]; exact minus_ok 1 n 0 ⟨#[]⟩ 1 n' u' s' hu hu' w
  have M1 : Hid (∀ w, Calls Try.prog 14 #[V 1 (n + n') 0 ⟨#[]⟩, V 1 n' u' s'] w fun e w' => e = .returned (.tuple #[V 1 n 0 ⟨#[]⟩, .bool true]) ∧ Below w.heap.size w w') := Lib.hid fun w => by rw [← minus_back g3 h' (whole_bounds o1)]; exact minus_ok 1 (n + n') 0 ⟨#[]⟩ 1 n' u' s' (by omega) hu' w
  have P3 : Hid (∀ w, Calls Try.prog 12 #[V 1 (n + -n') 0 ⟨#[]⟩, V 1 n' u' s'] w fun e w' => e = .returned (.tuple #[V 1 n 0 ⟨#[]⟩, .bool true]) ∧ Below w.heap.size w w') := Lib.hid fun w => by rw [← plus_back g3 h' (whole_bounds o2)]; exact plus_ok 1 (n + -n') 0 ⟨#[]⟩ 1 n' u' s' (by omega) hu' w
  have SK := Lib.hid fun w => sum_kinds 1 1 w
  have CK := Lib.hid fun w => vCheck_ok 1 (n + n') 0 ⟨#[]⟩ w
  rw [check_whole (whole_bounds o1)] at CK
  rw [show sumK 1 1 = 1 by decide] at SK
  clear ep eq em h h' hsum o1 o2 g3 g4
  have E1 := fun k n u k' n' u' s s' w => eql_V k n u k' n' u' s s' w
  have E2 := fun k n u k' n' u' s s' w => eq_V k n u k' n' u' s s' w
  have hv := fun w => build_void w
  clear hn hn' hs hs' hu hu'
  unfold V at *
  simp only [Int.natCast_zero] at *
  obtain ⟨hA, hB⟩ := two_aw w 24 24 1 n 0 ⟨#[]⟩ 1 n' u' s'
  obtain ⟨a0, a1, a2, a3⟩ := hA.cells
  obtain ⟨b0, b1, b2, b3⟩ := hB.cells
  go_enter Try.func5, Try.ntmps5
  go_upto_region 3 with (first | (go_at_call 8; ((with_reducible refine (S1.out _).mono ?_)); rintro e w9 ⟨rfl, hb9⟩; clear a0 a1 a2 a3 b0 b1 b2 b3; replace hA := Aw.next (by first | exact hA | exact hA.alloc _ | exact hA.draw _ | exact (hA.draw _).alloc _ | exact (hA.alloc _).draw _ | exact hA.draw1 | exact hA.draw1.alloc _ | exact (hA.alloc _).draw1) hb9; replace hB := Aw.next (by first | exact hB | exact hB.alloc _ | exact hB.draw _ | exact (hB.draw _).alloc _ | exact (hB.alloc _).draw _ | exact hB.draw1 | exact hB.draw1.alloc _ | exact (hB.alloc _).draw1) hb9; obtain ⟨a0, a1, a2, a3⟩ := hA.cells; obtain ⟨b0, b1, b2, b3⟩ := hB.cells; clear hb9) | (go_at_call 8; ((with_reducible refine (S2.out _).mono ?_)); rintro e w9 ⟨rfl, hb9⟩; clear a0 a1 a2 a3 b0 b1 b2 b3; replace hA := Aw.next (by first | exact hA | exact hA.alloc _ | exact hA.draw _ | exact (hA.draw _).alloc _ | exact (hA.alloc _).draw _ | exact hA.draw1 | exact hA.draw1.alloc _ | exact (hA.alloc _).draw1) hb9; replace hB := Aw.next (by first | exact hB | exact hB.alloc _ | exact hB.draw _ | exact (hB.draw _).alloc _ | exact (hB.alloc _).draw _ | exact hB.draw1 | exact hB.draw1.alloc _ | exact (hB.alloc _).draw1) hb9; obtain ⟨a0, a1, a2, a3⟩ := hA.cells; obtain ⟨b0, b1, b2, b3⟩ := hB.cells; clear hb9) | (go_at_call 9; ((with_reducible refine (A1.out _).mono ?_)); rintro e w9 ⟨rfl, hb9⟩; clear a0 a1 a2 a3 b0 b1 b2 b3; replace hA := Aw.next (by first | exact hA | exact hA.alloc _ | exact hA.draw _ | exact (hA.draw _).alloc _ | exact (hA.alloc _).draw _ | exact hA.draw1 | exact hA.draw1.alloc _ | exact (hA.alloc _).draw1) hb9; replace hB := Aw.next (by first | exact hB | exact hB.alloc _ | exact hB.draw _ | exact (hB.draw _).alloc _ | exact (hB.alloc _).draw _ | exact hB.draw1 | exact hB.draw1.alloc _ | exact (hB.alloc _).draw1) hb9; obtain ⟨a0, a1, a2, a3⟩ := hA.cells; obtain ⟨b0, b1, b2, b3⟩ := hB.cells; clear hb9))
  have az := hA.2.2.1
  have bz := hB.2.2.1
  go_cut [5, 6] (fun x y wx => CutTwo w 1 n 0 ⟨#[]⟩ 1 n' u' s' x y wx)
  case first =>
    go_region
    all_goals go_wp2_with fail
    all_goals go_meet
    all_goals first | exact cutTwo_a hA _ _ _ _ _ _ _ _ | exact cutTwo_b hA _ _ _ _ _ _ _ _
  case rest =>
    unfold CutTwo at hcut
    obtain ⟨pp, pq, rfl, rfl, hP, hQ⟩ := hcut
    clear hA hB a0 a1 a2 a3 b0 b1 b2 b3 az bz
    obtain ⟨a0, a1, a2, a3⟩ := hP.cells
    obtain ⟨b0, b1, b2, b3⟩ := hQ.cells
    have az := hP.2.2.1
    have bz := hQ.2.2.1
    go_upto_region 5 with (go_at_call 12; ((with_reducible refine (P1.out _).mono ?_)); rintro e w9 ⟨rfl, hb9⟩; clear a0 a1 a2 a3 az b0 b1 b2 b3 bz; replace hP := Aw.next (by first | exact hP | exact hP.alloc _ | exact hP.draw _ | exact (hP.draw _).alloc _ | exact (hP.alloc _).draw _ | exact hP.draw1 | exact hP.draw1.alloc _ | exact (hP.alloc _).draw1) hb9; replace hQ := Aw.next (by first | exact hQ | exact hQ.alloc _ | exact hQ.draw _ | exact (hQ.draw _).alloc _ | exact (hQ.alloc _).draw _ | exact hQ.draw1 | exact hQ.draw1.alloc _ | exact (hQ.alloc _).draw1) hb9; obtain ⟨a0, a1, a2, a3⟩ := hP.cells; have az := hP.2.2.1; obtain ⟨b0, b1, b2, b3⟩ := hQ.cells; have bz := hQ.2.2.1; clear hb9)
    obtain ⟨W5, hW5⟩ : ∃ W5, W5 = w9.alloc (.cells #[.int .u8 1, .int .i64 (n + n'), .int .u64 0, .string ⟨#[]⟩] 28) := ⟨_, rfl⟩
    rw [← hW5]
    have hC : Aw w W5 w9.heap.size 1 (n + n') 0 ⟨#[]⟩ := by subst hW5; exact aw_new hP _ _ _ _ _
    replace hP := (show Aw w W5 _ _ _ _ _ by subst hW5; exact hP.alloc _)
    replace hQ := (show Aw w W5 _ _ _ _ _ by subst hW5; exact hQ.alloc _)
    clear hW5 az bz a0 a1 a2 a3 b0 b1 b2 b3
    generalize w9.heap.size = pc at *
    clear w9
    obtain ⟨a0, a1, a2, a3⟩ := hP.cells
    obtain ⟨b0, b1, b2, b3⟩ := hQ.cells
    obtain ⟨c0, c1, c2, c3⟩ := hC.cells
    have az := hP.2.2.1
    have bz := hQ.2.2.1
    have cz := hC.2.2.1
    go_upto_region 6 with (go_at_call 12; ((with_reducible refine (P2.out _).mono ?_)); rintro e w9 ⟨rfl, hb9⟩; clear a0 a1 a2 a3 az b0 b1 b2 b3 bz c0 c1 c2 c3 cz; replace hP := Aw.next (by first | exact hP | exact hP.alloc _ | exact hP.draw _ | exact (hP.draw _).alloc _ | exact (hP.alloc _).draw _ | exact hP.draw1 | exact hP.draw1.alloc _ | exact (hP.alloc _).draw1) hb9; replace hQ := Aw.next (by first | exact hQ | exact hQ.alloc _ | exact hQ.draw _ | exact (hQ.draw _).alloc _ | exact (hQ.alloc _).draw _ | exact hQ.draw1 | exact hQ.draw1.alloc _ | exact (hQ.alloc _).draw1) hb9; replace hC := Aw.next (by first | exact hC | exact hC.alloc _ | exact hC.draw _ | exact (hC.draw _).alloc _ | exact (hC.alloc _).draw _ | exact hC.draw1 | exact hC.draw1.alloc _ | exact (hC.alloc _).draw1) hb9; obtain ⟨a0, a1, a2, a3⟩ := hP.cells; have az := hP.2.2.1; obtain ⟨b0, b1, b2, b3⟩ := hQ.cells; have bz := hQ.2.2.1; obtain ⟨c0, c1, c2, c3⟩ := hC.cells; have cz := hC.2.2.1; clear hb9)
    obtain ⟨W5, hW5⟩ : ∃ W5, W5 = w9.alloc (.cells #[.int .u8 1, .int .i64 (n + n'), .int .u64 0, .string ⟨#[]⟩] 28) := ⟨_, rfl⟩
    rw [← hW5]
    have hD : Aw w W5 w9.heap.size 1 (n + n') 0 ⟨#[]⟩ := by subst hW5; exact aw_new hP _ _ _ _ _
    replace hP := (show Aw w W5 _ _ _ _ _ by subst hW5; exact hP.alloc _)
    replace hQ := (show Aw w W5 _ _ _ _ _ by subst hW5; exact hQ.alloc _)
    replace hC := (show Aw w W5 _ _ _ _ _ by subst hW5; exact hC.alloc _)
    clear hW5 az bz cz a0 a1 a2 a3 b0 b1 b2 b3 c0 c1 c2 c3
    generalize w9.heap.size = pd at *
    clear w9
    obtain ⟨a0, a1, a2, a3⟩ := hP.cells
    obtain ⟨b0, b1, b2, b3⟩ := hQ.cells
    obtain ⟨c0, c1, c2, c3⟩ := hC.cells
    obtain ⟨d0, d1, d2, d3⟩ := hD.cells
    have az := hP.2.2.1
    have bz := hQ.2.2.1
    have cz := hC.2.2.1
    have dz := hD.2.2.1
    refine wp_region_held_drew (S := (fun w' => w'.cell? ⟨pp, 0, none⟩ = some (.int .u8 1) ∧ w'.cell? ⟨pp, 1, none⟩ = some (.int .i64 n) ∧ w'.cell? ⟨pp, 2, none⟩ = some (.int .u64 0) ∧ w'.cell? ⟨pp, 3, none⟩ = some (.string ⟨#[]⟩) ∧ w'.cell? ⟨pq, 0, none⟩ = some (.int .u8 1) ∧ w'.cell? ⟨pq, 1, none⟩ = some (.int .i64 n') ∧ w'.cell? ⟨pq, 2, none⟩ = some (.int .u64 u') ∧ w'.cell? ⟨pq, 3, none⟩ = some (.string s') ∧ w'.cell? ⟨pc, 0, none⟩ = some (.int .u8 1) ∧ w'.cell? ⟨pc, 1, none⟩ = some (.int .i64 (n + n')) ∧ w'.cell? ⟨pc, 2, none⟩ = some (.int .u64 0) ∧ w'.cell? ⟨pc, 3, none⟩ = some (.string ⟨#[]⟩) ∧ w'.cell? ⟨pd, 0, none⟩ = some (.int .u8 1) ∧ w'.cell? ⟨pd, 1, none⟩ = some (.int .i64 (n + n')) ∧ w'.cell? ⟨pd, 2, none⟩ = some (.int .u64 0) ∧ w'.cell? ⟨pd, 3, none⟩ = some (.string ⟨#[]⟩))) (by kernel_rfl) ?_ (fun hH => ?_)
    · exact ⟨a0, a1, a2, a3, b0, b1, b2, b3, c0, c1, c2, c3, d0, d1, d2, d3⟩
    refine wpAnyH_take (i := 0) (oi := { dst := some 40, op := Op.load 28 (Operand.tmp 7), type := 28, pos := "own.go:39", after := #[], guard := none }) (v := ?_) rfl (by kernel_rfl) (by kernel_rfl) (by kernel_rfl) (fun _ _ _ h => h) (Or.inl ⟨by rfl, ?_⟩) hH ?_
    rotate_left
    · intro w hSw; (try dsimp only at hSw); go_simp <;> with_reducible rfl
    try simp only [Act.put, List.setIfInBounds_toArray, List.set_cons_zero, List.set_cons_succ]
    refine wpAnyH_take (i := 1) (oi := { dst := some 41, op := Op.load 28 (Operand.tmp 9), type := 28, pos := "own.go:39", after := #[], guard := none }) (v := ?_) rfl (by kernel_rfl) (by kernel_rfl) (by kernel_rfl) (fun _ _ _ h => h) (Or.inl ⟨by rfl, ?_⟩) hH ?_
    rotate_left
    · intro w hSw; (try dsimp only at hSw); go_simp <;> with_reducible rfl
    try simp only [Act.put, List.setIfInBounds_toArray, List.set_cons_zero, List.set_cons_succ]
    refine wpAnyH_take (i := 2) (oi := { dst := some 42, op := Op.binOp BinOp.neq 28 (Operand.tmp 40) (Operand.tmp 41) 28, type := 4, pos := "own.go:39", after := #[{ on := 0, ground := Ground.data }, { on := 1, ground := Ground.data }], guard := none }) (v := ?_) rfl (by kernel_rfl) (by kernel_rfl) (by kernel_rfl) (fun _ _ _ h => h) (Or.inl ⟨by rfl, ?_⟩) hH ?_
    rotate_left
    · intro w hSw; (try dsimp only at hSw); go_simp <;> with_reducible rfl
    try simp only [Act.put, List.setIfInBounds_toArray, List.set_cons_zero, List.set_cons_succ]
    refine wpAnyH_take (i := 3) (oi := { dst := some 43, op := Op.move (Operand.tmp 42), type := 4, pos := "own.go:39", after := #[{ on := 2, ground := Ground.data }], guard := none }) (v := ?_) rfl (by kernel_rfl) (by kernel_rfl) (by kernel_rfl) (fun _ _ _ h => h) (Or.inl ⟨by rfl, ?_⟩) hH ?_
    rotate_left
    · intro w hSw; (try dsimp only at hSw); go_simp <;> with_reducible rfl
    try simp only [Act.put, List.setIfInBounds_toArray, List.set_cons_zero, List.set_cons_succ]
    refine wpAnyH_take (i := 4) (oi := { dst := some 44, op := Op.move (Operand.tmp 8), type := 4, pos := "own.go:39", after := #[{ on := 3, ground := Ground.guard }], guard := some (3, false) }) (v := ?_) rfl (by kernel_rfl) (by kernel_rfl) (by kernel_rfl) (fun _ _ _ h => h) (Or.inl ⟨by rfl, ?_⟩) hH ?_
    rotate_left
    · intro w hSw; (try dsimp only at hSw); go_simp <;> with_reducible rfl
    try simp only [Act.put, List.setIfInBounds_toArray, List.set_cons_zero, List.set_cons_succ]
    refine wpAnyH_take (i := 5) (oi := { dst := some 45, op := Op.move (Operand.tmp 10), type := 4, pos := "own.go:39", after := #[{ on := 3, ground := Ground.guard }], guard := some (3, false) }) (v := ?_) rfl (by kernel_rfl) (by kernel_rfl) (by kernel_rfl) (fun _ _ _ h => h) (Or.inl ⟨by rfl, ?_⟩) hH ?_
    rotate_left
    · intro w hSw; (try dsimp only at hSw); go_simp <;> with_reducible rfl
    try simp only [Act.put, List.setIfInBounds_toArray, List.set_cons_zero, List.set_cons_succ]
    refine wpAnyH_take (i := 6) (oi := { dst := some 46, op := Op.binOp BinOp.neq 4 (Operand.tmp 44) (Operand.tmp 45) 4, type := 4, pos := "own.go:39", after := #[{ on := 4, ground := Ground.data }, { on := 5, ground := Ground.data }, { on := 3, ground := Ground.guard }], guard := some (3, false) }) (v := ?_) rfl (by kernel_rfl) (by kernel_rfl) (by kernel_rfl) (fun _ _ _ h => h) (Or.inl ⟨by rfl, ?_⟩) hH ?_
    rotate_left
    · intro w hSw; (try dsimp only at hSw); go_simp <;> with_reducible rfl
    try simp only [Act.put, List.setIfInBounds_toArray, List.set_cons_zero, List.set_cons_succ]
    refine wpAnyH_take (i := 7) (oi := { dst := some 47, op := Op.pick (Operand.tmp 43) (Operand.const (Value.bool true)) (Operand.tmp 46), type := 4, pos := "own.go:39", after := #[{ on := 3, ground := Ground.data }, { on := 6, ground := Ground.data }], guard := none }) (v := ?_) rfl (by kernel_rfl) (by kernel_rfl) (by kernel_rfl) (fun _ _ _ h => h) (Or.inl ⟨by rfl, ?_⟩) hH ?_
    rotate_left
    · intro w hSw; (try dsimp only at hSw); go_simp <;> with_reducible rfl
    try simp only [Act.put, List.setIfInBounds_toArray, List.set_cons_zero, List.set_cons_succ]
    refine wpAnyH_take (i := 8) (oi := { dst := some 48, op := Op.move (Operand.tmp 47), type := 4, pos := "own.go:39", after := #[{ on := 7, ground := Ground.data }, { on := 3, ground := Ground.chain }], guard := none }) (v := ?_) rfl (by kernel_rfl) (by kernel_rfl) (by kernel_rfl) (fun _ _ _ h => h) (Or.inl ⟨by rfl, ?_⟩) hH ?_
    rotate_left
    · intro w hSw; (try dsimp only at hSw); go_simp <;> with_reducible rfl
    try simp only [Act.put, List.setIfInBounds_toArray, List.set_cons_zero, List.set_cons_succ]
    refine wpAnyH_take (i := 9) (oi := { dst := some 49, op := Op.move (Operand.tmp 8), type := 4, pos := "own.go:39", after := #[{ on := 8, ground := Ground.guard }], guard := some (8, false) }) (v := ?_) rfl (by kernel_rfl) (by kernel_rfl) (by kernel_rfl) (fun _ _ _ h => h) (Or.inl ⟨by rfl, ?_⟩) hH ?_
    rotate_left
    · intro w hSw; (try dsimp only at hSw); go_simp <;> with_reducible rfl
    try simp only [Act.put, List.setIfInBounds_toArray, List.set_cons_zero, List.set_cons_succ]
    refine wpAnyH_take (i := 10) (oi := { dst := some 50, op := Op.move (Operand.tmp 49), type := 4, pos := "own.go:39", after := #[{ on := 9, ground := Ground.data }, { on := 8, ground := Ground.chain }, { on := 8, ground := Ground.guard }], guard := some (8, false) }) (v := ?_) rfl (by kernel_rfl) (by kernel_rfl) (by kernel_rfl) (fun _ _ _ h => h) (Or.inl ⟨by rfl, ?_⟩) hH ?_
    rotate_left
    · intro w hSw; (try dsimp only at hSw); go_simp <;> with_reducible rfl
    try simp only [Act.put, List.setIfInBounds_toArray, List.set_cons_zero, List.set_cons_succ]
    refine wpAnyH_take (i := 11) (oi := { dst := some 51, op := Op.fieldAddr 28 (Operand.tmp 7) 0, type := 0, pos := "own.go:39", after := #[{ on := 10, ground := Ground.guard }], guard := some (10, true) }) (v := ?_) rfl (by kernel_rfl) (by kernel_rfl) (by kernel_rfl) (fun _ _ _ h => h) (Or.inl ⟨by rfl, ?_⟩) hH ?_
    rotate_left
    · intro w hSw; (try dsimp only at hSw); go_simp <;> with_reducible rfl
    try simp only [Act.put, List.setIfInBounds_toArray, List.set_cons_zero, List.set_cons_succ]
    refine wpAnyH_take (i := 12) (oi := { dst := some 52, op := Op.load 5 (Operand.tmp 51), type := 5, pos := "own.go:39", after := #[{ on := 11, ground := Ground.data }, { on := 10, ground := Ground.guard }], guard := some (10, true) }) (v := ?_) rfl (by kernel_rfl) (by kernel_rfl) (by kernel_rfl) (fun _ _ _ h => h) (Or.inl ⟨by rfl, ?_⟩) hH ?_
    rotate_left
    · intro w hSw; (try dsimp only at hSw); go_simp <;> with_reducible rfl
    try simp only [Act.put, List.setIfInBounds_toArray, List.set_cons_zero, List.set_cons_succ]
    refine wpAnyH_take (i := 13) (oi := { dst := some 53, op := Op.fieldAddr 28 (Operand.tmp 5) 0, type := 0, pos := "own.go:39", after := #[{ on := 10, ground := Ground.guard }], guard := some (10, true) }) (v := ?_) rfl (by kernel_rfl) (by kernel_rfl) (by kernel_rfl) (fun _ _ _ h => h) (Or.inl ⟨by rfl, ?_⟩) hH ?_
    rotate_left
    · intro w hSw; (try dsimp only at hSw); go_simp <;> with_reducible rfl
    try simp only [Act.put, List.setIfInBounds_toArray, List.set_cons_zero, List.set_cons_succ]
    refine wpAnyH_take (i := 14) (oi := { dst := some 54, op := Op.load 5 (Operand.tmp 53), type := 5, pos := "own.go:39", after := #[{ on := 13, ground := Ground.data }, { on := 10, ground := Ground.guard }], guard := some (10, true) }) (v := ?_) rfl (by kernel_rfl) (by kernel_rfl) (by kernel_rfl) (fun _ _ _ h => h) (Or.inl ⟨by rfl, ?_⟩) hH ?_
    rotate_left
    · intro w hSw; (try dsimp only at hSw); go_simp <;> with_reducible rfl
    try simp only [Act.put, List.setIfInBounds_toArray, List.set_cons_zero, List.set_cons_succ]
    refine wpAnyH_take (i := 15) (oi := { dst := some 55, op := Op.fieldAddr 28 (Operand.tmp 6) 0, type := 0, pos := "own.go:39", after := #[{ on := 10, ground := Ground.guard }], guard := some (10, true) }) (v := ?_) rfl (by kernel_rfl) (by kernel_rfl) (by kernel_rfl) (fun _ _ _ h => h) (Or.inl ⟨by rfl, ?_⟩) hH ?_
    rotate_left
    · intro w hSw; (try dsimp only at hSw); go_simp <;> with_reducible rfl
    try simp only [Act.put, List.setIfInBounds_toArray, List.set_cons_zero, List.set_cons_succ]
    refine wpAnyH_take (i := 16) (oi := { dst := some 56, op := Op.load 5 (Operand.tmp 55), type := 5, pos := "own.go:39", after := #[{ on := 15, ground := Ground.data }, { on := 10, ground := Ground.guard }], guard := some (10, true) }) (v := ?_) rfl (by kernel_rfl) (by kernel_rfl) (by kernel_rfl) (fun _ _ _ h => h) (Or.inl ⟨by rfl, ?_⟩) hH ?_
    rotate_left
    · intro w hSw; (try dsimp only at hSw); go_simp <;> with_reducible rfl
    try simp only [Act.put, List.setIfInBounds_toArray, List.set_cons_zero, List.set_cons_succ]
    refine wpAnyH_ready (rs := [17]) (by kernel_rfl) (by simp) ?_
    refine AllReadyH.cons (o := { dst := some 57, op := Op.call { callee := Callee.value (Operand.func 16), args := #[Operand.tmp 54, Operand.tmp 56], argTypes := #[5, 5] }, type := 5, pos := "own.go:39", after := #[{ on := 14, ground := Ground.data }, { on := 16, ground := Ground.data }, { on := 10, ground := Ground.chain }, { on := 10, ground := Ground.guard }], guard := some (10, true) }) rfl (fun K hK => ?_) AllReadyH.nil
    go_simp
    go_at_call 16
    refine (SK.out _).mono ?_
    rintro e w' ⟨rfl, rfl⟩
    go_simp
    refine hK.out _ _ ?_ (fun hH => ?_)
    · exact hH
    clear hK K
    try simp only [Act.put, List.setIfInBounds_toArray, List.set_cons_zero, List.set_cons_succ]
    refine wpAnyH_take (i := 18) (oi := { dst := some 58, op := Op.binOp BinOp.neq 5 (Operand.tmp 52) (Operand.tmp 57) 5, type := 4, pos := "own.go:39", after := #[{ on := 12, ground := Ground.data }, { on := 17, ground := Ground.data }, { on := 10, ground := Ground.guard }], guard := some (10, true) }) (v := ?_) rfl (by kernel_rfl) (by kernel_rfl) (by kernel_rfl) (fun _ _ _ h => h) (Or.inl ⟨by rfl, ?_⟩) hH ?_
    rotate_left
    · intro w hSw; (try dsimp only at hSw); go_simp <;> with_reducible rfl
    try simp only [Act.put, List.setIfInBounds_toArray, List.set_cons_zero, List.set_cons_succ]
    refine wpAnyH_take (i := 19) (oi := { dst := some 59, op := Op.pick (Operand.tmp 50) (Operand.tmp 58) (Operand.const (Value.bool false)), type := 4, pos := "own.go:39", after := #[{ on := 10, ground := Ground.data }, { on := 18, ground := Ground.data }, { on := 8, ground := Ground.guard }], guard := some (8, false) }) (v := ?_) rfl (by kernel_rfl) (by kernel_rfl) (by kernel_rfl) (fun _ _ _ h => h) (Or.inl ⟨by rfl, ?_⟩) hH ?_
    rotate_left
    · intro w hSw; (try dsimp only at hSw); go_simp <;> with_reducible rfl
    try simp only [Act.put, List.setIfInBounds_toArray, List.set_cons_zero, List.set_cons_succ]
    refine wpAnyH_take (i := 20) (oi := { dst := some 60, op := Op.pick (Operand.tmp 48) (Operand.const (Value.bool true)) (Operand.tmp 59), type := 4, pos := "own.go:39", after := #[{ on := 8, ground := Ground.data }, { on := 19, ground := Ground.data }], guard := none }) (v := ?_) rfl (by kernel_rfl) (by kernel_rfl) (by kernel_rfl) (fun _ _ _ h => h) (Or.inl ⟨by rfl, ?_⟩) hH ?_
    rotate_left
    · intro w hSw; (try dsimp only at hSw); go_simp <;> with_reducible rfl
    try simp only [Act.put, List.setIfInBounds_toArray, List.set_cons_zero, List.set_cons_succ]
    refine wpAnyH_take (i := 21) (oi := { dst := some 61, op := Op.move (Operand.tmp 60), type := 4, pos := "own.go:39", after := #[{ on := 20, ground := Ground.data }, { on := 17, ground := Ground.chain }], guard := none }) (v := ?_) rfl (by kernel_rfl) (by kernel_rfl) (by kernel_rfl) (fun _ _ _ h => h) (Or.inl ⟨by rfl, ?_⟩) hH ?_
    rotate_left
    · intro w hSw; (try dsimp only at hSw); go_simp <;> with_reducible rfl
    try simp only [Act.put, List.setIfInBounds_toArray, List.set_cons_zero, List.set_cons_succ]
    refine wpAnyH_take (i := 22) (oi := { dst := some 62, op := Op.move (Operand.tmp 8), type := 4, pos := "own.go:39", after := #[{ on := 21, ground := Ground.guard }], guard := some (21, false) }) (v := ?_) rfl (by kernel_rfl) (by kernel_rfl) (by kernel_rfl) (fun _ _ _ h => h) (Or.inl ⟨by rfl, ?_⟩) hH ?_
    rotate_left
    · intro w hSw; (try dsimp only at hSw); go_simp <;> with_reducible rfl
    try simp only [Act.put, List.setIfInBounds_toArray, List.set_cons_zero, List.set_cons_succ]
    refine wpAnyH_take (i := 23) (oi := { dst := some 63, op := Op.unOp UnOp.not 4 (Operand.tmp 62), type := 4, pos := "own.go:39", after := #[{ on := 22, ground := Ground.data }, { on := 21, ground := Ground.guard }], guard := some (21, false) }) (v := ?_) rfl (by kernel_rfl) (by kernel_rfl) (by kernel_rfl) (fun _ _ _ h => h) (Or.inl ⟨by rfl, ?_⟩) hH ?_
    rotate_left
    · intro w hSw; (try dsimp only at hSw); go_simp <;> with_reducible rfl
    try simp only [Act.put, List.setIfInBounds_toArray, List.set_cons_zero, List.set_cons_succ]
    refine wpAnyH_take (i := 24) (oi := { dst := some 64, op := Op.move (Operand.tmp 63), type := 4, pos := "own.go:39", after := #[{ on := 23, ground := Ground.data }, { on := 21, ground := Ground.chain }, { on := 21, ground := Ground.guard }], guard := some (21, false) }) (v := ?_) rfl (by kernel_rfl) (by kernel_rfl) (by kernel_rfl) (fun _ _ _ h => h) (Or.inl ⟨by rfl, ?_⟩) hH ?_
    rotate_left
    · intro w hSw; (try dsimp only at hSw); go_simp <;> with_reducible rfl
    try simp only [Act.put, List.setIfInBounds_toArray, List.set_cons_zero, List.set_cons_succ]
    refine wpAnyH_take (i := 25) (oi := { dst := some 65, op := Op.load 28 (Operand.tmp 7), type := 28, pos := "own.go:39", after := #[{ on := 24, ground := Ground.guard }], guard := some (24, true) }) (v := undef) rfl (by kernel_rfl) (by kernel_rfl) (by kernel_rfl) (fun _ _ _ h => h) (Or.inr ⟨by rfl, rfl⟩) hH ?_
    try simp only [Act.put, List.setIfInBounds_toArray, List.set_cons_zero, List.set_cons_succ]
    refine wpAnyH_take (i := 26) (oi := { dst := some 66, op := Op.build 28 #[], type := 28, pos := "own.go:39", after := #[{ on := 24, ground := Ground.guard }], guard := some (24, true) }) (v := undef) rfl (by kernel_rfl) (by kernel_rfl) (by kernel_rfl) (fun _ _ _ h => h) (Or.inr ⟨by rfl, rfl⟩) hH ?_
    try simp only [Act.put, List.setIfInBounds_toArray, List.set_cons_zero, List.set_cons_succ]
    refine wpAnyH_take (i := 27) (oi := { dst := some 67, op := Op.binOp BinOp.neq 28 (Operand.tmp 65) (Operand.tmp 66) 28, type := 4, pos := "own.go:39", after := #[{ on := 25, ground := Ground.data }, { on := 26, ground := Ground.data }, { on := 24, ground := Ground.guard }], guard := some (24, true) }) (v := undef) rfl (by kernel_rfl) (by kernel_rfl) (by kernel_rfl) (fun _ _ _ h => h) (Or.inr ⟨by rfl, rfl⟩) hH ?_
    try simp only [Act.put, List.setIfInBounds_toArray, List.set_cons_zero, List.set_cons_succ]
    refine wpAnyH_take (i := 28) (oi := { dst := some 68, op := Op.pick (Operand.tmp 64) (Operand.tmp 67) (Operand.const (Value.bool false)), type := 4, pos := "own.go:39", after := #[{ on := 24, ground := Ground.data }, { on := 27, ground := Ground.data }, { on := 21, ground := Ground.guard }], guard := some (21, false) }) (v := ?_) rfl (by kernel_rfl) (by kernel_rfl) (by kernel_rfl) (fun _ _ _ h => h) (Or.inl ⟨by rfl, ?_⟩) hH ?_
    rotate_left
    · intro w hSw; (try dsimp only at hSw); go_simp <;> with_reducible rfl
    try simp only [Act.put, List.setIfInBounds_toArray, List.set_cons_zero, List.set_cons_succ]
    refine wpAnyH_take (i := 29) (oi := { dst := some 69, op := Op.pick (Operand.tmp 61) (Operand.const (Value.bool true)) (Operand.tmp 68), type := 4, pos := "own.go:39", after := #[{ on := 21, ground := Ground.data }, { on := 28, ground := Ground.data }], guard := none }) (v := ?_) rfl (by kernel_rfl) (by kernel_rfl) (by kernel_rfl) (fun _ _ _ h => h) (Or.inl ⟨by rfl, ?_⟩) hH ?_
    rotate_left
    · intro w hSw; (try dsimp only at hSw); go_simp <;> with_reducible rfl
    try simp only [Act.put, List.setIfInBounds_toArray, List.set_cons_zero, List.set_cons_succ]
    refine wpAnyH_take (i := 30) (oi := { dst := some 70, op := Op.move (Operand.tmp 69), type := 4, pos := "own.go:39", after := #[{ on := 29, ground := Ground.data }, { on := 24, ground := Ground.chain }], guard := none }) (v := ?_) rfl (by kernel_rfl) (by kernel_rfl) (by kernel_rfl) (fun _ _ _ h => h) (Or.inl ⟨by rfl, ?_⟩) hH ?_
    rotate_left
    · intro w hSw; (try dsimp only at hSw); go_simp <;> with_reducible rfl
    try simp only [Act.put, List.setIfInBounds_toArray, List.set_cons_zero, List.set_cons_succ]
    refine wpAnyH_take (i := 31) (oi := { dst := some 71, op := Op.move (Operand.tmp 8), type := 4, pos := "own.go:39", after := #[{ on := 30, ground := Ground.guard }], guard := some (30, false) }) (v := ?_) rfl (by kernel_rfl) (by kernel_rfl) (by kernel_rfl) (fun _ _ _ h => h) (Or.inl ⟨by rfl, ?_⟩) hH ?_
    rotate_left
    · intro w hSw; (try dsimp only at hSw); go_simp <;> with_reducible rfl
    try simp only [Act.put, List.setIfInBounds_toArray, List.set_cons_zero, List.set_cons_succ]
    refine wpAnyH_take (i := 32) (oi := { dst := some 72, op := Op.move (Operand.tmp 71), type := 4, pos := "own.go:39", after := #[{ on := 31, ground := Ground.data }, { on := 30, ground := Ground.chain }, { on := 30, ground := Ground.guard }], guard := some (30, false) }) (v := ?_) rfl (by kernel_rfl) (by kernel_rfl) (by kernel_rfl) (fun _ _ _ h => h) (Or.inl ⟨by rfl, ?_⟩) hH ?_
    rotate_left
    · intro w hSw; (try dsimp only at hSw); go_simp <;> with_reducible rfl
    try simp only [Act.put, List.setIfInBounds_toArray, List.set_cons_zero, List.set_cons_succ]
    refine wpAnyH_take (i := 33) (oi := { dst := some 73, op := Op.load 28 (Operand.tmp 7), type := 28, pos := "own.go:39", after := #[{ on := 32, ground := Ground.guard }], guard := some (32, true) }) (v := ?_) rfl (by kernel_rfl) (by kernel_rfl) (by kernel_rfl) (fun _ _ _ h => h) (Or.inl ⟨by rfl, ?_⟩) hH ?_
    rotate_left
    · intro w hSw; (try dsimp only at hSw); go_simp <;> with_reducible rfl
    try simp only [Act.put, List.setIfInBounds_toArray, List.set_cons_zero, List.set_cons_succ]
    refine wpAnyH_ready (rs := [34]) (by kernel_rfl) (by simp) ?_
    refine AllReadyH.cons (o := { dst := some 74, op := Op.call { callee := Callee.value (Operand.func 17), args := #[Operand.tmp 73], argTypes := #[28] }, type := 36, pos := "own.go:39", after := #[{ on := 33, ground := Ground.data }, { on := 32, ground := Ground.chain }, { on := 32, ground := Ground.guard }], guard := some (32, true) }) rfl (fun K hK => ?_) AllReadyH.nil
    go_simp
    go_at_call 17
    refine (CK.out _).mono ?_
    rintro e w9 ⟨rfl, hb9⟩
    clear a0 a1 a2 a3 az b0 b1 b2 b3 bz c0 c1 c2 c3 cz d0 d1 d2 d3 dz
    replace hP := Aw.next (by first | exact hP | exact hP.alloc _ | exact hP.draw _ | exact (hP.draw _).alloc _ | exact (hP.alloc _).draw _ | exact hP.draw1 | exact hP.draw1.alloc _ | exact (hP.alloc _).draw1) hb9
    replace hQ := Aw.next (by first | exact hQ | exact hQ.alloc _ | exact hQ.draw _ | exact (hQ.draw _).alloc _ | exact (hQ.alloc _).draw _ | exact hQ.draw1 | exact hQ.draw1.alloc _ | exact (hQ.alloc _).draw1) hb9
    replace hC := Aw.next (by first | exact hC | exact hC.alloc _ | exact hC.draw _ | exact (hC.draw _).alloc _ | exact (hC.alloc _).draw _ | exact hC.draw1 | exact hC.draw1.alloc _ | exact (hC.alloc _).draw1) hb9
    replace hD := Aw.next (by first | exact hD | exact hD.alloc _ | exact hD.draw _ | exact (hD.draw _).alloc _ | exact (hD.alloc _).draw _ | exact hD.draw1 | exact hD.draw1.alloc _ | exact (hD.alloc _).draw1) hb9
    obtain ⟨a0, a1, a2, a3⟩ := hP.cells
    have az := hP.2.2.1
    obtain ⟨b0, b1, b2, b3⟩ := hQ.cells
    have bz := hQ.2.2.1
    obtain ⟨c0, c1, c2, c3⟩ := hC.cells
    have cz := hC.2.2.1
    obtain ⟨d0, d1, d2, d3⟩ := hD.cells
    have dz := hD.2.2.1
    clear hb9
    go_simp
    refine hK.out _ _ ?_ (fun hH => ?_)
    · exact ⟨a0, a1, a2, a3, b0, b1, b2, b3, c0, c1, c2, c3, d0, d1, d2, d3⟩
    clear hK K
    try simp only [Act.put, List.setIfInBounds_toArray, List.set_cons_zero, List.set_cons_succ]
    refine wpAnyH_take (i := 35) (oi := { dst := some 75, op := Op.binOp BinOp.neq 36 (Operand.tmp 74) (Operand.const (Value.int IntKind.i64 0)) 36, type := 4, pos := "own.go:39", after := #[{ on := 34, ground := Ground.data }, { on := 32, ground := Ground.guard }], guard := some (32, true) }) (v := ?_) rfl (by kernel_rfl) (by kernel_rfl) (by kernel_rfl) (fun _ _ _ h => h) (Or.inl ⟨by rfl, ?_⟩) hH ?_
    rotate_left
    · intro w hSw; (try dsimp only at hSw); go_simp <;> with_reducible rfl
    try simp only [Act.put, List.setIfInBounds_toArray, List.set_cons_zero, List.set_cons_succ]
    refine wpAnyH_take (i := 36) (oi := { dst := some 76, op := Op.pick (Operand.tmp 72) (Operand.tmp 75) (Operand.const (Value.bool false)), type := 4, pos := "own.go:39", after := #[{ on := 32, ground := Ground.data }, { on := 35, ground := Ground.data }, { on := 30, ground := Ground.guard }], guard := some (30, false) }) (v := ?_) rfl (by kernel_rfl) (by kernel_rfl) (by kernel_rfl) (fun _ _ _ h => h) (Or.inl ⟨by rfl, ?_⟩) hH ?_
    rotate_left
    · intro w hSw; (try dsimp only at hSw); go_simp <;> with_reducible rfl
    try simp only [Act.put, List.setIfInBounds_toArray, List.set_cons_zero, List.set_cons_succ]
    refine wpAnyH_take (i := 37) (oi := { dst := some 77, op := Op.pick (Operand.tmp 70) (Operand.const (Value.bool true)) (Operand.tmp 76), type := 4, pos := "own.go:39", after := #[{ on := 30, ground := Ground.data }, { on := 36, ground := Ground.data }], guard := none }) (v := ?_) rfl (by kernel_rfl) (by kernel_rfl) (by kernel_rfl) (fun _ _ _ h => h) (Or.inl ⟨by rfl, ?_⟩) hH ?_
    rotate_left
    · intro w hSw; (try dsimp only at hSw); go_simp <;> with_reducible rfl
    try simp only [Act.put, List.setIfInBounds_toArray, List.set_cons_zero, List.set_cons_succ]
    refine wpAnyH_done (by kernel_rfl) ?_ _
    go_upto_region 10 with (go_at_call 14; ((with_reducible refine (M1.out _).mono ?_)); rintro e w9 ⟨rfl, hb9⟩; clear a0 a1 a2 a3 az b0 b1 b2 b3 bz c0 c1 c2 c3 cz d0 d1 d2 d3 dz; replace hP := Aw.next (by first | exact hP | exact hP.alloc _ | exact hP.draw _ | exact (hP.draw _).alloc _ | exact (hP.alloc _).draw _ | exact hP.draw1 | exact hP.draw1.alloc _ | exact (hP.alloc _).draw1) hb9; replace hQ := Aw.next (by first | exact hQ | exact hQ.alloc _ | exact hQ.draw _ | exact (hQ.draw _).alloc _ | exact (hQ.alloc _).draw _ | exact hQ.draw1 | exact hQ.draw1.alloc _ | exact (hQ.alloc _).draw1) hb9; replace hC := Aw.next (by first | exact hC | exact hC.alloc _ | exact hC.draw _ | exact (hC.draw _).alloc _ | exact (hC.alloc _).draw _ | exact hC.draw1 | exact hC.draw1.alloc _ | exact (hC.alloc _).draw1) hb9; replace hD := Aw.next (by first | exact hD | exact hD.alloc _ | exact hD.draw _ | exact (hD.draw _).alloc _ | exact (hD.alloc _).draw _ | exact hD.draw1 | exact hD.draw1.alloc _ | exact (hD.alloc _).draw1) hb9; obtain ⟨a0, a1, a2, a3⟩ := hP.cells; have az := hP.2.2.1; obtain ⟨b0, b1, b2, b3⟩ := hQ.cells; have bz := hQ.2.2.1; obtain ⟨c0, c1, c2, c3⟩ := hC.cells; have cz := hC.2.2.1; obtain ⟨d0, d1, d2, d3⟩ := hD.cells; have dz := hD.2.2.1; clear hb9)
    obtain ⟨W5, hW5⟩ : ∃ W5, W5 = w9.alloc (.cells #[.int .u8 1, .int .i64 n, .int .u64 0, .string ⟨#[]⟩] 28) := ⟨_, rfl⟩
    rw [← hW5]
    have hE : Aw w W5 w9.heap.size 1 n 0 ⟨#[]⟩ := by subst hW5; exact aw_new hP _ _ _ _ _
    replace hP := (show Aw w W5 _ _ _ _ _ by subst hW5; exact hP.alloc _)
    replace hQ := (show Aw w W5 _ _ _ _ _ by subst hW5; exact hQ.alloc _)
    replace hC := (show Aw w W5 _ _ _ _ _ by subst hW5; exact hC.alloc _)
    replace hD := (show Aw w W5 _ _ _ _ _ by subst hW5; exact hD.alloc _)
    clear hW5 az bz cz dz a0 a1 a2 a3 b0 b1 b2 b3 c0 c1 c2 c3 d0 d1 d2 d3
    generalize w9.heap.size = pe at *
    clear w9
    obtain ⟨a0, a1, a2, a3⟩ := hP.cells
    obtain ⟨b0, b1, b2, b3⟩ := hQ.cells
    obtain ⟨c0, c1, c2, c3⟩ := hC.cells
    obtain ⟨d0, d1, d2, d3⟩ := hD.cells
    obtain ⟨e0, e1, e2, e3⟩ := hE.cells
    have az := hP.2.2.1
    have bz := hQ.2.2.1
    have cz := hC.2.2.1
    have dz := hD.2.2.1
    have ez := hE.2.2.1
    go_upto_region 13 with (go_at_call 14; ((with_reducible refine (M2.out _).mono ?_)); rintro e w9 ⟨rfl, hb9⟩; clear a0 a1 a2 a3 az b0 b1 b2 b3 bz c0 c1 c2 c3 cz d0 d1 d2 d3 dz e0 e1 e2 e3 ez; replace hP := Aw.next (by first | exact hP | exact hP.alloc _ | exact hP.draw _ | exact (hP.draw _).alloc _ | exact (hP.alloc _).draw _ | exact hP.draw1 | exact hP.draw1.alloc _ | exact (hP.alloc _).draw1) hb9; replace hQ := Aw.next (by first | exact hQ | exact hQ.alloc _ | exact hQ.draw _ | exact (hQ.draw _).alloc _ | exact (hQ.alloc _).draw _ | exact hQ.draw1 | exact hQ.draw1.alloc _ | exact (hQ.alloc _).draw1) hb9; replace hC := Aw.next (by first | exact hC | exact hC.alloc _ | exact hC.draw _ | exact (hC.draw _).alloc _ | exact (hC.alloc _).draw _ | exact hC.draw1 | exact hC.draw1.alloc _ | exact (hC.alloc _).draw1) hb9; replace hD := Aw.next (by first | exact hD | exact hD.alloc _ | exact hD.draw _ | exact (hD.draw _).alloc _ | exact (hD.alloc _).draw _ | exact hD.draw1 | exact hD.draw1.alloc _ | exact (hD.alloc _).draw1) hb9; replace hE := Aw.next (by first | exact hE | exact hE.alloc _ | exact hE.draw _ | exact (hE.draw _).alloc _ | exact (hE.alloc _).draw _ | exact hE.draw1 | exact hE.draw1.alloc _ | exact (hE.alloc _).draw1) hb9; obtain ⟨a0, a1, a2, a3⟩ := hP.cells; have az := hP.2.2.1; obtain ⟨b0, b1, b2, b3⟩ := hQ.cells; have bz := hQ.2.2.1; obtain ⟨c0, c1, c2, c3⟩ := hC.cells; have cz := hC.2.2.1; obtain ⟨d0, d1, d2, d3⟩ := hD.cells; have dz := hD.2.2.1; obtain ⟨e0, e1, e2, e3⟩ := hE.cells; have ez := hE.2.2.1; clear hb9)
    obtain ⟨W5, hW5⟩ : ∃ W5, W5 = w9.alloc (.cells #[.int .u8 1, .int .i64 (n + -n'), .int .u64 0, .string ⟨#[]⟩] 28) := ⟨_, rfl⟩
    rw [← hW5]
    have hF : Aw w W5 w9.heap.size 1 (n + -n') 0 ⟨#[]⟩ := by subst hW5; exact aw_new hP _ _ _ _ _
    replace hP := (show Aw w W5 _ _ _ _ _ by subst hW5; exact hP.alloc _)
    replace hQ := (show Aw w W5 _ _ _ _ _ by subst hW5; exact hQ.alloc _)
    replace hC := (show Aw w W5 _ _ _ _ _ by subst hW5; exact hC.alloc _)
    replace hD := (show Aw w W5 _ _ _ _ _ by subst hW5; exact hD.alloc _)
    replace hE := (show Aw w W5 _ _ _ _ _ by subst hW5; exact hE.alloc _)
    clear hW5 az bz cz dz ez a0 a1 a2 a3 b0 b1 b2 b3 c0 c1 c2 c3 d0 d1 d2 d3 e0 e1 e2 e3
    generalize w9.heap.size = pf at *
    clear w9
    obtain ⟨a0, a1, a2, a3⟩ := hP.cells
    obtain ⟨b0, b1, b2, b3⟩ := hQ.cells
    obtain ⟨c0, c1, c2, c3⟩ := hC.cells
    obtain ⟨d0, d1, d2, d3⟩ := hD.cells
    obtain ⟨e0, e1, e2, e3⟩ := hE.cells
    obtain ⟨f0, f1, f2, f3⟩ := hF.cells
    have az := hP.2.2.1
    have bz := hQ.2.2.1
    have cz := hC.2.2.1
    have dz := hD.2.2.1
    have ez := hE.2.2.1
    have fz := hF.2.2.1
    go_upto_region 15 with (go_at_call 12; ((with_reducible refine (P3.out _).mono ?_)); rintro e w9 ⟨rfl, hb9⟩; clear a0 a1 a2 a3 az b0 b1 b2 b3 bz c0 c1 c2 c3 cz d0 d1 d2 d3 dz e0 e1 e2 e3 ez f0 f1 f2 f3 fz; replace hP := Aw.next (by first | exact hP | exact hP.alloc _ | exact hP.draw _ | exact (hP.draw _).alloc _ | exact (hP.alloc _).draw _ | exact hP.draw1 | exact hP.draw1.alloc _ | exact (hP.alloc _).draw1) hb9; replace hQ := Aw.next (by first | exact hQ | exact hQ.alloc _ | exact hQ.draw _ | exact (hQ.draw _).alloc _ | exact (hQ.alloc _).draw _ | exact hQ.draw1 | exact hQ.draw1.alloc _ | exact (hQ.alloc _).draw1) hb9; replace hC := Aw.next (by first | exact hC | exact hC.alloc _ | exact hC.draw _ | exact (hC.draw _).alloc _ | exact (hC.alloc _).draw _ | exact hC.draw1 | exact hC.draw1.alloc _ | exact (hC.alloc _).draw1) hb9; replace hD := Aw.next (by first | exact hD | exact hD.alloc _ | exact hD.draw _ | exact (hD.draw _).alloc _ | exact (hD.alloc _).draw _ | exact hD.draw1 | exact hD.draw1.alloc _ | exact (hD.alloc _).draw1) hb9; replace hE := Aw.next (by first | exact hE | exact hE.alloc _ | exact hE.draw _ | exact (hE.draw _).alloc _ | exact (hE.alloc _).draw _ | exact hE.draw1 | exact hE.draw1.alloc _ | exact (hE.alloc _).draw1) hb9; replace hF := Aw.next (by first | exact hF | exact hF.alloc _ | exact hF.draw _ | exact (hF.draw _).alloc _ | exact (hF.alloc _).draw _ | exact hF.draw1 | exact hF.draw1.alloc _ | exact (hF.alloc _).draw1) hb9; obtain ⟨a0, a1, a2, a3⟩ := hP.cells; have az := hP.2.2.1; obtain ⟨b0, b1, b2, b3⟩ := hQ.cells; have bz := hQ.2.2.1; obtain ⟨c0, c1, c2, c3⟩ := hC.cells; have cz := hC.2.2.1; obtain ⟨d0, d1, d2, d3⟩ := hD.cells; have dz := hD.2.2.1; obtain ⟨e0, e1, e2, e3⟩ := hE.cells; have ez := hE.2.2.1; obtain ⟨f0, f1, f2, f3⟩ := hF.cells; have fz := hF.2.2.1; clear hb9)
    obtain ⟨W5, hW5⟩ : ∃ W5, W5 = w9.alloc (.cells #[.int .u8 1, .int .i64 n, .int .u64 0, .string ⟨#[]⟩] 28) := ⟨_, rfl⟩
    rw [← hW5]
    have hG : Aw w W5 w9.heap.size 1 n 0 ⟨#[]⟩ := by subst hW5; exact aw_new hP _ _ _ _ _
    replace hP := (show Aw w W5 _ _ _ _ _ by subst hW5; exact hP.alloc _)
    replace hQ := (show Aw w W5 _ _ _ _ _ by subst hW5; exact hQ.alloc _)
    replace hC := (show Aw w W5 _ _ _ _ _ by subst hW5; exact hC.alloc _)
    replace hD := (show Aw w W5 _ _ _ _ _ by subst hW5; exact hD.alloc _)
    replace hE := (show Aw w W5 _ _ _ _ _ by subst hW5; exact hE.alloc _)
    replace hF := (show Aw w W5 _ _ _ _ _ by subst hW5; exact hF.alloc _)
    clear hW5 az bz cz dz ez fz a0 a1 a2 a3 b0 b1 b2 b3 c0 c1 c2 c3 d0 d1 d2 d3 e0 e1 e2 e3 f0 f1 f2 f3
    generalize w9.heap.size = pg at *
    clear w9
    obtain ⟨a0, a1, a2, a3⟩ := hP.cells
    obtain ⟨b0, b1, b2, b3⟩ := hQ.cells
    obtain ⟨c0, c1, c2, c3⟩ := hC.cells
    obtain ⟨d0, d1, d2, d3⟩ := hD.cells
    obtain ⟨e0, e1, e2, e3⟩ := hE.cells
    obtain ⟨f0, f1, f2, f3⟩ := hF.cells
    obtain ⟨g0, g1, g2, g3⟩ := hG.cells
    have az := hP.2.2.1
    have bz := hQ.2.2.1
    have cz := hC.2.2.1
    have dz := hD.2.2.1
    have ez := hE.2.2.1
    have fz := hF.2.2.1
    have gz := hG.2.2.1
    go_wp2_with (go_at_call 9; ((with_reducible refine (A1.out _).mono ?_)); rintro e w9 ⟨rfl, hb9⟩; clear a0 a1 a2 a3 az b0 b1 b2 b3 bz c0 c1 c2 c3 cz d0 d1 d2 d3 dz e0 e1 e2 e3 ez f0 f1 f2 f3 fz g0 g1 g2 g3 gz; replace hP := Aw.next (by first | exact hP | exact hP.alloc _ | exact hP.draw _ | exact (hP.draw _).alloc _ | exact (hP.alloc _).draw _ | exact hP.draw1 | exact hP.draw1.alloc _ | exact (hP.alloc _).draw1) hb9; replace hQ := Aw.next (by first | exact hQ | exact hQ.alloc _ | exact hQ.draw _ | exact (hQ.draw _).alloc _ | exact (hQ.alloc _).draw _ | exact hQ.draw1 | exact hQ.draw1.alloc _ | exact (hQ.alloc _).draw1) hb9; replace hC := Aw.next (by first | exact hC | exact hC.alloc _ | exact hC.draw _ | exact (hC.draw _).alloc _ | exact (hC.alloc _).draw _ | exact hC.draw1 | exact hC.draw1.alloc _ | exact (hC.alloc _).draw1) hb9; replace hD := Aw.next (by first | exact hD | exact hD.alloc _ | exact hD.draw _ | exact (hD.draw _).alloc _ | exact (hD.alloc _).draw _ | exact hD.draw1 | exact hD.draw1.alloc _ | exact (hD.alloc _).draw1) hb9; replace hE := Aw.next (by first | exact hE | exact hE.alloc _ | exact hE.draw _ | exact (hE.draw _).alloc _ | exact (hE.alloc _).draw _ | exact hE.draw1 | exact hE.draw1.alloc _ | exact (hE.alloc _).draw1) hb9; replace hF := Aw.next (by first | exact hF | exact hF.alloc _ | exact hF.draw _ | exact (hF.draw _).alloc _ | exact (hF.alloc _).draw _ | exact hF.draw1 | exact hF.draw1.alloc _ | exact (hF.alloc _).draw1) hb9; replace hG := Aw.next (by first | exact hG | exact hG.alloc _ | exact hG.draw _ | exact (hG.draw _).alloc _ | exact (hG.alloc _).draw _ | exact hG.draw1 | exact hG.draw1.alloc _ | exact (hG.alloc _).draw1) hb9; obtain ⟨a0, a1, a2, a3⟩ := hP.cells; have az := hP.2.2.1; obtain ⟨b0, b1, b2, b3⟩ := hQ.cells; have bz := hQ.2.2.1; obtain ⟨c0, c1, c2, c3⟩ := hC.cells; have cz := hC.2.2.1; obtain ⟨d0, d1, d2, d3⟩ := hD.cells; have dz := hD.2.2.1; obtain ⟨e0, e1, e2, e3⟩ := hE.cells; have ez := hE.2.2.1; obtain ⟨f0, f1, f2, f3⟩ := hF.cells; have fz := hF.2.2.1; obtain ⟨g0, g1, g2, g3⟩ := hG.cells; have gz := hG.2.2.1; clear hb9)
    go_ret
    exact ⟨rfl, hP.1⟩
set_option maxRecDepth 100000 in
set_option maxHeartbeats 2000000 in
theorem back_wo (n : Int) (n' : Int) (u' : Nat) (s' : ByteArray) (hn0 : -9223372036854775808 ≤ n ∧ n ≤ 9223372036854775807) (hc' : Came n' u' s') (g2 : ¬ (100 : Int) < s'.size) (h : checkN 1 n 0 ⟨#[]⟩ = 0) (h' : checkN 1 n' u' s' = 0) (o1 : wholeOk n n' = true) (o2 : wholeOk n (-n') = false) (w : World) : Calls Try.prog 5 #[V 1 n 0 ⟨#[]⟩, V 1 n' u' s'] w fun e w' => e = .returned (.bool true) ∧ Below w.heap.size w w' := by
  have hc : Came n 0 ⟨#[]⟩ := ⟨hn0, by omega, by decide⟩
  have g1 : ¬ (100 : Int) < (⟨#[]⟩ : ByteArray).size := by decide
  obtain ⟨hn, hu, hs⟩ := hc
  obtain ⟨hn', hu', hs'⟩ := hc'
  have S1 := Lib.hid fun w => small_v 1 n 0 ⟨#[]⟩ hs w
  have S2 := Lib.hid fun w => small_v 1 n' u' s' hs' w
  have A1 := Lib.hid fun w => awake_ok w
  have sd1 := small_dec ⟨#[]⟩
  have sd2 := small_dec s'
  rw [decide_eq_false g1] at sd1
  rw [decide_eq_false g2] at sd2
  clear g1 g2
  have g3 := check_num_bounds h
  have g4 := check_num_bounds h'
  have hsum : sumB 1 n 0 ⟨#[]⟩ 1 n' u' s' = true := by unfold sumB; rw [h, h']; rfl
  have ep : plusV 1 n 0 ⟨#[]⟩ 1 n' u' s' = .tuple #[V 1 (n + n') 0 ⟨#[]⟩, .bool true] := by unfold plusV; rw [if_pos hsum, if_pos ⟨rfl, rfl⟩]; exact wsum_of.1 o1
  have eq : plusV 1 n' u' s' 1 n 0 ⟨#[]⟩ = .tuple #[V 1 (n + n') 0 ⟨#[]⟩, .bool true] := by rw [plus_swap hu hu']; exact ep
  have em : minusV 1 n 0 ⟨#[]⟩ 1 n' u' s' = .tuple #[V 0 0 0 ⟨#[]⟩, .bool false] := by unfold minusV; rw [if_pos hsum, if_pos ⟨rfl, rfl⟩]; exact wsum_of.2 o2
  have P1 : Hid (∀ w, Calls Try.prog 12 #[V 1 n 0 ⟨#[]⟩, V 1 n' u' s'] w fun e w' => e = .returned (.tuple #[V 1 (n + n') 0 ⟨#[]⟩, .bool true]) ∧ Below w.heap.size w w') := Lib.hid fun w => by rw [← ep]; exact plus_ok 1 n 0 ⟨#[]⟩ 1 n' u' s' hu hu' w
  have P2 : Hid (∀ w, Calls Try.prog 12 #[V 1 n' u' s', V 1 n 0 ⟨#[]⟩] w fun e w' => e = .returned (.tuple #[V 1 (n + n') 0 ⟨#[]⟩, .bool true]) ∧ Below w.heap.size w w') := Lib.hid fun w => by rw [← eq]; exact plus_ok 1 n' u' s' 1 n 0 ⟨#[]⟩ hu' hu w
  have M2 : Hid (∀ w, Calls Try.prog 14 #[V 1 n 0 ⟨#[]⟩, V 1 n' u' s'] w fun e w' => e = .returned (.tuple #[V 0 0 0 ⟨#[]⟩, .bool false]) ∧ Below w.heap.size w w') := Lib.hid fun w => by rw [← em]; exact minus_ok 1 n 0 ⟨#[]⟩ 1 n' u' s' hu hu' w
  have M1 : Hid (∀ w, Calls Try.prog 14 #[V 1 (n + n') 0 ⟨#[]⟩, V 1 n' u' s'] w fun e w' => e = .returned (.tuple #[V 1 n 0 ⟨#[]⟩, .bool true]) ∧ Below w.heap.size w w') := Lib.hid fun w => by rw [← minus_back g3 h' (whole_bounds o1)]; exact minus_ok 1 (n + n') 0 ⟨#[]⟩ 1 n' u' s' (by omega) hu' w
  have SK := Lib.hid fun w => sum_kinds 1 1 w
  have CK := Lib.hid fun w => vCheck_ok 1 (n + n') 0 ⟨#[]⟩ w
  rw [check_whole (whole_bounds o1)] at CK
  rw [show sumK 1 1 = 1 by decide] at SK
  clear ep eq em h h' hsum o1 o2 g3 g4
  have E1 := fun k n u k' n' u' s s' w => eql_V k n u k' n' u' s s' w
  have E2 := fun k n u k' n' u' s s' w => eq_V k n u k' n' u' s s' w
  have hv := fun w => build_void w
  clear hn hn' hs hs' hu hu'
  unfold V at *
  simp only [Int.natCast_zero] at *
  obtain ⟨hA, hB⟩ := two_aw w 24 24 1 n 0 ⟨#[]⟩ 1 n' u' s'
  obtain ⟨a0, a1, a2, a3⟩ := hA.cells
  obtain ⟨b0, b1, b2, b3⟩ := hB.cells
  go_enter Try.func5, Try.ntmps5
  go_upto_region 3 with (first | (go_at_call 8; ((with_reducible refine (S1.out _).mono ?_)); rintro e w9 ⟨rfl, hb9⟩; clear a0 a1 a2 a3 b0 b1 b2 b3; replace hA := Aw.next (by first | exact hA | exact hA.alloc _ | exact hA.draw _ | exact (hA.draw _).alloc _ | exact (hA.alloc _).draw _ | exact hA.draw1 | exact hA.draw1.alloc _ | exact (hA.alloc _).draw1) hb9; replace hB := Aw.next (by first | exact hB | exact hB.alloc _ | exact hB.draw _ | exact (hB.draw _).alloc _ | exact (hB.alloc _).draw _ | exact hB.draw1 | exact hB.draw1.alloc _ | exact (hB.alloc _).draw1) hb9; obtain ⟨a0, a1, a2, a3⟩ := hA.cells; obtain ⟨b0, b1, b2, b3⟩ := hB.cells; clear hb9) | (go_at_call 8; ((with_reducible refine (S2.out _).mono ?_)); rintro e w9 ⟨rfl, hb9⟩; clear a0 a1 a2 a3 b0 b1 b2 b3; replace hA := Aw.next (by first | exact hA | exact hA.alloc _ | exact hA.draw _ | exact (hA.draw _).alloc _ | exact (hA.alloc _).draw _ | exact hA.draw1 | exact hA.draw1.alloc _ | exact (hA.alloc _).draw1) hb9; replace hB := Aw.next (by first | exact hB | exact hB.alloc _ | exact hB.draw _ | exact (hB.draw _).alloc _ | exact (hB.alloc _).draw _ | exact hB.draw1 | exact hB.draw1.alloc _ | exact (hB.alloc _).draw1) hb9; obtain ⟨a0, a1, a2, a3⟩ := hA.cells; obtain ⟨b0, b1, b2, b3⟩ := hB.cells; clear hb9) | (go_at_call 9; ((with_reducible refine (A1.out _).mono ?_)); rintro e w9 ⟨rfl, hb9⟩; clear a0 a1 a2 a3 b0 b1 b2 b3; replace hA := Aw.next (by first | exact hA | exact hA.alloc _ | exact hA.draw _ | exact (hA.draw _).alloc _ | exact (hA.alloc _).draw _ | exact hA.draw1 | exact hA.draw1.alloc _ | exact (hA.alloc _).draw1) hb9; replace hB := Aw.next (by first | exact hB | exact hB.alloc _ | exact hB.draw _ | exact (hB.draw _).alloc _ | exact (hB.alloc _).draw _ | exact hB.draw1 | exact hB.draw1.alloc _ | exact (hB.alloc _).draw1) hb9; obtain ⟨a0, a1, a2, a3⟩ := hA.cells; obtain ⟨b0, b1, b2, b3⟩ := hB.cells; clear hb9))
  have az := hA.2.2.1
  have bz := hB.2.2.1
  go_cut [5, 6] (fun x y wx => CutTwo w 1 n 0 ⟨#[]⟩ 1 n' u' s' x y wx)
  case first =>
    go_region
    all_goals go_wp2_with fail
    all_goals go_meet
    all_goals first | exact cutTwo_a hA _ _ _ _ _ _ _ _ | exact cutTwo_b hA _ _ _ _ _ _ _ _
  case rest =>
    unfold CutTwo at hcut
    obtain ⟨pp, pq, rfl, rfl, hP, hQ⟩ := hcut
    clear hA hB a0 a1 a2 a3 b0 b1 b2 b3 az bz
    obtain ⟨a0, a1, a2, a3⟩ := hP.cells
    obtain ⟨b0, b1, b2, b3⟩ := hQ.cells
    have az := hP.2.2.1
    have bz := hQ.2.2.1
    go_upto_region 5 with (go_at_call 12; ((with_reducible refine (P1.out _).mono ?_)); rintro e w9 ⟨rfl, hb9⟩; clear a0 a1 a2 a3 az b0 b1 b2 b3 bz; replace hP := Aw.next (by first | exact hP | exact hP.alloc _ | exact hP.draw _ | exact (hP.draw _).alloc _ | exact (hP.alloc _).draw _ | exact hP.draw1 | exact hP.draw1.alloc _ | exact (hP.alloc _).draw1) hb9; replace hQ := Aw.next (by first | exact hQ | exact hQ.alloc _ | exact hQ.draw _ | exact (hQ.draw _).alloc _ | exact (hQ.alloc _).draw _ | exact hQ.draw1 | exact hQ.draw1.alloc _ | exact (hQ.alloc _).draw1) hb9; obtain ⟨a0, a1, a2, a3⟩ := hP.cells; have az := hP.2.2.1; obtain ⟨b0, b1, b2, b3⟩ := hQ.cells; have bz := hQ.2.2.1; clear hb9)
    obtain ⟨W5, hW5⟩ : ∃ W5, W5 = w9.alloc (.cells #[.int .u8 1, .int .i64 (n + n'), .int .u64 0, .string ⟨#[]⟩] 28) := ⟨_, rfl⟩
    rw [← hW5]
    have hC : Aw w W5 w9.heap.size 1 (n + n') 0 ⟨#[]⟩ := by subst hW5; exact aw_new hP _ _ _ _ _
    replace hP := (show Aw w W5 _ _ _ _ _ by subst hW5; exact hP.alloc _)
    replace hQ := (show Aw w W5 _ _ _ _ _ by subst hW5; exact hQ.alloc _)
    clear hW5 az bz a0 a1 a2 a3 b0 b1 b2 b3
    generalize w9.heap.size = pc at *
    clear w9
    obtain ⟨a0, a1, a2, a3⟩ := hP.cells
    obtain ⟨b0, b1, b2, b3⟩ := hQ.cells
    obtain ⟨c0, c1, c2, c3⟩ := hC.cells
    have az := hP.2.2.1
    have bz := hQ.2.2.1
    have cz := hC.2.2.1
    go_upto_region 6 with (go_at_call 12; ((with_reducible refine (P2.out _).mono ?_)); rintro e w9 ⟨rfl, hb9⟩; clear a0 a1 a2 a3 az b0 b1 b2 b3 bz c0 c1 c2 c3 cz; replace hP := Aw.next (by first | exact hP | exact hP.alloc _ | exact hP.draw _ | exact (hP.draw _).alloc _ | exact (hP.alloc _).draw _ | exact hP.draw1 | exact hP.draw1.alloc _ | exact (hP.alloc _).draw1) hb9; replace hQ := Aw.next (by first | exact hQ | exact hQ.alloc _ | exact hQ.draw _ | exact (hQ.draw _).alloc _ | exact (hQ.alloc _).draw _ | exact hQ.draw1 | exact hQ.draw1.alloc _ | exact (hQ.alloc _).draw1) hb9; replace hC := Aw.next (by first | exact hC | exact hC.alloc _ | exact hC.draw _ | exact (hC.draw _).alloc _ | exact (hC.alloc _).draw _ | exact hC.draw1 | exact hC.draw1.alloc _ | exact (hC.alloc _).draw1) hb9; obtain ⟨a0, a1, a2, a3⟩ := hP.cells; have az := hP.2.2.1; obtain ⟨b0, b1, b2, b3⟩ := hQ.cells; have bz := hQ.2.2.1; obtain ⟨c0, c1, c2, c3⟩ := hC.cells; have cz := hC.2.2.1; clear hb9)
    obtain ⟨W5, hW5⟩ : ∃ W5, W5 = w9.alloc (.cells #[.int .u8 1, .int .i64 (n + n'), .int .u64 0, .string ⟨#[]⟩] 28) := ⟨_, rfl⟩
    rw [← hW5]
    have hD : Aw w W5 w9.heap.size 1 (n + n') 0 ⟨#[]⟩ := by subst hW5; exact aw_new hP _ _ _ _ _
    replace hP := (show Aw w W5 _ _ _ _ _ by subst hW5; exact hP.alloc _)
    replace hQ := (show Aw w W5 _ _ _ _ _ by subst hW5; exact hQ.alloc _)
    replace hC := (show Aw w W5 _ _ _ _ _ by subst hW5; exact hC.alloc _)
    clear hW5 az bz cz a0 a1 a2 a3 b0 b1 b2 b3 c0 c1 c2 c3
    generalize w9.heap.size = pd at *
    clear w9
    obtain ⟨a0, a1, a2, a3⟩ := hP.cells
    obtain ⟨b0, b1, b2, b3⟩ := hQ.cells
    obtain ⟨c0, c1, c2, c3⟩ := hC.cells
    obtain ⟨d0, d1, d2, d3⟩ := hD.cells
    have az := hP.2.2.1
    have bz := hQ.2.2.1
    have cz := hC.2.2.1
    have dz := hD.2.2.1
    refine wp_region_held_drew (S := (fun w' => w'.cell? ⟨pp, 0, none⟩ = some (.int .u8 1) ∧ w'.cell? ⟨pp, 1, none⟩ = some (.int .i64 n) ∧ w'.cell? ⟨pp, 2, none⟩ = some (.int .u64 0) ∧ w'.cell? ⟨pp, 3, none⟩ = some (.string ⟨#[]⟩) ∧ w'.cell? ⟨pq, 0, none⟩ = some (.int .u8 1) ∧ w'.cell? ⟨pq, 1, none⟩ = some (.int .i64 n') ∧ w'.cell? ⟨pq, 2, none⟩ = some (.int .u64 u') ∧ w'.cell? ⟨pq, 3, none⟩ = some (.string s') ∧ w'.cell? ⟨pc, 0, none⟩ = some (.int .u8 1) ∧ w'.cell? ⟨pc, 1, none⟩ = some (.int .i64 (n + n')) ∧ w'.cell? ⟨pc, 2, none⟩ = some (.int .u64 0) ∧ w'.cell? ⟨pc, 3, none⟩ = some (.string ⟨#[]⟩) ∧ w'.cell? ⟨pd, 0, none⟩ = some (.int .u8 1) ∧ w'.cell? ⟨pd, 1, none⟩ = some (.int .i64 (n + n')) ∧ w'.cell? ⟨pd, 2, none⟩ = some (.int .u64 0) ∧ w'.cell? ⟨pd, 3, none⟩ = some (.string ⟨#[]⟩))) (by kernel_rfl) ?_ (fun hH => ?_)
    · exact ⟨a0, a1, a2, a3, b0, b1, b2, b3, c0, c1, c2, c3, d0, d1, d2, d3⟩
    refine wpAnyH_take (i := 0) (oi := { dst := some 40, op := Op.load 28 (Operand.tmp 7), type := 28, pos := "own.go:39", after := #[], guard := none }) (v := ?_) rfl (by kernel_rfl) (by kernel_rfl) (by kernel_rfl) (fun _ _ _ h => h) (Or.inl ⟨by rfl, ?_⟩) hH ?_
    rotate_left
    · intro w hSw; (try dsimp only at hSw); go_simp <;> with_reducible rfl
    try simp only [Act.put, List.setIfInBounds_toArray, List.set_cons_zero, List.set_cons_succ]
    refine wpAnyH_take (i := 1) (oi := { dst := some 41, op := Op.load 28 (Operand.tmp 9), type := 28, pos := "own.go:39", after := #[], guard := none }) (v := ?_) rfl (by kernel_rfl) (by kernel_rfl) (by kernel_rfl) (fun _ _ _ h => h) (Or.inl ⟨by rfl, ?_⟩) hH ?_
    rotate_left
    · intro w hSw; (try dsimp only at hSw); go_simp <;> with_reducible rfl
    try simp only [Act.put, List.setIfInBounds_toArray, List.set_cons_zero, List.set_cons_succ]
    refine wpAnyH_take (i := 2) (oi := { dst := some 42, op := Op.binOp BinOp.neq 28 (Operand.tmp 40) (Operand.tmp 41) 28, type := 4, pos := "own.go:39", after := #[{ on := 0, ground := Ground.data }, { on := 1, ground := Ground.data }], guard := none }) (v := ?_) rfl (by kernel_rfl) (by kernel_rfl) (by kernel_rfl) (fun _ _ _ h => h) (Or.inl ⟨by rfl, ?_⟩) hH ?_
    rotate_left
    · intro w hSw; (try dsimp only at hSw); go_simp <;> with_reducible rfl
    try simp only [Act.put, List.setIfInBounds_toArray, List.set_cons_zero, List.set_cons_succ]
    refine wpAnyH_take (i := 3) (oi := { dst := some 43, op := Op.move (Operand.tmp 42), type := 4, pos := "own.go:39", after := #[{ on := 2, ground := Ground.data }], guard := none }) (v := ?_) rfl (by kernel_rfl) (by kernel_rfl) (by kernel_rfl) (fun _ _ _ h => h) (Or.inl ⟨by rfl, ?_⟩) hH ?_
    rotate_left
    · intro w hSw; (try dsimp only at hSw); go_simp <;> with_reducible rfl
    try simp only [Act.put, List.setIfInBounds_toArray, List.set_cons_zero, List.set_cons_succ]
    refine wpAnyH_take (i := 4) (oi := { dst := some 44, op := Op.move (Operand.tmp 8), type := 4, pos := "own.go:39", after := #[{ on := 3, ground := Ground.guard }], guard := some (3, false) }) (v := ?_) rfl (by kernel_rfl) (by kernel_rfl) (by kernel_rfl) (fun _ _ _ h => h) (Or.inl ⟨by rfl, ?_⟩) hH ?_
    rotate_left
    · intro w hSw; (try dsimp only at hSw); go_simp <;> with_reducible rfl
    try simp only [Act.put, List.setIfInBounds_toArray, List.set_cons_zero, List.set_cons_succ]
    refine wpAnyH_take (i := 5) (oi := { dst := some 45, op := Op.move (Operand.tmp 10), type := 4, pos := "own.go:39", after := #[{ on := 3, ground := Ground.guard }], guard := some (3, false) }) (v := ?_) rfl (by kernel_rfl) (by kernel_rfl) (by kernel_rfl) (fun _ _ _ h => h) (Or.inl ⟨by rfl, ?_⟩) hH ?_
    rotate_left
    · intro w hSw; (try dsimp only at hSw); go_simp <;> with_reducible rfl
    try simp only [Act.put, List.setIfInBounds_toArray, List.set_cons_zero, List.set_cons_succ]
    refine wpAnyH_take (i := 6) (oi := { dst := some 46, op := Op.binOp BinOp.neq 4 (Operand.tmp 44) (Operand.tmp 45) 4, type := 4, pos := "own.go:39", after := #[{ on := 4, ground := Ground.data }, { on := 5, ground := Ground.data }, { on := 3, ground := Ground.guard }], guard := some (3, false) }) (v := ?_) rfl (by kernel_rfl) (by kernel_rfl) (by kernel_rfl) (fun _ _ _ h => h) (Or.inl ⟨by rfl, ?_⟩) hH ?_
    rotate_left
    · intro w hSw; (try dsimp only at hSw); go_simp <;> with_reducible rfl
    try simp only [Act.put, List.setIfInBounds_toArray, List.set_cons_zero, List.set_cons_succ]
    refine wpAnyH_take (i := 7) (oi := { dst := some 47, op := Op.pick (Operand.tmp 43) (Operand.const (Value.bool true)) (Operand.tmp 46), type := 4, pos := "own.go:39", after := #[{ on := 3, ground := Ground.data }, { on := 6, ground := Ground.data }], guard := none }) (v := ?_) rfl (by kernel_rfl) (by kernel_rfl) (by kernel_rfl) (fun _ _ _ h => h) (Or.inl ⟨by rfl, ?_⟩) hH ?_
    rotate_left
    · intro w hSw; (try dsimp only at hSw); go_simp <;> with_reducible rfl
    try simp only [Act.put, List.setIfInBounds_toArray, List.set_cons_zero, List.set_cons_succ]
    refine wpAnyH_take (i := 8) (oi := { dst := some 48, op := Op.move (Operand.tmp 47), type := 4, pos := "own.go:39", after := #[{ on := 7, ground := Ground.data }, { on := 3, ground := Ground.chain }], guard := none }) (v := ?_) rfl (by kernel_rfl) (by kernel_rfl) (by kernel_rfl) (fun _ _ _ h => h) (Or.inl ⟨by rfl, ?_⟩) hH ?_
    rotate_left
    · intro w hSw; (try dsimp only at hSw); go_simp <;> with_reducible rfl
    try simp only [Act.put, List.setIfInBounds_toArray, List.set_cons_zero, List.set_cons_succ]
    refine wpAnyH_take (i := 9) (oi := { dst := some 49, op := Op.move (Operand.tmp 8), type := 4, pos := "own.go:39", after := #[{ on := 8, ground := Ground.guard }], guard := some (8, false) }) (v := ?_) rfl (by kernel_rfl) (by kernel_rfl) (by kernel_rfl) (fun _ _ _ h => h) (Or.inl ⟨by rfl, ?_⟩) hH ?_
    rotate_left
    · intro w hSw; (try dsimp only at hSw); go_simp <;> with_reducible rfl
    try simp only [Act.put, List.setIfInBounds_toArray, List.set_cons_zero, List.set_cons_succ]
    refine wpAnyH_take (i := 10) (oi := { dst := some 50, op := Op.move (Operand.tmp 49), type := 4, pos := "own.go:39", after := #[{ on := 9, ground := Ground.data }, { on := 8, ground := Ground.chain }, { on := 8, ground := Ground.guard }], guard := some (8, false) }) (v := ?_) rfl (by kernel_rfl) (by kernel_rfl) (by kernel_rfl) (fun _ _ _ h => h) (Or.inl ⟨by rfl, ?_⟩) hH ?_
    rotate_left
    · intro w hSw; (try dsimp only at hSw); go_simp <;> with_reducible rfl
    try simp only [Act.put, List.setIfInBounds_toArray, List.set_cons_zero, List.set_cons_succ]
    refine wpAnyH_take (i := 11) (oi := { dst := some 51, op := Op.fieldAddr 28 (Operand.tmp 7) 0, type := 0, pos := "own.go:39", after := #[{ on := 10, ground := Ground.guard }], guard := some (10, true) }) (v := ?_) rfl (by kernel_rfl) (by kernel_rfl) (by kernel_rfl) (fun _ _ _ h => h) (Or.inl ⟨by rfl, ?_⟩) hH ?_
    rotate_left
    · intro w hSw; (try dsimp only at hSw); go_simp <;> with_reducible rfl
    try simp only [Act.put, List.setIfInBounds_toArray, List.set_cons_zero, List.set_cons_succ]
    refine wpAnyH_take (i := 12) (oi := { dst := some 52, op := Op.load 5 (Operand.tmp 51), type := 5, pos := "own.go:39", after := #[{ on := 11, ground := Ground.data }, { on := 10, ground := Ground.guard }], guard := some (10, true) }) (v := ?_) rfl (by kernel_rfl) (by kernel_rfl) (by kernel_rfl) (fun _ _ _ h => h) (Or.inl ⟨by rfl, ?_⟩) hH ?_
    rotate_left
    · intro w hSw; (try dsimp only at hSw); go_simp <;> with_reducible rfl
    try simp only [Act.put, List.setIfInBounds_toArray, List.set_cons_zero, List.set_cons_succ]
    refine wpAnyH_take (i := 13) (oi := { dst := some 53, op := Op.fieldAddr 28 (Operand.tmp 5) 0, type := 0, pos := "own.go:39", after := #[{ on := 10, ground := Ground.guard }], guard := some (10, true) }) (v := ?_) rfl (by kernel_rfl) (by kernel_rfl) (by kernel_rfl) (fun _ _ _ h => h) (Or.inl ⟨by rfl, ?_⟩) hH ?_
    rotate_left
    · intro w hSw; (try dsimp only at hSw); go_simp <;> with_reducible rfl
    try simp only [Act.put, List.setIfInBounds_toArray, List.set_cons_zero, List.set_cons_succ]
    refine wpAnyH_take (i := 14) (oi := { dst := some 54, op := Op.load 5 (Operand.tmp 53), type := 5, pos := "own.go:39", after := #[{ on := 13, ground := Ground.data }, { on := 10, ground := Ground.guard }], guard := some (10, true) }) (v := ?_) rfl (by kernel_rfl) (by kernel_rfl) (by kernel_rfl) (fun _ _ _ h => h) (Or.inl ⟨by rfl, ?_⟩) hH ?_
    rotate_left
    · intro w hSw; (try dsimp only at hSw); go_simp <;> with_reducible rfl
    try simp only [Act.put, List.setIfInBounds_toArray, List.set_cons_zero, List.set_cons_succ]
    refine wpAnyH_take (i := 15) (oi := { dst := some 55, op := Op.fieldAddr 28 (Operand.tmp 6) 0, type := 0, pos := "own.go:39", after := #[{ on := 10, ground := Ground.guard }], guard := some (10, true) }) (v := ?_) rfl (by kernel_rfl) (by kernel_rfl) (by kernel_rfl) (fun _ _ _ h => h) (Or.inl ⟨by rfl, ?_⟩) hH ?_
    rotate_left
    · intro w hSw; (try dsimp only at hSw); go_simp <;> with_reducible rfl
    try simp only [Act.put, List.setIfInBounds_toArray, List.set_cons_zero, List.set_cons_succ]
    refine wpAnyH_take (i := 16) (oi := { dst := some 56, op := Op.load 5 (Operand.tmp 55), type := 5, pos := "own.go:39", after := #[{ on := 15, ground := Ground.data }, { on := 10, ground := Ground.guard }], guard := some (10, true) }) (v := ?_) rfl (by kernel_rfl) (by kernel_rfl) (by kernel_rfl) (fun _ _ _ h => h) (Or.inl ⟨by rfl, ?_⟩) hH ?_
    rotate_left
    · intro w hSw; (try dsimp only at hSw); go_simp <;> with_reducible rfl
    try simp only [Act.put, List.setIfInBounds_toArray, List.set_cons_zero, List.set_cons_succ]
    refine wpAnyH_ready (rs := [17]) (by kernel_rfl) (by simp) ?_
    refine AllReadyH.cons (o := { dst := some 57, op := Op.call { callee := Callee.value (Operand.func 16), args := #[Operand.tmp 54, Operand.tmp 56], argTypes := #[5, 5] }, type := 5, pos := "own.go:39", after := #[{ on := 14, ground := Ground.data }, { on := 16, ground := Ground.data }, { on := 10, ground := Ground.chain }, { on := 10, ground := Ground.guard }], guard := some (10, true) }) rfl (fun K hK => ?_) AllReadyH.nil
    go_simp
    go_at_call 16
    refine (SK.out _).mono ?_
    rintro e w' ⟨rfl, rfl⟩
    go_simp
    refine hK.out _ _ ?_ (fun hH => ?_)
    · exact hH
    clear hK K
    try simp only [Act.put, List.setIfInBounds_toArray, List.set_cons_zero, List.set_cons_succ]
    refine wpAnyH_take (i := 18) (oi := { dst := some 58, op := Op.binOp BinOp.neq 5 (Operand.tmp 52) (Operand.tmp 57) 5, type := 4, pos := "own.go:39", after := #[{ on := 12, ground := Ground.data }, { on := 17, ground := Ground.data }, { on := 10, ground := Ground.guard }], guard := some (10, true) }) (v := ?_) rfl (by kernel_rfl) (by kernel_rfl) (by kernel_rfl) (fun _ _ _ h => h) (Or.inl ⟨by rfl, ?_⟩) hH ?_
    rotate_left
    · intro w hSw; (try dsimp only at hSw); go_simp <;> with_reducible rfl
    try simp only [Act.put, List.setIfInBounds_toArray, List.set_cons_zero, List.set_cons_succ]
    refine wpAnyH_take (i := 19) (oi := { dst := some 59, op := Op.pick (Operand.tmp 50) (Operand.tmp 58) (Operand.const (Value.bool false)), type := 4, pos := "own.go:39", after := #[{ on := 10, ground := Ground.data }, { on := 18, ground := Ground.data }, { on := 8, ground := Ground.guard }], guard := some (8, false) }) (v := ?_) rfl (by kernel_rfl) (by kernel_rfl) (by kernel_rfl) (fun _ _ _ h => h) (Or.inl ⟨by rfl, ?_⟩) hH ?_
    rotate_left
    · intro w hSw; (try dsimp only at hSw); go_simp <;> with_reducible rfl
    try simp only [Act.put, List.setIfInBounds_toArray, List.set_cons_zero, List.set_cons_succ]
    refine wpAnyH_take (i := 20) (oi := { dst := some 60, op := Op.pick (Operand.tmp 48) (Operand.const (Value.bool true)) (Operand.tmp 59), type := 4, pos := "own.go:39", after := #[{ on := 8, ground := Ground.data }, { on := 19, ground := Ground.data }], guard := none }) (v := ?_) rfl (by kernel_rfl) (by kernel_rfl) (by kernel_rfl) (fun _ _ _ h => h) (Or.inl ⟨by rfl, ?_⟩) hH ?_
    rotate_left
    · intro w hSw; (try dsimp only at hSw); go_simp <;> with_reducible rfl
    try simp only [Act.put, List.setIfInBounds_toArray, List.set_cons_zero, List.set_cons_succ]
    refine wpAnyH_take (i := 21) (oi := { dst := some 61, op := Op.move (Operand.tmp 60), type := 4, pos := "own.go:39", after := #[{ on := 20, ground := Ground.data }, { on := 17, ground := Ground.chain }], guard := none }) (v := ?_) rfl (by kernel_rfl) (by kernel_rfl) (by kernel_rfl) (fun _ _ _ h => h) (Or.inl ⟨by rfl, ?_⟩) hH ?_
    rotate_left
    · intro w hSw; (try dsimp only at hSw); go_simp <;> with_reducible rfl
    try simp only [Act.put, List.setIfInBounds_toArray, List.set_cons_zero, List.set_cons_succ]
    refine wpAnyH_take (i := 22) (oi := { dst := some 62, op := Op.move (Operand.tmp 8), type := 4, pos := "own.go:39", after := #[{ on := 21, ground := Ground.guard }], guard := some (21, false) }) (v := ?_) rfl (by kernel_rfl) (by kernel_rfl) (by kernel_rfl) (fun _ _ _ h => h) (Or.inl ⟨by rfl, ?_⟩) hH ?_
    rotate_left
    · intro w hSw; (try dsimp only at hSw); go_simp <;> with_reducible rfl
    try simp only [Act.put, List.setIfInBounds_toArray, List.set_cons_zero, List.set_cons_succ]
    refine wpAnyH_take (i := 23) (oi := { dst := some 63, op := Op.unOp UnOp.not 4 (Operand.tmp 62), type := 4, pos := "own.go:39", after := #[{ on := 22, ground := Ground.data }, { on := 21, ground := Ground.guard }], guard := some (21, false) }) (v := ?_) rfl (by kernel_rfl) (by kernel_rfl) (by kernel_rfl) (fun _ _ _ h => h) (Or.inl ⟨by rfl, ?_⟩) hH ?_
    rotate_left
    · intro w hSw; (try dsimp only at hSw); go_simp <;> with_reducible rfl
    try simp only [Act.put, List.setIfInBounds_toArray, List.set_cons_zero, List.set_cons_succ]
    refine wpAnyH_take (i := 24) (oi := { dst := some 64, op := Op.move (Operand.tmp 63), type := 4, pos := "own.go:39", after := #[{ on := 23, ground := Ground.data }, { on := 21, ground := Ground.chain }, { on := 21, ground := Ground.guard }], guard := some (21, false) }) (v := ?_) rfl (by kernel_rfl) (by kernel_rfl) (by kernel_rfl) (fun _ _ _ h => h) (Or.inl ⟨by rfl, ?_⟩) hH ?_
    rotate_left
    · intro w hSw; (try dsimp only at hSw); go_simp <;> with_reducible rfl
    try simp only [Act.put, List.setIfInBounds_toArray, List.set_cons_zero, List.set_cons_succ]
    refine wpAnyH_take (i := 25) (oi := { dst := some 65, op := Op.load 28 (Operand.tmp 7), type := 28, pos := "own.go:39", after := #[{ on := 24, ground := Ground.guard }], guard := some (24, true) }) (v := undef) rfl (by kernel_rfl) (by kernel_rfl) (by kernel_rfl) (fun _ _ _ h => h) (Or.inr ⟨by rfl, rfl⟩) hH ?_
    try simp only [Act.put, List.setIfInBounds_toArray, List.set_cons_zero, List.set_cons_succ]
    refine wpAnyH_take (i := 26) (oi := { dst := some 66, op := Op.build 28 #[], type := 28, pos := "own.go:39", after := #[{ on := 24, ground := Ground.guard }], guard := some (24, true) }) (v := undef) rfl (by kernel_rfl) (by kernel_rfl) (by kernel_rfl) (fun _ _ _ h => h) (Or.inr ⟨by rfl, rfl⟩) hH ?_
    try simp only [Act.put, List.setIfInBounds_toArray, List.set_cons_zero, List.set_cons_succ]
    refine wpAnyH_take (i := 27) (oi := { dst := some 67, op := Op.binOp BinOp.neq 28 (Operand.tmp 65) (Operand.tmp 66) 28, type := 4, pos := "own.go:39", after := #[{ on := 25, ground := Ground.data }, { on := 26, ground := Ground.data }, { on := 24, ground := Ground.guard }], guard := some (24, true) }) (v := undef) rfl (by kernel_rfl) (by kernel_rfl) (by kernel_rfl) (fun _ _ _ h => h) (Or.inr ⟨by rfl, rfl⟩) hH ?_
    try simp only [Act.put, List.setIfInBounds_toArray, List.set_cons_zero, List.set_cons_succ]
    refine wpAnyH_take (i := 28) (oi := { dst := some 68, op := Op.pick (Operand.tmp 64) (Operand.tmp 67) (Operand.const (Value.bool false)), type := 4, pos := "own.go:39", after := #[{ on := 24, ground := Ground.data }, { on := 27, ground := Ground.data }, { on := 21, ground := Ground.guard }], guard := some (21, false) }) (v := ?_) rfl (by kernel_rfl) (by kernel_rfl) (by kernel_rfl) (fun _ _ _ h => h) (Or.inl ⟨by rfl, ?_⟩) hH ?_
    rotate_left
    · intro w hSw; (try dsimp only at hSw); go_simp <;> with_reducible rfl
    try simp only [Act.put, List.setIfInBounds_toArray, List.set_cons_zero, List.set_cons_succ]
    refine wpAnyH_take (i := 29) (oi := { dst := some 69, op := Op.pick (Operand.tmp 61) (Operand.const (Value.bool true)) (Operand.tmp 68), type := 4, pos := "own.go:39", after := #[{ on := 21, ground := Ground.data }, { on := 28, ground := Ground.data }], guard := none }) (v := ?_) rfl (by kernel_rfl) (by kernel_rfl) (by kernel_rfl) (fun _ _ _ h => h) (Or.inl ⟨by rfl, ?_⟩) hH ?_
    rotate_left
    · intro w hSw; (try dsimp only at hSw); go_simp <;> with_reducible rfl
    try simp only [Act.put, List.setIfInBounds_toArray, List.set_cons_zero, List.set_cons_succ]
    refine wpAnyH_take (i := 30) (oi := { dst := some 70, op := Op.move (Operand.tmp 69), type := 4, pos := "own.go:39", after := #[{ on := 29, ground := Ground.data }, { on := 24, ground := Ground.chain }], guard := none }) (v := ?_) rfl (by kernel_rfl) (by kernel_rfl) (by kernel_rfl) (fun _ _ _ h => h) (Or.inl ⟨by rfl, ?_⟩) hH ?_
    rotate_left
    · intro w hSw; (try dsimp only at hSw); go_simp <;> with_reducible rfl
    try simp only [Act.put, List.setIfInBounds_toArray, List.set_cons_zero, List.set_cons_succ]
    refine wpAnyH_take (i := 31) (oi := { dst := some 71, op := Op.move (Operand.tmp 8), type := 4, pos := "own.go:39", after := #[{ on := 30, ground := Ground.guard }], guard := some (30, false) }) (v := ?_) rfl (by kernel_rfl) (by kernel_rfl) (by kernel_rfl) (fun _ _ _ h => h) (Or.inl ⟨by rfl, ?_⟩) hH ?_
    rotate_left
    · intro w hSw; (try dsimp only at hSw); go_simp <;> with_reducible rfl
    try simp only [Act.put, List.setIfInBounds_toArray, List.set_cons_zero, List.set_cons_succ]
    refine wpAnyH_take (i := 32) (oi := { dst := some 72, op := Op.move (Operand.tmp 71), type := 4, pos := "own.go:39", after := #[{ on := 31, ground := Ground.data }, { on := 30, ground := Ground.chain }, { on := 30, ground := Ground.guard }], guard := some (30, false) }) (v := ?_) rfl (by kernel_rfl) (by kernel_rfl) (by kernel_rfl) (fun _ _ _ h => h) (Or.inl ⟨by rfl, ?_⟩) hH ?_
    rotate_left
    · intro w hSw; (try dsimp only at hSw); go_simp <;> with_reducible rfl
    try simp only [Act.put, List.setIfInBounds_toArray, List.set_cons_zero, List.set_cons_succ]
    refine wpAnyH_take (i := 33) (oi := { dst := some 73, op := Op.load 28 (Operand.tmp 7), type := 28, pos := "own.go:39", after := #[{ on := 32, ground := Ground.guard }], guard := some (32, true) }) (v := ?_) rfl (by kernel_rfl) (by kernel_rfl) (by kernel_rfl) (fun _ _ _ h => h) (Or.inl ⟨by rfl, ?_⟩) hH ?_
    rotate_left
    · intro w hSw; (try dsimp only at hSw); go_simp <;> with_reducible rfl
    try simp only [Act.put, List.setIfInBounds_toArray, List.set_cons_zero, List.set_cons_succ]
    refine wpAnyH_ready (rs := [34]) (by kernel_rfl) (by simp) ?_
    refine AllReadyH.cons (o := { dst := some 74, op := Op.call { callee := Callee.value (Operand.func 17), args := #[Operand.tmp 73], argTypes := #[28] }, type := 36, pos := "own.go:39", after := #[{ on := 33, ground := Ground.data }, { on := 32, ground := Ground.chain }, { on := 32, ground := Ground.guard }], guard := some (32, true) }) rfl (fun K hK => ?_) AllReadyH.nil
    go_simp
    go_at_call 17
    refine (CK.out _).mono ?_
    rintro e w9 ⟨rfl, hb9⟩
    clear a0 a1 a2 a3 az b0 b1 b2 b3 bz c0 c1 c2 c3 cz d0 d1 d2 d3 dz
    replace hP := Aw.next (by first | exact hP | exact hP.alloc _ | exact hP.draw _ | exact (hP.draw _).alloc _ | exact (hP.alloc _).draw _ | exact hP.draw1 | exact hP.draw1.alloc _ | exact (hP.alloc _).draw1) hb9
    replace hQ := Aw.next (by first | exact hQ | exact hQ.alloc _ | exact hQ.draw _ | exact (hQ.draw _).alloc _ | exact (hQ.alloc _).draw _ | exact hQ.draw1 | exact hQ.draw1.alloc _ | exact (hQ.alloc _).draw1) hb9
    replace hC := Aw.next (by first | exact hC | exact hC.alloc _ | exact hC.draw _ | exact (hC.draw _).alloc _ | exact (hC.alloc _).draw _ | exact hC.draw1 | exact hC.draw1.alloc _ | exact (hC.alloc _).draw1) hb9
    replace hD := Aw.next (by first | exact hD | exact hD.alloc _ | exact hD.draw _ | exact (hD.draw _).alloc _ | exact (hD.alloc _).draw _ | exact hD.draw1 | exact hD.draw1.alloc _ | exact (hD.alloc _).draw1) hb9
    obtain ⟨a0, a1, a2, a3⟩ := hP.cells
    have az := hP.2.2.1
    obtain ⟨b0, b1, b2, b3⟩ := hQ.cells
    have bz := hQ.2.2.1
    obtain ⟨c0, c1, c2, c3⟩ := hC.cells
    have cz := hC.2.2.1
    obtain ⟨d0, d1, d2, d3⟩ := hD.cells
    have dz := hD.2.2.1
    clear hb9
    go_simp
    refine hK.out _ _ ?_ (fun hH => ?_)
    · exact ⟨a0, a1, a2, a3, b0, b1, b2, b3, c0, c1, c2, c3, d0, d1, d2, d3⟩
    clear hK K
    try simp only [Act.put, List.setIfInBounds_toArray, List.set_cons_zero, List.set_cons_succ]
    refine wpAnyH_take (i := 35) (oi := { dst := some 75, op := Op.binOp BinOp.neq 36 (Operand.tmp 74) (Operand.const (Value.int IntKind.i64 0)) 36, type := 4, pos := "own.go:39", after := #[{ on := 34, ground := Ground.data }, { on := 32, ground := Ground.guard }], guard := some (32, true) }) (v := ?_) rfl (by kernel_rfl) (by kernel_rfl) (by kernel_rfl) (fun _ _ _ h => h) (Or.inl ⟨by rfl, ?_⟩) hH ?_
    rotate_left
    · intro w hSw; (try dsimp only at hSw); go_simp <;> with_reducible rfl
    try simp only [Act.put, List.setIfInBounds_toArray, List.set_cons_zero, List.set_cons_succ]
    refine wpAnyH_take (i := 36) (oi := { dst := some 76, op := Op.pick (Operand.tmp 72) (Operand.tmp 75) (Operand.const (Value.bool false)), type := 4, pos := "own.go:39", after := #[{ on := 32, ground := Ground.data }, { on := 35, ground := Ground.data }, { on := 30, ground := Ground.guard }], guard := some (30, false) }) (v := ?_) rfl (by kernel_rfl) (by kernel_rfl) (by kernel_rfl) (fun _ _ _ h => h) (Or.inl ⟨by rfl, ?_⟩) hH ?_
    rotate_left
    · intro w hSw; (try dsimp only at hSw); go_simp <;> with_reducible rfl
    try simp only [Act.put, List.setIfInBounds_toArray, List.set_cons_zero, List.set_cons_succ]
    refine wpAnyH_take (i := 37) (oi := { dst := some 77, op := Op.pick (Operand.tmp 70) (Operand.const (Value.bool true)) (Operand.tmp 76), type := 4, pos := "own.go:39", after := #[{ on := 30, ground := Ground.data }, { on := 36, ground := Ground.data }], guard := none }) (v := ?_) rfl (by kernel_rfl) (by kernel_rfl) (by kernel_rfl) (fun _ _ _ h => h) (Or.inl ⟨by rfl, ?_⟩) hH ?_
    rotate_left
    · intro w hSw; (try dsimp only at hSw); go_simp <;> with_reducible rfl
    try simp only [Act.put, List.setIfInBounds_toArray, List.set_cons_zero, List.set_cons_succ]
    refine wpAnyH_done (by kernel_rfl) ?_ _
    go_upto_region 10 with (go_at_call 14; ((with_reducible refine (M1.out _).mono ?_)); rintro e w9 ⟨rfl, hb9⟩; clear a0 a1 a2 a3 az b0 b1 b2 b3 bz c0 c1 c2 c3 cz d0 d1 d2 d3 dz; replace hP := Aw.next (by first | exact hP | exact hP.alloc _ | exact hP.draw _ | exact (hP.draw _).alloc _ | exact (hP.alloc _).draw _ | exact hP.draw1 | exact hP.draw1.alloc _ | exact (hP.alloc _).draw1) hb9; replace hQ := Aw.next (by first | exact hQ | exact hQ.alloc _ | exact hQ.draw _ | exact (hQ.draw _).alloc _ | exact (hQ.alloc _).draw _ | exact hQ.draw1 | exact hQ.draw1.alloc _ | exact (hQ.alloc _).draw1) hb9; replace hC := Aw.next (by first | exact hC | exact hC.alloc _ | exact hC.draw _ | exact (hC.draw _).alloc _ | exact (hC.alloc _).draw _ | exact hC.draw1 | exact hC.draw1.alloc _ | exact (hC.alloc _).draw1) hb9; replace hD := Aw.next (by first | exact hD | exact hD.alloc _ | exact hD.draw _ | exact (hD.draw _).alloc _ | exact (hD.alloc _).draw _ | exact hD.draw1 | exact hD.draw1.alloc _ | exact (hD.alloc _).draw1) hb9; obtain ⟨a0, a1, a2, a3⟩ := hP.cells; have az := hP.2.2.1; obtain ⟨b0, b1, b2, b3⟩ := hQ.cells; have bz := hQ.2.2.1; obtain ⟨c0, c1, c2, c3⟩ := hC.cells; have cz := hC.2.2.1; obtain ⟨d0, d1, d2, d3⟩ := hD.cells; have dz := hD.2.2.1; clear hb9)
    obtain ⟨W5, hW5⟩ : ∃ W5, W5 = w9.alloc (.cells #[.int .u8 1, .int .i64 n, .int .u64 0, .string ⟨#[]⟩] 28) := ⟨_, rfl⟩
    rw [← hW5]
    have hE : Aw w W5 w9.heap.size 1 n 0 ⟨#[]⟩ := by subst hW5; exact aw_new hP _ _ _ _ _
    replace hP := (show Aw w W5 _ _ _ _ _ by subst hW5; exact hP.alloc _)
    replace hQ := (show Aw w W5 _ _ _ _ _ by subst hW5; exact hQ.alloc _)
    replace hC := (show Aw w W5 _ _ _ _ _ by subst hW5; exact hC.alloc _)
    replace hD := (show Aw w W5 _ _ _ _ _ by subst hW5; exact hD.alloc _)
    clear hW5 az bz cz dz a0 a1 a2 a3 b0 b1 b2 b3 c0 c1 c2 c3 d0 d1 d2 d3
    generalize w9.heap.size = pe at *
    clear w9
    obtain ⟨a0, a1, a2, a3⟩ := hP.cells
    obtain ⟨b0, b1, b2, b3⟩ := hQ.cells
    obtain ⟨c0, c1, c2, c3⟩ := hC.cells
    obtain ⟨d0, d1, d2, d3⟩ := hD.cells
    obtain ⟨e0, e1, e2, e3⟩ := hE.cells
    have az := hP.2.2.1
    have bz := hQ.2.2.1
    have cz := hC.2.2.1
    have dz := hD.2.2.1
    have ez := hE.2.2.1
    go_upto_region 13 with (go_at_call 14; ((with_reducible refine (M2.out _).mono ?_)); rintro e w9 ⟨rfl, hb9⟩; clear a0 a1 a2 a3 az b0 b1 b2 b3 bz c0 c1 c2 c3 cz d0 d1 d2 d3 dz e0 e1 e2 e3 ez; replace hP := Aw.next (by first | exact hP | exact hP.alloc _ | exact hP.draw _ | exact (hP.draw _).alloc _ | exact (hP.alloc _).draw _ | exact hP.draw1 | exact hP.draw1.alloc _ | exact (hP.alloc _).draw1) hb9; replace hQ := Aw.next (by first | exact hQ | exact hQ.alloc _ | exact hQ.draw _ | exact (hQ.draw _).alloc _ | exact (hQ.alloc _).draw _ | exact hQ.draw1 | exact hQ.draw1.alloc _ | exact (hQ.alloc _).draw1) hb9; replace hC := Aw.next (by first | exact hC | exact hC.alloc _ | exact hC.draw _ | exact (hC.draw _).alloc _ | exact (hC.alloc _).draw _ | exact hC.draw1 | exact hC.draw1.alloc _ | exact (hC.alloc _).draw1) hb9; replace hD := Aw.next (by first | exact hD | exact hD.alloc _ | exact hD.draw _ | exact (hD.draw _).alloc _ | exact (hD.alloc _).draw _ | exact hD.draw1 | exact hD.draw1.alloc _ | exact (hD.alloc _).draw1) hb9; replace hE := Aw.next (by first | exact hE | exact hE.alloc _ | exact hE.draw _ | exact (hE.draw _).alloc _ | exact (hE.alloc _).draw _ | exact hE.draw1 | exact hE.draw1.alloc _ | exact (hE.alloc _).draw1) hb9; obtain ⟨a0, a1, a2, a3⟩ := hP.cells; have az := hP.2.2.1; obtain ⟨b0, b1, b2, b3⟩ := hQ.cells; have bz := hQ.2.2.1; obtain ⟨c0, c1, c2, c3⟩ := hC.cells; have cz := hC.2.2.1; obtain ⟨d0, d1, d2, d3⟩ := hD.cells; have dz := hD.2.2.1; obtain ⟨e0, e1, e2, e3⟩ := hE.cells; have ez := hE.2.2.1; clear hb9)
    obtain ⟨W5, hW5⟩ : ∃ W5, W5 = w9.alloc (.cells #[.int .u8 0, .int .i64 0, .int .u64 0, .string ⟨#[]⟩] 28) := ⟨_, rfl⟩
    rw [← hW5]
    have hF : Aw w W5 w9.heap.size 0 0 0 ⟨#[]⟩ := by subst hW5; exact aw_new hP _ _ _ _ _
    replace hP := (show Aw w W5 _ _ _ _ _ by subst hW5; exact hP.alloc _)
    replace hQ := (show Aw w W5 _ _ _ _ _ by subst hW5; exact hQ.alloc _)
    replace hC := (show Aw w W5 _ _ _ _ _ by subst hW5; exact hC.alloc _)
    replace hD := (show Aw w W5 _ _ _ _ _ by subst hW5; exact hD.alloc _)
    replace hE := (show Aw w W5 _ _ _ _ _ by subst hW5; exact hE.alloc _)
    clear hW5 az bz cz dz ez a0 a1 a2 a3 b0 b1 b2 b3 c0 c1 c2 c3 d0 d1 d2 d3 e0 e1 e2 e3
    generalize w9.heap.size = pf at *
    clear w9
    obtain ⟨a0, a1, a2, a3⟩ := hP.cells
    obtain ⟨b0, b1, b2, b3⟩ := hQ.cells
    obtain ⟨c0, c1, c2, c3⟩ := hC.cells
    obtain ⟨d0, d1, d2, d3⟩ := hD.cells
    obtain ⟨e0, e1, e2, e3⟩ := hE.cells
    obtain ⟨f0, f1, f2, f3⟩ := hF.cells
    have az := hP.2.2.1
    have bz := hQ.2.2.1
    have cz := hC.2.2.1
    have dz := hD.2.2.1
    have ez := hE.2.2.1
    have fz := hF.2.2.1
    go_wp2_with (go_at_call 9; ((with_reducible refine (A1.out _).mono ?_)); rintro e w9 ⟨rfl, hb9⟩; clear a0 a1 a2 a3 az b0 b1 b2 b3 bz c0 c1 c2 c3 cz d0 d1 d2 d3 dz e0 e1 e2 e3 ez f0 f1 f2 f3 fz; replace hP := Aw.next (by first | exact hP | exact hP.alloc _ | exact hP.draw _ | exact (hP.draw _).alloc _ | exact (hP.alloc _).draw _ | exact hP.draw1 | exact hP.draw1.alloc _ | exact (hP.alloc _).draw1) hb9; replace hQ := Aw.next (by first | exact hQ | exact hQ.alloc _ | exact hQ.draw _ | exact (hQ.draw _).alloc _ | exact (hQ.alloc _).draw _ | exact hQ.draw1 | exact hQ.draw1.alloc _ | exact (hQ.alloc _).draw1) hb9; replace hC := Aw.next (by first | exact hC | exact hC.alloc _ | exact hC.draw _ | exact (hC.draw _).alloc _ | exact (hC.alloc _).draw _ | exact hC.draw1 | exact hC.draw1.alloc _ | exact (hC.alloc _).draw1) hb9; replace hD := Aw.next (by first | exact hD | exact hD.alloc _ | exact hD.draw _ | exact (hD.draw _).alloc _ | exact (hD.alloc _).draw _ | exact hD.draw1 | exact hD.draw1.alloc _ | exact (hD.alloc _).draw1) hb9; replace hE := Aw.next (by first | exact hE | exact hE.alloc _ | exact hE.draw _ | exact (hE.draw _).alloc _ | exact (hE.alloc _).draw _ | exact hE.draw1 | exact hE.draw1.alloc _ | exact (hE.alloc _).draw1) hb9; replace hF := Aw.next (by first | exact hF | exact hF.alloc _ | exact hF.draw _ | exact (hF.draw _).alloc _ | exact (hF.alloc _).draw _ | exact hF.draw1 | exact hF.draw1.alloc _ | exact (hF.alloc _).draw1) hb9; obtain ⟨a0, a1, a2, a3⟩ := hP.cells; have az := hP.2.2.1; obtain ⟨b0, b1, b2, b3⟩ := hQ.cells; have bz := hQ.2.2.1; obtain ⟨c0, c1, c2, c3⟩ := hC.cells; have cz := hC.2.2.1; obtain ⟨d0, d1, d2, d3⟩ := hD.cells; have dz := hD.2.2.1; obtain ⟨e0, e1, e2, e3⟩ := hE.cells; have ez := hE.2.2.1; obtain ⟨f0, f1, f2, f3⟩ := hF.cells; have fz := hF.2.2.1; clear hb9)
    go_ret
    exact ⟨rfl, hP.1⟩
set_option maxRecDepth 100000 in
set_option maxHeartbeats 2000000 in
theorem back_ow (n : Int) (n' : Int) (u' : Nat) (s' : ByteArray) (hn0 : -9223372036854775808 ≤ n ∧ n ≤ 9223372036854775807) (hc' : Came n' u' s') (g2 : ¬ (100 : Int) < s'.size) (h : checkN 1 n 0 ⟨#[]⟩ = 0) (h' : checkN 1 n' u' s' = 0) (o1 : wholeOk n n' = false) (o2 : wholeOk n (-n') = true) (w : World) : Calls Try.prog 5 #[V 1 n 0 ⟨#[]⟩, V 1 n' u' s'] w fun e w' => e = .returned (.bool true) ∧ Below w.heap.size w w' := by
  have hc : Came n 0 ⟨#[]⟩ := ⟨hn0, by omega, by decide⟩
  have g1 : ¬ (100 : Int) < (⟨#[]⟩ : ByteArray).size := by decide
  obtain ⟨hn, hu, hs⟩ := hc
  obtain ⟨hn', hu', hs'⟩ := hc'
  have S1 := Lib.hid fun w => small_v 1 n 0 ⟨#[]⟩ hs w
  have S2 := Lib.hid fun w => small_v 1 n' u' s' hs' w
  have A1 := Lib.hid fun w => awake_ok w
  have sd1 := small_dec ⟨#[]⟩
  have sd2 := small_dec s'
  rw [decide_eq_false g1] at sd1
  rw [decide_eq_false g2] at sd2
  clear g1 g2
  have g3 := check_num_bounds h
  have g4 := check_num_bounds h'
  have hsum : sumB 1 n 0 ⟨#[]⟩ 1 n' u' s' = true := by unfold sumB; rw [h, h']; rfl
  have ep : plusV 1 n 0 ⟨#[]⟩ 1 n' u' s' = .tuple #[V 0 0 0 ⟨#[]⟩, .bool false] := by unfold plusV; rw [if_pos hsum, if_pos ⟨rfl, rfl⟩]; exact wsum_of.2 o1
  have eq : plusV 1 n' u' s' 1 n 0 ⟨#[]⟩ = .tuple #[V 0 0 0 ⟨#[]⟩, .bool false] := by rw [plus_swap hu hu']; exact ep
  have em : minusV 1 n 0 ⟨#[]⟩ 1 n' u' s' = .tuple #[V 1 (n + -n') 0 ⟨#[]⟩, .bool true] := by unfold minusV; rw [if_pos hsum, if_pos ⟨rfl, rfl⟩]; exact wsum_of.1 o2
  have P1 : Hid (∀ w, Calls Try.prog 12 #[V 1 n 0 ⟨#[]⟩, V 1 n' u' s'] w fun e w' => e = .returned (.tuple #[V 0 0 0 ⟨#[]⟩, .bool false]) ∧ Below w.heap.size w w') := Lib.hid fun w => by rw [← ep]; exact plus_ok 1 n 0 ⟨#[]⟩ 1 n' u' s' hu hu' w
  have P2 : Hid (∀ w, Calls Try.prog 12 #[V 1 n' u' s', V 1 n 0 ⟨#[]⟩] w fun e w' => e = .returned (.tuple #[V 0 0 0 ⟨#[]⟩, .bool false]) ∧ Below w.heap.size w w') := Lib.hid fun w => by rw [← eq]; exact plus_ok 1 n' u' s' 1 n 0 ⟨#[]⟩ hu' hu w
  have M2 : Hid (∀ w, Calls Try.prog 14 #[V 1 n 0 ⟨#[]⟩, V 1 n' u' s'] w fun e w' => e = .returned (.tuple #[V 1 (n + -n') 0 ⟨#[]⟩, .bool true]) ∧ Below w.heap.size w w') := Lib.hid fun w => by rw [← em]; exact minus_ok 1 n 0 ⟨#[]⟩ 1 n' u' s' hu hu' w
  have P3 : Hid (∀ w, Calls Try.prog 12 #[V 1 (n + -n') 0 ⟨#[]⟩, V 1 n' u' s'] w fun e w' => e = .returned (.tuple #[V 1 n 0 ⟨#[]⟩, .bool true]) ∧ Below w.heap.size w w') := Lib.hid fun w => by rw [← plus_back g3 h' (whole_bounds o2)]; exact plus_ok 1 (n + -n') 0 ⟨#[]⟩ 1 n' u' s' (by omega) hu' w
  clear ep eq em h h' hsum o1 o2 g3 g4
  have E1 := fun k n u k' n' u' s s' w => eql_V k n u k' n' u' s s' w
  have E2 := fun k n u k' n' u' s s' w => eq_V k n u k' n' u' s s' w
  have hv := fun w => build_void w
  clear hn hn' hs hs' hu hu'
  unfold V at *
  simp only [Int.natCast_zero] at *
  obtain ⟨hA, hB⟩ := two_aw w 24 24 1 n 0 ⟨#[]⟩ 1 n' u' s'
  obtain ⟨a0, a1, a2, a3⟩ := hA.cells
  obtain ⟨b0, b1, b2, b3⟩ := hB.cells
  go_enter Try.func5, Try.ntmps5
  go_upto_region 3 with (first | (go_at_call 8; ((with_reducible refine (S1.out _).mono ?_)); rintro e w9 ⟨rfl, hb9⟩; clear a0 a1 a2 a3 b0 b1 b2 b3; replace hA := Aw.next (by first | exact hA | exact hA.alloc _ | exact hA.draw _ | exact (hA.draw _).alloc _ | exact (hA.alloc _).draw _ | exact hA.draw1 | exact hA.draw1.alloc _ | exact (hA.alloc _).draw1) hb9; replace hB := Aw.next (by first | exact hB | exact hB.alloc _ | exact hB.draw _ | exact (hB.draw _).alloc _ | exact (hB.alloc _).draw _ | exact hB.draw1 | exact hB.draw1.alloc _ | exact (hB.alloc _).draw1) hb9; obtain ⟨a0, a1, a2, a3⟩ := hA.cells; obtain ⟨b0, b1, b2, b3⟩ := hB.cells; clear hb9) | (go_at_call 8; ((with_reducible refine (S2.out _).mono ?_)); rintro e w9 ⟨rfl, hb9⟩; clear a0 a1 a2 a3 b0 b1 b2 b3; replace hA := Aw.next (by first | exact hA | exact hA.alloc _ | exact hA.draw _ | exact (hA.draw _).alloc _ | exact (hA.alloc _).draw _ | exact hA.draw1 | exact hA.draw1.alloc _ | exact (hA.alloc _).draw1) hb9; replace hB := Aw.next (by first | exact hB | exact hB.alloc _ | exact hB.draw _ | exact (hB.draw _).alloc _ | exact (hB.alloc _).draw _ | exact hB.draw1 | exact hB.draw1.alloc _ | exact (hB.alloc _).draw1) hb9; obtain ⟨a0, a1, a2, a3⟩ := hA.cells; obtain ⟨b0, b1, b2, b3⟩ := hB.cells; clear hb9) | (go_at_call 9; ((with_reducible refine (A1.out _).mono ?_)); rintro e w9 ⟨rfl, hb9⟩; clear a0 a1 a2 a3 b0 b1 b2 b3; replace hA := Aw.next (by first | exact hA | exact hA.alloc _ | exact hA.draw _ | exact (hA.draw _).alloc _ | exact (hA.alloc _).draw _ | exact hA.draw1 | exact hA.draw1.alloc _ | exact (hA.alloc _).draw1) hb9; replace hB := Aw.next (by first | exact hB | exact hB.alloc _ | exact hB.draw _ | exact (hB.draw _).alloc _ | exact (hB.alloc _).draw _ | exact hB.draw1 | exact hB.draw1.alloc _ | exact (hB.alloc _).draw1) hb9; obtain ⟨a0, a1, a2, a3⟩ := hA.cells; obtain ⟨b0, b1, b2, b3⟩ := hB.cells; clear hb9))
  have az := hA.2.2.1
  have bz := hB.2.2.1
  go_cut [5, 6] (fun x y wx => CutTwo w 1 n 0 ⟨#[]⟩ 1 n' u' s' x y wx)
  case first =>
    go_region
    all_goals go_wp2_with fail
    all_goals go_meet
    all_goals first | exact cutTwo_a hA _ _ _ _ _ _ _ _ | exact cutTwo_b hA _ _ _ _ _ _ _ _
  case rest =>
    unfold CutTwo at hcut
    obtain ⟨pp, pq, rfl, rfl, hP, hQ⟩ := hcut
    clear hA hB a0 a1 a2 a3 b0 b1 b2 b3 az bz
    obtain ⟨a0, a1, a2, a3⟩ := hP.cells
    obtain ⟨b0, b1, b2, b3⟩ := hQ.cells
    have az := hP.2.2.1
    have bz := hQ.2.2.1
    go_upto_region 5 with (go_at_call 12; ((with_reducible refine (P1.out _).mono ?_)); rintro e w9 ⟨rfl, hb9⟩; clear a0 a1 a2 a3 az b0 b1 b2 b3 bz; replace hP := Aw.next (by first | exact hP | exact hP.alloc _ | exact hP.draw _ | exact (hP.draw _).alloc _ | exact (hP.alloc _).draw _ | exact hP.draw1 | exact hP.draw1.alloc _ | exact (hP.alloc _).draw1) hb9; replace hQ := Aw.next (by first | exact hQ | exact hQ.alloc _ | exact hQ.draw _ | exact (hQ.draw _).alloc _ | exact (hQ.alloc _).draw _ | exact hQ.draw1 | exact hQ.draw1.alloc _ | exact (hQ.alloc _).draw1) hb9; obtain ⟨a0, a1, a2, a3⟩ := hP.cells; have az := hP.2.2.1; obtain ⟨b0, b1, b2, b3⟩ := hQ.cells; have bz := hQ.2.2.1; clear hb9)
    obtain ⟨W5, hW5⟩ : ∃ W5, W5 = w9.alloc (.cells #[.int .u8 0, .int .i64 0, .int .u64 0, .string ⟨#[]⟩] 28) := ⟨_, rfl⟩
    rw [← hW5]
    have hC : Aw w W5 w9.heap.size 0 0 0 ⟨#[]⟩ := by subst hW5; exact aw_new hP _ _ _ _ _
    replace hP := (show Aw w W5 _ _ _ _ _ by subst hW5; exact hP.alloc _)
    replace hQ := (show Aw w W5 _ _ _ _ _ by subst hW5; exact hQ.alloc _)
    clear hW5 az bz a0 a1 a2 a3 b0 b1 b2 b3
    generalize w9.heap.size = pc at *
    clear w9
    obtain ⟨a0, a1, a2, a3⟩ := hP.cells
    obtain ⟨b0, b1, b2, b3⟩ := hQ.cells
    obtain ⟨c0, c1, c2, c3⟩ := hC.cells
    have az := hP.2.2.1
    have bz := hQ.2.2.1
    have cz := hC.2.2.1
    go_upto_region 6 with (go_at_call 12; ((with_reducible refine (P2.out _).mono ?_)); rintro e w9 ⟨rfl, hb9⟩; clear a0 a1 a2 a3 az b0 b1 b2 b3 bz c0 c1 c2 c3 cz; replace hP := Aw.next (by first | exact hP | exact hP.alloc _ | exact hP.draw _ | exact (hP.draw _).alloc _ | exact (hP.alloc _).draw _ | exact hP.draw1 | exact hP.draw1.alloc _ | exact (hP.alloc _).draw1) hb9; replace hQ := Aw.next (by first | exact hQ | exact hQ.alloc _ | exact hQ.draw _ | exact (hQ.draw _).alloc _ | exact (hQ.alloc _).draw _ | exact hQ.draw1 | exact hQ.draw1.alloc _ | exact (hQ.alloc _).draw1) hb9; replace hC := Aw.next (by first | exact hC | exact hC.alloc _ | exact hC.draw _ | exact (hC.draw _).alloc _ | exact (hC.alloc _).draw _ | exact hC.draw1 | exact hC.draw1.alloc _ | exact (hC.alloc _).draw1) hb9; obtain ⟨a0, a1, a2, a3⟩ := hP.cells; have az := hP.2.2.1; obtain ⟨b0, b1, b2, b3⟩ := hQ.cells; have bz := hQ.2.2.1; obtain ⟨c0, c1, c2, c3⟩ := hC.cells; have cz := hC.2.2.1; clear hb9)
    obtain ⟨W5, hW5⟩ : ∃ W5, W5 = w9.alloc (.cells #[.int .u8 0, .int .i64 0, .int .u64 0, .string ⟨#[]⟩] 28) := ⟨_, rfl⟩
    rw [← hW5]
    have hD : Aw w W5 w9.heap.size 0 0 0 ⟨#[]⟩ := by subst hW5; exact aw_new hP _ _ _ _ _
    replace hP := (show Aw w W5 _ _ _ _ _ by subst hW5; exact hP.alloc _)
    replace hQ := (show Aw w W5 _ _ _ _ _ by subst hW5; exact hQ.alloc _)
    replace hC := (show Aw w W5 _ _ _ _ _ by subst hW5; exact hC.alloc _)
    clear hW5 az bz cz a0 a1 a2 a3 b0 b1 b2 b3 c0 c1 c2 c3
    generalize w9.heap.size = pd at *
    clear w9
    obtain ⟨a0, a1, a2, a3⟩ := hP.cells
    obtain ⟨b0, b1, b2, b3⟩ := hQ.cells
    obtain ⟨c0, c1, c2, c3⟩ := hC.cells
    obtain ⟨d0, d1, d2, d3⟩ := hD.cells
    have az := hP.2.2.1
    have bz := hQ.2.2.1
    have cz := hC.2.2.1
    have dz := hD.2.2.1
    refine wp_region_held_drew (S := (fun w' => w'.cell? ⟨pp, 0, none⟩ = some (.int .u8 1) ∧ w'.cell? ⟨pp, 1, none⟩ = some (.int .i64 n) ∧ w'.cell? ⟨pp, 2, none⟩ = some (.int .u64 0) ∧ w'.cell? ⟨pp, 3, none⟩ = some (.string ⟨#[]⟩) ∧ w'.cell? ⟨pq, 0, none⟩ = some (.int .u8 1) ∧ w'.cell? ⟨pq, 1, none⟩ = some (.int .i64 n') ∧ w'.cell? ⟨pq, 2, none⟩ = some (.int .u64 u') ∧ w'.cell? ⟨pq, 3, none⟩ = some (.string s') ∧ w'.cell? ⟨pc, 0, none⟩ = some (.int .u8 0) ∧ w'.cell? ⟨pc, 1, none⟩ = some (.int .i64 0) ∧ w'.cell? ⟨pc, 2, none⟩ = some (.int .u64 0) ∧ w'.cell? ⟨pc, 3, none⟩ = some (.string ⟨#[]⟩) ∧ w'.cell? ⟨pd, 0, none⟩ = some (.int .u8 0) ∧ w'.cell? ⟨pd, 1, none⟩ = some (.int .i64 0) ∧ w'.cell? ⟨pd, 2, none⟩ = some (.int .u64 0) ∧ w'.cell? ⟨pd, 3, none⟩ = some (.string ⟨#[]⟩))) (by kernel_rfl) ?_ (fun hH => ?_)
    · exact ⟨a0, a1, a2, a3, b0, b1, b2, b3, c0, c1, c2, c3, d0, d1, d2, d3⟩
    refine wpAnyH_take (i := 0) (oi := { dst := some 40, op := Op.load 28 (Operand.tmp 7), type := 28, pos := "own.go:39", after := #[], guard := none }) (v := ?_) rfl (by kernel_rfl) (by kernel_rfl) (by kernel_rfl) (fun _ _ _ h => h) (Or.inl ⟨by rfl, ?_⟩) hH ?_
    rotate_left
    · intro w hSw; (try dsimp only at hSw); go_simp <;> with_reducible rfl
    try simp only [Act.put, List.setIfInBounds_toArray, List.set_cons_zero, List.set_cons_succ]
    refine wpAnyH_take (i := 1) (oi := { dst := some 41, op := Op.load 28 (Operand.tmp 9), type := 28, pos := "own.go:39", after := #[], guard := none }) (v := ?_) rfl (by kernel_rfl) (by kernel_rfl) (by kernel_rfl) (fun _ _ _ h => h) (Or.inl ⟨by rfl, ?_⟩) hH ?_
    rotate_left
    · intro w hSw; (try dsimp only at hSw); go_simp <;> with_reducible rfl
    try simp only [Act.put, List.setIfInBounds_toArray, List.set_cons_zero, List.set_cons_succ]
    refine wpAnyH_take (i := 2) (oi := { dst := some 42, op := Op.binOp BinOp.neq 28 (Operand.tmp 40) (Operand.tmp 41) 28, type := 4, pos := "own.go:39", after := #[{ on := 0, ground := Ground.data }, { on := 1, ground := Ground.data }], guard := none }) (v := ?_) rfl (by kernel_rfl) (by kernel_rfl) (by kernel_rfl) (fun _ _ _ h => h) (Or.inl ⟨by rfl, ?_⟩) hH ?_
    rotate_left
    · intro w hSw; (try dsimp only at hSw); go_simp <;> with_reducible rfl
    try simp only [Act.put, List.setIfInBounds_toArray, List.set_cons_zero, List.set_cons_succ]
    refine wpAnyH_take (i := 3) (oi := { dst := some 43, op := Op.move (Operand.tmp 42), type := 4, pos := "own.go:39", after := #[{ on := 2, ground := Ground.data }], guard := none }) (v := ?_) rfl (by kernel_rfl) (by kernel_rfl) (by kernel_rfl) (fun _ _ _ h => h) (Or.inl ⟨by rfl, ?_⟩) hH ?_
    rotate_left
    · intro w hSw; (try dsimp only at hSw); go_simp <;> with_reducible rfl
    try simp only [Act.put, List.setIfInBounds_toArray, List.set_cons_zero, List.set_cons_succ]
    refine wpAnyH_take (i := 4) (oi := { dst := some 44, op := Op.move (Operand.tmp 8), type := 4, pos := "own.go:39", after := #[{ on := 3, ground := Ground.guard }], guard := some (3, false) }) (v := ?_) rfl (by kernel_rfl) (by kernel_rfl) (by kernel_rfl) (fun _ _ _ h => h) (Or.inl ⟨by rfl, ?_⟩) hH ?_
    rotate_left
    · intro w hSw; (try dsimp only at hSw); go_simp <;> with_reducible rfl
    try simp only [Act.put, List.setIfInBounds_toArray, List.set_cons_zero, List.set_cons_succ]
    refine wpAnyH_take (i := 5) (oi := { dst := some 45, op := Op.move (Operand.tmp 10), type := 4, pos := "own.go:39", after := #[{ on := 3, ground := Ground.guard }], guard := some (3, false) }) (v := ?_) rfl (by kernel_rfl) (by kernel_rfl) (by kernel_rfl) (fun _ _ _ h => h) (Or.inl ⟨by rfl, ?_⟩) hH ?_
    rotate_left
    · intro w hSw; (try dsimp only at hSw); go_simp <;> with_reducible rfl
    try simp only [Act.put, List.setIfInBounds_toArray, List.set_cons_zero, List.set_cons_succ]
    refine wpAnyH_take (i := 6) (oi := { dst := some 46, op := Op.binOp BinOp.neq 4 (Operand.tmp 44) (Operand.tmp 45) 4, type := 4, pos := "own.go:39", after := #[{ on := 4, ground := Ground.data }, { on := 5, ground := Ground.data }, { on := 3, ground := Ground.guard }], guard := some (3, false) }) (v := ?_) rfl (by kernel_rfl) (by kernel_rfl) (by kernel_rfl) (fun _ _ _ h => h) (Or.inl ⟨by rfl, ?_⟩) hH ?_
    rotate_left
    · intro w hSw; (try dsimp only at hSw); go_simp <;> with_reducible rfl
    try simp only [Act.put, List.setIfInBounds_toArray, List.set_cons_zero, List.set_cons_succ]
    refine wpAnyH_take (i := 7) (oi := { dst := some 47, op := Op.pick (Operand.tmp 43) (Operand.const (Value.bool true)) (Operand.tmp 46), type := 4, pos := "own.go:39", after := #[{ on := 3, ground := Ground.data }, { on := 6, ground := Ground.data }], guard := none }) (v := ?_) rfl (by kernel_rfl) (by kernel_rfl) (by kernel_rfl) (fun _ _ _ h => h) (Or.inl ⟨by rfl, ?_⟩) hH ?_
    rotate_left
    · intro w hSw; (try dsimp only at hSw); go_simp <;> with_reducible rfl
    try simp only [Act.put, List.setIfInBounds_toArray, List.set_cons_zero, List.set_cons_succ]
    refine wpAnyH_take (i := 8) (oi := { dst := some 48, op := Op.move (Operand.tmp 47), type := 4, pos := "own.go:39", after := #[{ on := 7, ground := Ground.data }, { on := 3, ground := Ground.chain }], guard := none }) (v := ?_) rfl (by kernel_rfl) (by kernel_rfl) (by kernel_rfl) (fun _ _ _ h => h) (Or.inl ⟨by rfl, ?_⟩) hH ?_
    rotate_left
    · intro w hSw; (try dsimp only at hSw); go_simp <;> with_reducible rfl
    try simp only [Act.put, List.setIfInBounds_toArray, List.set_cons_zero, List.set_cons_succ]
    refine wpAnyH_take (i := 9) (oi := { dst := some 49, op := Op.move (Operand.tmp 8), type := 4, pos := "own.go:39", after := #[{ on := 8, ground := Ground.guard }], guard := some (8, false) }) (v := ?_) rfl (by kernel_rfl) (by kernel_rfl) (by kernel_rfl) (fun _ _ _ h => h) (Or.inl ⟨by rfl, ?_⟩) hH ?_
    rotate_left
    · intro w hSw; (try dsimp only at hSw); go_simp <;> with_reducible rfl
    try simp only [Act.put, List.setIfInBounds_toArray, List.set_cons_zero, List.set_cons_succ]
    refine wpAnyH_take (i := 10) (oi := { dst := some 50, op := Op.move (Operand.tmp 49), type := 4, pos := "own.go:39", after := #[{ on := 9, ground := Ground.data }, { on := 8, ground := Ground.chain }, { on := 8, ground := Ground.guard }], guard := some (8, false) }) (v := ?_) rfl (by kernel_rfl) (by kernel_rfl) (by kernel_rfl) (fun _ _ _ h => h) (Or.inl ⟨by rfl, ?_⟩) hH ?_
    rotate_left
    · intro w hSw; (try dsimp only at hSw); go_simp <;> with_reducible rfl
    try simp only [Act.put, List.setIfInBounds_toArray, List.set_cons_zero, List.set_cons_succ]
    refine wpAnyH_take (i := 11) (oi := { dst := some 51, op := Op.fieldAddr 28 (Operand.tmp 7) 0, type := 0, pos := "own.go:39", after := #[{ on := 10, ground := Ground.guard }], guard := some (10, true) }) (v := undef) rfl (by kernel_rfl) (by kernel_rfl) (by kernel_rfl) (fun _ _ _ h => h) (Or.inr ⟨by rfl, rfl⟩) hH ?_
    try simp only [Act.put, List.setIfInBounds_toArray, List.set_cons_zero, List.set_cons_succ]
    refine wpAnyH_take (i := 12) (oi := { dst := some 52, op := Op.load 5 (Operand.tmp 51), type := 5, pos := "own.go:39", after := #[{ on := 11, ground := Ground.data }, { on := 10, ground := Ground.guard }], guard := some (10, true) }) (v := undef) rfl (by kernel_rfl) (by kernel_rfl) (by kernel_rfl) (fun _ _ _ h => h) (Or.inr ⟨by rfl, rfl⟩) hH ?_
    try simp only [Act.put, List.setIfInBounds_toArray, List.set_cons_zero, List.set_cons_succ]
    refine wpAnyH_take (i := 13) (oi := { dst := some 53, op := Op.fieldAddr 28 (Operand.tmp 5) 0, type := 0, pos := "own.go:39", after := #[{ on := 10, ground := Ground.guard }], guard := some (10, true) }) (v := undef) rfl (by kernel_rfl) (by kernel_rfl) (by kernel_rfl) (fun _ _ _ h => h) (Or.inr ⟨by rfl, rfl⟩) hH ?_
    try simp only [Act.put, List.setIfInBounds_toArray, List.set_cons_zero, List.set_cons_succ]
    refine wpAnyH_take (i := 14) (oi := { dst := some 54, op := Op.load 5 (Operand.tmp 53), type := 5, pos := "own.go:39", after := #[{ on := 13, ground := Ground.data }, { on := 10, ground := Ground.guard }], guard := some (10, true) }) (v := undef) rfl (by kernel_rfl) (by kernel_rfl) (by kernel_rfl) (fun _ _ _ h => h) (Or.inr ⟨by rfl, rfl⟩) hH ?_
    try simp only [Act.put, List.setIfInBounds_toArray, List.set_cons_zero, List.set_cons_succ]
    refine wpAnyH_take (i := 15) (oi := { dst := some 55, op := Op.fieldAddr 28 (Operand.tmp 6) 0, type := 0, pos := "own.go:39", after := #[{ on := 10, ground := Ground.guard }], guard := some (10, true) }) (v := undef) rfl (by kernel_rfl) (by kernel_rfl) (by kernel_rfl) (fun _ _ _ h => h) (Or.inr ⟨by rfl, rfl⟩) hH ?_
    try simp only [Act.put, List.setIfInBounds_toArray, List.set_cons_zero, List.set_cons_succ]
    refine wpAnyH_take (i := 16) (oi := { dst := some 56, op := Op.load 5 (Operand.tmp 55), type := 5, pos := "own.go:39", after := #[{ on := 15, ground := Ground.data }, { on := 10, ground := Ground.guard }], guard := some (10, true) }) (v := undef) rfl (by kernel_rfl) (by kernel_rfl) (by kernel_rfl) (fun _ _ _ h => h) (Or.inr ⟨by rfl, rfl⟩) hH ?_
    try simp only [Act.put, List.setIfInBounds_toArray, List.set_cons_zero, List.set_cons_succ]
    refine wpAnyH_take (i := 17) (oi := { dst := some 57, op := Op.call { callee := Callee.value (Operand.func 16), args := #[Operand.tmp 54, Operand.tmp 56], argTypes := #[5, 5] }, type := 5, pos := "own.go:39", after := #[{ on := 14, ground := Ground.data }, { on := 16, ground := Ground.data }, { on := 10, ground := Ground.chain }, { on := 10, ground := Ground.guard }], guard := some (10, true) }) (v := undef) rfl (by kernel_rfl) (by kernel_rfl) (by kernel_rfl) (fun _ _ _ h => h) (Or.inr ⟨by rfl, rfl⟩) hH ?_
    try simp only [Act.put, List.setIfInBounds_toArray, List.set_cons_zero, List.set_cons_succ]
    refine wpAnyH_take (i := 18) (oi := { dst := some 58, op := Op.binOp BinOp.neq 5 (Operand.tmp 52) (Operand.tmp 57) 5, type := 4, pos := "own.go:39", after := #[{ on := 12, ground := Ground.data }, { on := 17, ground := Ground.data }, { on := 10, ground := Ground.guard }], guard := some (10, true) }) (v := undef) rfl (by kernel_rfl) (by kernel_rfl) (by kernel_rfl) (fun _ _ _ h => h) (Or.inr ⟨by rfl, rfl⟩) hH ?_
    try simp only [Act.put, List.setIfInBounds_toArray, List.set_cons_zero, List.set_cons_succ]
    refine wpAnyH_take (i := 19) (oi := { dst := some 59, op := Op.pick (Operand.tmp 50) (Operand.tmp 58) (Operand.const (Value.bool false)), type := 4, pos := "own.go:39", after := #[{ on := 10, ground := Ground.data }, { on := 18, ground := Ground.data }, { on := 8, ground := Ground.guard }], guard := some (8, false) }) (v := ?_) rfl (by kernel_rfl) (by kernel_rfl) (by kernel_rfl) (fun _ _ _ h => h) (Or.inl ⟨by rfl, ?_⟩) hH ?_
    rotate_left
    · intro w hSw; (try dsimp only at hSw); go_simp <;> with_reducible rfl
    try simp only [Act.put, List.setIfInBounds_toArray, List.set_cons_zero, List.set_cons_succ]
    refine wpAnyH_take (i := 20) (oi := { dst := some 60, op := Op.pick (Operand.tmp 48) (Operand.const (Value.bool true)) (Operand.tmp 59), type := 4, pos := "own.go:39", after := #[{ on := 8, ground := Ground.data }, { on := 19, ground := Ground.data }], guard := none }) (v := ?_) rfl (by kernel_rfl) (by kernel_rfl) (by kernel_rfl) (fun _ _ _ h => h) (Or.inl ⟨by rfl, ?_⟩) hH ?_
    rotate_left
    · intro w hSw; (try dsimp only at hSw); go_simp <;> with_reducible rfl
    try simp only [Act.put, List.setIfInBounds_toArray, List.set_cons_zero, List.set_cons_succ]
    refine wpAnyH_take (i := 21) (oi := { dst := some 61, op := Op.move (Operand.tmp 60), type := 4, pos := "own.go:39", after := #[{ on := 20, ground := Ground.data }, { on := 17, ground := Ground.chain }], guard := none }) (v := ?_) rfl (by kernel_rfl) (by kernel_rfl) (by kernel_rfl) (fun _ _ _ h => h) (Or.inl ⟨by rfl, ?_⟩) hH ?_
    rotate_left
    · intro w hSw; (try dsimp only at hSw); go_simp <;> with_reducible rfl
    try simp only [Act.put, List.setIfInBounds_toArray, List.set_cons_zero, List.set_cons_succ]
    refine wpAnyH_take (i := 22) (oi := { dst := some 62, op := Op.move (Operand.tmp 8), type := 4, pos := "own.go:39", after := #[{ on := 21, ground := Ground.guard }], guard := some (21, false) }) (v := ?_) rfl (by kernel_rfl) (by kernel_rfl) (by kernel_rfl) (fun _ _ _ h => h) (Or.inl ⟨by rfl, ?_⟩) hH ?_
    rotate_left
    · intro w hSw; (try dsimp only at hSw); go_simp <;> with_reducible rfl
    try simp only [Act.put, List.setIfInBounds_toArray, List.set_cons_zero, List.set_cons_succ]
    refine wpAnyH_take (i := 23) (oi := { dst := some 63, op := Op.unOp UnOp.not 4 (Operand.tmp 62), type := 4, pos := "own.go:39", after := #[{ on := 22, ground := Ground.data }, { on := 21, ground := Ground.guard }], guard := some (21, false) }) (v := ?_) rfl (by kernel_rfl) (by kernel_rfl) (by kernel_rfl) (fun _ _ _ h => h) (Or.inl ⟨by rfl, ?_⟩) hH ?_
    rotate_left
    · intro w hSw; (try dsimp only at hSw); go_simp <;> with_reducible rfl
    try simp only [Act.put, List.setIfInBounds_toArray, List.set_cons_zero, List.set_cons_succ]
    refine wpAnyH_take (i := 24) (oi := { dst := some 64, op := Op.move (Operand.tmp 63), type := 4, pos := "own.go:39", after := #[{ on := 23, ground := Ground.data }, { on := 21, ground := Ground.chain }, { on := 21, ground := Ground.guard }], guard := some (21, false) }) (v := ?_) rfl (by kernel_rfl) (by kernel_rfl) (by kernel_rfl) (fun _ _ _ h => h) (Or.inl ⟨by rfl, ?_⟩) hH ?_
    rotate_left
    · intro w hSw; (try dsimp only at hSw); go_simp <;> with_reducible rfl
    try simp only [Act.put, List.setIfInBounds_toArray, List.set_cons_zero, List.set_cons_succ]
    refine wpAnyH_take (i := 25) (oi := { dst := some 65, op := Op.load 28 (Operand.tmp 7), type := 28, pos := "own.go:39", after := #[{ on := 24, ground := Ground.guard }], guard := some (24, true) }) (v := ?_) rfl (by kernel_rfl) (by kernel_rfl) (by kernel_rfl) (fun _ _ _ h => h) (Or.inl ⟨by rfl, ?_⟩) hH ?_
    rotate_left
    · intro w hSw; (try dsimp only at hSw); go_simp <;> with_reducible rfl
    try simp only [Act.put, List.setIfInBounds_toArray, List.set_cons_zero, List.set_cons_succ]
    refine wpAnyH_take (i := 26) (oi := { dst := some 66, op := Op.build 28 #[], type := 28, pos := "own.go:39", after := #[{ on := 24, ground := Ground.guard }], guard := some (24, true) }) (v := ?_) rfl (by kernel_rfl) (by kernel_rfl) (by kernel_rfl) (fun _ _ _ h => h) (Or.inl ⟨by rfl, ?_⟩) hH ?_
    rotate_left
    · intro w hSw; (try dsimp only at hSw); go_simp <;> with_reducible rfl
    try simp only [Act.put, List.setIfInBounds_toArray, List.set_cons_zero, List.set_cons_succ]
    refine wpAnyH_take (i := 27) (oi := { dst := some 67, op := Op.binOp BinOp.neq 28 (Operand.tmp 65) (Operand.tmp 66) 28, type := 4, pos := "own.go:39", after := #[{ on := 25, ground := Ground.data }, { on := 26, ground := Ground.data }, { on := 24, ground := Ground.guard }], guard := some (24, true) }) (v := ?_) rfl (by kernel_rfl) (by kernel_rfl) (by kernel_rfl) (fun _ _ _ h => h) (Or.inl ⟨by rfl, ?_⟩) hH ?_
    rotate_left
    · intro w hSw; (try dsimp only at hSw); go_simp <;> with_reducible rfl
    try simp only [Act.put, List.setIfInBounds_toArray, List.set_cons_zero, List.set_cons_succ]
    refine wpAnyH_take (i := 28) (oi := { dst := some 68, op := Op.pick (Operand.tmp 64) (Operand.tmp 67) (Operand.const (Value.bool false)), type := 4, pos := "own.go:39", after := #[{ on := 24, ground := Ground.data }, { on := 27, ground := Ground.data }, { on := 21, ground := Ground.guard }], guard := some (21, false) }) (v := ?_) rfl (by kernel_rfl) (by kernel_rfl) (by kernel_rfl) (fun _ _ _ h => h) (Or.inl ⟨by rfl, ?_⟩) hH ?_
    rotate_left
    · intro w hSw; (try dsimp only at hSw); go_simp <;> with_reducible rfl
    try simp only [Act.put, List.setIfInBounds_toArray, List.set_cons_zero, List.set_cons_succ]
    refine wpAnyH_take (i := 29) (oi := { dst := some 69, op := Op.pick (Operand.tmp 61) (Operand.const (Value.bool true)) (Operand.tmp 68), type := 4, pos := "own.go:39", after := #[{ on := 21, ground := Ground.data }, { on := 28, ground := Ground.data }], guard := none }) (v := ?_) rfl (by kernel_rfl) (by kernel_rfl) (by kernel_rfl) (fun _ _ _ h => h) (Or.inl ⟨by rfl, ?_⟩) hH ?_
    rotate_left
    · intro w hSw; (try dsimp only at hSw); go_simp <;> with_reducible rfl
    try simp only [Act.put, List.setIfInBounds_toArray, List.set_cons_zero, List.set_cons_succ]
    refine wpAnyH_take (i := 30) (oi := { dst := some 70, op := Op.move (Operand.tmp 69), type := 4, pos := "own.go:39", after := #[{ on := 29, ground := Ground.data }, { on := 24, ground := Ground.chain }], guard := none }) (v := ?_) rfl (by kernel_rfl) (by kernel_rfl) (by kernel_rfl) (fun _ _ _ h => h) (Or.inl ⟨by rfl, ?_⟩) hH ?_
    rotate_left
    · intro w hSw; (try dsimp only at hSw); go_simp <;> with_reducible rfl
    try simp only [Act.put, List.setIfInBounds_toArray, List.set_cons_zero, List.set_cons_succ]
    refine wpAnyH_take (i := 31) (oi := { dst := some 71, op := Op.move (Operand.tmp 8), type := 4, pos := "own.go:39", after := #[{ on := 30, ground := Ground.guard }], guard := some (30, false) }) (v := ?_) rfl (by kernel_rfl) (by kernel_rfl) (by kernel_rfl) (fun _ _ _ h => h) (Or.inl ⟨by rfl, ?_⟩) hH ?_
    rotate_left
    · intro w hSw; (try dsimp only at hSw); go_simp <;> with_reducible rfl
    try simp only [Act.put, List.setIfInBounds_toArray, List.set_cons_zero, List.set_cons_succ]
    refine wpAnyH_take (i := 32) (oi := { dst := some 72, op := Op.move (Operand.tmp 71), type := 4, pos := "own.go:39", after := #[{ on := 31, ground := Ground.data }, { on := 30, ground := Ground.chain }, { on := 30, ground := Ground.guard }], guard := some (30, false) }) (v := ?_) rfl (by kernel_rfl) (by kernel_rfl) (by kernel_rfl) (fun _ _ _ h => h) (Or.inl ⟨by rfl, ?_⟩) hH ?_
    rotate_left
    · intro w hSw; (try dsimp only at hSw); go_simp <;> with_reducible rfl
    try simp only [Act.put, List.setIfInBounds_toArray, List.set_cons_zero, List.set_cons_succ]
    refine wpAnyH_take (i := 33) (oi := { dst := some 73, op := Op.load 28 (Operand.tmp 7), type := 28, pos := "own.go:39", after := #[{ on := 32, ground := Ground.guard }], guard := some (32, true) }) (v := undef) rfl (by kernel_rfl) (by kernel_rfl) (by kernel_rfl) (fun _ _ _ h => h) (Or.inr ⟨by rfl, rfl⟩) hH ?_
    try simp only [Act.put, List.setIfInBounds_toArray, List.set_cons_zero, List.set_cons_succ]
    refine wpAnyH_take (i := 34) (oi := { dst := some 74, op := Op.call { callee := Callee.value (Operand.func 17), args := #[Operand.tmp 73], argTypes := #[28] }, type := 36, pos := "own.go:39", after := #[{ on := 33, ground := Ground.data }, { on := 32, ground := Ground.chain }, { on := 32, ground := Ground.guard }], guard := some (32, true) }) (v := undef) rfl (by kernel_rfl) (by kernel_rfl) (by kernel_rfl) (fun _ _ _ h => h) (Or.inr ⟨by rfl, rfl⟩) hH ?_
    try simp only [Act.put, List.setIfInBounds_toArray, List.set_cons_zero, List.set_cons_succ]
    refine wpAnyH_take (i := 35) (oi := { dst := some 75, op := Op.binOp BinOp.neq 36 (Operand.tmp 74) (Operand.const (Value.int IntKind.i64 0)) 36, type := 4, pos := "own.go:39", after := #[{ on := 34, ground := Ground.data }, { on := 32, ground := Ground.guard }], guard := some (32, true) }) (v := undef) rfl (by kernel_rfl) (by kernel_rfl) (by kernel_rfl) (fun _ _ _ h => h) (Or.inr ⟨by rfl, rfl⟩) hH ?_
    try simp only [Act.put, List.setIfInBounds_toArray, List.set_cons_zero, List.set_cons_succ]
    refine wpAnyH_take (i := 36) (oi := { dst := some 76, op := Op.pick (Operand.tmp 72) (Operand.tmp 75) (Operand.const (Value.bool false)), type := 4, pos := "own.go:39", after := #[{ on := 32, ground := Ground.data }, { on := 35, ground := Ground.data }, { on := 30, ground := Ground.guard }], guard := some (30, false) }) (v := ?_) rfl (by kernel_rfl) (by kernel_rfl) (by kernel_rfl) (fun _ _ _ h => h) (Or.inl ⟨by rfl, ?_⟩) hH ?_
    rotate_left
    · intro w hSw; (try dsimp only at hSw); go_simp <;> with_reducible rfl
    try simp only [Act.put, List.setIfInBounds_toArray, List.set_cons_zero, List.set_cons_succ]
    refine wpAnyH_take (i := 37) (oi := { dst := some 77, op := Op.pick (Operand.tmp 70) (Operand.const (Value.bool true)) (Operand.tmp 76), type := 4, pos := "own.go:39", after := #[{ on := 30, ground := Ground.data }, { on := 36, ground := Ground.data }], guard := none }) (v := ?_) rfl (by kernel_rfl) (by kernel_rfl) (by kernel_rfl) (fun _ _ _ h => h) (Or.inl ⟨by rfl, ?_⟩) hH ?_
    rotate_left
    · intro w hSw; (try dsimp only at hSw); go_simp <;> with_reducible rfl
    try simp only [Act.put, List.setIfInBounds_toArray, List.set_cons_zero, List.set_cons_succ]
    refine wpAnyH_done (by kernel_rfl) ?_ _
    go_upto_region 13 with (go_at_call 14; ((with_reducible refine (M2.out _).mono ?_)); rintro e w9 ⟨rfl, hb9⟩; clear a0 a1 a2 a3 az b0 b1 b2 b3 bz c0 c1 c2 c3 cz d0 d1 d2 d3 dz; replace hP := Aw.next (by first | exact hP | exact hP.alloc _ | exact hP.draw _ | exact (hP.draw _).alloc _ | exact (hP.alloc _).draw _ | exact hP.draw1 | exact hP.draw1.alloc _ | exact (hP.alloc _).draw1) hb9; replace hQ := Aw.next (by first | exact hQ | exact hQ.alloc _ | exact hQ.draw _ | exact (hQ.draw _).alloc _ | exact (hQ.alloc _).draw _ | exact hQ.draw1 | exact hQ.draw1.alloc _ | exact (hQ.alloc _).draw1) hb9; replace hC := Aw.next (by first | exact hC | exact hC.alloc _ | exact hC.draw _ | exact (hC.draw _).alloc _ | exact (hC.alloc _).draw _ | exact hC.draw1 | exact hC.draw1.alloc _ | exact (hC.alloc _).draw1) hb9; replace hD := Aw.next (by first | exact hD | exact hD.alloc _ | exact hD.draw _ | exact (hD.draw _).alloc _ | exact (hD.alloc _).draw _ | exact hD.draw1 | exact hD.draw1.alloc _ | exact (hD.alloc _).draw1) hb9; obtain ⟨a0, a1, a2, a3⟩ := hP.cells; have az := hP.2.2.1; obtain ⟨b0, b1, b2, b3⟩ := hQ.cells; have bz := hQ.2.2.1; obtain ⟨c0, c1, c2, c3⟩ := hC.cells; have cz := hC.2.2.1; obtain ⟨d0, d1, d2, d3⟩ := hD.cells; have dz := hD.2.2.1; clear hb9)
    obtain ⟨W5, hW5⟩ : ∃ W5, W5 = w9.alloc (.cells #[.int .u8 1, .int .i64 (n + -n'), .int .u64 0, .string ⟨#[]⟩] 28) := ⟨_, rfl⟩
    rw [← hW5]
    have hF : Aw w W5 w9.heap.size 1 (n + -n') 0 ⟨#[]⟩ := by subst hW5; exact aw_new hP _ _ _ _ _
    replace hP := (show Aw w W5 _ _ _ _ _ by subst hW5; exact hP.alloc _)
    replace hQ := (show Aw w W5 _ _ _ _ _ by subst hW5; exact hQ.alloc _)
    replace hC := (show Aw w W5 _ _ _ _ _ by subst hW5; exact hC.alloc _)
    replace hD := (show Aw w W5 _ _ _ _ _ by subst hW5; exact hD.alloc _)
    clear hW5 az bz cz dz a0 a1 a2 a3 b0 b1 b2 b3 c0 c1 c2 c3 d0 d1 d2 d3
    generalize w9.heap.size = pf at *
    clear w9
    obtain ⟨a0, a1, a2, a3⟩ := hP.cells
    obtain ⟨b0, b1, b2, b3⟩ := hQ.cells
    obtain ⟨c0, c1, c2, c3⟩ := hC.cells
    obtain ⟨d0, d1, d2, d3⟩ := hD.cells
    obtain ⟨f0, f1, f2, f3⟩ := hF.cells
    have az := hP.2.2.1
    have bz := hQ.2.2.1
    have cz := hC.2.2.1
    have dz := hD.2.2.1
    have fz := hF.2.2.1
    go_upto_region 15 with (go_at_call 12; ((with_reducible refine (P3.out _).mono ?_)); rintro e w9 ⟨rfl, hb9⟩; clear a0 a1 a2 a3 az b0 b1 b2 b3 bz c0 c1 c2 c3 cz d0 d1 d2 d3 dz f0 f1 f2 f3 fz; replace hP := Aw.next (by first | exact hP | exact hP.alloc _ | exact hP.draw _ | exact (hP.draw _).alloc _ | exact (hP.alloc _).draw _ | exact hP.draw1 | exact hP.draw1.alloc _ | exact (hP.alloc _).draw1) hb9; replace hQ := Aw.next (by first | exact hQ | exact hQ.alloc _ | exact hQ.draw _ | exact (hQ.draw _).alloc _ | exact (hQ.alloc _).draw _ | exact hQ.draw1 | exact hQ.draw1.alloc _ | exact (hQ.alloc _).draw1) hb9; replace hC := Aw.next (by first | exact hC | exact hC.alloc _ | exact hC.draw _ | exact (hC.draw _).alloc _ | exact (hC.alloc _).draw _ | exact hC.draw1 | exact hC.draw1.alloc _ | exact (hC.alloc _).draw1) hb9; replace hD := Aw.next (by first | exact hD | exact hD.alloc _ | exact hD.draw _ | exact (hD.draw _).alloc _ | exact (hD.alloc _).draw _ | exact hD.draw1 | exact hD.draw1.alloc _ | exact (hD.alloc _).draw1) hb9; replace hF := Aw.next (by first | exact hF | exact hF.alloc _ | exact hF.draw _ | exact (hF.draw _).alloc _ | exact (hF.alloc _).draw _ | exact hF.draw1 | exact hF.draw1.alloc _ | exact (hF.alloc _).draw1) hb9; obtain ⟨a0, a1, a2, a3⟩ := hP.cells; have az := hP.2.2.1; obtain ⟨b0, b1, b2, b3⟩ := hQ.cells; have bz := hQ.2.2.1; obtain ⟨c0, c1, c2, c3⟩ := hC.cells; have cz := hC.2.2.1; obtain ⟨d0, d1, d2, d3⟩ := hD.cells; have dz := hD.2.2.1; obtain ⟨f0, f1, f2, f3⟩ := hF.cells; have fz := hF.2.2.1; clear hb9)
    obtain ⟨W5, hW5⟩ : ∃ W5, W5 = w9.alloc (.cells #[.int .u8 1, .int .i64 n, .int .u64 0, .string ⟨#[]⟩] 28) := ⟨_, rfl⟩
    rw [← hW5]
    have hG : Aw w W5 w9.heap.size 1 n 0 ⟨#[]⟩ := by subst hW5; exact aw_new hP _ _ _ _ _
    replace hP := (show Aw w W5 _ _ _ _ _ by subst hW5; exact hP.alloc _)
    replace hQ := (show Aw w W5 _ _ _ _ _ by subst hW5; exact hQ.alloc _)
    replace hC := (show Aw w W5 _ _ _ _ _ by subst hW5; exact hC.alloc _)
    replace hD := (show Aw w W5 _ _ _ _ _ by subst hW5; exact hD.alloc _)
    replace hF := (show Aw w W5 _ _ _ _ _ by subst hW5; exact hF.alloc _)
    clear hW5 az bz cz dz fz a0 a1 a2 a3 b0 b1 b2 b3 c0 c1 c2 c3 d0 d1 d2 d3 f0 f1 f2 f3
    generalize w9.heap.size = pg at *
    clear w9
    obtain ⟨a0, a1, a2, a3⟩ := hP.cells
    obtain ⟨b0, b1, b2, b3⟩ := hQ.cells
    obtain ⟨c0, c1, c2, c3⟩ := hC.cells
    obtain ⟨d0, d1, d2, d3⟩ := hD.cells
    obtain ⟨f0, f1, f2, f3⟩ := hF.cells
    obtain ⟨g0, g1, g2, g3⟩ := hG.cells
    have az := hP.2.2.1
    have bz := hQ.2.2.1
    have cz := hC.2.2.1
    have dz := hD.2.2.1
    have fz := hF.2.2.1
    have gz := hG.2.2.1
    go_wp2_with (go_at_call 9; ((with_reducible refine (A1.out _).mono ?_)); rintro e w9 ⟨rfl, hb9⟩; clear a0 a1 a2 a3 az b0 b1 b2 b3 bz c0 c1 c2 c3 cz d0 d1 d2 d3 dz f0 f1 f2 f3 fz g0 g1 g2 g3 gz; replace hP := Aw.next (by first | exact hP | exact hP.alloc _ | exact hP.draw _ | exact (hP.draw _).alloc _ | exact (hP.alloc _).draw _ | exact hP.draw1 | exact hP.draw1.alloc _ | exact (hP.alloc _).draw1) hb9; replace hQ := Aw.next (by first | exact hQ | exact hQ.alloc _ | exact hQ.draw _ | exact (hQ.draw _).alloc _ | exact (hQ.alloc _).draw _ | exact hQ.draw1 | exact hQ.draw1.alloc _ | exact (hQ.alloc _).draw1) hb9; replace hC := Aw.next (by first | exact hC | exact hC.alloc _ | exact hC.draw _ | exact (hC.draw _).alloc _ | exact (hC.alloc _).draw _ | exact hC.draw1 | exact hC.draw1.alloc _ | exact (hC.alloc _).draw1) hb9; replace hD := Aw.next (by first | exact hD | exact hD.alloc _ | exact hD.draw _ | exact (hD.draw _).alloc _ | exact (hD.alloc _).draw _ | exact hD.draw1 | exact hD.draw1.alloc _ | exact (hD.alloc _).draw1) hb9; replace hF := Aw.next (by first | exact hF | exact hF.alloc _ | exact hF.draw _ | exact (hF.draw _).alloc _ | exact (hF.alloc _).draw _ | exact hF.draw1 | exact hF.draw1.alloc _ | exact (hF.alloc _).draw1) hb9; replace hG := Aw.next (by first | exact hG | exact hG.alloc _ | exact hG.draw _ | exact (hG.draw _).alloc _ | exact (hG.alloc _).draw _ | exact hG.draw1 | exact hG.draw1.alloc _ | exact (hG.alloc _).draw1) hb9; obtain ⟨a0, a1, a2, a3⟩ := hP.cells; have az := hP.2.2.1; obtain ⟨b0, b1, b2, b3⟩ := hQ.cells; have bz := hQ.2.2.1; obtain ⟨c0, c1, c2, c3⟩ := hC.cells; have cz := hC.2.2.1; obtain ⟨d0, d1, d2, d3⟩ := hD.cells; have dz := hD.2.2.1; obtain ⟨f0, f1, f2, f3⟩ := hF.cells; have fz := hF.2.2.1; obtain ⟨g0, g1, g2, g3⟩ := hG.cells; have gz := hG.2.2.1; clear hb9)
    go_ret
    exact ⟨rfl, hP.1⟩
set_option maxRecDepth 100000 in
set_option maxHeartbeats 2000000 in
theorem back_oo (n : Int) (n' : Int) (u' : Nat) (s' : ByteArray) (hn0 : -9223372036854775808 ≤ n ∧ n ≤ 9223372036854775807) (hc' : Came n' u' s') (g2 : ¬ (100 : Int) < s'.size) (h : checkN 1 n 0 ⟨#[]⟩ = 0) (h' : checkN 1 n' u' s' = 0) (o1 : wholeOk n n' = false) (o2 : wholeOk n (-n') = false) (w : World) : Calls Try.prog 5 #[V 1 n 0 ⟨#[]⟩, V 1 n' u' s'] w fun e w' => e = .returned (.bool true) ∧ Below w.heap.size w w' := by
  have hc : Came n 0 ⟨#[]⟩ := ⟨hn0, by omega, by decide⟩
  have g1 : ¬ (100 : Int) < (⟨#[]⟩ : ByteArray).size := by decide
  obtain ⟨hn, hu, hs⟩ := hc
  obtain ⟨hn', hu', hs'⟩ := hc'
  have S1 := Lib.hid fun w => small_v 1 n 0 ⟨#[]⟩ hs w
  have S2 := Lib.hid fun w => small_v 1 n' u' s' hs' w
  have A1 := Lib.hid fun w => awake_ok w
  have sd1 := small_dec ⟨#[]⟩
  have sd2 := small_dec s'
  rw [decide_eq_false g1] at sd1
  rw [decide_eq_false g2] at sd2
  clear g1 g2
  have g3 := check_num_bounds h
  have g4 := check_num_bounds h'
  have hsum : sumB 1 n 0 ⟨#[]⟩ 1 n' u' s' = true := by unfold sumB; rw [h, h']; rfl
  have ep : plusV 1 n 0 ⟨#[]⟩ 1 n' u' s' = .tuple #[V 0 0 0 ⟨#[]⟩, .bool false] := by unfold plusV; rw [if_pos hsum, if_pos ⟨rfl, rfl⟩]; exact wsum_of.2 o1
  have eq : plusV 1 n' u' s' 1 n 0 ⟨#[]⟩ = .tuple #[V 0 0 0 ⟨#[]⟩, .bool false] := by rw [plus_swap hu hu']; exact ep
  have em : minusV 1 n 0 ⟨#[]⟩ 1 n' u' s' = .tuple #[V 0 0 0 ⟨#[]⟩, .bool false] := by unfold minusV; rw [if_pos hsum, if_pos ⟨rfl, rfl⟩]; exact wsum_of.2 o2
  have P1 : Hid (∀ w, Calls Try.prog 12 #[V 1 n 0 ⟨#[]⟩, V 1 n' u' s'] w fun e w' => e = .returned (.tuple #[V 0 0 0 ⟨#[]⟩, .bool false]) ∧ Below w.heap.size w w') := Lib.hid fun w => by rw [← ep]; exact plus_ok 1 n 0 ⟨#[]⟩ 1 n' u' s' hu hu' w
  have P2 : Hid (∀ w, Calls Try.prog 12 #[V 1 n' u' s', V 1 n 0 ⟨#[]⟩] w fun e w' => e = .returned (.tuple #[V 0 0 0 ⟨#[]⟩, .bool false]) ∧ Below w.heap.size w w') := Lib.hid fun w => by rw [← eq]; exact plus_ok 1 n' u' s' 1 n 0 ⟨#[]⟩ hu' hu w
  have M2 : Hid (∀ w, Calls Try.prog 14 #[V 1 n 0 ⟨#[]⟩, V 1 n' u' s'] w fun e w' => e = .returned (.tuple #[V 0 0 0 ⟨#[]⟩, .bool false]) ∧ Below w.heap.size w w') := Lib.hid fun w => by rw [← em]; exact minus_ok 1 n 0 ⟨#[]⟩ 1 n' u' s' hu hu' w
  clear ep eq em h h' hsum o1 o2 g3 g4
  have E1 := fun k n u k' n' u' s s' w => eql_V k n u k' n' u' s s' w
  have E2 := fun k n u k' n' u' s s' w => eq_V k n u k' n' u' s s' w
  have hv := fun w => build_void w
  clear hn hn' hs hs' hu hu'
  unfold V at *
  simp only [Int.natCast_zero] at *
  obtain ⟨hA, hB⟩ := two_aw w 24 24 1 n 0 ⟨#[]⟩ 1 n' u' s'
  obtain ⟨a0, a1, a2, a3⟩ := hA.cells
  obtain ⟨b0, b1, b2, b3⟩ := hB.cells
  go_enter Try.func5, Try.ntmps5
  go_upto_region 3 with (first | (go_at_call 8; ((with_reducible refine (S1.out _).mono ?_)); rintro e w9 ⟨rfl, hb9⟩; clear a0 a1 a2 a3 b0 b1 b2 b3; replace hA := Aw.next (by first | exact hA | exact hA.alloc _ | exact hA.draw _ | exact (hA.draw _).alloc _ | exact (hA.alloc _).draw _ | exact hA.draw1 | exact hA.draw1.alloc _ | exact (hA.alloc _).draw1) hb9; replace hB := Aw.next (by first | exact hB | exact hB.alloc _ | exact hB.draw _ | exact (hB.draw _).alloc _ | exact (hB.alloc _).draw _ | exact hB.draw1 | exact hB.draw1.alloc _ | exact (hB.alloc _).draw1) hb9; obtain ⟨a0, a1, a2, a3⟩ := hA.cells; obtain ⟨b0, b1, b2, b3⟩ := hB.cells; clear hb9) | (go_at_call 8; ((with_reducible refine (S2.out _).mono ?_)); rintro e w9 ⟨rfl, hb9⟩; clear a0 a1 a2 a3 b0 b1 b2 b3; replace hA := Aw.next (by first | exact hA | exact hA.alloc _ | exact hA.draw _ | exact (hA.draw _).alloc _ | exact (hA.alloc _).draw _ | exact hA.draw1 | exact hA.draw1.alloc _ | exact (hA.alloc _).draw1) hb9; replace hB := Aw.next (by first | exact hB | exact hB.alloc _ | exact hB.draw _ | exact (hB.draw _).alloc _ | exact (hB.alloc _).draw _ | exact hB.draw1 | exact hB.draw1.alloc _ | exact (hB.alloc _).draw1) hb9; obtain ⟨a0, a1, a2, a3⟩ := hA.cells; obtain ⟨b0, b1, b2, b3⟩ := hB.cells; clear hb9) | (go_at_call 9; ((with_reducible refine (A1.out _).mono ?_)); rintro e w9 ⟨rfl, hb9⟩; clear a0 a1 a2 a3 b0 b1 b2 b3; replace hA := Aw.next (by first | exact hA | exact hA.alloc _ | exact hA.draw _ | exact (hA.draw _).alloc _ | exact (hA.alloc _).draw _ | exact hA.draw1 | exact hA.draw1.alloc _ | exact (hA.alloc _).draw1) hb9; replace hB := Aw.next (by first | exact hB | exact hB.alloc _ | exact hB.draw _ | exact (hB.draw _).alloc _ | exact (hB.alloc _).draw _ | exact hB.draw1 | exact hB.draw1.alloc _ | exact (hB.alloc _).draw1) hb9; obtain ⟨a0, a1, a2, a3⟩ := hA.cells; obtain ⟨b0, b1, b2, b3⟩ := hB.cells; clear hb9))
  have az := hA.2.2.1
  have bz := hB.2.2.1
  go_cut [5, 6] (fun x y wx => CutTwo w 1 n 0 ⟨#[]⟩ 1 n' u' s' x y wx)
  case first =>
    go_region
    all_goals go_wp2_with fail
    all_goals go_meet
    all_goals first | exact cutTwo_a hA _ _ _ _ _ _ _ _ | exact cutTwo_b hA _ _ _ _ _ _ _ _
  case rest =>
    unfold CutTwo at hcut
    obtain ⟨pp, pq, rfl, rfl, hP, hQ⟩ := hcut
    clear hA hB a0 a1 a2 a3 b0 b1 b2 b3 az bz
    obtain ⟨a0, a1, a2, a3⟩ := hP.cells
    obtain ⟨b0, b1, b2, b3⟩ := hQ.cells
    have az := hP.2.2.1
    have bz := hQ.2.2.1
    go_upto_region 5 with (go_at_call 12; ((with_reducible refine (P1.out _).mono ?_)); rintro e w9 ⟨rfl, hb9⟩; clear a0 a1 a2 a3 az b0 b1 b2 b3 bz; replace hP := Aw.next (by first | exact hP | exact hP.alloc _ | exact hP.draw _ | exact (hP.draw _).alloc _ | exact (hP.alloc _).draw _ | exact hP.draw1 | exact hP.draw1.alloc _ | exact (hP.alloc _).draw1) hb9; replace hQ := Aw.next (by first | exact hQ | exact hQ.alloc _ | exact hQ.draw _ | exact (hQ.draw _).alloc _ | exact (hQ.alloc _).draw _ | exact hQ.draw1 | exact hQ.draw1.alloc _ | exact (hQ.alloc _).draw1) hb9; obtain ⟨a0, a1, a2, a3⟩ := hP.cells; have az := hP.2.2.1; obtain ⟨b0, b1, b2, b3⟩ := hQ.cells; have bz := hQ.2.2.1; clear hb9)
    obtain ⟨W5, hW5⟩ : ∃ W5, W5 = w9.alloc (.cells #[.int .u8 0, .int .i64 0, .int .u64 0, .string ⟨#[]⟩] 28) := ⟨_, rfl⟩
    rw [← hW5]
    have hC : Aw w W5 w9.heap.size 0 0 0 ⟨#[]⟩ := by subst hW5; exact aw_new hP _ _ _ _ _
    replace hP := (show Aw w W5 _ _ _ _ _ by subst hW5; exact hP.alloc _)
    replace hQ := (show Aw w W5 _ _ _ _ _ by subst hW5; exact hQ.alloc _)
    clear hW5 az bz a0 a1 a2 a3 b0 b1 b2 b3
    generalize w9.heap.size = pc at *
    clear w9
    obtain ⟨a0, a1, a2, a3⟩ := hP.cells
    obtain ⟨b0, b1, b2, b3⟩ := hQ.cells
    obtain ⟨c0, c1, c2, c3⟩ := hC.cells
    have az := hP.2.2.1
    have bz := hQ.2.2.1
    have cz := hC.2.2.1
    go_upto_region 6 with (go_at_call 12; ((with_reducible refine (P2.out _).mono ?_)); rintro e w9 ⟨rfl, hb9⟩; clear a0 a1 a2 a3 az b0 b1 b2 b3 bz c0 c1 c2 c3 cz; replace hP := Aw.next (by first | exact hP | exact hP.alloc _ | exact hP.draw _ | exact (hP.draw _).alloc _ | exact (hP.alloc _).draw _ | exact hP.draw1 | exact hP.draw1.alloc _ | exact (hP.alloc _).draw1) hb9; replace hQ := Aw.next (by first | exact hQ | exact hQ.alloc _ | exact hQ.draw _ | exact (hQ.draw _).alloc _ | exact (hQ.alloc _).draw _ | exact hQ.draw1 | exact hQ.draw1.alloc _ | exact (hQ.alloc _).draw1) hb9; replace hC := Aw.next (by first | exact hC | exact hC.alloc _ | exact hC.draw _ | exact (hC.draw _).alloc _ | exact (hC.alloc _).draw _ | exact hC.draw1 | exact hC.draw1.alloc _ | exact (hC.alloc _).draw1) hb9; obtain ⟨a0, a1, a2, a3⟩ := hP.cells; have az := hP.2.2.1; obtain ⟨b0, b1, b2, b3⟩ := hQ.cells; have bz := hQ.2.2.1; obtain ⟨c0, c1, c2, c3⟩ := hC.cells; have cz := hC.2.2.1; clear hb9)
    obtain ⟨W5, hW5⟩ : ∃ W5, W5 = w9.alloc (.cells #[.int .u8 0, .int .i64 0, .int .u64 0, .string ⟨#[]⟩] 28) := ⟨_, rfl⟩
    rw [← hW5]
    have hD : Aw w W5 w9.heap.size 0 0 0 ⟨#[]⟩ := by subst hW5; exact aw_new hP _ _ _ _ _
    replace hP := (show Aw w W5 _ _ _ _ _ by subst hW5; exact hP.alloc _)
    replace hQ := (show Aw w W5 _ _ _ _ _ by subst hW5; exact hQ.alloc _)
    replace hC := (show Aw w W5 _ _ _ _ _ by subst hW5; exact hC.alloc _)
    clear hW5 az bz cz a0 a1 a2 a3 b0 b1 b2 b3 c0 c1 c2 c3
    generalize w9.heap.size = pd at *
    clear w9
    obtain ⟨a0, a1, a2, a3⟩ := hP.cells
    obtain ⟨b0, b1, b2, b3⟩ := hQ.cells
    obtain ⟨c0, c1, c2, c3⟩ := hC.cells
    obtain ⟨d0, d1, d2, d3⟩ := hD.cells
    have az := hP.2.2.1
    have bz := hQ.2.2.1
    have cz := hC.2.2.1
    have dz := hD.2.2.1
    refine wp_region_held_drew (S := (fun w' => w'.cell? ⟨pp, 0, none⟩ = some (.int .u8 1) ∧ w'.cell? ⟨pp, 1, none⟩ = some (.int .i64 n) ∧ w'.cell? ⟨pp, 2, none⟩ = some (.int .u64 0) ∧ w'.cell? ⟨pp, 3, none⟩ = some (.string ⟨#[]⟩) ∧ w'.cell? ⟨pq, 0, none⟩ = some (.int .u8 1) ∧ w'.cell? ⟨pq, 1, none⟩ = some (.int .i64 n') ∧ w'.cell? ⟨pq, 2, none⟩ = some (.int .u64 u') ∧ w'.cell? ⟨pq, 3, none⟩ = some (.string s') ∧ w'.cell? ⟨pc, 0, none⟩ = some (.int .u8 0) ∧ w'.cell? ⟨pc, 1, none⟩ = some (.int .i64 0) ∧ w'.cell? ⟨pc, 2, none⟩ = some (.int .u64 0) ∧ w'.cell? ⟨pc, 3, none⟩ = some (.string ⟨#[]⟩) ∧ w'.cell? ⟨pd, 0, none⟩ = some (.int .u8 0) ∧ w'.cell? ⟨pd, 1, none⟩ = some (.int .i64 0) ∧ w'.cell? ⟨pd, 2, none⟩ = some (.int .u64 0) ∧ w'.cell? ⟨pd, 3, none⟩ = some (.string ⟨#[]⟩))) (by kernel_rfl) ?_ (fun hH => ?_)
    · exact ⟨a0, a1, a2, a3, b0, b1, b2, b3, c0, c1, c2, c3, d0, d1, d2, d3⟩
    refine wpAnyH_take (i := 0) (oi := { dst := some 40, op := Op.load 28 (Operand.tmp 7), type := 28, pos := "own.go:39", after := #[], guard := none }) (v := ?_) rfl (by kernel_rfl) (by kernel_rfl) (by kernel_rfl) (fun _ _ _ h => h) (Or.inl ⟨by rfl, ?_⟩) hH ?_
    rotate_left
    · intro w hSw; (try dsimp only at hSw); go_simp <;> with_reducible rfl
    try simp only [Act.put, List.setIfInBounds_toArray, List.set_cons_zero, List.set_cons_succ]
    refine wpAnyH_take (i := 1) (oi := { dst := some 41, op := Op.load 28 (Operand.tmp 9), type := 28, pos := "own.go:39", after := #[], guard := none }) (v := ?_) rfl (by kernel_rfl) (by kernel_rfl) (by kernel_rfl) (fun _ _ _ h => h) (Or.inl ⟨by rfl, ?_⟩) hH ?_
    rotate_left
    · intro w hSw; (try dsimp only at hSw); go_simp <;> with_reducible rfl
    try simp only [Act.put, List.setIfInBounds_toArray, List.set_cons_zero, List.set_cons_succ]
    refine wpAnyH_take (i := 2) (oi := { dst := some 42, op := Op.binOp BinOp.neq 28 (Operand.tmp 40) (Operand.tmp 41) 28, type := 4, pos := "own.go:39", after := #[{ on := 0, ground := Ground.data }, { on := 1, ground := Ground.data }], guard := none }) (v := ?_) rfl (by kernel_rfl) (by kernel_rfl) (by kernel_rfl) (fun _ _ _ h => h) (Or.inl ⟨by rfl, ?_⟩) hH ?_
    rotate_left
    · intro w hSw; (try dsimp only at hSw); go_simp <;> with_reducible rfl
    try simp only [Act.put, List.setIfInBounds_toArray, List.set_cons_zero, List.set_cons_succ]
    refine wpAnyH_take (i := 3) (oi := { dst := some 43, op := Op.move (Operand.tmp 42), type := 4, pos := "own.go:39", after := #[{ on := 2, ground := Ground.data }], guard := none }) (v := ?_) rfl (by kernel_rfl) (by kernel_rfl) (by kernel_rfl) (fun _ _ _ h => h) (Or.inl ⟨by rfl, ?_⟩) hH ?_
    rotate_left
    · intro w hSw; (try dsimp only at hSw); go_simp <;> with_reducible rfl
    try simp only [Act.put, List.setIfInBounds_toArray, List.set_cons_zero, List.set_cons_succ]
    refine wpAnyH_take (i := 4) (oi := { dst := some 44, op := Op.move (Operand.tmp 8), type := 4, pos := "own.go:39", after := #[{ on := 3, ground := Ground.guard }], guard := some (3, false) }) (v := ?_) rfl (by kernel_rfl) (by kernel_rfl) (by kernel_rfl) (fun _ _ _ h => h) (Or.inl ⟨by rfl, ?_⟩) hH ?_
    rotate_left
    · intro w hSw; (try dsimp only at hSw); go_simp <;> with_reducible rfl
    try simp only [Act.put, List.setIfInBounds_toArray, List.set_cons_zero, List.set_cons_succ]
    refine wpAnyH_take (i := 5) (oi := { dst := some 45, op := Op.move (Operand.tmp 10), type := 4, pos := "own.go:39", after := #[{ on := 3, ground := Ground.guard }], guard := some (3, false) }) (v := ?_) rfl (by kernel_rfl) (by kernel_rfl) (by kernel_rfl) (fun _ _ _ h => h) (Or.inl ⟨by rfl, ?_⟩) hH ?_
    rotate_left
    · intro w hSw; (try dsimp only at hSw); go_simp <;> with_reducible rfl
    try simp only [Act.put, List.setIfInBounds_toArray, List.set_cons_zero, List.set_cons_succ]
    refine wpAnyH_take (i := 6) (oi := { dst := some 46, op := Op.binOp BinOp.neq 4 (Operand.tmp 44) (Operand.tmp 45) 4, type := 4, pos := "own.go:39", after := #[{ on := 4, ground := Ground.data }, { on := 5, ground := Ground.data }, { on := 3, ground := Ground.guard }], guard := some (3, false) }) (v := ?_) rfl (by kernel_rfl) (by kernel_rfl) (by kernel_rfl) (fun _ _ _ h => h) (Or.inl ⟨by rfl, ?_⟩) hH ?_
    rotate_left
    · intro w hSw; (try dsimp only at hSw); go_simp <;> with_reducible rfl
    try simp only [Act.put, List.setIfInBounds_toArray, List.set_cons_zero, List.set_cons_succ]
    refine wpAnyH_take (i := 7) (oi := { dst := some 47, op := Op.pick (Operand.tmp 43) (Operand.const (Value.bool true)) (Operand.tmp 46), type := 4, pos := "own.go:39", after := #[{ on := 3, ground := Ground.data }, { on := 6, ground := Ground.data }], guard := none }) (v := ?_) rfl (by kernel_rfl) (by kernel_rfl) (by kernel_rfl) (fun _ _ _ h => h) (Or.inl ⟨by rfl, ?_⟩) hH ?_
    rotate_left
    · intro w hSw; (try dsimp only at hSw); go_simp <;> with_reducible rfl
    try simp only [Act.put, List.setIfInBounds_toArray, List.set_cons_zero, List.set_cons_succ]
    refine wpAnyH_take (i := 8) (oi := { dst := some 48, op := Op.move (Operand.tmp 47), type := 4, pos := "own.go:39", after := #[{ on := 7, ground := Ground.data }, { on := 3, ground := Ground.chain }], guard := none }) (v := ?_) rfl (by kernel_rfl) (by kernel_rfl) (by kernel_rfl) (fun _ _ _ h => h) (Or.inl ⟨by rfl, ?_⟩) hH ?_
    rotate_left
    · intro w hSw; (try dsimp only at hSw); go_simp <;> with_reducible rfl
    try simp only [Act.put, List.setIfInBounds_toArray, List.set_cons_zero, List.set_cons_succ]
    refine wpAnyH_take (i := 9) (oi := { dst := some 49, op := Op.move (Operand.tmp 8), type := 4, pos := "own.go:39", after := #[{ on := 8, ground := Ground.guard }], guard := some (8, false) }) (v := ?_) rfl (by kernel_rfl) (by kernel_rfl) (by kernel_rfl) (fun _ _ _ h => h) (Or.inl ⟨by rfl, ?_⟩) hH ?_
    rotate_left
    · intro w hSw; (try dsimp only at hSw); go_simp <;> with_reducible rfl
    try simp only [Act.put, List.setIfInBounds_toArray, List.set_cons_zero, List.set_cons_succ]
    refine wpAnyH_take (i := 10) (oi := { dst := some 50, op := Op.move (Operand.tmp 49), type := 4, pos := "own.go:39", after := #[{ on := 9, ground := Ground.data }, { on := 8, ground := Ground.chain }, { on := 8, ground := Ground.guard }], guard := some (8, false) }) (v := ?_) rfl (by kernel_rfl) (by kernel_rfl) (by kernel_rfl) (fun _ _ _ h => h) (Or.inl ⟨by rfl, ?_⟩) hH ?_
    rotate_left
    · intro w hSw; (try dsimp only at hSw); go_simp <;> with_reducible rfl
    try simp only [Act.put, List.setIfInBounds_toArray, List.set_cons_zero, List.set_cons_succ]
    refine wpAnyH_take (i := 11) (oi := { dst := some 51, op := Op.fieldAddr 28 (Operand.tmp 7) 0, type := 0, pos := "own.go:39", after := #[{ on := 10, ground := Ground.guard }], guard := some (10, true) }) (v := undef) rfl (by kernel_rfl) (by kernel_rfl) (by kernel_rfl) (fun _ _ _ h => h) (Or.inr ⟨by rfl, rfl⟩) hH ?_
    try simp only [Act.put, List.setIfInBounds_toArray, List.set_cons_zero, List.set_cons_succ]
    refine wpAnyH_take (i := 12) (oi := { dst := some 52, op := Op.load 5 (Operand.tmp 51), type := 5, pos := "own.go:39", after := #[{ on := 11, ground := Ground.data }, { on := 10, ground := Ground.guard }], guard := some (10, true) }) (v := undef) rfl (by kernel_rfl) (by kernel_rfl) (by kernel_rfl) (fun _ _ _ h => h) (Or.inr ⟨by rfl, rfl⟩) hH ?_
    try simp only [Act.put, List.setIfInBounds_toArray, List.set_cons_zero, List.set_cons_succ]
    refine wpAnyH_take (i := 13) (oi := { dst := some 53, op := Op.fieldAddr 28 (Operand.tmp 5) 0, type := 0, pos := "own.go:39", after := #[{ on := 10, ground := Ground.guard }], guard := some (10, true) }) (v := undef) rfl (by kernel_rfl) (by kernel_rfl) (by kernel_rfl) (fun _ _ _ h => h) (Or.inr ⟨by rfl, rfl⟩) hH ?_
    try simp only [Act.put, List.setIfInBounds_toArray, List.set_cons_zero, List.set_cons_succ]
    refine wpAnyH_take (i := 14) (oi := { dst := some 54, op := Op.load 5 (Operand.tmp 53), type := 5, pos := "own.go:39", after := #[{ on := 13, ground := Ground.data }, { on := 10, ground := Ground.guard }], guard := some (10, true) }) (v := undef) rfl (by kernel_rfl) (by kernel_rfl) (by kernel_rfl) (fun _ _ _ h => h) (Or.inr ⟨by rfl, rfl⟩) hH ?_
    try simp only [Act.put, List.setIfInBounds_toArray, List.set_cons_zero, List.set_cons_succ]
    refine wpAnyH_take (i := 15) (oi := { dst := some 55, op := Op.fieldAddr 28 (Operand.tmp 6) 0, type := 0, pos := "own.go:39", after := #[{ on := 10, ground := Ground.guard }], guard := some (10, true) }) (v := undef) rfl (by kernel_rfl) (by kernel_rfl) (by kernel_rfl) (fun _ _ _ h => h) (Or.inr ⟨by rfl, rfl⟩) hH ?_
    try simp only [Act.put, List.setIfInBounds_toArray, List.set_cons_zero, List.set_cons_succ]
    refine wpAnyH_take (i := 16) (oi := { dst := some 56, op := Op.load 5 (Operand.tmp 55), type := 5, pos := "own.go:39", after := #[{ on := 15, ground := Ground.data }, { on := 10, ground := Ground.guard }], guard := some (10, true) }) (v := undef) rfl (by kernel_rfl) (by kernel_rfl) (by kernel_rfl) (fun _ _ _ h => h) (Or.inr ⟨by rfl, rfl⟩) hH ?_
    try simp only [Act.put, List.setIfInBounds_toArray, List.set_cons_zero, List.set_cons_succ]
    refine wpAnyH_take (i := 17) (oi := { dst := some 57, op := Op.call { callee := Callee.value (Operand.func 16), args := #[Operand.tmp 54, Operand.tmp 56], argTypes := #[5, 5] }, type := 5, pos := "own.go:39", after := #[{ on := 14, ground := Ground.data }, { on := 16, ground := Ground.data }, { on := 10, ground := Ground.chain }, { on := 10, ground := Ground.guard }], guard := some (10, true) }) (v := undef) rfl (by kernel_rfl) (by kernel_rfl) (by kernel_rfl) (fun _ _ _ h => h) (Or.inr ⟨by rfl, rfl⟩) hH ?_
    try simp only [Act.put, List.setIfInBounds_toArray, List.set_cons_zero, List.set_cons_succ]
    refine wpAnyH_take (i := 18) (oi := { dst := some 58, op := Op.binOp BinOp.neq 5 (Operand.tmp 52) (Operand.tmp 57) 5, type := 4, pos := "own.go:39", after := #[{ on := 12, ground := Ground.data }, { on := 17, ground := Ground.data }, { on := 10, ground := Ground.guard }], guard := some (10, true) }) (v := undef) rfl (by kernel_rfl) (by kernel_rfl) (by kernel_rfl) (fun _ _ _ h => h) (Or.inr ⟨by rfl, rfl⟩) hH ?_
    try simp only [Act.put, List.setIfInBounds_toArray, List.set_cons_zero, List.set_cons_succ]
    refine wpAnyH_take (i := 19) (oi := { dst := some 59, op := Op.pick (Operand.tmp 50) (Operand.tmp 58) (Operand.const (Value.bool false)), type := 4, pos := "own.go:39", after := #[{ on := 10, ground := Ground.data }, { on := 18, ground := Ground.data }, { on := 8, ground := Ground.guard }], guard := some (8, false) }) (v := ?_) rfl (by kernel_rfl) (by kernel_rfl) (by kernel_rfl) (fun _ _ _ h => h) (Or.inl ⟨by rfl, ?_⟩) hH ?_
    rotate_left
    · intro w hSw; (try dsimp only at hSw); go_simp <;> with_reducible rfl
    try simp only [Act.put, List.setIfInBounds_toArray, List.set_cons_zero, List.set_cons_succ]
    refine wpAnyH_take (i := 20) (oi := { dst := some 60, op := Op.pick (Operand.tmp 48) (Operand.const (Value.bool true)) (Operand.tmp 59), type := 4, pos := "own.go:39", after := #[{ on := 8, ground := Ground.data }, { on := 19, ground := Ground.data }], guard := none }) (v := ?_) rfl (by kernel_rfl) (by kernel_rfl) (by kernel_rfl) (fun _ _ _ h => h) (Or.inl ⟨by rfl, ?_⟩) hH ?_
    rotate_left
    · intro w hSw; (try dsimp only at hSw); go_simp <;> with_reducible rfl
    try simp only [Act.put, List.setIfInBounds_toArray, List.set_cons_zero, List.set_cons_succ]
    refine wpAnyH_take (i := 21) (oi := { dst := some 61, op := Op.move (Operand.tmp 60), type := 4, pos := "own.go:39", after := #[{ on := 20, ground := Ground.data }, { on := 17, ground := Ground.chain }], guard := none }) (v := ?_) rfl (by kernel_rfl) (by kernel_rfl) (by kernel_rfl) (fun _ _ _ h => h) (Or.inl ⟨by rfl, ?_⟩) hH ?_
    rotate_left
    · intro w hSw; (try dsimp only at hSw); go_simp <;> with_reducible rfl
    try simp only [Act.put, List.setIfInBounds_toArray, List.set_cons_zero, List.set_cons_succ]
    refine wpAnyH_take (i := 22) (oi := { dst := some 62, op := Op.move (Operand.tmp 8), type := 4, pos := "own.go:39", after := #[{ on := 21, ground := Ground.guard }], guard := some (21, false) }) (v := ?_) rfl (by kernel_rfl) (by kernel_rfl) (by kernel_rfl) (fun _ _ _ h => h) (Or.inl ⟨by rfl, ?_⟩) hH ?_
    rotate_left
    · intro w hSw; (try dsimp only at hSw); go_simp <;> with_reducible rfl
    try simp only [Act.put, List.setIfInBounds_toArray, List.set_cons_zero, List.set_cons_succ]
    refine wpAnyH_take (i := 23) (oi := { dst := some 63, op := Op.unOp UnOp.not 4 (Operand.tmp 62), type := 4, pos := "own.go:39", after := #[{ on := 22, ground := Ground.data }, { on := 21, ground := Ground.guard }], guard := some (21, false) }) (v := ?_) rfl (by kernel_rfl) (by kernel_rfl) (by kernel_rfl) (fun _ _ _ h => h) (Or.inl ⟨by rfl, ?_⟩) hH ?_
    rotate_left
    · intro w hSw; (try dsimp only at hSw); go_simp <;> with_reducible rfl
    try simp only [Act.put, List.setIfInBounds_toArray, List.set_cons_zero, List.set_cons_succ]
    refine wpAnyH_take (i := 24) (oi := { dst := some 64, op := Op.move (Operand.tmp 63), type := 4, pos := "own.go:39", after := #[{ on := 23, ground := Ground.data }, { on := 21, ground := Ground.chain }, { on := 21, ground := Ground.guard }], guard := some (21, false) }) (v := ?_) rfl (by kernel_rfl) (by kernel_rfl) (by kernel_rfl) (fun _ _ _ h => h) (Or.inl ⟨by rfl, ?_⟩) hH ?_
    rotate_left
    · intro w hSw; (try dsimp only at hSw); go_simp <;> with_reducible rfl
    try simp only [Act.put, List.setIfInBounds_toArray, List.set_cons_zero, List.set_cons_succ]
    refine wpAnyH_take (i := 25) (oi := { dst := some 65, op := Op.load 28 (Operand.tmp 7), type := 28, pos := "own.go:39", after := #[{ on := 24, ground := Ground.guard }], guard := some (24, true) }) (v := ?_) rfl (by kernel_rfl) (by kernel_rfl) (by kernel_rfl) (fun _ _ _ h => h) (Or.inl ⟨by rfl, ?_⟩) hH ?_
    rotate_left
    · intro w hSw; (try dsimp only at hSw); go_simp <;> with_reducible rfl
    try simp only [Act.put, List.setIfInBounds_toArray, List.set_cons_zero, List.set_cons_succ]
    refine wpAnyH_take (i := 26) (oi := { dst := some 66, op := Op.build 28 #[], type := 28, pos := "own.go:39", after := #[{ on := 24, ground := Ground.guard }], guard := some (24, true) }) (v := ?_) rfl (by kernel_rfl) (by kernel_rfl) (by kernel_rfl) (fun _ _ _ h => h) (Or.inl ⟨by rfl, ?_⟩) hH ?_
    rotate_left
    · intro w hSw; (try dsimp only at hSw); go_simp <;> with_reducible rfl
    try simp only [Act.put, List.setIfInBounds_toArray, List.set_cons_zero, List.set_cons_succ]
    refine wpAnyH_take (i := 27) (oi := { dst := some 67, op := Op.binOp BinOp.neq 28 (Operand.tmp 65) (Operand.tmp 66) 28, type := 4, pos := "own.go:39", after := #[{ on := 25, ground := Ground.data }, { on := 26, ground := Ground.data }, { on := 24, ground := Ground.guard }], guard := some (24, true) }) (v := ?_) rfl (by kernel_rfl) (by kernel_rfl) (by kernel_rfl) (fun _ _ _ h => h) (Or.inl ⟨by rfl, ?_⟩) hH ?_
    rotate_left
    · intro w hSw; (try dsimp only at hSw); go_simp <;> with_reducible rfl
    try simp only [Act.put, List.setIfInBounds_toArray, List.set_cons_zero, List.set_cons_succ]
    refine wpAnyH_take (i := 28) (oi := { dst := some 68, op := Op.pick (Operand.tmp 64) (Operand.tmp 67) (Operand.const (Value.bool false)), type := 4, pos := "own.go:39", after := #[{ on := 24, ground := Ground.data }, { on := 27, ground := Ground.data }, { on := 21, ground := Ground.guard }], guard := some (21, false) }) (v := ?_) rfl (by kernel_rfl) (by kernel_rfl) (by kernel_rfl) (fun _ _ _ h => h) (Or.inl ⟨by rfl, ?_⟩) hH ?_
    rotate_left
    · intro w hSw; (try dsimp only at hSw); go_simp <;> with_reducible rfl
    try simp only [Act.put, List.setIfInBounds_toArray, List.set_cons_zero, List.set_cons_succ]
    refine wpAnyH_take (i := 29) (oi := { dst := some 69, op := Op.pick (Operand.tmp 61) (Operand.const (Value.bool true)) (Operand.tmp 68), type := 4, pos := "own.go:39", after := #[{ on := 21, ground := Ground.data }, { on := 28, ground := Ground.data }], guard := none }) (v := ?_) rfl (by kernel_rfl) (by kernel_rfl) (by kernel_rfl) (fun _ _ _ h => h) (Or.inl ⟨by rfl, ?_⟩) hH ?_
    rotate_left
    · intro w hSw; (try dsimp only at hSw); go_simp <;> with_reducible rfl
    try simp only [Act.put, List.setIfInBounds_toArray, List.set_cons_zero, List.set_cons_succ]
    refine wpAnyH_take (i := 30) (oi := { dst := some 70, op := Op.move (Operand.tmp 69), type := 4, pos := "own.go:39", after := #[{ on := 29, ground := Ground.data }, { on := 24, ground := Ground.chain }], guard := none }) (v := ?_) rfl (by kernel_rfl) (by kernel_rfl) (by kernel_rfl) (fun _ _ _ h => h) (Or.inl ⟨by rfl, ?_⟩) hH ?_
    rotate_left
    · intro w hSw; (try dsimp only at hSw); go_simp <;> with_reducible rfl
    try simp only [Act.put, List.setIfInBounds_toArray, List.set_cons_zero, List.set_cons_succ]
    refine wpAnyH_take (i := 31) (oi := { dst := some 71, op := Op.move (Operand.tmp 8), type := 4, pos := "own.go:39", after := #[{ on := 30, ground := Ground.guard }], guard := some (30, false) }) (v := ?_) rfl (by kernel_rfl) (by kernel_rfl) (by kernel_rfl) (fun _ _ _ h => h) (Or.inl ⟨by rfl, ?_⟩) hH ?_
    rotate_left
    · intro w hSw; (try dsimp only at hSw); go_simp <;> with_reducible rfl
    try simp only [Act.put, List.setIfInBounds_toArray, List.set_cons_zero, List.set_cons_succ]
    refine wpAnyH_take (i := 32) (oi := { dst := some 72, op := Op.move (Operand.tmp 71), type := 4, pos := "own.go:39", after := #[{ on := 31, ground := Ground.data }, { on := 30, ground := Ground.chain }, { on := 30, ground := Ground.guard }], guard := some (30, false) }) (v := ?_) rfl (by kernel_rfl) (by kernel_rfl) (by kernel_rfl) (fun _ _ _ h => h) (Or.inl ⟨by rfl, ?_⟩) hH ?_
    rotate_left
    · intro w hSw; (try dsimp only at hSw); go_simp <;> with_reducible rfl
    try simp only [Act.put, List.setIfInBounds_toArray, List.set_cons_zero, List.set_cons_succ]
    refine wpAnyH_take (i := 33) (oi := { dst := some 73, op := Op.load 28 (Operand.tmp 7), type := 28, pos := "own.go:39", after := #[{ on := 32, ground := Ground.guard }], guard := some (32, true) }) (v := undef) rfl (by kernel_rfl) (by kernel_rfl) (by kernel_rfl) (fun _ _ _ h => h) (Or.inr ⟨by rfl, rfl⟩) hH ?_
    try simp only [Act.put, List.setIfInBounds_toArray, List.set_cons_zero, List.set_cons_succ]
    refine wpAnyH_take (i := 34) (oi := { dst := some 74, op := Op.call { callee := Callee.value (Operand.func 17), args := #[Operand.tmp 73], argTypes := #[28] }, type := 36, pos := "own.go:39", after := #[{ on := 33, ground := Ground.data }, { on := 32, ground := Ground.chain }, { on := 32, ground := Ground.guard }], guard := some (32, true) }) (v := undef) rfl (by kernel_rfl) (by kernel_rfl) (by kernel_rfl) (fun _ _ _ h => h) (Or.inr ⟨by rfl, rfl⟩) hH ?_
    try simp only [Act.put, List.setIfInBounds_toArray, List.set_cons_zero, List.set_cons_succ]
    refine wpAnyH_take (i := 35) (oi := { dst := some 75, op := Op.binOp BinOp.neq 36 (Operand.tmp 74) (Operand.const (Value.int IntKind.i64 0)) 36, type := 4, pos := "own.go:39", after := #[{ on := 34, ground := Ground.data }, { on := 32, ground := Ground.guard }], guard := some (32, true) }) (v := undef) rfl (by kernel_rfl) (by kernel_rfl) (by kernel_rfl) (fun _ _ _ h => h) (Or.inr ⟨by rfl, rfl⟩) hH ?_
    try simp only [Act.put, List.setIfInBounds_toArray, List.set_cons_zero, List.set_cons_succ]
    refine wpAnyH_take (i := 36) (oi := { dst := some 76, op := Op.pick (Operand.tmp 72) (Operand.tmp 75) (Operand.const (Value.bool false)), type := 4, pos := "own.go:39", after := #[{ on := 32, ground := Ground.data }, { on := 35, ground := Ground.data }, { on := 30, ground := Ground.guard }], guard := some (30, false) }) (v := ?_) rfl (by kernel_rfl) (by kernel_rfl) (by kernel_rfl) (fun _ _ _ h => h) (Or.inl ⟨by rfl, ?_⟩) hH ?_
    rotate_left
    · intro w hSw; (try dsimp only at hSw); go_simp <;> with_reducible rfl
    try simp only [Act.put, List.setIfInBounds_toArray, List.set_cons_zero, List.set_cons_succ]
    refine wpAnyH_take (i := 37) (oi := { dst := some 77, op := Op.pick (Operand.tmp 70) (Operand.const (Value.bool true)) (Operand.tmp 76), type := 4, pos := "own.go:39", after := #[{ on := 30, ground := Ground.data }, { on := 36, ground := Ground.data }], guard := none }) (v := ?_) rfl (by kernel_rfl) (by kernel_rfl) (by kernel_rfl) (fun _ _ _ h => h) (Or.inl ⟨by rfl, ?_⟩) hH ?_
    rotate_left
    · intro w hSw; (try dsimp only at hSw); go_simp <;> with_reducible rfl
    try simp only [Act.put, List.setIfInBounds_toArray, List.set_cons_zero, List.set_cons_succ]
    refine wpAnyH_done (by kernel_rfl) ?_ _
    go_upto_region 13 with (go_at_call 14; ((with_reducible refine (M2.out _).mono ?_)); rintro e w9 ⟨rfl, hb9⟩; clear a0 a1 a2 a3 az b0 b1 b2 b3 bz c0 c1 c2 c3 cz d0 d1 d2 d3 dz; replace hP := Aw.next (by first | exact hP | exact hP.alloc _ | exact hP.draw _ | exact (hP.draw _).alloc _ | exact (hP.alloc _).draw _ | exact hP.draw1 | exact hP.draw1.alloc _ | exact (hP.alloc _).draw1) hb9; replace hQ := Aw.next (by first | exact hQ | exact hQ.alloc _ | exact hQ.draw _ | exact (hQ.draw _).alloc _ | exact (hQ.alloc _).draw _ | exact hQ.draw1 | exact hQ.draw1.alloc _ | exact (hQ.alloc _).draw1) hb9; replace hC := Aw.next (by first | exact hC | exact hC.alloc _ | exact hC.draw _ | exact (hC.draw _).alloc _ | exact (hC.alloc _).draw _ | exact hC.draw1 | exact hC.draw1.alloc _ | exact (hC.alloc _).draw1) hb9; replace hD := Aw.next (by first | exact hD | exact hD.alloc _ | exact hD.draw _ | exact (hD.draw _).alloc _ | exact (hD.alloc _).draw _ | exact hD.draw1 | exact hD.draw1.alloc _ | exact (hD.alloc _).draw1) hb9; obtain ⟨a0, a1, a2, a3⟩ := hP.cells; have az := hP.2.2.1; obtain ⟨b0, b1, b2, b3⟩ := hQ.cells; have bz := hQ.2.2.1; obtain ⟨c0, c1, c2, c3⟩ := hC.cells; have cz := hC.2.2.1; obtain ⟨d0, d1, d2, d3⟩ := hD.cells; have dz := hD.2.2.1; clear hb9)
    obtain ⟨W5, hW5⟩ : ∃ W5, W5 = w9.alloc (.cells #[.int .u8 0, .int .i64 0, .int .u64 0, .string ⟨#[]⟩] 28) := ⟨_, rfl⟩
    rw [← hW5]
    have hF : Aw w W5 w9.heap.size 0 0 0 ⟨#[]⟩ := by subst hW5; exact aw_new hP _ _ _ _ _
    replace hP := (show Aw w W5 _ _ _ _ _ by subst hW5; exact hP.alloc _)
    replace hQ := (show Aw w W5 _ _ _ _ _ by subst hW5; exact hQ.alloc _)
    replace hC := (show Aw w W5 _ _ _ _ _ by subst hW5; exact hC.alloc _)
    replace hD := (show Aw w W5 _ _ _ _ _ by subst hW5; exact hD.alloc _)
    clear hW5 az bz cz dz a0 a1 a2 a3 b0 b1 b2 b3 c0 c1 c2 c3 d0 d1 d2 d3
    generalize w9.heap.size = pf at *
    clear w9
    obtain ⟨a0, a1, a2, a3⟩ := hP.cells
    obtain ⟨b0, b1, b2, b3⟩ := hQ.cells
    obtain ⟨c0, c1, c2, c3⟩ := hC.cells
    obtain ⟨d0, d1, d2, d3⟩ := hD.cells
    obtain ⟨f0, f1, f2, f3⟩ := hF.cells
    have az := hP.2.2.1
    have bz := hQ.2.2.1
    have cz := hC.2.2.1
    have dz := hD.2.2.1
    have fz := hF.2.2.1
    go_wp2_with (go_at_call 9; ((with_reducible refine (A1.out _).mono ?_)); rintro e w9 ⟨rfl, hb9⟩; clear a0 a1 a2 a3 az b0 b1 b2 b3 bz c0 c1 c2 c3 cz d0 d1 d2 d3 dz f0 f1 f2 f3 fz; replace hP := Aw.next (by first | exact hP | exact hP.alloc _ | exact hP.draw _ | exact (hP.draw _).alloc _ | exact (hP.alloc _).draw _ | exact hP.draw1 | exact hP.draw1.alloc _ | exact (hP.alloc _).draw1) hb9; replace hQ := Aw.next (by first | exact hQ | exact hQ.alloc _ | exact hQ.draw _ | exact (hQ.draw _).alloc _ | exact (hQ.alloc _).draw _ | exact hQ.draw1 | exact hQ.draw1.alloc _ | exact (hQ.alloc _).draw1) hb9; replace hC := Aw.next (by first | exact hC | exact hC.alloc _ | exact hC.draw _ | exact (hC.draw _).alloc _ | exact (hC.alloc _).draw _ | exact hC.draw1 | exact hC.draw1.alloc _ | exact (hC.alloc _).draw1) hb9; replace hD := Aw.next (by first | exact hD | exact hD.alloc _ | exact hD.draw _ | exact (hD.draw _).alloc _ | exact (hD.alloc _).draw _ | exact hD.draw1 | exact hD.draw1.alloc _ | exact (hD.alloc _).draw1) hb9; replace hF := Aw.next (by first | exact hF | exact hF.alloc _ | exact hF.draw _ | exact (hF.draw _).alloc _ | exact (hF.alloc _).draw _ | exact hF.draw1 | exact hF.draw1.alloc _ | exact (hF.alloc _).draw1) hb9; obtain ⟨a0, a1, a2, a3⟩ := hP.cells; have az := hP.2.2.1; obtain ⟨b0, b1, b2, b3⟩ := hQ.cells; have bz := hQ.2.2.1; obtain ⟨c0, c1, c2, c3⟩ := hC.cells; have cz := hC.2.2.1; obtain ⟨d0, d1, d2, d3⟩ := hD.cells; have dz := hD.2.2.1; obtain ⟨f0, f1, f2, f3⟩ := hF.cells; have fz := hF.2.2.1; clear hb9)
    go_ret
    exact ⟨rfl, hP.1⟩
end Go.Proofs.Ytmlcpedbpjghhaa
