/-
  The document's sets as words, walked.
-/
import Derived.Test.YtceomkoecidoiaaFolBuild2
import Derived.Test.YtceomkoecidoiaaWords
namespace Go.Proofs.Ytceomkoecidoiaa
open Go.RowKit
attribute [local go_sem ↓] run_ld42

theorem u32_info : ∃ i0, Try.prog.info? 27 = some i0 ∧ i0.zero = some (.int .u32 0) ∧ i0.size = 1 ∧ i0.bytes = 4 := by
  have hinfo := info_u32
  cases hi : Try.prog.info? 27 with
  | none => rw [hi] at hinfo; simp at hinfo
  | some i =>
    rw [hi] at hinfo
    simp only [Option.map_some, Option.some.injEq, Prod.mk.injEq] at hinfo
    exact ⟨i, rfl, hinfo⟩

/-- rows of the document behind a slice's value -/
def RowsV (w : World) (v : Value) (P : Nat) (T : Nat → Nat → Bool) : Prop := ∃ ao c, v = .slice ao P c ∧ (0 < P → ∃ g, ao = some ⟨g, 0, none⟩ ∧ RowsB w g P T)
/-- rows of the program behind a slice's value -/
def U32V (w : World) (v : Value) (P : Nat) (T : Nat → Nat → Bool) : Prop := ∃ ao c, v = .slice ao P c ∧ (0 < P → ∃ g o, ao = some ⟨g, o, none⟩ ∧ g < w.heap.size ∧ ∀ i, i < P → w.cell? ⟨g, o + i, none⟩ = some (.int .u32 (msk (T i) 32)))
theorem RowsV.fr {w w' : World} {v : Value} {P : Nat} {T : Nat → Nat → Bool} (h : RowsV w v P T) (hF : Fr (fun _ => False) w w') : RowsV w' v P T := by
  obtain ⟨ao, c, hv, hp⟩ := h
  refine ⟨ao, c, hv, fun h0 => ?_⟩
  obtain ⟨g, ha, hr⟩ := hp h0
  exact ⟨g, ha, hr.fr hF (fun e => e)⟩
theorem U32V.fr {w w' : World} {v : Value} {P : Nat} {T : Nat → Nat → Bool} (h : U32V w v P T) (hF : Fr (fun _ => False) w w') : U32V w' v P T := by
  obtain ⟨ao, c, hv, hp⟩ := h
  refine ⟨ao, c, hv, fun h0 => ?_⟩
  obtain ⟨g, o, ha, hg, hr⟩ := hp h0
  exact ⟨g, o, ha, Nat.lt_of_lt_of_le hg hF.size, fun i hi => hF.cell (hr i hi) (fun e => e)⟩
def wordsL (T : Nat → Nat → Bool) (j : Nat) : List Value := (List.range j).map fun i => .int .u32 (msk (T i) 32)
theorem wordsL_succ (T : Nat → Nat → Bool) (j : Nat) : wordsL T (j + 1) = wordsL T j ++ [.int .u32 (msk (T j) 32)] := by simp [wordsL, List.range_succ]

theorem heap4 {w : World} {b : Nat} {a0 a1 a2 a3 : Value} {t : TypeId} (h : w.heap[b]? = some (.cells #[a0, a1, a2, a3] t (0, 0))) (x0 x1 x2 x3 : Value) :
    ((((w.setCell ⟨b, 0, none⟩ x0).setCell ⟨b, 1, none⟩ x1).setCell ⟨b, 2, none⟩ x2).setCell ⟨b, 3, none⟩ x3).heap[b]? = some (.cells #[x0, x1, x2, x3] t (0, 0)) := by
  rw [heap_set (heap_set (heap_set (heap_set h x0) x1) x2) x3]; rfl
theorem Fr.four {S : Nat → Prop} {a w : World} {b : Nat} (h : Fr S a w) (hb : b < a.heap.size → S b) (x0 x1 x2 x3 : Value) :
    Fr S a ((((w.setCell ⟨b, 0, none⟩ x0).setCell ⟨b, 1, none⟩ x1).setCell ⟨b, 2, none⟩ x2).setCell ⟨b, 3, none⟩ x3) :=
  (((h.setCell (p := ⟨b, 0, none⟩) hb x0).setCell (p := ⟨b, 1, none⟩) hb x1).setCell (p := ⟨b, 2, none⟩) hb x2).setCell (p := ⟨b, 3, none⟩) hb x3

set_option maxRecDepth 100000 in
set_option maxHeartbeats 2000000 in
theorem words_ok {w : World} {v0 : Value} {P : Nat} {T : Nat → Nat → Bool} (n : Bool) (f l : Nat → Bool) (hR : RowsV w v0 P T) (hP : P ≤ 40) :
    Calls Try.prog 12 #[setsV n f l v0] w fun e w' => ∃ v, e = .returned (foV n (msk f 32) (msk l 32) v) ∧ U32V w' v P T ∧ Fr (fun _ => False) w w' := by
  obtain ⟨i0, hi0, hz0, hz1, hz2⟩ := u32_info
  have HR := hid hR
  obtain ⟨ao, c, rfl, hp⟩ := hR
  have HPp := hid hp
  clear hp
  unfold setsV
  go_enter Try.func12, Try.ntmps12
  go_upto_region 1 with fail
  obtain ⟨w1, hw1⟩ : ∃ w1, w1 = (w.alloc (.cells (setsC n f l (.slice ao P c)).toArray 45)).alloc (.cells #[.bool false, .int .u32 0, .int .u32 0, .slice none 0 0] 32) := ⟨_, rfl⟩
  obtain ⟨k, hk⟩ : ∃ k, k = w.heap.size := ⟨_, rfl⟩
  obtain ⟨r, hr⟩ : ∃ r, r = w.heap.size + 1 := ⟨_, rfl⟩
  rw [← hw1, ← hr, ← hk]
  have K1 := hid (show SetsB w1 k n f l (.slice ao P c) from ⟨by rw [hw1, hk]; exact heap_old (heap_new w _) _⟩)
  have R1 := hid (show w1.heap[r]? = some (.cells #[.bool false, .int .u32 0, .int .u32 0, .slice none 0 0] 32 (0, 0)) by rw [hw1, hr]; simpa using heap_new (w.alloc _) (.cells _ 32))
  have F1 := hid (show Fr (fun _ => False) w w1 by rw [hw1]; exact ((Fr.refl _ w).alloc _).alloc _)
  have hkw : w.heap.size ≤ k := by omega
  have hkr : k < r := by omega
  clear hw1 hk hr
  go_cut [3] (fun sv wx => ∃ so, sv = .pointer (some ⟨so, 0, none⟩) ∧ w1.heap.size ≤ so ∧ wx.heap[so]? = some (.cells #[.bool n, .int .u32 (msk f 32), .int .u32 (msk l 32), .slice none 0 0] 32 (0, 0)) ∧ Fr (fun _ => False) w1 wx)
  case first =>
    have l1 : ∀ w', Fr (fun _ => False) w1 w' → w'.cell? ⟨k, 0, none⟩ = some (.bool n) := fun w' h => (K1.out.fr h (fun e => e)).c0
    have l2 : ∀ w', Fr (fun _ => False) w1 w' → ld 42 (.pointer (some ⟨k, 1, none⟩)) w' = .ok (.value (setV f)) w' := fun w' h => ld_set (K1.out.fr h (fun e => e)).rowF
    have l3 : ∀ w', Fr (fun _ => False) w1 w' → ld 42 (.pointer (some ⟨k, 33, none⟩)) w' = .ok (.value (setV l)) w' := fun w' h => ld_set (K1.out.fr h (fun e => e)).rowL
    have q := (Fr.refl (fun _ => False) w1).drew
    refine wp_region_held_drew (S := (fun w' => Fr (fun _ => False) w1 w')) (by kernel_rfl) ?_ (fun hH => ?_)
    · exact q
    refine wpAnyH_take (i := 0) (oi := { dst := some 5, op := Op.fieldAddr 45 (Operand.tmp 1) 0, type := 0, pos := "law.go:15", after := #[], guard := none }) (v := ?_) rfl (by kernel_rfl) (by kernel_rfl) (by kernel_rfl) (fun _ _ _ h => h) (Or.inl ⟨by rfl, ?_⟩) hH ?_
    rotate_left
    · intro w hSw; (try dsimp only at hSw); go_simp <;> with_reducible rfl
    try simp only [Act.put, List.setIfInBounds_toArray, List.set_cons_zero, List.set_cons_succ]
    refine wpAnyH_take (i := 1) (oi := { dst := some 6, op := Op.load 4 (Operand.tmp 5), type := 4, pos := "law.go:15", after := #[{ on := 0, ground := Ground.data }], guard := none }) (v := ?_) rfl (by kernel_rfl) (by kernel_rfl) (by kernel_rfl) (fun _ _ _ h => h) (Or.inl ⟨by rfl, ?_⟩) hH ?_
    rotate_left
    · intro w hSw; (try dsimp only at hSw); go_simp <;> with_reducible rfl
    try simp only [Act.put, List.setIfInBounds_toArray, List.set_cons_zero, List.set_cons_succ]
    refine wpAnyH_take (i := 2) (oi := { dst := some 7, op := Op.fieldAddr 45 (Operand.tmp 1) 1, type := 0, pos := "law.go:15", after := #[], guard := none }) (v := ?_) rfl (by kernel_rfl) (by kernel_rfl) (by kernel_rfl) (fun _ _ _ h => h) (Or.inl ⟨by rfl, ?_⟩) hH ?_
    rotate_left
    · intro w hSw; (try dsimp only at hSw); go_simp <;> with_reducible rfl
    try simp only [Act.put, List.setIfInBounds_toArray, List.set_cons_zero, List.set_cons_succ]
    refine wpAnyH_take (i := 3) (oi := { dst := some 8, op := Op.load 42 (Operand.tmp 7), type := 42, pos := "law.go:15", after := #[{ on := 2, ground := Ground.data }], guard := none }) (v := ?_) rfl (by kernel_rfl) (by kernel_rfl) (by kernel_rfl) (fun _ _ _ h => h) (Or.inl ⟨by rfl, ?_⟩) hH ?_
    rotate_left
    · intro w hSw; (try dsimp only at hSw); go_simp <;> with_reducible rfl
    try simp only [Act.put, List.setIfInBounds_toArray, List.set_cons_zero, List.set_cons_succ]
    refine wpAnyH_take (i := 5) (oi := { dst := some 10, op := Op.fieldAddr 45 (Operand.tmp 1) 2, type := 0, pos := "law.go:15", after := #[], guard := none }) (v := ?_) rfl (by kernel_rfl) (by kernel_rfl) (by kernel_rfl) (fun _ _ _ h => h) (Or.inl ⟨by rfl, ?_⟩) hH ?_
    rotate_left
    · intro w hSw; (try dsimp only at hSw); go_simp <;> with_reducible rfl
    try simp only [Act.put, List.setIfInBounds_toArray, List.set_cons_zero, List.set_cons_succ]
    refine wpAnyH_take (i := 6) (oi := { dst := some 11, op := Op.load 42 (Operand.tmp 10), type := 42, pos := "law.go:15", after := #[{ on := 5, ground := Ground.data }], guard := none }) (v := ?_) rfl (by kernel_rfl) (by kernel_rfl) (by kernel_rfl) (fun _ _ _ h => h) (Or.inl ⟨by rfl, ?_⟩) hH ?_
    rotate_left
    · intro w hSw; (try dsimp only at hSw); go_simp <;> with_reducible rfl
    try simp only [Act.put, List.setIfInBounds_toArray, List.set_cons_zero, List.set_cons_succ]
    refine wpAnyH_ready (rs := [4, 9]) (by kernel_rfl) (by simp) ?_
    refine AllReadyH.cons (o := { dst := some 9, op := Op.call { callee := Callee.value (Operand.func 26), args := #[Operand.tmp 8], argTypes := #[42] }, type := 27, pos := "law.go:15", after := #[{ on := 3, ground := Ground.data }], guard := none }) rfl (fun K hK => ?_) ?_
    ·
      go_simp
      go_at_call 26
      refine (word_ok f _).mono ?_
      rintro e wa ⟨rfl, hFa⟩
      have q := q.trans' hFa
      go_simp
      refine hK.out _ _ ?_ (fun hH => ?_)
      · exact q
      clear hK K
      try simp only [Act.put, List.setIfInBounds_toArray, List.set_cons_zero, List.set_cons_succ]
      refine wpAnyH_ready (rs := [7, 9]) (by kernel_rfl) (by simp) ?_
      refine AllReadyH.cons (o := { dst := some 12, op := Op.call { callee := Callee.value (Operand.func 26), args := #[Operand.tmp 11], argTypes := #[42] }, type := 27, pos := "law.go:15", after := #[{ on := 6, ground := Ground.data }, { on := 4, ground := Ground.chain }], guard := none }) rfl (fun K hK => ?_) ?_
      ·
        go_simp
        go_at_call 26
        refine (word_ok l _).mono ?_
        rintro e wb ⟨rfl, hFb⟩
        have q := q.trans' hFb
        go_simp
        refine hK.out _ _ ?_ (fun hH => ?_)
        · exact q
        clear hK K
        try simp only [Act.put, List.setIfInBounds_toArray, List.set_cons_zero, List.set_cons_succ]
        refine wpAnyH_take (i := 8) (oi := { dst := some 13, op := Op.build 32 #[(0, Operand.tmp 6), (1, Operand.tmp 9), (2, Operand.tmp 12)], type := 32, pos := "law.go:15", after := #[{ on := 1, ground := Ground.data }, { on := 4, ground := Ground.data }, { on := 7, ground := Ground.data }], guard := none }) (v := ?_) rfl (by kernel_rfl) (by kernel_rfl) (by kernel_rfl) (fun _ _ _ h => h) (Or.inl ⟨by rfl, ?_⟩) hH ?_
        rotate_left
        · intro w hSw; (try dsimp only at hSw); go_simp <;> with_reducible rfl
        try simp only [Act.put, List.setIfInBounds_toArray, List.set_cons_zero, List.set_cons_succ]
        refine wpAnyH_ready (rs := [9]) (by kernel_rfl) (by simp) ?_
        refine AllReadyH.cons (o := { dst := some 3, op := Op.alloc 32, type := 0, pos := "law.go:15", after := #[], guard := none }) rfl (fun K hK => ?_) AllReadyH.nil
        go_simp
        obtain ⟨wz, hwz⟩ : ∃ wz, wz = wb.alloc (.cells #[.bool false, .int .u32 0, .int .u32 0, .slice none 0 0] 32) := ⟨_, rfl⟩
        obtain ⟨so, hso⟩ : ∃ so, so = wb.heap.size := ⟨_, rfl⟩
        rw [← hwz, ← hso]
        have hS : wz.heap[so]? = some (.cells #[.bool false, .int .u32 0, .int .u32 0, .slice none 0 0] 32 (0, 0)) := by rw [hwz, hso]; exact heap_new wb _
        have hso1 : w1.heap.size ≤ so := by have := q.size; rw [hso]; exact this
        have q : Fr (fun _ => False) w1 wz := by rw [hwz]; exact q.alloc _
        clear hwz hso
        refine hK.out _ _ ?_ (fun hH => ?_)
        · exact q
        clear hK K
        try simp only [Act.put, List.setIfInBounds_toArray, List.set_cons_zero, List.set_cons_succ]
        refine wpAnyH_ready (rs := [10]) (by kernel_rfl) (by simp) ?_
        refine AllReadyH.cons (o := { dst := none, op := Op.store 32 (Operand.tmp 3) (Operand.tmp 13), type := 0, pos := "law.go:15", after := #[{ on := 9, ground := Ground.data }, { on := 8, ground := Ground.data }, { on := 7, ground := Ground.chain }, { on := 0, ground := Ground.phase }, { on := 1, ground := Ground.phase }, { on := 2, ground := Ground.phase }, { on := 3, ground := Ground.phase }, { on := 4, ground := Ground.phase }, { on := 5, ground := Ground.phase }, { on := 6, ground := Ground.phase }, { on := 7, ground := Ground.phase }, { on := 8, ground := Ground.phase }, { on := 9, ground := Ground.phase }], guard := none }) rfl (fun K hK => ?_) AllReadyH.nil
        have s0 := cell_of hS 0 (v := .bool false) rfl
        have s1 := cell_of hS 1 (v := .int .u32 0) rfl
        have s2 := cell_of hS 2 (v := .int .u32 0) rfl
        have s3 := cell_of hS 3 (v := .slice none 0 0) rfl
        have g0 := free_of hS 0
        have g1 := free_of hS 1
        have g2 := free_of hS 2
        have g3 := free_of hS 3
        go_simp
        refine hK.out _ _ ?_ (fun hH => ?_)
        · exact q.four (by omega) _ _ _ _
        clear hK K
        refine wpAnyH_done (by kernel_rfl) ?_ _
        go_wp2_with fail
        go_meet
        exact ⟨so, rfl, hso1, heap4 hS _ _ _ _, q.four (by omega) _ _ _ _⟩
      refine AllReadyH.cons (o := { dst := some 3, op := Op.alloc 32, type := 0, pos := "law.go:15", after := #[], guard := none }) rfl (fun K hK => ?_) AllReadyH.nil
      go_simp
      obtain ⟨wz, hwz⟩ : ∃ wz, wz = wa.alloc (.cells #[.bool false, .int .u32 0, .int .u32 0, .slice none 0 0] 32) := ⟨_, rfl⟩
      obtain ⟨so, hso⟩ : ∃ so, so = wa.heap.size := ⟨_, rfl⟩
      rw [← hwz, ← hso]
      have hS : wz.heap[so]? = some (.cells #[.bool false, .int .u32 0, .int .u32 0, .slice none 0 0] 32 (0, 0)) := by rw [hwz, hso]; exact heap_new wa _
      have hso1 : w1.heap.size ≤ so := by have := q.size; rw [hso]; exact this
      have q : Fr (fun _ => False) w1 wz := by rw [hwz]; exact q.alloc _
      clear hwz hso
      refine hK.out _ _ ?_ (fun hH => ?_)
      · exact q
      clear hK K
      try simp only [Act.put, List.setIfInBounds_toArray, List.set_cons_zero, List.set_cons_succ]
      refine wpAnyH_ready (rs := [7]) (by kernel_rfl) (by simp) ?_
      refine AllReadyH.cons (o := { dst := some 12, op := Op.call { callee := Callee.value (Operand.func 26), args := #[Operand.tmp 11], argTypes := #[42] }, type := 27, pos := "law.go:15", after := #[{ on := 6, ground := Ground.data }, { on := 4, ground := Ground.chain }], guard := none }) rfl (fun K hK => ?_) AllReadyH.nil
      go_simp
      go_at_call 26
      refine (word_ok l _).mono ?_
      rintro e wb ⟨rfl, hFb⟩
      have q := q.trans' hFb
      have hS := hFb.heap hS (fun e => e)
      go_simp
      refine hK.out _ _ ?_ (fun hH => ?_)
      · exact q
      clear hK K
      try simp only [Act.put, List.setIfInBounds_toArray, List.set_cons_zero, List.set_cons_succ]
      refine wpAnyH_take (i := 8) (oi := { dst := some 13, op := Op.build 32 #[(0, Operand.tmp 6), (1, Operand.tmp 9), (2, Operand.tmp 12)], type := 32, pos := "law.go:15", after := #[{ on := 1, ground := Ground.data }, { on := 4, ground := Ground.data }, { on := 7, ground := Ground.data }], guard := none }) (v := ?_) rfl (by kernel_rfl) (by kernel_rfl) (by kernel_rfl) (fun _ _ _ h => h) (Or.inl ⟨by rfl, ?_⟩) hH ?_
      rotate_left
      · intro w hSw; (try dsimp only at hSw); go_simp <;> with_reducible rfl
      try simp only [Act.put, List.setIfInBounds_toArray, List.set_cons_zero, List.set_cons_succ]
      refine wpAnyH_ready (rs := [10]) (by kernel_rfl) (by simp) ?_
      refine AllReadyH.cons (o := { dst := none, op := Op.store 32 (Operand.tmp 3) (Operand.tmp 13), type := 0, pos := "law.go:15", after := #[{ on := 9, ground := Ground.data }, { on := 8, ground := Ground.data }, { on := 7, ground := Ground.chain }, { on := 0, ground := Ground.phase }, { on := 1, ground := Ground.phase }, { on := 2, ground := Ground.phase }, { on := 3, ground := Ground.phase }, { on := 4, ground := Ground.phase }, { on := 5, ground := Ground.phase }, { on := 6, ground := Ground.phase }, { on := 7, ground := Ground.phase }, { on := 8, ground := Ground.phase }, { on := 9, ground := Ground.phase }], guard := none }) rfl (fun K hK => ?_) AllReadyH.nil
      have s0 := cell_of hS 0 (v := .bool false) rfl
      have s1 := cell_of hS 1 (v := .int .u32 0) rfl
      have s2 := cell_of hS 2 (v := .int .u32 0) rfl
      have s3 := cell_of hS 3 (v := .slice none 0 0) rfl
      have g0 := free_of hS 0
      have g1 := free_of hS 1
      have g2 := free_of hS 2
      have g3 := free_of hS 3
      go_simp
      refine hK.out _ _ ?_ (fun hH => ?_)
      · exact q.four (by omega) _ _ _ _
      clear hK K
      refine wpAnyH_done (by kernel_rfl) ?_ _
      go_wp2_with fail
      go_meet
      exact ⟨so, rfl, hso1, heap4 hS _ _ _ _, q.four (by omega) _ _ _ _⟩
    refine AllReadyH.cons (o := { dst := some 3, op := Op.alloc 32, type := 0, pos := "law.go:15", after := #[], guard := none }) rfl (fun K hK => ?_) AllReadyH.nil
    go_simp
    obtain ⟨wz, hwz⟩ : ∃ wz, wz = (w1.alloc (.cells #[.bool false, .int .u32 0, .int .u32 0, .slice none 0 0] 32)).drew := ⟨_, rfl⟩
    obtain ⟨so, hso⟩ : ∃ so, so = w1.heap.size := ⟨_, rfl⟩
    rw [← hwz, ← hso]
    have hS : wz.heap[so]? = some (.cells #[.bool false, .int .u32 0, .int .u32 0, .slice none 0 0] 32 (0, 0)) := by rw [hwz, hso]; exact heap_new w1 _
    have hso1 : w1.heap.size ≤ so := by have := q.size; rw [hso]; exact this
    have q : Fr (fun _ => False) w1 wz := by rw [hwz]; exact ((Fr.refl (fun _ => False) w1).alloc _).drew
    clear hwz hso
    refine hK.out _ _ ?_ (fun hH => ?_)
    · exact q
    clear hK K
    try simp only [Act.put, List.setIfInBounds_toArray, List.set_cons_zero, List.set_cons_succ]
    refine wpAnyH_ready (rs := [4]) (by kernel_rfl) (by simp) ?_
    refine AllReadyH.cons (o := { dst := some 9, op := Op.call { callee := Callee.value (Operand.func 26), args := #[Operand.tmp 8], argTypes := #[42] }, type := 27, pos := "law.go:15", after := #[{ on := 3, ground := Ground.data }], guard := none }) rfl (fun K hK => ?_) AllReadyH.nil
    go_simp
    go_at_call 26
    refine (word_ok f _).mono ?_
    rintro e wa ⟨rfl, hFa⟩
    have q := q.trans' hFa
    have hS := hFa.heap hS (fun e => e)
    go_simp
    refine hK.out _ _ ?_ (fun hH => ?_)
    · exact q
    clear hK K
    try simp only [Act.put, List.setIfInBounds_toArray, List.set_cons_zero, List.set_cons_succ]
    refine wpAnyH_ready (rs := [7]) (by kernel_rfl) (by simp) ?_
    refine AllReadyH.cons (o := { dst := some 12, op := Op.call { callee := Callee.value (Operand.func 26), args := #[Operand.tmp 11], argTypes := #[42] }, type := 27, pos := "law.go:15", after := #[{ on := 6, ground := Ground.data }, { on := 4, ground := Ground.chain }], guard := none }) rfl (fun K hK => ?_) AllReadyH.nil
    go_simp
    go_at_call 26
    refine (word_ok l _).mono ?_
    rintro e wb ⟨rfl, hFb⟩
    have q := q.trans' hFb
    have hS := hFb.heap hS (fun e => e)
    go_simp
    refine hK.out _ _ ?_ (fun hH => ?_)
    · exact q
    clear hK K
    try simp only [Act.put, List.setIfInBounds_toArray, List.set_cons_zero, List.set_cons_succ]
    refine wpAnyH_take (i := 8) (oi := { dst := some 13, op := Op.build 32 #[(0, Operand.tmp 6), (1, Operand.tmp 9), (2, Operand.tmp 12)], type := 32, pos := "law.go:15", after := #[{ on := 1, ground := Ground.data }, { on := 4, ground := Ground.data }, { on := 7, ground := Ground.data }], guard := none }) (v := ?_) rfl (by kernel_rfl) (by kernel_rfl) (by kernel_rfl) (fun _ _ _ h => h) (Or.inl ⟨by rfl, ?_⟩) hH ?_
    rotate_left
    · intro w hSw; (try dsimp only at hSw); go_simp <;> with_reducible rfl
    try simp only [Act.put, List.setIfInBounds_toArray, List.set_cons_zero, List.set_cons_succ]
    refine wpAnyH_ready (rs := [10]) (by kernel_rfl) (by simp) ?_
    refine AllReadyH.cons (o := { dst := none, op := Op.store 32 (Operand.tmp 3) (Operand.tmp 13), type := 0, pos := "law.go:15", after := #[{ on := 9, ground := Ground.data }, { on := 8, ground := Ground.data }, { on := 7, ground := Ground.chain }, { on := 0, ground := Ground.phase }, { on := 1, ground := Ground.phase }, { on := 2, ground := Ground.phase }, { on := 3, ground := Ground.phase }, { on := 4, ground := Ground.phase }, { on := 5, ground := Ground.phase }, { on := 6, ground := Ground.phase }, { on := 7, ground := Ground.phase }, { on := 8, ground := Ground.phase }, { on := 9, ground := Ground.phase }], guard := none }) rfl (fun K hK => ?_) AllReadyH.nil
    have s0 := cell_of hS 0 (v := .bool false) rfl
    have s1 := cell_of hS 1 (v := .int .u32 0) rfl
    have s2 := cell_of hS 2 (v := .int .u32 0) rfl
    have s3 := cell_of hS 3 (v := .slice none 0 0) rfl
    have g0 := free_of hS 0
    have g1 := free_of hS 1
    have g2 := free_of hS 2
    have g3 := free_of hS 3
    go_simp
    refine hK.out _ _ ?_ (fun hH => ?_)
    · exact q.four (by omega) _ _ _ _
    clear hK K
    refine wpAnyH_done (by kernel_rfl) ?_ _
    go_wp2_with fail
    go_meet
    exact ⟨so, rfl, hso1, heap4 hS _ _ _ _, q.four (by omega) _ _ _ _⟩
  case rest =>
    obtain ⟨so, rfl, hso, hS, hF⟩ := hcut
    have hsl := lt_of_block hS
    have hr1l := lt_of_block R1.out
    have hk1l := K1.out.lt
    have KC := hid (K1.out.fr hF (fun e => e))
    have RC := hid (hF.heap R1.out (fun e => e))
    have FC := hid (F1.out.trans' hF)
    have SC := hid hS
    obtain ⟨B0, hB0⟩ : ∃ B0, B0 = wc.heap.size := ⟨_, rfl⟩
    clear hS hF K1 R1 F1
    go_wp2_with fail
    go_loopw [4] (fun i wr => ∃ j : Nat, j ≤ P ∧ i = .int .i64 j ∧ ∃ v, wr.ownsRow B0 27 1 v j (wordsL T j) ∧ wr.heap[so]? = some (.cells #[.bool n, .int .u32 (msk f 32), .int .u32 (msk l 32), v] 32 (0, 0)) ∧ Fr (fun k => k = so) wc wr) (fun i _ => P - (intOf i).toNat)
    case atStart => exact ⟨0, Nat.zero_le _, rfl, _, World.ownsRow_nil _ _ _ _, SC.out, Fr.refl _ _⟩
    case round =>
      obtain ⟨j, hj, rfl, v, hown, hS, hF⟩ := hrel
      have HK := hid (KC.out.fr hF (by omega))
      have HR2 := hid (hF.heap RC.out (by omega))
      have HF := hid hF
      have hFs := hF.size
      by_cases hjP : j < P
      · obtain ⟨g, rfl, hG⟩ := HPp.out (by omega)
        have hgl := lt_of_block hG.blk
        have hwl := FC.out.size
        have HG := hid ((hG.fr FC.out (fun e => e)).fr hF (by have := FC.out.size; omega))
        have hown' : ∀ q, v.ownBlock = some q → B0 ≤ q := fun q e => (hown.lt q e).1
        have l1 : ∀ w', Fr (fun _ => False) wr w' → w'.cell? ⟨so, 3, none⟩ = some v := fun w' h => cell_of (h.heap hS (fun e => e)) 3 rfl
        have l2 : ∀ w', Fr (fun q => v.ownBlock = some q ∨ q = so) wr w' → w'.cell? ⟨k, 65, none⟩ = some (.slice (some ⟨g, 0, none⟩) P c) := fun w' h => (HK.out.fr h (fun e => e.elim (fun e => by have := hown' _ e; omega) (fun e => by omega))).c65
        have l3 : ∀ w', Fr (fun q => v.ownBlock = some q ∨ q = so) wr w' → ld 42 (.pointer (some ⟨g, j * 32, none⟩)) w' = .ok (.value (setV (T j))) w' := fun w' h => ld_set ((HG.out.fr h (fun e => e.elim (fun e => by have := hown' _ e; omega) (fun e => by omega))).row j hjP)
        have hjP' : (j : Int) < P := by omega
        have hj0 : (0 : Int) ≤ j := by omega
        have k65 := HK.out.c65
        have hq := (Fr.refl (fun _ => False) wr).drew
        have HS := hid hS
        have HOWN := hid hown
        have HL1 := hid l1
        clear hS hF hG hown
        go_upto_region 5 with fail
        refine wp_region_held_drew (S := (fun w' => Fr (fun q => v.ownBlock = some q ∨ q = so) wr w')) (by kernel_rfl) ?_ (fun hH => ?_)
        · exact hq.quiet
        refine wpAnyH_take (i := 0) (oi := { dst := some 21, op := Op.fieldAddr 32 (Operand.tmp 3) 3, type := 0, pos := "law.go:17", after := #[], guard := none }) (v := ?_) rfl (by kernel_rfl) (by kernel_rfl) (by kernel_rfl) (fun _ _ _ h => h) (Or.inl ⟨by rfl, ?_⟩) hH ?_
        rotate_left
        · intro w hSw; (try dsimp only at hSw); go_simp <;> with_reducible rfl
        try simp only [Act.put, List.setIfInBounds_toArray, List.set_cons_zero, List.set_cons_succ]
        refine wpAnyH_take (i := 2) (oi := { dst := some 23, op := Op.fieldAddr 45 (Operand.tmp 1) 3, type := 0, pos := "law.go:17", after := #[], guard := none }) (v := ?_) rfl (by kernel_rfl) (by kernel_rfl) (by kernel_rfl) (fun _ _ _ h => h) (Or.inl ⟨by rfl, ?_⟩) hH ?_
        rotate_left
        · intro w hSw; (try dsimp only at hSw); go_simp <;> with_reducible rfl
        try simp only [Act.put, List.setIfInBounds_toArray, List.set_cons_zero, List.set_cons_succ]
        refine wpAnyH_take (i := 3) (oi := { dst := some 24, op := Op.load 43 (Operand.tmp 23), type := 43, pos := "law.go:17", after := #[{ on := 2, ground := Ground.data }], guard := none }) (v := ?_) rfl (by kernel_rfl) (by kernel_rfl) (by kernel_rfl) (fun _ _ _ h => h) (Or.inl ⟨by rfl, ?_⟩) hH ?_
        rotate_left
        · intro w hSw; (try dsimp only at hSw); go_simp <;> with_reducible rfl
        try simp only [Act.put, List.setIfInBounds_toArray, List.set_cons_zero, List.set_cons_succ]
        refine wpAnyH_take (i := 4) (oi := { dst := some 25, op := Op.move (Operand.tmp 4), type := 3, pos := "law.go:17", after := #[], guard := none }) (v := ?_) rfl (by kernel_rfl) (by kernel_rfl) (by kernel_rfl) (fun _ _ _ h => h) (Or.inl ⟨by rfl, ?_⟩) hH ?_
        rotate_left
        · intro w hSw; (try dsimp only at hSw); go_simp <;> with_reducible rfl
        try simp only [Act.put, List.setIfInBounds_toArray, List.set_cons_zero, List.set_cons_succ]
        refine wpAnyH_take (i := 5) (oi := { dst := some 26, op := Op.indexAddr 43 (Operand.tmp 24) (Operand.tmp 25), type := 0, pos := "law.go:17", after := #[{ on := 3, ground := Ground.data }, { on := 4, ground := Ground.data }], guard := none }) (v := ?_) rfl (by kernel_rfl) (by kernel_rfl) (by kernel_rfl) (fun _ _ _ h => h) (Or.inl ⟨by rfl, ?_⟩) hH ?_
        rotate_left
        · intro w hSw; (try dsimp only at hSw); go_simp <;> with_reducible rfl
        try simp only [Act.put, List.setIfInBounds_toArray, List.set_cons_zero, List.set_cons_succ]
        refine wpAnyH_take (i := 6) (oi := { dst := some 27, op := Op.load 42 (Operand.tmp 26), type := 42, pos := "law.go:17", after := #[{ on := 5, ground := Ground.data }], guard := none }) (v := ?_) rfl (by kernel_rfl) (by kernel_rfl) (by kernel_rfl) (fun _ _ _ h => h) (Or.inl ⟨by rfl, ?_⟩) hH ?_
        rotate_left
        · intro w hSw; (try dsimp only at hSw); go_simp <;> with_reducible rfl
        try simp only [Act.put, List.setIfInBounds_toArray, List.set_cons_zero, List.set_cons_succ]
        refine wpAnyH_ready (rs := [1, 7]) (by kernel_rfl) (by simp) ?_
        refine AllReadyH.cons (o := { dst := some 22, op := Op.load 30 (Operand.tmp 21), type := 30, pos := "law.go:17", after := #[{ on := 0, ground := Ground.data }], guard := none }) rfl (fun K hK => ?_) ?_
        ·
          have l1 := HL1.out _ hq
          go_simp
          clear l1
          refine hK.out _ _ ?_ (fun hH => ?_)
          · exact hq.quiet
          clear hK K
          try simp only [Act.put, List.setIfInBounds_toArray, List.set_cons_zero, List.set_cons_succ]
          refine wpAnyH_ready (rs := [7]) (by kernel_rfl) (by simp) ?_
          refine AllReadyH.cons (o := { dst := some 28, op := Op.call { callee := Callee.value (Operand.func 26), args := #[Operand.tmp 27], argTypes := #[42] }, type := 27, pos := "law.go:17", after := #[{ on := 6, ground := Ground.data }], guard := none }) rfl (fun K hK => ?_) AllReadyH.nil
          go_simp
          go_at_call 26
          refine (word_ok (T j) _).mono ?_
          rintro e w8 ⟨rfl, hF8⟩
          have hq := hq.trans' hF8
          go_simp
          refine hK.out _ _ ?_ (fun hH => ?_)
          · exact hq.quiet
          clear hK K
          try simp only [Act.put, List.setIfInBounds_toArray, List.set_cons_zero, List.set_cons_succ]
          refine wpAnyH_ready (rs := [8]) (by kernel_rfl) (by simp) ?_
          refine AllReadyH.cons (o := { dst := some 29, op := Op.buildSlice 30 1 #[(0, Operand.tmp 28)], type := 30, pos := "law.go:17", after := #[{ on := 7, ground := Ground.data }], guard := none }) rfl (fun K hK => ?_) AllReadyH.nil
          go_simp
          obtain ⟨wz, hwz⟩ : ∃ wz, wz = w8.alloc (.cells #[.int .u32 (msk (T j) 32)] 27) := ⟨_, rfl⟩
          obtain ⟨e8, he8⟩ : ∃ e8, e8 = w8.heap.size := ⟨_, rfl⟩
          rw [← hwz, ← he8]
          have hN : wz.heap[e8]? = some (.cells #[.int .u32 (msk (T j) 32)] 27 (0, 0)) := by rw [hwz, he8]; exact heap_new w8 _
          have hq : Fr (fun _ => False) wr wz := by rw [hwz]; exact hq.alloc _
          clear hwz he8
          refine hK.out _ _ ?_ (fun hH => ?_)
          · exact hq.quiet
          clear hK K
          try simp only [Act.put, List.setIfInBounds_toArray, List.set_cons_zero, List.set_cons_succ]
          refine wpAnyH_ready (rs := [9]) (by kernel_rfl) (by simp) ?_
          refine AllReadyH.cons (o := { dst := some 30, op := Op.call { callee := Callee.builtin Builtin.append, args := #[Operand.tmp 22, Operand.tmp 29], argTypes := #[30, 30] }, type := 30, pos := "law.go:17", after := #[{ on := 1, ground := Ground.data }, { on := 8, ground := Ground.data }, { on := 7, ground := Ground.chain }], guard := none }) rfl (fun K hK => ?_) AllReadyH.nil
          refine step_append_lies _ (by rfl) _ _ _ (by rfl) B0 27 i0 _ 1 4 Try.underlying30 hi0 hz0 hz1 hz2 rfl (by omega) v j _ (by rfl) (hq.owns HOWN.out (fun _ _ e => e)) ⟨e8, 0, none⟩ 1 1 [.int .u32 (msk (T j) 32)] (by rfl) (by rfl) (World.news_of_block hN) (by simp [Value.oneCell']) (by omega) (by unfold maxLen; omega) (by omega) (by have := hq.size; omega) wz.heap.size rfl ?_
          intro gg cp w9 hown1 hgrow hat hlt9
          have hS9 : w9.heap[so]? = some (.cells #[.bool n, .int .u32 (msk f 32), .int .u32 (msk l 32), v] 32 (0, 0)) := (hgrow.block so (by have := hq.size; omega) (fun e => by have := hown' so e.symm; omega)).trans (hq.heap HS.out (fun e => e))
          have hq9 := hq.quiet.grown (S := fun q => v.ownBlock = some q ∨ q = so) hgrow (fun q e _ => .inl e)
          have s3 := cell_of hS9 3 (v := v) rfl
          have t3 := free_of hS9 3
          refine hK.out _ _ ?_ (fun hH => ?_)
          · exact hq9
          clear hK K
          try simp only [Act.put, List.setIfInBounds_toArray, List.set_cons_zero, List.set_cons_succ]
          refine wpAnyH_take (i := 10) (oi := { dst := some 31, op := Op.fieldAddr 32 (Operand.tmp 3) 3, type := 0, pos := "law.go:17", after := #[{ on := 0, ground := Ground.phase }, { on := 1, ground := Ground.phase }, { on := 2, ground := Ground.phase }, { on := 3, ground := Ground.phase }, { on := 4, ground := Ground.phase }, { on := 5, ground := Ground.phase }, { on := 6, ground := Ground.phase }, { on := 7, ground := Ground.phase }, { on := 8, ground := Ground.phase }, { on := 9, ground := Ground.phase }], guard := none }) (v := ?_) rfl (by kernel_rfl) (by kernel_rfl) (by kernel_rfl) (fun _ _ _ h => h) (Or.inl ⟨by rfl, ?_⟩) hH ?_
          rotate_left
          · intro w hSw; (try dsimp only at hSw); go_simp <;> with_reducible rfl
          try simp only [Act.put, List.setIfInBounds_toArray, List.set_cons_zero, List.set_cons_succ]
          refine wpAnyH_ready (rs := [11]) (by kernel_rfl) (by simp) ?_
          refine AllReadyH.cons (o := { dst := none, op := Op.store 30 (Operand.tmp 31) (Operand.tmp 30), type := 0, pos := "law.go:17", after := #[{ on := 10, ground := Ground.data }, { on := 9, ground := Ground.data }, { on := 9, ground := Ground.chain }, { on := 0, ground := Ground.phase }, { on := 1, ground := Ground.phase }, { on := 2, ground := Ground.phase }, { on := 3, ground := Ground.phase }, { on := 4, ground := Ground.phase }, { on := 5, ground := Ground.phase }, { on := 6, ground := Ground.phase }, { on := 7, ground := Ground.phase }, { on := 8, ground := Ground.phase }, { on := 9, ground := Ground.phase }], guard := none }) rfl (fun K hK => ?_) AllReadyH.nil
          go_simp
          refine hK.out _ _ ?_ (fun hH => ?_)
          · exact hq9.setCell (p := ⟨so, 3, none⟩) (fun _ => .inr rfl) _
          clear hK K
          refine wpAnyH_done (by kernel_rfl) ?_ _
          go_wp2_with fail
          refine ⟨⟨j + 1, by omega, rfl, .slice (some ⟨gg, 0, none⟩) (j + 1) cp, ?_, ?_, ?_⟩, by simp [intOf]; omega⟩
          · exact (Fr.one so 3 _).owns (by rw [wordsL_succ]; exact hown1) (fun q e => by have := (hown1.lt q e).1; omega)
          · rw [heap_set hS9]; rfl
          · exact HF.out.trans hH (fun _ h => h) (fun i hi e => e.elim (fun e => by have := hown' i e; omega) id)
        refine AllReadyH.cons (o := { dst := some 28, op := Op.call { callee := Callee.value (Operand.func 26), args := #[Operand.tmp 27], argTypes := #[42] }, type := 27, pos := "law.go:17", after := #[{ on := 6, ground := Ground.data }], guard := none }) rfl (fun K hK => ?_) AllReadyH.nil
        go_simp
        go_at_call 26
        refine (word_ok (T j) _).mono ?_
        rintro e w8 ⟨rfl, hF8⟩
        have hq := hq.trans' hF8
        go_simp
        refine hK.out _ _ ?_ (fun hH => ?_)
        · exact hq.quiet
        clear hK K
        try simp only [Act.put, List.setIfInBounds_toArray, List.set_cons_zero, List.set_cons_succ]
        refine wpAnyH_ready (rs := [1, 8]) (by kernel_rfl) (by simp) ?_
        refine AllReadyH.cons (o := { dst := some 22, op := Op.load 30 (Operand.tmp 21), type := 30, pos := "law.go:17", after := #[{ on := 0, ground := Ground.data }], guard := none }) rfl (fun K hK => ?_) ?_
        ·
          have l1 := HL1.out _ hq
          go_simp
          clear l1
          refine hK.out _ _ ?_ (fun hH => ?_)
          · exact hq.quiet
          clear hK K
          try simp only [Act.put, List.setIfInBounds_toArray, List.set_cons_zero, List.set_cons_succ]
          refine wpAnyH_ready (rs := [8]) (by kernel_rfl) (by simp) ?_
          refine AllReadyH.cons (o := { dst := some 29, op := Op.buildSlice 30 1 #[(0, Operand.tmp 28)], type := 30, pos := "law.go:17", after := #[{ on := 7, ground := Ground.data }], guard := none }) rfl (fun K hK => ?_) AllReadyH.nil
          go_simp
          obtain ⟨wz, hwz⟩ : ∃ wz, wz = w8.alloc (.cells #[.int .u32 (msk (T j) 32)] 27) := ⟨_, rfl⟩
          obtain ⟨e8, he8⟩ : ∃ e8, e8 = w8.heap.size := ⟨_, rfl⟩
          rw [← hwz, ← he8]
          have hN : wz.heap[e8]? = some (.cells #[.int .u32 (msk (T j) 32)] 27 (0, 0)) := by rw [hwz, he8]; exact heap_new w8 _
          have hq : Fr (fun _ => False) wr wz := by rw [hwz]; exact hq.alloc _
          clear hwz he8
          refine hK.out _ _ ?_ (fun hH => ?_)
          · exact hq.quiet
          clear hK K
          try simp only [Act.put, List.setIfInBounds_toArray, List.set_cons_zero, List.set_cons_succ]
          refine wpAnyH_ready (rs := [9]) (by kernel_rfl) (by simp) ?_
          refine AllReadyH.cons (o := { dst := some 30, op := Op.call { callee := Callee.builtin Builtin.append, args := #[Operand.tmp 22, Operand.tmp 29], argTypes := #[30, 30] }, type := 30, pos := "law.go:17", after := #[{ on := 1, ground := Ground.data }, { on := 8, ground := Ground.data }, { on := 7, ground := Ground.chain }], guard := none }) rfl (fun K hK => ?_) AllReadyH.nil
          refine step_append_lies _ (by rfl) _ _ _ (by rfl) B0 27 i0 _ 1 4 Try.underlying30 hi0 hz0 hz1 hz2 rfl (by omega) v j _ (by rfl) (hq.owns HOWN.out (fun _ _ e => e)) ⟨e8, 0, none⟩ 1 1 [.int .u32 (msk (T j) 32)] (by rfl) (by rfl) (World.news_of_block hN) (by simp [Value.oneCell']) (by omega) (by unfold maxLen; omega) (by omega) (by have := hq.size; omega) wz.heap.size rfl ?_
          intro gg cp w9 hown1 hgrow hat hlt9
          have hS9 : w9.heap[so]? = some (.cells #[.bool n, .int .u32 (msk f 32), .int .u32 (msk l 32), v] 32 (0, 0)) := (hgrow.block so (by have := hq.size; omega) (fun e => by have := hown' so e.symm; omega)).trans (hq.heap HS.out (fun e => e))
          have hq9 := hq.quiet.grown (S := fun q => v.ownBlock = some q ∨ q = so) hgrow (fun q e _ => .inl e)
          have s3 := cell_of hS9 3 (v := v) rfl
          have t3 := free_of hS9 3
          refine hK.out _ _ ?_ (fun hH => ?_)
          · exact hq9
          clear hK K
          try simp only [Act.put, List.setIfInBounds_toArray, List.set_cons_zero, List.set_cons_succ]
          refine wpAnyH_take (i := 10) (oi := { dst := some 31, op := Op.fieldAddr 32 (Operand.tmp 3) 3, type := 0, pos := "law.go:17", after := #[{ on := 0, ground := Ground.phase }, { on := 1, ground := Ground.phase }, { on := 2, ground := Ground.phase }, { on := 3, ground := Ground.phase }, { on := 4, ground := Ground.phase }, { on := 5, ground := Ground.phase }, { on := 6, ground := Ground.phase }, { on := 7, ground := Ground.phase }, { on := 8, ground := Ground.phase }, { on := 9, ground := Ground.phase }], guard := none }) (v := ?_) rfl (by kernel_rfl) (by kernel_rfl) (by kernel_rfl) (fun _ _ _ h => h) (Or.inl ⟨by rfl, ?_⟩) hH ?_
          rotate_left
          · intro w hSw; (try dsimp only at hSw); go_simp <;> with_reducible rfl
          try simp only [Act.put, List.setIfInBounds_toArray, List.set_cons_zero, List.set_cons_succ]
          refine wpAnyH_ready (rs := [11]) (by kernel_rfl) (by simp) ?_
          refine AllReadyH.cons (o := { dst := none, op := Op.store 30 (Operand.tmp 31) (Operand.tmp 30), type := 0, pos := "law.go:17", after := #[{ on := 10, ground := Ground.data }, { on := 9, ground := Ground.data }, { on := 9, ground := Ground.chain }, { on := 0, ground := Ground.phase }, { on := 1, ground := Ground.phase }, { on := 2, ground := Ground.phase }, { on := 3, ground := Ground.phase }, { on := 4, ground := Ground.phase }, { on := 5, ground := Ground.phase }, { on := 6, ground := Ground.phase }, { on := 7, ground := Ground.phase }, { on := 8, ground := Ground.phase }, { on := 9, ground := Ground.phase }], guard := none }) rfl (fun K hK => ?_) AllReadyH.nil
          go_simp
          refine hK.out _ _ ?_ (fun hH => ?_)
          · exact hq9.setCell (p := ⟨so, 3, none⟩) (fun _ => .inr rfl) _
          clear hK K
          refine wpAnyH_done (by kernel_rfl) ?_ _
          go_wp2_with fail
          refine ⟨⟨j + 1, by omega, rfl, .slice (some ⟨gg, 0, none⟩) (j + 1) cp, ?_, ?_, ?_⟩, by simp [intOf]; omega⟩
          · exact (Fr.one so 3 _).owns (by rw [wordsL_succ]; exact hown1) (fun q e => by have := (hown1.lt q e).1; omega)
          · rw [heap_set hS9]; rfl
          · exact HF.out.trans hH (fun _ h => h) (fun i hi e => e.elim (fun e => by have := hown' i e; omega) id)
        refine AllReadyH.cons (o := { dst := some 29, op := Op.buildSlice 30 1 #[(0, Operand.tmp 28)], type := 30, pos := "law.go:17", after := #[{ on := 7, ground := Ground.data }], guard := none }) rfl (fun K hK => ?_) AllReadyH.nil
        go_simp
        obtain ⟨wz, hwz⟩ : ∃ wz, wz = w8.alloc (.cells #[.int .u32 (msk (T j) 32)] 27) := ⟨_, rfl⟩
        obtain ⟨e8, he8⟩ : ∃ e8, e8 = w8.heap.size := ⟨_, rfl⟩
        rw [← hwz, ← he8]
        have hN : wz.heap[e8]? = some (.cells #[.int .u32 (msk (T j) 32)] 27 (0, 0)) := by rw [hwz, he8]; exact heap_new w8 _
        have hq : Fr (fun _ => False) wr wz := by rw [hwz]; exact hq.alloc _
        clear hwz he8
        refine hK.out _ _ ?_ (fun hH => ?_)
        · exact hq.quiet
        clear hK K
        try simp only [Act.put, List.setIfInBounds_toArray, List.set_cons_zero, List.set_cons_succ]
        refine wpAnyH_ready (rs := [1]) (by kernel_rfl) (by simp) ?_
        refine AllReadyH.cons (o := { dst := some 22, op := Op.load 30 (Operand.tmp 21), type := 30, pos := "law.go:17", after := #[{ on := 0, ground := Ground.data }], guard := none }) rfl (fun K hK => ?_) AllReadyH.nil
        have l1 := HL1.out _ hq
        go_simp
        clear l1
        refine hK.out _ _ ?_ (fun hH => ?_)
        · exact hq.quiet
        clear hK K
        try simp only [Act.put, List.setIfInBounds_toArray, List.set_cons_zero, List.set_cons_succ]
        refine wpAnyH_ready (rs := [9]) (by kernel_rfl) (by simp) ?_
        refine AllReadyH.cons (o := { dst := some 30, op := Op.call { callee := Callee.builtin Builtin.append, args := #[Operand.tmp 22, Operand.tmp 29], argTypes := #[30, 30] }, type := 30, pos := "law.go:17", after := #[{ on := 1, ground := Ground.data }, { on := 8, ground := Ground.data }, { on := 7, ground := Ground.chain }], guard := none }) rfl (fun K hK => ?_) AllReadyH.nil
        refine step_append_lies _ (by rfl) _ _ _ (by rfl) B0 27 i0 _ 1 4 Try.underlying30 hi0 hz0 hz1 hz2 rfl (by omega) v j _ (by rfl) (hq.owns HOWN.out (fun _ _ e => e)) ⟨e8, 0, none⟩ 1 1 [.int .u32 (msk (T j) 32)] (by rfl) (by rfl) (World.news_of_block hN) (by simp [Value.oneCell']) (by omega) (by unfold maxLen; omega) (by omega) (by have := hq.size; omega) wz.heap.size rfl ?_
        intro gg cp w9 hown1 hgrow hat hlt9
        have hS9 : w9.heap[so]? = some (.cells #[.bool n, .int .u32 (msk f 32), .int .u32 (msk l 32), v] 32 (0, 0)) := (hgrow.block so (by have := hq.size; omega) (fun e => by have := hown' so e.symm; omega)).trans (hq.heap HS.out (fun e => e))
        have hq9 := hq.quiet.grown (S := fun q => v.ownBlock = some q ∨ q = so) hgrow (fun q e _ => .inl e)
        have s3 := cell_of hS9 3 (v := v) rfl
        have t3 := free_of hS9 3
        refine hK.out _ _ ?_ (fun hH => ?_)
        · exact hq9
        clear hK K
        try simp only [Act.put, List.setIfInBounds_toArray, List.set_cons_zero, List.set_cons_succ]
        refine wpAnyH_take (i := 10) (oi := { dst := some 31, op := Op.fieldAddr 32 (Operand.tmp 3) 3, type := 0, pos := "law.go:17", after := #[{ on := 0, ground := Ground.phase }, { on := 1, ground := Ground.phase }, { on := 2, ground := Ground.phase }, { on := 3, ground := Ground.phase }, { on := 4, ground := Ground.phase }, { on := 5, ground := Ground.phase }, { on := 6, ground := Ground.phase }, { on := 7, ground := Ground.phase }, { on := 8, ground := Ground.phase }, { on := 9, ground := Ground.phase }], guard := none }) (v := ?_) rfl (by kernel_rfl) (by kernel_rfl) (by kernel_rfl) (fun _ _ _ h => h) (Or.inl ⟨by rfl, ?_⟩) hH ?_
        rotate_left
        · intro w hSw; (try dsimp only at hSw); go_simp <;> with_reducible rfl
        try simp only [Act.put, List.setIfInBounds_toArray, List.set_cons_zero, List.set_cons_succ]
        refine wpAnyH_ready (rs := [11]) (by kernel_rfl) (by simp) ?_
        refine AllReadyH.cons (o := { dst := none, op := Op.store 30 (Operand.tmp 31) (Operand.tmp 30), type := 0, pos := "law.go:17", after := #[{ on := 10, ground := Ground.data }, { on := 9, ground := Ground.data }, { on := 9, ground := Ground.chain }, { on := 0, ground := Ground.phase }, { on := 1, ground := Ground.phase }, { on := 2, ground := Ground.phase }, { on := 3, ground := Ground.phase }, { on := 4, ground := Ground.phase }, { on := 5, ground := Ground.phase }, { on := 6, ground := Ground.phase }, { on := 7, ground := Ground.phase }, { on := 8, ground := Ground.phase }, { on := 9, ground := Ground.phase }], guard := none }) rfl (fun K hK => ?_) AllReadyH.nil
        go_simp
        refine hK.out _ _ ?_ (fun hH => ?_)
        · exact hq9.setCell (p := ⟨so, 3, none⟩) (fun _ => .inr rfl) _
        clear hK K
        refine wpAnyH_done (by kernel_rfl) ?_ _
        go_wp2_with fail
        refine ⟨⟨j + 1, by omega, rfl, .slice (some ⟨gg, 0, none⟩) (j + 1) cp, ?_, ?_, ?_⟩, by simp [intOf]; omega⟩
        · exact (Fr.one so 3 _).owns (by rw [wordsL_succ]; exact hown1) (fun q e => by have := (hown1.lt q e).1; omega)
        · rw [heap_set hS9]; rfl
        · exact HF.out.trans hH (fun _ h => h) (fun i hi e => e.elim (fun e => by have := hown' i e; omega) id)
      · obtain rfl : j = P := by omega
        have k65 := HK.out.c65
        have c0 := cell_of hS 0 (v := .bool n) rfl
        have c1 := cell_of hS 1 (v := .int .u32 (msk f 32)) rfl
        have c2 := cell_of hS 2 (v := .int .u32 (msk l 32)) rfl
        have c3 := cell_of hS 3 (v := v) rfl
        have r0 := cell_of HR2.out 0 (v := .bool false) rfl
        have r1 := cell_of HR2.out 1 (v := .int .u32 0) rfl
        have r2 := cell_of HR2.out 2 (v := .int .u32 0) rfl
        have r3 := cell_of HR2.out 3 (v := .slice none 0 0) rfl
        have g0 := free_of HR2.out 0
        have g1 := free_of HR2.out 1
        have g2 := free_of HR2.out 2
        have g3 := free_of HR2.out 3
        have HOWN := hid hown
        have hvf := owns_form hown
        clear hS hown hF
        rcases hvf with ⟨rfl, hj0⟩ | ⟨gv, cap, rfl, _, _, hgB, hgl⟩
        · go_wp2_with fail
          refine bodyPost_ret (v := foV n (msk f 32) (msk l 32) (.slice none 0 0)) (by simp [foV, results, Try.results12, go_sem, r0, r1, r2, r3]) rfl ⟨_, rfl, ⟨none, 0, by rw [hj0], fun h => absurd h (by omega)⟩, ?_⟩
          exact (FC.out.trans HF.out (fun _ e => e) (fun i hi e => by omega)).four (by omega) _ _ _ _
        · go_wp2_with fail
          have hc : ∀ i, i < j → wr.cell? ⟨gv, 0 + i, none⟩ = some (.int .u32 (msk (T i) 32)) := fun i hi => by
            rw [Nat.zero_add, HOWN.out.cellAt i (by omega)]; simp [wordsL, hi]
          have hfr := Fr.four (Fr.refl (fun q => q = r) wr) (b := r) (fun _ => rfl) (.bool n) (.int .u32 (msk f 32)) (.int .u32 (msk l 32)) (.slice (some ⟨gv, 0, none⟩) j cap)
          refine bodyPost_ret (v := foV n (msk f 32) (msk l 32) (.slice (some ⟨gv, 0, none⟩) j cap)) (by simp [foV, results, Try.results12, go_sem, r0, r1, r2, r3]) rfl ⟨_, rfl, ⟨_, _, rfl, fun _ => ⟨gv, 0, rfl, Nat.lt_of_lt_of_le hgl hfr.size, fun i hi => hfr.cell (hc i hi) (by simp only; omega)⟩⟩, ?_⟩
          exact (FC.out.trans HF.out (fun _ e => e) (fun i hi e => by omega)).four (by omega) _ _ _ _

end Go.Proofs.Ytceomkoecidoiaa
