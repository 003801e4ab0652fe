/-
  follow.Path, walked.
-/
import Derived.Test.YtceomkoecidoiaaFolAlike
namespace Go.Proofs.Ytceomkoecidoiaa
open Go.RowKit

def hasF (f : Nat → Bool) (i : Int) : Bool := decide (0 ≤ i ∧ i < 32) && f i.toNat
theorem has_f (f : Nat → Bool) (i : Int) (w : World) : Calls Try.prog 14 #[.int .u32 (msk f 32), .int .i64 i] w fun e w' => e = .returned (.bool (hasF f i)) ∧ w = w' := by
  refine (has_any (msk f 32) i (msk_u32 f) w).mono ?_
  rintro e w' ⟨rfl, rfl⟩
  refine ⟨?_, rfl⟩
  simp only [hasF, testBit_msk]
  by_cases h : 0 ≤ i ∧ i < 32
  · have : i.toNat < 32 := by omega
    simp [h, this]
  · simp [h]

/-- whether the places go on from one to the next -/
def walkP (P : Nat) (T : Nat → Nat → Bool) : (Nat → Bool) → List Int → Bool
  | _, [] => true
  | may, i :: r => (hasF may i && decide (i < P)) && walkP P T (T i.toNat) r
def pathB (n : Bool) (f l : Nat → Bool) (P : Nat) (T : Nat → Nat → Bool) (L : List Int) : Bool :=
  match L.getLast? with
  | none => n
  | some x => walkP P T f L && hasF l x

/-- whole numbers behind a slice's value -/
def IntsV (w : World) (v : Value) (L : List Int) : Prop := ∃ ao c, v = .slice ao L.length c ∧ (0 < L.length → ∃ g o, ao = some ⟨g, o, none⟩ ∧ g < w.heap.size ∧ ∀ i x, L[i]? = some x → w.cell? ⟨g, o + i, none⟩ = some (.int .i64 x))
theorem IntsV.fr {w w' : World} {v : Value} {L : List Int} (h : IntsV w v L) (hF : Fr (fun _ => False) w w') : IntsV w' v L := by
  obtain ⟨ao, c, hv, hp⟩ := h
  refine ⟨ao, c, hv, fun h0 => ?_⟩
  obtain ⟨g, o, ha, hg, hr⟩ := hp h0
  exact ⟨g, o, ha, Nat.lt_of_lt_of_le hg hF.size, fun i x hi => hF.cell (hr i x hi) (fun e => e)⟩
theorem IntsV.at_ {w : World} {ao : Option Addr} {n c i : Nat} {x : Int} {L : List Int} (h : IntsV w (.slice ao n c) L) (hi : L[i]? = some x) : ∃ g o, ao = some ⟨g, o, none⟩ ∧ w.cell? ⟨g, o + i, none⟩ = some (.int .i64 x) := by
  obtain ⟨ao', c', hv, hp⟩ := h
  simp only [Value.slice.injEq] at hv
  obtain ⟨rfl, _, _⟩ := hv
  obtain ⟨g, o, ha, _, hc⟩ := hp (by have := (List.getElem?_eq_some_iff.1 hi).1; omega)
  exact ⟨g, o, ha, hc i x hi⟩

theorem walk_step {P : Nat} {T : Nat → Nat → Bool} {m : Nat → Bool} {L : List Int} {j : Nat} {x : Int} (hx : L[j]? = some x) :
    walkP P T m (L.drop j) = ((hasF m x && decide (x < P)) && walkP P T (T x.toNat) (L.drop (j + 1))) := by
  have hl : j < L.length := (List.getElem?_eq_some_iff.1 hx).1
  rw [List.drop_eq_getElem_cons hl, (List.getElem?_eq_some_iff.1 hx).2]
  rfl

set_option maxRecDepth 100000 in
set_option maxHeartbeats 2000000 in
theorem path_ok {w : World} {v lv : Value} {P : Nat} {T : Nat → Nat → Bool} {L : List Int} (n : Bool) (f l : Nat → Bool) (h : U32V w v P T) (hL : IntsV w lv L) (hl : L.length ≤ 4096) :
    Calls Try.prog 15 #[foV n (msk f 32) (msk l 32) v, lv] w fun e w' => e = .returned (.bool (pathB n f l P T L)) ∧ Fr (fun _ => False) w w' := by
  have hv := h
  obtain ⟨ao, c, rfl, _⟩ := hv
  have hv := hL
  obtain ⟨lo, lc, rfl, _⟩ := hv
  obtain ⟨q, hq⟩ : ∃ q, q = L.length := ⟨_, rfl⟩
  rw [← hq] at hL hl ⊢
  have H := hid h
  have HL := hid hL
  have HQ := hid hq
  clear h hL hq
  unfold foV
  go_enter Try.func15, Try.ntmps15
  go_upto_region 1 with fail
  obtain ⟨w1, hw1⟩ : ∃ w1, w1 = w.alloc (.cells #[.bool n, .int .u32 (msk f 32), .int .u32 (msk l 32), .slice ao P c] 32) := ⟨_, rfl⟩
  obtain ⟨k, hk⟩ : ∃ k, k = w.heap.size := ⟨_, rfl⟩
  rw [← hw1, ← hk]
  have K1 := hid (show w1.heap[k]? = some (.cells #[.bool n, .int .u32 (msk f 32), .int .u32 (msk l 32), .slice ao P c] 32 (0, 0)) by rw [hw1, hk]; exact heap_new w _)
  have F1 := hid (show Fr (fun _ => False) w w1 by rw [hw1]; exact (Fr.refl _ w).alloc _)
  clear hw1 hk
  have k0 := cell_of K1.out 0 (v := .bool n) rfl
  have k1 := cell_of K1.out 1 (v := .int .u32 (msk f 32)) rfl
  by_cases hq0 : q = 0
  · have hn : L = [] := List.eq_nil_of_length_eq_zero (by rw [← HQ.out, hq0])
    have HN := hid hn
    subst hq0
    clear hn
    go_wp2_with fail
    go_ret
    exact ⟨by rw [HN.out]; rfl, F1.out⟩
  have hq0b : ((q : Int) == 0) = false := by simp; omega
  have hq0c : ¬ (q : Int) = 0 := by omega
  go_wp2_with fail
  go_loopw [5, 17] (fun a i wr => ∃ (j : Nat) (m : Nat → Bool), j ≤ q ∧ i = .int .i64 j ∧ a = .int .u32 (msk m 32) ∧ Fr (fun _ => False) w1 wr ∧ walkP P T f L = walkP P T m (L.drop j)) (fun _ i _ => q - (intOf i).toNat)
  case atStart => exact ⟨0, f, Nat.zero_le _, rfl, rfl, Fr.refl _ _, by rw [List.drop_zero]⟩
  case round =>
    obtain ⟨j, m, hj, rfl, rfl, hF, hE⟩ := hrel
    have HE := hid hE
    have HF := hid hF
    have HFw := hid (F1.out.trans' hF)
    clear hE hF k0 k1
    have k2 := cell_of (HF.out.heap K1.out (fun e => e)) 2 (v := .int .u32 (msk l 32)) rfl
    have k3 := cell_of (HF.out.heap K1.out (fun e => e)) 3 (v := .slice ao P c) rfl
    obtain ⟨z, hz⟩ : ∃ z, L.getLast? = some z := by
      cases hg : L.getLast? with
      | none => rw [List.getLast?_eq_none_iff] at hg; rw [hg] at HQ; exact absurd HQ.out hq0
      | some z => exact ⟨z, rfl⟩
    have hzl : L[q - 1]? = some z := by rw [List.getLast?_eq_getElem?] at hz; rw [HQ.out]; exact hz
    have HZ := hid hz
    have HZL := hid hzl
    clear hz hzl
    by_cases hjq : j < q
    · obtain ⟨x, hx⟩ : ∃ x, L[j]? = some x := ⟨L[j]'(by have := HQ.out; omega), List.getElem?_eq_getElem _⟩
      have HX := hid hx
      obtain ⟨g, o, rfl, c1⟩ := (HL.out.fr HFw.out).at_ hx
      have hws := hid (walk_step (P := P) (T := T) (m := m) hx)
      clear hx
      have hjq' : (j : Int) < q := by omega
      have hj0 : (0 : Int) ≤ j := by omega
      cases hh : hasF m x with
      | false =>
        go_wp2_with (go_at_call 14; refine (has_f m x _).mono ?_; rw [hh]; rintro e w' ⟨rfl, rfl⟩)
        go_ret
        exact ⟨by simp only [pathB, HZ.out, HE.out, hws.out, hh]; rfl, HFw.out⟩
      | true =>
        by_cases hxP : x < P
        · have hx0 : 0 ≤ x := by simp only [hasF, Bool.and_eq_true, decide_eq_true_eq] at hh; omega
          obtain ⟨y, rfl⟩ : ∃ y : Nat, x = y := ⟨x.toNat, by omega⟩
          obtain ⟨g2, o2, rfl, c2⟩ := (H.out.fr HFw.out).at_ (i := y) (by omega)
          go_wp2_with (go_at_call 14; refine (has_f m (y : Int) _).mono ?_; rw [hh]; rintro e w' ⟨rfl, rfl⟩)
          exact ⟨⟨j + 1, T y, by omega, rfl, rfl, HF.out, by rw [HE.out, hws.out, hh]; simp [hxP]⟩, by simp [intOf]; omega⟩
        · have hxP' : (P : Int) ≤ x := by omega
          go_wp2_with (go_at_call 14; refine (has_f m x _).mono ?_; rw [hh]; rintro e w' ⟨rfl, rfl⟩)
          go_ret
          have hd : decide (x < (P : Int)) = false := by simp; omega
          exact ⟨by simp only [pathB, HZ.out, HE.out, hws.out, hh, hd]; rfl, HFw.out⟩
    · obtain rfl : j = q := by omega
      obtain ⟨g, o, rfl, c1⟩ := (HL.out.fr HFw.out).at_ HZL.out
      have hsub : IntKind.i64.wrap ((j : Int) - 1) = ((j - 1 : Nat) : Int) := by rw [IntWalk.i64_in _ (by omega)]; omega
      have hi1 : ((j - 1 : Nat) : Int) < j := by omega
      have hi0 : (0 : Int) ≤ ((j - 1 : Nat) : Int) := by omega
      go_upto_region 11 with fail
      refine wp_region_held_drew (S := (fun w' => w'.cell? ⟨k, 2, none⟩ = some (.int .u32 (msk l 32)) ∧ w'.cell? ⟨g, o + (j - 1), none⟩ = some (.int .i64 z))) (by kernel_rfl) ?_ (fun hH => ?_)
      · exact ⟨k2, c1⟩
      refine wpAnyH_take (i := 0) (oi := { dst := some 38, op := Op.fieldAddr 32 (Operand.tmp 2) 2, type := 0, pos := "follow.go:128", after := #[], guard := none }) (v := ?_) rfl (by kernel_rfl) (by kernel_rfl) (by kernel_rfl) (fun _ _ _ h => h) (Or.inl ⟨by rfl, ?_⟩) hH ?_
      rotate_left
      · intro w hSw; (try dsimp only at hSw); go_simp <;> with_reducible rfl
      try simp only [Act.put, List.setIfInBounds_toArray, List.set_cons_zero, List.set_cons_succ]
      refine wpAnyH_take (i := 1) (oi := { dst := some 39, op := Op.load 27 (Operand.tmp 38), type := 27, pos := "follow.go:128", after := #[{ on := 0, ground := Ground.data }], guard := none }) (v := ?_) rfl (by kernel_rfl) (by kernel_rfl) (by kernel_rfl) (fun _ _ _ h => h) (Or.inl ⟨by rfl, ?_⟩) hH ?_
      rotate_left
      · intro w hSw; (try dsimp only at hSw); go_simp <;> with_reducible rfl
      try simp only [Act.put, List.setIfInBounds_toArray, List.set_cons_zero, List.set_cons_succ]
      refine wpAnyH_take (i := 2) (oi := { dst := some 40, op := Op.move (Operand.tmp 1), type := 53, pos := "follow.go:128", after := #[], guard := none }) (v := ?_) rfl (by kernel_rfl) (by kernel_rfl) (by kernel_rfl) (fun _ _ _ h => h) (Or.inl ⟨by rfl, ?_⟩) hH ?_
      rotate_left
      · intro w hSw; (try dsimp only at hSw); go_simp <;> with_reducible rfl
      try simp only [Act.put, List.setIfInBounds_toArray, List.set_cons_zero, List.set_cons_succ]
      refine wpAnyH_take (i := 3) (oi := { dst := some 41, op := Op.move (Operand.tmp 1), type := 53, pos := "follow.go:128", after := #[], guard := none }) (v := ?_) rfl (by kernel_rfl) (by kernel_rfl) (by kernel_rfl) (fun _ _ _ h => h) (Or.inl ⟨by rfl, ?_⟩) hH ?_
      rotate_left
      · intro w hSw; (try dsimp only at hSw); go_simp <;> with_reducible rfl
      try simp only [Act.put, List.setIfInBounds_toArray, List.set_cons_zero, List.set_cons_succ]
      refine wpAnyH_take (i := 4) (oi := { dst := some 42, op := Op.call { callee := Callee.builtin Builtin.len, args := #[Operand.tmp 41], argTypes := #[53] }, type := 3, pos := "follow.go:128", after := #[{ on := 3, ground := Ground.data }], guard := none }) (v := ?_) rfl (by kernel_rfl) (by kernel_rfl) (by kernel_rfl) (fun _ _ _ h => h) (Or.inl ⟨by rfl, ?_⟩) hH ?_
      rotate_left
      · intro w hSw; (try dsimp only at hSw); go_simp <;> with_reducible rfl
      try simp only [Act.put, List.setIfInBounds_toArray, List.set_cons_zero, List.set_cons_succ]
      refine wpAnyH_take (i := 5) (oi := { dst := some 43, op := Op.binOp BinOp.sub 3 (Operand.tmp 42) (Operand.const (Value.int IntKind.i64 1)) 3, type := 3, pos := "follow.go:128", after := #[{ on := 4, ground := Ground.data }], guard := none }) (v := ?_) rfl (by kernel_rfl) (by kernel_rfl) (by kernel_rfl) (fun _ _ _ h => h) (Or.inl ⟨by rfl, ?_⟩) hH ?_
      rotate_left
      · intro w hSw; (try dsimp only at hSw); go_simp <;> with_reducible rfl
      try simp only [Act.put, List.setIfInBounds_toArray, List.set_cons_zero, List.set_cons_succ]
      refine wpAnyH_take (i := 6) (oi := { dst := some 44, op := Op.indexAddr 53 (Operand.tmp 40) (Operand.tmp 43), type := 0, pos := "follow.go:128", after := #[{ on := 2, ground := Ground.data }, { on := 5, ground := Ground.data }], guard := none }) (v := ?_) rfl (by kernel_rfl) (by kernel_rfl) (by kernel_rfl) (fun _ _ _ h => h) (Or.inl ⟨by rfl, ?_⟩) hH ?_
      rotate_left
      · intro w hSw; (try dsimp only at hSw); go_simp <;> with_reducible rfl
      try simp only [Act.put, List.setIfInBounds_toArray, List.set_cons_zero, List.set_cons_succ]
      refine wpAnyH_take (i := 7) (oi := { dst := some 45, op := Op.load 3 (Operand.tmp 44), type := 3, pos := "follow.go:128", after := #[{ on := 6, ground := Ground.data }], guard := none }) (v := ?_) rfl (by kernel_rfl) (by kernel_rfl) (by kernel_rfl) (fun _ _ _ h => h) (Or.inl ⟨by rfl, ?_⟩) hH ?_
      rotate_left
      · intro w hSw; (try dsimp only at hSw); go_simp <;> with_reducible rfl
      try simp only [Act.put, List.setIfInBounds_toArray, List.set_cons_zero, List.set_cons_succ]
      refine wpAnyH_ready (rs := [8]) (by kernel_rfl) (by simp) ?_
      refine AllReadyH.cons (o := { dst := some 46, op := Op.call { callee := Callee.value (Operand.func 14), args := #[Operand.tmp 39, Operand.tmp 45], argTypes := #[27, 3] }, type := 4, pos := "follow.go:128", after := #[{ on := 1, ground := Ground.data }, { on := 7, ground := Ground.data }], guard := none }) rfl (fun K hK => ?_) AllReadyH.nil
      go_simp
      go_at_call 14
      refine (has_f l z _).mono ?_
      rintro e w' ⟨rfl, rfl⟩
      go_simp
      refine hK.out _ _ ?_ (fun hH => ?_)
      · exact hH
      clear hK K
      try simp only [Act.put, List.setIfInBounds_toArray, List.set_cons_zero, List.set_cons_succ]
      refine wpAnyH_take (i := 9) (oi := { dst := some 4, op := Op.assign (Operand.tmp 46), type := 4, pos := "follow.go:128", after := #[{ on := 8, ground := Ground.data }, { on := 8, ground := Ground.chain }, { on := 0, ground := Ground.phase }, { on := 1, ground := Ground.phase }, { on := 2, ground := Ground.phase }, { on := 3, ground := Ground.phase }, { on := 4, ground := Ground.phase }, { on := 5, ground := Ground.phase }, { on := 6, ground := Ground.phase }, { on := 7, ground := Ground.phase }, { on := 8, ground := Ground.phase }], guard := none }) (v := ?_) rfl (by kernel_rfl) (by kernel_rfl) (by kernel_rfl) (fun _ _ _ h => h) (Or.inl ⟨by rfl, ?_⟩) hH ?_
      rotate_left
      · intro w hSw; (try dsimp only at hSw); go_simp <;> with_reducible rfl
      try simp only [Act.put, List.setIfInBounds_toArray, List.set_cons_zero, List.set_cons_succ]
      refine wpAnyH_done (by kernel_rfl) ?_ _
      go_wp2_with fail
      go_ret
      exact ⟨by simp only [pathB, HZ.out]; rw [HE.out, List.drop_of_length_le (by have := HQ.out; omega)]; simp [walkP], HFw.out.trans' ((Fr.refl _ wr).drew)⟩

end Go.Proofs.Ytceomkoecidoiaa
