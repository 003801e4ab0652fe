/-
  A mesh that grows: New, Fork, walked.
-/
import Derived.Test.YtakhmommcgfoaaaMeM4
namespace Go.Proofs.Ytakhmommcgfoaaa
open Go.RowKit
attribute [local go_sem ↓] run_ldM run_stM

def ptrs (bx : Nat → Nat) (k : Nat) : List Value := (List.range k).map fun i => .pointer (some ⟨bx i, 0, none⟩)
theorem ptrs_len (bx : Nat → Nat) (k : Nat) : (ptrs bx k).length = k := by simp [ptrs]
theorem ptrs_get (bx : Nat → Nat) {k i : Nat} (h : i < k) : (ptrs bx k)[i]? = some (.pointer (some ⟨bx i, 0, none⟩)) := by simp [ptrs, h]
theorem ptrs_next (bx : Nat → Nat) (k b : Nat) : ptrs (upd bx k b) (k + 1) = ptrs bx k ++ [.pointer (some ⟨b, 0, none⟩)] := by
  simp only [ptrs, List.range_succ, List.map_append, List.map_cons, List.map_nil, upd_same]
  congr 1
  exact List.map_congr_left fun i hi => by rw [upd_ne _ _ (by have := List.mem_range.1 hi; omega)]

/-- a mesh that has its first k links -/
structure Grow (w : World) (o W most : Nat) (R : Nat → List Mq) (k : Nat) (v : Value) (bx : Nat → Nat) (S : Nat → Nat → Prop) : Prop where
  blk : w.heap[o]? = some (.cells #[.int .i64 W, v] 74 (0, 0))
  row : w.ownsRow (o + 1) 75 1 v k (ptrs bx k)
  live : ∀ i, i < k → Live w (bx i) most (R i) (S i)
  apart : ∀ i j, i < k → j < k → i ≠ j → ∀ x, S i x → ¬ S j x
  sub : ∀ i, i < k → ∀ x, S i x → o < x ∧ v.ownBlock ≠ some x

theorem Grow.step {w w1 wa w2 w3 : World} {o W most : Nat} {R : Nat → List Mq} {k : Nat} {v : Value} {bx : Nat → Nat} {S : Nat → Nat → Prop} (h : Grow w o W most R k v bx S) {b : Nat} {Sn : Nat → Prop}
    (hf : Fr (fun _ => False) w w1) (hl : Live w1 b most (R k) Sn) (hs : ∀ x, Sn x → w.heap.size ≤ x ∧ x < w1.heap.size) (ha : Fr (fun _ => False) w1 wa)
    {g cap : Nat} (hown : w2.ownsRow (o + 1) 75 1 (.slice (some ⟨g, 0, none⟩) (k + 1) cap) (k + 1) (ptrs bx k ++ [.pointer (some ⟨b, 0, none⟩)]))
    (hg : wa.grownBy w2 v.ownBlock) (hat : v.ownBlock = some g ∨ wa.heap.size ≤ g)
    (hh : w3.heap = (w2.setCell ⟨o, 1, none⟩ (.slice (some ⟨g, 0, none⟩) (k + 1) cap)).heap) (ho : w3.os = w2.os) (ht : w3.tape = w2.tape) (hp : w3.output = w2.output) :
    Grow w3 o W most R (k + 1) (.slice (some ⟨g, 0, none⟩) (k + 1) cap) (upd bx k b) (upd S k Sn) ∧ Fr (fun x => x = o ∨ v.ownBlock = some x) w w3 := by
  have how := lt_of_block h.blk
  have hvo : v.ownBlock ≠ some o := fun e => by have := (h.row.lt _ e).1; omega
  have hz1 := hf.size
  have hza := ha.size
  have hzg := hg.size
  have hgo : g ≠ o := fun e => by
    have := (hown.lt g rfl).1; omega
  have F2 : Fr (fun x => v.ownBlock = some x) w w2 := ((hf.trans' ha).mono (S' := fun x => v.ownBlock = some x) (fun _ _ e => e.elim)).grown hg (fun x e _ => e)
  have F12 : Fr (fun x => v.ownBlock = some x) w1 w2 := (ha.mono (S' := fun x => v.ownBlock = some x) (fun _ _ e => e.elim)).grown hg (fun x e _ => e)
  have F23 : Fr (fun x => x = o) w2 w3 := by
    have := (Fr.refl (fun x => x = o) w2).setCell (p := ⟨o, 1, none⟩) (fun _ => rfl) (.slice (some ⟨g, 0, none⟩) (k + 1) cap)
    exact ⟨ho, ht, hp, by rw [hh]; exact this.size, by rw [hh]; exact this.block⟩
  have hSg : ∀ i, i < k → ∀ x, S i x → x ≠ g := by
    intro i hi x hx e
    subst e
    rcases hat with e | e
    · exact (h.sub i hi x hx).2 e
    · have := (h.live i hi).lt x hx; omega
  have hSng : ∀ x, Sn x → x ≠ g ∧ v.ownBlock ≠ some x := by
    intro x hx
    have h3 : v.ownBlock ≠ some x := fun e => by have := (h.row.lt _ e).2; have := (hs x hx).1; omega
    refine ⟨fun e => ?_, h3⟩
    subst e
    rcases hat with e | e
    · exact h3 e
    · have := (hs x hx).2; omega
  have live' : ∀ i, i < k + 1 → Live w3 (upd bx k b i) most (R i) (upd S k Sn i) := by
    intro i hi
    by_cases e : i = k
    · subst e
      rw [upd_same, upd_same]
      exact ((hl.fr F12 (fun x hx => (hSng x hx).2)).fr F23 (fun x hx e => by have := (hs x hx).1; omega))
    · rw [upd_ne _ _ e, upd_ne _ _ e]
      exact (((h.live i (by omega)).fr F2 (fun x hx => (h.sub i (by omega) x hx).2)).fr F23 (fun x hx e => by have := (h.sub i (by omega) x hx).1; omega))
  refine ⟨⟨?_, ?_, live', fun i j hi hj hij x hx => ?_, fun i hi x hx => ?_⟩, ?_⟩
  · rw [hh, heap_set (F2.heap h.blk hvo) _]; simp
  · have h2 := Go.ownsRow_setCell_other hown (a := ⟨o, 1, none⟩) (by simp [Value.ownBlock, hgo]) (.slice (some ⟨g, 0, none⟩) (k + 1) cap)
    rw [ptrs_next]
    unfold World.ownsRow at h2 ⊢
    rw [hh]
    exact h2
  · by_cases e : i = k
    · subst e
      rw [upd_same] at hx
      rw [upd_ne _ _ (fun e => hij e.symm)]
      exact fun h5 => by have := (h.live j (by omega)).lt x h5; have := (hs x hx).1; omega
    · rw [upd_ne _ _ e] at hx
      by_cases e2 : j = k
      · subst e2; rw [upd_same]
        exact fun h5 => by have := (h.live i (by omega)).lt x hx; have := (hs x h5).1; omega
      · rw [upd_ne _ _ e2]; exact h.apart i j (by omega) (by omega) hij x hx
  · by_cases e : i = k
    · subst e
      rw [upd_same] at hx
      exact ⟨by have := (hs x hx).1; omega, fun e => (hSng x hx).1 (by simpa [Value.ownBlock] using e.symm)⟩
    · rw [upd_ne _ _ e] at hx
      exact ⟨(h.sub i (by omega) x hx).1, fun e => hSg i (by omega) x hx (by simpa [Value.ownBlock] using e.symm)⟩
  · exact (F2.trans F23 (S := fun x => x = o ∨ v.ownBlock = some x) (fun x hx => .inr hx) (fun x _ hx => .inl hx))

theorem Grow.done {w : World} {o W most : Nat} {R : Nat → List Mq} {v : Value} {bx : Nat → Nat} {S : Nat → Nat → Prop} (h : Grow w o W most R (W * W) v bx S) (h1 : 1 ≤ W) (h2 : W ≤ 16) (h3 : 1 ≤ most) (h4 : most ≤ 4096) :
    MeshAt w o W most R (fun x => o ≤ x ∧ x < w.heap.size) := by
  have hn : 0 < W * W := Nat.mul_pos h1 h1
  have how := lt_of_block h.blk
  rcases owns_form h.row with ⟨_, hz⟩ | ⟨q, cap, rfl, hc1, hc2, hq1, hq2⟩
  · omega
  refine ⟨⟨h1, h2, h3, h4⟩, q, cap, bx, S, ⟨h.blk, hc1, hc2, fun k hk => ?_, h.live, h.apart, fun k hk i hi => ⟨⟨by have := (h.sub k hk i hi).1; omega, (h.live k hk).lt i hi⟩, by have := (h.sub k hk i hi).1; omega, fun e => (h.sub k hk i hi).2 (by rw [e]; rfl)⟩, ⟨Nat.le_refl _, how⟩, ⟨by omega, hq2⟩, fun i hi => hi.2⟩⟩
  exact (h.row.cellAt k (by rw [Nat.mul_one]; exact hk)).trans (ptrs_get bx hk)

theorem info_pbox : (Try.prog.info? 75).map (fun i => (i.zero, i.size, i.bytes)) = some (some (.pointer none), 1, 8) := by kernel_rfl

theorem cell_alloc {w : World} {p : Addr} {v : Value} (h : w.cell? p = some v) (o : Obj) : (w.alloc o).cell? p = some v :=
  ((Fr.refl (fun _ => False) w).alloc o).cell h (fun e => e)
theorem frozen_alloc {w : World} {p : Addr} {b : Bool} (h : w.frozen? p = b) (hp : p.block < w.heap.size) (o : Obj) : (w.alloc o).frozen? p = b :=
  (World.frozen?_of_block (((Fr.refl (fun _ => False) w).alloc o).block p.block hp (fun e => e))).trans h

theorem mnew_bad (a n : Int) (w : World) (h : a < 1 ∨ 16 < a) :
    Calls Try.prog 6 #[.int .i64 a, .int .i64 n] w fun e w' => e = .returned (.tuple #[.pointer none, .int .i64 2]) ∧ w = w' := by
  rcases h with h | h
  · go_enter Try.func6, Try.ntmps6
    go_wp2
    go_ret2
    exact ⟨rfl, rfl⟩
  · have h1 : ¬ a < 1 := by omega
    go_enter Try.func6, Try.ntmps6
    go_wp2
    go_ret2
    exact ⟨rfl, rfl⟩

theorem mnew_bad2 (W : Nat) (n : Int) (w : World) (h1 : 1 ≤ W) (h2 : W ≤ 16) (h : n < 1 ∨ 4096 < n) :
    Calls Try.prog 6 #[.int .i64 W, .int .i64 n] w fun e w' => e = .returned (.tuple #[.pointer none, .int .i64 2]) ∧ Fr (fun _ => False) w w' := by
  have hnn : W * W ≤ 256 := by have := Nat.mul_le_mul h2 h2; omega
  have hn0 : 0 < W * W := Nat.mul_pos h1 h1
  have hnc : ((W * W : Nat) : Int) = (W : Int) * W := Int.natCast_mul W W
  have hwr : IntKind.i64.wrap ((W : Int) * (W : Int)) = ((W * W : Nat) : Int) := by rw [hnc]; exact IntWalk.i64_in _ (by omega)
  have t1 : ¬ (W : Int) < 1 := by omega
  have t2 : ¬ (16 : Int) < (W : Int) := by omega
  have N1 := hid (fun (w : World) => new_bad n w h)
  have HF := hid ((Fr.refl (fun _ => False) w).alloc (.cells #[.int .i64 W, .slice none 0 0] 74))
  clear hnc h
  generalize hN : W * W = m at *
  clear hN
  go_enter Try.func6, Try.ntmps6
  go_wp2_with fail
  go_loopw [21] (fun i wr => i = .int .i64 0 ∧ Fr (fun _ => False) w wr) (fun _ _ => 0)
  case atStart => exact ⟨rfl, HF.out⟩
  case round =>
    obtain ⟨rfl, hf⟩ := hrel
    have R1 := hid hf
    clear hf
    have hm0 : (0 : Int) < (m : Int) := by omega
    go_wp2_with (go_at_call 24; refine (N1.out _).mono ?_; rintro e w' ⟨rfl, rfl⟩)
    go_ret2
    exact ⟨rfl, R1.out⟩

set_option maxRecDepth 100000 in
set_option maxHeartbeats 1000000 in
theorem mnew_ok (W n : Nat) (w : World) (h1 : 1 ≤ W) (h2 : W ≤ 16) (h3 : 1 ≤ n) (h4 : n ≤ 4096) :
    Calls Try.prog 6 #[.int .i64 W, .int .i64 n] w fun e w' => e = .returned (.tuple #[.pointer (some ⟨w.heap.size, 0, none⟩), .int .i64 0]) ∧ MeshAt w' w.heap.size W n (fun _ => []) (fun x => w.heap.size ≤ x ∧ x < w'.heap.size) ∧ Fr (fun _ => False) w w' := by
  obtain ⟨i0, hi0, hz0, hz1, hz2⟩ := info_parts info_pbox
  have hnn : W * W ≤ 256 := by have := Nat.mul_le_mul h2 h2; omega
  have hnc : ((W * W : Nat) : Int) = (W : Int) * W := Int.natCast_mul W W
  have hwr : IntKind.i64.wrap ((W : Int) * (W : Int)) = ((W * W : Nat) : Int) := by rw [hnc]; exact IntWalk.i64_in _ (by omega)
  have t1 : ¬ (W : Int) < 1 := by omega
  have t2 : ¬ (16 : Int) < (W : Int) := by omega
  have N1 := hid (fun (w : World) => new_live n w h3 h4)
  have G0 := hid (show Grow (w.alloc (.cells #[.int .i64 W, .slice none 0 0] 74)) w.heap.size W n (fun _ => []) 0 (.slice none 0 0) (fun _ => 0) (fun _ _ => False) from
    ⟨heap_new w _, World.ownsRow_nil _ _ _ _, fun i hi => by omega, fun i j hi => by omega, fun i hi => by omega⟩)
  have HD := hid (fun (w' : World) v bx S (h : Grow w' w.heap.size W n (fun _ => []) (W * W) v bx S) => h.done h1 h2 h3 h4)
  have HF := hid ((Fr.refl (fun _ => False) w).alloc (.cells #[.int .i64 W, .slice none 0 0] 74))
  clear hnc
  generalize hN : W * W = m at *
  clear hN
  go_enter Try.func6, Try.ntmps6
  go_wp2_with fail
  go_loopw [21] (fun i wr => ∃ k : Nat, k ≤ m ∧ i = .int .i64 k ∧ (∃ v bx S, Grow wr w.heap.size W n (fun _ => []) k v bx S) ∧ Fr (fun _ => False) w wr) (fun i _ => m - (intOf i).toNat)
  case atStart => exact ⟨0, Nat.zero_le _, rfl, ⟨_, _, _, G0.out⟩, HF.out⟩
  case round =>
    obtain ⟨k, hk, rfl, ⟨v, bx, S, hg⟩, hf⟩ := hrel
    have R1 := hid hf
    have R2 := hid hg
    clear hf hg
    by_cases hkn : k < m
    · have hkn' : (k : Int) < (m : Int) := by omega
      have how := lt_of_block R2.out.blk
      go_wp2_with (first
        | (go_at_call 24; refine (N1.out _).mono ?_; rintro e w1 ⟨rfl, hl, hf1, hz⟩; have HL := hid hl; have HF1 := hid hf1; have b1 := hf1.heap R2.out.blk (fun e => e); have e1 := cell_of b1 1 (v := v) rfl; have f1 := free_of b1 1; have HO := hid (hf1.owns R2.out.row (fun _ _ e => e)); clear hl hf1 b1)
        | (at_builtin; go_must (refine wpList_append_lies _ rfl _ _ 72 rfl (w.heap.size + 1) 75 i0 _ 1 8 Try.underlying72 hi0 hz0 hz1 hz2 rfl (by omega) v k _ rfl (by exact HO.out.alloc _) ⟨wr.heap.size + 1, 0, none⟩ 1 1 [.pointer (some ⟨wr.heap.size, 0, none⟩)] rfl rfl (by rw [← hz]; exact World.news_of_block (cs := #[.pointer (some ⟨wr.heap.size, 0, none⟩)]) (t := 75) (fr := (0, 0)) (heap_new w1 _)) (by simp [Value.oneCell']) (by omega) (by unfold maxLen; omega) (by omega) (by simp; omega) (wr.heap.size + 2) (by simp; omega) ?_); go_must (intro g cp w2 hown hgrow hat hlt); go_must (have hvo : v.ownBlock ≠ some w.heap.size := fun e => by (have := (R2.out.row.lt _ e).1; omega)); go_must (have e2 : w2.cell? ⟨w.heap.size, 1, none⟩ = some v := hgrow.cell (cell_alloc e1 _) (Ne.symm hvo)); go_must (have f2 : w2.frozen? ⟨w.heap.size, 1, none⟩ = false := (hgrow.frozen_far ⟨w.heap.size, 1, none⟩ (by simp; omega) (Ne.symm hvo)).trans (frozen_alloc f1 (show w.heap.size < w1.heap.size by omega) _)); have HG := hid hgrow; have HOW := hid hown; have HA := hid hat; go_must (clear hgrow hown hat)))
      go_roundw
      case rel =>
        obtain ⟨g1, g2⟩ := R2.out.step (b := wr.heap.size) (Sn := fun x => x = wr.heap.size) HF1.out HL.out (fun x hx => by omega) ((Fr.refl (fun _ => False) w1).alloc (.cells #[.pointer (some ⟨wr.heap.size, 0, none⟩)] 75)) HOW.out HG.out (HA.out.imp (fun e => e) (fun e => by simp; omega)) (w3 := w2.setCell ⟨w.heap.size, 1, none⟩ (.slice (some ⟨g, 0, none⟩) (k + 1) cp)) rfl rfl rfl rfl
        refine ⟨k + 1, by omega, by go_num, ⟨_, _, _, g1⟩, ?_⟩
        refine R1.out.trans g2 (fun _ h => h) (fun i hi h => ?_)
        rcases h with h | h
        · omega
        · have := (R2.out.row.lt _ h).1; omega
      case measure => simp [intOf]; omega
    · obtain rfl : k = m := by omega
      go_wp2_with fail
      go_ret2
      exact ⟨rfl, HD.out _ _ _ _ R2.out, R1.out⟩

end Go.Proofs.Ytakhmommcgfoaaa
