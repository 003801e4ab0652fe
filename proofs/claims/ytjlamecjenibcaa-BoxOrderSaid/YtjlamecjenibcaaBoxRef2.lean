/-
  The document's Push on an empty list, walked.
-/
import Derived.Test.YtjlamecjenibcaaBoxRef
namespace Go.Proofs.Ytjlamecjenibcaa
open Go.RowKit

theorem run_append_zero {P : Program} {w : World} (t ty e : TypeId) (i : TypeInfo) (ht : P.underlying t = some (.slice e)) (hi : P.info? e = some i) (g n cap c : Nat) (ao : Option Addr) (hc : n ≤ cap) :
    (Builtin.append_ #[t, t] ty #[.slice (some ⟨g, 0, none⟩) n cap, .slice ao 0 c]).run P w = .ok (.slice (some ⟨g, 0, none⟩) n cap) w := by
  cases ao <;> simp [Builtin.append_, run_underlying ht, sizeOf, typeInfo, hi, Builtin.lenOf, Builtin.firstCells, hc, storeCells, loadCells, loadCellsFrom]

theorem step_append_zero {P : Program} {w : World} {ops : Array Oper} {o : Oper} {a : Act} {K : Act → World → Prop} {Q : Exit → Act → World → Prop} {E : Prop} (hgd : o.guard = none) (s x : Operand) (t : TypeId)
    (ho : o.op = .call { callee := .builtin .append, args := #[s, x], argTypes := #[t, t] }) (e : TypeId) (i : TypeInfo) (ht : P.underlying t = some (.slice e)) (hi : P.info? e = some i)
    (g n cap c : Nat) (ao : Option Addr) (hs : a.eval s = .slice (some ⟨g, 0, none⟩) n cap) (hx : a.eval x = .slice ao 0 c) (hc : n ≤ cap) (h : K (a.put o.dst (.slice (some ⟨g, 0, none⟩) n cap)) w) :
    if Region.wanted o (yielded ops a.tmps) = true then Oper.wp P o a w K Q else E := by
  have hw : Region.wanted o (yielded ops a.tmps) = true := by simp [Region.wanted, hgd]
  rw [if_pos hw]
  have hr := run_append_zero (P := P) (w := w) t o.type e i ht hi g n cap c ao hc
  unfold Oper.wp execOp
  simp only [ho, resolve, invoke, builtin, Sem.run_bind, Sem.run_pure, Result.andThen_ok, List.map_toArray, List.map_cons, List.map_nil, hs, hx, hr]
  exact h

set_option maxHeartbeats 2000000 in
theorem refPush_nil (cap : Int) (ao : Option Addr) (c : Nat) (y : Int) (w : World) (hcl : 0 < cap) (hcap : cap ≤ 4096) :
    Calls Try.prog 11 #[.agg #[.int .i64 cap, .slice ao 0 c], .int .i64 y] w fun e w' => ∃ v', e = .returned (.tuple #[.agg #[.int .i64 cap, v'], .int .i64 0]) ∧ IntsAt w' (fun g => w.heap.size ≤ g) v' [y] ∧ Below w.heap.size w w' := by
  obtain ⟨i0, hi0, hz0, hz1, hz2⟩ := info_parts info_int
  have q1 : ¬ cap ≤ 0 := by omega
  go_enter Try.func11, Try.ntmps11
  go_wp2
  obtain ⟨w2, hw2⟩ : ∃ w2, w2 = (w.alloc (.cells #[.int .i64 cap, .slice ao 0 c] 31)).alloc (.cells #[.int .i64 0, .slice none 0 0] 31) := ⟨_, rfl⟩
  rw [← hw2]
  have HBEL := hid (show Below w.heap.size w w2 by rw [hw2]; exact ((Below.refl _ w).alloc (Nat.le_refl _) _).alloc (by simp) _)
  have HR := hid (show w2.heap[w.heap.size + 1]? = some (.cells #[.int .i64 0, .slice none 0 0] 31 (0, 0)) by
    rw [hw2]; have := heap_new (w.alloc (.cells #[.int .i64 cap, .slice ao 0 c] 31)) (.cells #[.int .i64 0, .slice none 0 0] 31 (0, 0)); simp only [World.size_alloc] at this; exact this)
  have hA : w2.heap[w.heap.size]? = some (.cells #[.int .i64 cap, .slice ao 0 c] 31 (0, 0)) := by rw [hw2]; exact heap_old (heap_new w _) _
  have a0 := cell_of hA 0 (v := .int .i64 cap) rfl
  have a1 := cell_of hA 1 (v := .slice ao 0 c) rfl
  have hs2 : w2.heap.size = w.heap.size + 2 := by rw [hw2]; simp
  clear hA hw2
  obtain ⟨p, hp⟩ : ∃ p, p = w.heap.size := ⟨_, rfl⟩
  obtain ⟨r, hr⟩ : ∃ r, r = w.heap.size + 1 := ⟨_, rfl⟩
  rw [← hr]
  rw [← hr] at HR
  rw [← hp] at a0 a1 hs2 HBEL hr ⊢
  have hs3 : p ≤ w2.heap.size := by omega
  have hs4 : w2.heap.size ≤ p + 2 := by omega
  have hs5 : p + 2 ≤ w2.heap.size := by omega
  have hr1 : r ≤ p + 1 := by omega
  have hr2 : p + 1 ≤ r := by omega
  have HP := hid hp
  have hrp : ¬ r = p := by omega
  have hpr : ¬ p = r := by omega
  clear hs2 hr hp
  go_region_held3 (fun w' => w'.cell? ⟨p, 0, none⟩ = some (.int .i64 cap) ∧ w'.cell? ⟨p, 1, none⟩ = some (.slice ao 0 c)) (first | (refine keepN hgrow2 ?_ ne2; assumption) | go_keep)
    (first
      | ((with_reducible refine pickB ?_); refine step_append_zero (by rfl) (.tmp 15) (.tmp 17) _ (by rfl) 3 i0 Try.underlying29 hi0 w2.heap.size 0 0 c ao (by rfl) (by rfl) (Nat.le_refl 0) ?_)
      | ((with_reducible refine pickC ?_); refine step_append_zero (by rfl) (.tmp 15) (.tmp 17) _ (by rfl) 3 i0 Try.underlying29 hi0 (w2.heap.size + 1) 0 0 c ao (by rfl) (by rfl) (Nat.le_refl 0) ?_)
      | ((with_reducible refine pickA (w := w2) ?_); refine step_append_zero (by rfl) (.tmp 15) (.tmp 17) _ (by rfl) 3 i0 Try.underlying29 hi0 w2.heap.size 0 0 c ao (by rfl) (by rfl) (Nat.le_refl 0) ?_)
      | ((with_reducible refine pickB ?_); refine step_append_lies _ (by rfl) (.tmp 18) (.tmp 20) _ (by rfl) p 3 i0 _ 1 8 Try.underlying29 hi0 hz0 hz1 hz2 rfl one_pos (.slice (some ⟨w2.heap.size, 0, none⟩) 0 0) 0 [] (by rfl) (ownB w2 p _ hs3) ⟨w2.heap.size + 1, 0, none⟩ 1 1 [.int .i64 y] (by rfl) rfl (World.news_of_block (cs := #[.int .i64 y]) (t := 3) (fr := (0, 0)) (lastB w2 _ _)) (one_one y) one_pos (by decide) (by decide) (by rw [szB]; omega) _ rfl ?_; intro g2 c2 w3 hown2 hgrow2 hat2 hlt2; simp only [Nat.zero_add, List.nil_append] at hown2; have b2 := gr_heap (blkB HR.out _ _) hgrow2 (by omega); have z0 := cell_of b2 0 (v := .int .i64 0) rfl; have z1 := cell_of b2 1 (v := .slice none 0 0) rfl; have f0 := free_of b2 0; have f1 := free_of b2 1; have B2 := hid b2; have BL2 := hid (belG (belB HBEL.out hs3 _ _) hgrow2 (by rw [szB]; omega) (by omega)); have ne2 := own_ne (n := 0) (c := 0) (show w2.heap.size ≠ p by omega); have H2 := hid hown2; have e2 := own_eq hat2; rw [szB] at e2; have ng := hid (show g2 ≠ r by omega); clear b2 hat2 hown2 e2)
      | ((with_reducible refine pickC ?_); refine step_append_lies _ (by rfl) (.tmp 18) (.tmp 20) _ (by rfl) p 3 i0 _ 1 8 Try.underlying29 hi0 hz0 hz1 hz2 rfl one_pos (.slice (some ⟨w2.heap.size + 1, 0, none⟩) 0 0) 0 [] (by rfl) (ownC w2 p _ hs3) ⟨w2.heap.size, 0, none⟩ 1 1 [.int .i64 y] (by rfl) rfl (World.news_of_block (cs := #[.int .i64 y]) (t := 3) (fr := (0, 0)) (lastC w2 _ _)) (one_one y) one_pos (by decide) (by decide) (by rw [szB]; omega) _ rfl ?_; intro g2 c2 w3 hown2 hgrow2 hat2 hlt2; simp only [Nat.zero_add, List.nil_append] at hown2; have b2 := gr_heap (blkB HR.out _ _) hgrow2 (by omega); have z0 := cell_of b2 0 (v := .int .i64 0) rfl; have z1 := cell_of b2 1 (v := .slice none 0 0) rfl; have f0 := free_of b2 0; have f1 := free_of b2 1; have B2 := hid b2; have BL2 := hid (belG (belB HBEL.out hs3 _ _) hgrow2 (by rw [szB]; omega) (by omega)); have ne2 := own_ne (n := 0) (c := 0) (show w2.heap.size + 1 ≠ p by omega); have H2 := hid hown2; have e2 := own_eq hat2; rw [szB] at e2; have ng := hid (show g2 ≠ r by omega); clear b2 hat2 hown2 e2)
      | fail)
  all_goals
    clear hgrow2
    go_wp2
    refine bodyPost_ret (v := .tuple #[.agg #[.int .i64 cap, .slice (some ⟨g2, 0, none⟩) 1 c2], .int .i64 0]) (by simp [results, Try.results11, go_sem, z0, z1]) rfl ⟨_, rfl, ?_, ?_⟩
    · rw [← HP.out]
      have e5 := Go.ownsRow_setCell_other (Go.ownsRow_setCell_other H2.out (a := ⟨r, 0, none⟩) (own_ne ng.out) (.int .i64 cap)) (a := ⟨r, 1, none⟩) (own_ne ng.out) (.slice (some ⟨g2, 0, none⟩) 1 c2)
      exact IntsAt.of_owns (L := [y]) e5
    · rw [← HP.out]
      exact (BL2.out.setCell (p := ⟨r, 0, none⟩) (by simp; omega) _).setCell (p := ⟨r, 1, none⟩) (by simp; omega) _

theorem refPush_ok (cap : Int) (v : Value) (y : Int) (L : List Int) (ok : Nat → Prop) (w : World) (h : IntsAt w ok v L) (hcl : L.length < cap) (hcap : cap ≤ 4096) :
    Calls Try.prog 11 #[.agg #[.int .i64 cap, v], .int .i64 y] w fun e w' => ∃ v', e = .returned (.tuple #[.agg #[.int .i64 cap, v'], .int .i64 0]) ∧ IntsAt w' (fun g => w.heap.size ≤ g) v' (L ++ [y]) ∧ Below w.heap.size w w' := by
  cases L with
  | nil =>
    obtain ⟨ao, c, rfl, _⟩ := h
    exact refPush_nil cap ao c y w (by simpa using hcl) hcap
  | cons z L => exact refPush_some cap v y z L ok w h hcl hcap

end Go.Proofs.Ytjlamecjenibcaa
