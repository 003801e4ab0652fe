/-
  'awake' of the box's laws, walked: true.
-/
import Derived.Test.YtjlamecjenibcaaBoxLive
namespace Go.Proofs.Ytjlamecjenibcaa
open Go.RowKit

/-- who watches in awake -/
def W1 (p : Nat) : Watch 51 Try.prog 22 Int where
  wv := .func (.func 20) #[] #[.pointer (some ⟨p, 0, none⟩)]
  Q := fun t w => w.heap[p]? = some (.cells #[.int .i64 t] 3 (0, 0))
  next := fun t n => wrap64 (wrap64 (10 * t) + n)
  foot := fun k => k = p
  kept := fun _ _ _ _ h hf hd => hf.heap h (hd p rfl)
  lt := fun _ _ k h hk => by subst hk; exact lt_of_block h
  turns := fun w b n x0 x1 x2 t hb _ hq => (turned_awake b n p t x0 x1 x2 w hb hq).mono (by
    rintro e w' ⟨rfl, rfl⟩
    exact ⟨rfl, by have := heap_set (w := w.drewN 1) (i := 0) hq (.int .i64 (wrap64 (wrap64 (10 * t) + n))); simpa using this,
      ((Fr.refl (fun k => k = p) w).drewN 1).setCell (fun _ => rfl) _⟩)

theorem watch_live1 {w : World} {B b p most : Nat} {L : List Int} {S : Nat → Prop} (h : Live W0 w B b most L () S) (hp : w.heap[p]? = some (.cells #[.int .i64 0] 3 (0, 0))) (hS : ¬ S p) :
    Calls Try.prog 17 #[.pointer (some ⟨b, 0, none⟩), .func (.func 20) #[] #[.pointer (some ⟨p, 0, none⟩)]] w fun e w' => e = .returned (.tuple #[]) ∧
      Live (W1 p) w' B b most L 0 (fun k => S k ∨ k = p) ∧ Fr S w w' := by
  obtain ⟨⟨rv, hh, zs, hb, hr⟩, q, sb, nb, sf, lt⟩ := h
  refine (watch_ok (.func 20) #[] #[.pointer (some ⟨p, 0, none⟩)] hb).mono ?_
  rintro e w' ⟨rfl, rfl⟩
  have hbp : b ≠ p := fun e => hS (e ▸ sb)
  have hf : Fr S w (w.setCell ⟨b, 4, none⟩ (.func (.func 20) #[] #[.pointer (some ⟨p, 0, none⟩)])) := (Fr.refl S w).setCell (fun _ => sb) _
  refine ⟨rfl, ⟨⟨rv, hh, zs, watched _ hb, fun k hk => ⟨.inl (hr k hk).1, fun e => hS (e ▸ (hr k hk).1)⟩⟩, hf.heap hp hS, .inl sb, hbp, fun k hk => .inr hk, fun k hk => ?_⟩, hf⟩
  rcases hk with hk | rfl
  · simpa using lt k hk
  · simpa using lt_of_block hp

theorem IntsAt.lit2 (w : World) (x y : Int) : IntsAt (w.alloc (.cells #[.int .i64 x, .int .i64 y] 3)) (fun _ => True) (.slice (some ⟨w.heap.size, 0, none⟩) 2 2) [x, y] := by
  refine ⟨_, _, rfl, by simp, by omega, fun _ => ⟨_, 0, rfl, trivial, by simp, fun i z hz => ?_⟩⟩
  rw [Nat.zero_add, cell_of_row _ _ i _ _ _ (heap_new w _)]
  match i, hz with
  | 0, hz => simp at hz; subst hz; rfl
  | 1, hz => simp at hz; subst hz; rfl
  | _ + 2, hz => simp at hz

theorem st1 (p : Nat) : (W1 p).push 2 0 [] = 1 := by simp [Watch.push, W1, wrap64]
theorem st2 (p : Nat) : (W1 p).push 2 1 [1] = 12 := by simp [Watch.push, W1, wrap64]
theorem st3 (p : Nat) : (W1 p).pop 12 [1, 2] = 121 := by simp [Watch.pop, W1, wrap64]
theorem st4 (p : Nat) : (W1 p).push 2 121 [2] = 1212 := by simp [Watch.push, W1, wrap64]

set_option maxHeartbeats 1000000 in
theorem awake_ok (w : World) : Calls Try.prog 5 #[] w fun e w' => e = .returned (.bool true) ∧ Below w.heap.size w w' := by
  have hmf : True := trivial
  go_enter Try.func5, Try.ntmps5
  go_wp2_with fail
  refine (new_live 2 w (by omega) (by omega)).mono ?_
  rintro e w1 ⟨b, rfl, hL, hb1, hwb⟩
  have HL := hid hL
  have HB1 := hid hb1
  clear hL hb1
  go_wp2_with fail
  refine (new_bad 0 w1 (.inl (by omega))).mono ?_
  rintro e w' ⟨rfl, rfl⟩
  go_wp2_with fail
  refine (push_nil 1 w1).mono ?_
  rintro e w' ⟨rfl, rfl⟩
  go_wp2_with fail
  refine (len_nil w1).mono ?_
  rintro e w' ⟨rfl, rfl⟩
  go_wp2_with fail
  refine (fork_nil w1).mono ?_
  rintro e w' ⟨rfl, rfl⟩
  go_wp2_with fail
  have hL2 : Live W0 (w1.alloc (.cells #[.int .i64 0] 3)) w.heap.size b 2 [] () (fun k => k = b) := HL.out.fr ((Fr.refl (fun _ => False) w1).alloc _) (fun _ _ e => e)
  have hbs := HL.out.lt b rfl
  refine (watch_live1 hL2 (heap_new w1 _) (by intro e; omega)).mono ?_
  rintro e w2 ⟨rfl, hL3, hF3⟩
  have HL3 := hid hL3
  have HF3 := hid hF3
  clear hL3 hF3 hL2
  have B3 := hid (((HB1.out.alloc HB1.out.size _).trans (HF3.out.below (by have := HB1.out.size; simp; omega) (fun i hi hs => by omega))))
  have L3 := hid (show ∀ k, (k = b ∨ k = w1.heap.size) → w.heap.size ≤ k from fun k hk => by have := HB1.out.size; omega)
  go_wp2_with fail
  refine (push_live (W1 w1.heap.size) HL3.out B3.out.size 1).mono ?_
  rintro e w3 ⟨rfl, S3, hL, hF, hS⟩
  rw [st1] at hL
  have HL4 := hid (show Live (W1 w1.heap.size) w3 w.heap.size b 2 [1] 1 S3 from hL)
  have B4 := hid (B3.out.trans (hF.below B3.out.size (fun i hi hs => by have := L3.out i hs; omega)))
  have L4 := hid (show ∀ k, S3 k → w.heap.size ≤ k from fun k hk => (hS k hk).elim (L3.out k) (fun h => Nat.le_trans B3.out.size h))
  have qe3 : pushE 2 [] = 0 := rfl
  clear hL hF hS
  go_wp2_with fail
  refine (push_live (W1 w1.heap.size) HL4.out B4.out.size 2).mono ?_
  rintro e w4 ⟨rfl, S4, hL, hF, hS⟩
  rw [st2] at hL
  have HL5 := hid (show Live (W1 w1.heap.size) w4 w.heap.size b 2 [1, 2] 12 S4 from hL)
  have B5 := hid (B4.out.trans (hF.below B4.out.size (fun i hi hs => by have := L4.out i hs; omega)))
  have L5 := hid (show ∀ k, S4 k → w.heap.size ≤ k from fun k hk => (hS k hk).elim (L4.out k) (fun h => Nat.le_trans B4.out.size h))
  have qe4 : pushE 2 [1] = 0 := rfl
  clear hL hF hS
  go_wp2_with fail
  refine (push_live (W1 w1.heap.size) HL5.out B5.out.size 3).mono ?_
  rintro e w5 ⟨rfl, S5, hL, hF, hS⟩
  have HL6 := hid (show Live (W1 w1.heap.size) w5 w.heap.size b 2 [1, 2] 12 S5 from hL)
  have B6 := hid (B5.out.trans (hF.below B5.out.size (fun i hi hs => by have := L5.out i hs; omega)))
  have L6 := hid (show ∀ k, S5 k → w.heap.size ≤ k from fun k hk => (hS k hk).elim (L5.out k) (fun h => Nat.le_trans B5.out.size h))
  have qe5 : pushE 2 [1, 2] = 7 := rfl
  clear hL hF hS
  go_wp2_with fail
  refine (pop_live (W1 w1.heap.size) HL6.out).mono ?_
  rintro e w6 ⟨rfl, hL, hF⟩
  rw [st3] at hL
  have HL7 := hid (show Live (W1 w1.heap.size) w6 w.heap.size b 2 [2] 121 S5 from hL)
  have B7 := hid (B6.out.trans (hF.below B6.out.size (fun i hi hs => by have := L6.out i hs; omega)))
  have L7 := hid L6.out
  have qp : popE [1, 2] = 0 := rfl
  have qv : popV [1, 2] = 1 := rfl
  clear hL hF
  go_wp2_with fail
  refine (push_live (W1 w1.heap.size) HL7.out B7.out.size 3).mono ?_
  rintro e w7 ⟨rfl, S7, hL, hF, hS⟩
  rw [st4] at hL
  have HL8 := hid (show Live (W1 w1.heap.size) w7 w.heap.size b 2 [2, 3] 1212 S7 from hL)
  have B8 := hid (B7.out.trans (hF.below B7.out.size (fun i hi hs => by have := L7.out i hs; omega)))
  have L8 := hid (show ∀ k, S7 k → w.heap.size ≤ k from fun k hk => (hS k hk).elim (L7.out k) (fun h => Nat.le_trans B7.out.size h))
  have qe7 : pushE 2 [2] = 0 := rfl
  clear hL hF hS
  go_wp2_with fail
  refine (peek_live (W1 w1.heap.size) HL8.out).mono ?_
  rintro e w' ⟨rfl, m, rfl⟩
  have qk : popV [2, 3] = 2 := rfl
  have qe : ([2, 3] : List Int).isEmpty = false := rfl
  have HL9 := hid (HL8.out.drewN m)
  have told := cell_of HL9.out.q 0 (v := .int .i64 1212) rfl
  have qlen : ([2, 3] : List Int).length = 2 := rfl
  go_wp2_with fail
  refine (len_live (W1 w1.heap.size) HL9.out).mono ?_
  rintro e w' ⟨rfl, rfl⟩
  go_wp2_with fail
  refine (room_live (W1 w1.heap.size) HL9.out).mono ?_
  rintro e w' ⟨rfl, m2, rfl⟩
  have HL10 := hid (HL8.out.drewN (m + m2))
  go_wp2_with fail
  refine (list_live (W1 w1.heap.size) HL10.out).mono ?_
  rintro e w8 ⟨v, rfl, hI, hb8⟩
  have B9 := hid (((B8.out.trans (below_drewN (Below.refl _ w7) (m + m2))).trans (hb8.mono B8.out.size)))
  have HI := hid hI
  clear hI hb8
  go_wp2_with fail
  refine (same_eq (HI.out.fr (ok' := fun g => w7.heap.size ≤ g) (S := fun _ => False) ((Fr.refl _ w8).alloc _) (fun _ _ e => e) (fun g h _ => h)) (IntsAt.lit2 w8 2 3)).mono ?_
  rintro e w' ⟨rfl, m3, rfl⟩
  go_wp2_with fail
  go_ret
  exact ⟨rfl, below_drewN (B9.out.alloc B9.out.size _) m3⟩

end Go.Proofs.Ytjlamecjenibcaa
