/-
  follow.Same, walked.
-/
import Derived.Test.YtceomkoecidoiaaFolEq
import Derived.Laws.StructEq
namespace Go.Proofs.Ytceomkoecidoiaa
open Go.RowKit

theorem pair_old (w : World) (A B : Array Value) (t : TypeId) : ((w.alloc (.cells A t)).alloc (.cells B t)).heap[w.heap.size]? = some (.cells A t (0, 0)) := heap_old (heap_new w _) _
theorem pair_new (w : World) (A B : Array Value) (t : TypeId) : ((w.alloc (.cells A t)).alloc (.cells B t)).heap[w.heap.size + 1]? = some (.cells B t (0, 0)) := by simpa using heap_new (w.alloc (.cells A t)) (.cells B t)

set_option maxRecDepth 100000 in
set_option maxHeartbeats 2000000 in
theorem same_ok {w : World} {v v' : Value} {P P' : Nat} {T T' : Nat → Nat → Bool} (n n' : Bool) (f l f' l' : Nat) (h : U32V w v P T) (h' : U32V w v' P' T') (hP : P ≤ 40) (hP' : P' ≤ 40) :
    Calls Try.prog 13 #[foV n f l v, foV n' f' l' v'] w fun e w' => Tells w w' e (AlikeP n f l P T n' f' l' P' T') := by
  have hv := h
  have hv' := h'
  obtain ⟨ao, c, rfl, _⟩ := hv
  obtain ⟨ao', c', rfl, _⟩ := hv'
  have H := hid h
  have H' := hid h'
  clear h h'
  unfold foV
  go_enter Try.func13, Try.ntmps13
  go_upto_region 1 with fail
  obtain ⟨w1, hw1⟩ : ∃ w1, w1 = (w.alloc (.cells #[.bool n, .int .u32 f, .int .u32 l, .slice ao P c] 32)).alloc (.cells #[.bool n', .int .u32 f', .int .u32 l', .slice ao' P' c'] 32) := ⟨_, rfl⟩
  obtain ⟨k, hk⟩ : ∃ k, k = w.heap.size := ⟨_, rfl⟩
  obtain ⟨r, hr⟩ : ∃ r, r = w.heap.size + 1 := ⟨_, rfl⟩
  rw [← hw1, ← hr, ← hk]
  have K1 := hid (show w1.heap[k]? = some (.cells #[.bool n, .int .u32 f, .int .u32 l, .slice ao P c] 32 (0, 0)) by rw [hw1, hk]; exact heap_old (heap_new w _) _)
  have R1 := hid (show w1.heap[r]? = some (.cells #[.bool n', .int .u32 f', .int .u32 l', .slice ao' P' c'] 32 (0, 0)) by rw [hw1, hr]; simpa using heap_new (w.alloc _) (.cells _ 32))
  have F1 := hid (show Fr (fun _ => False) w w1 by rw [hw1]; exact ((Fr.refl _ w).alloc _).alloc _)
  clear hw1 hk hr
  have k0 := cell_of K1.out 0 (v := .bool n) rfl
  have k1 := cell_of K1.out 1 (v := .int .u32 f) rfl
  have k2 := cell_of K1.out 2 (v := .int .u32 l) rfl
  have k3 := cell_of K1.out 3 (v := .slice ao P c) rfl
  have r0 := cell_of R1.out 0 (v := .bool n') rfl
  have r1 := cell_of R1.out 1 (v := .int .u32 f') rfl
  have r2 := cell_of R1.out 2 (v := .int .u32 l') rfl
  have r3 := cell_of R1.out 3 (v := .slice ao' P' c') rfl
  have hkl := lt_of_block K1.out
  have hrl := lt_of_block R1.out
  go_cut [5, 6] (fun x y wx => ∃ p q, x = .pointer (some ⟨p, 0, none⟩) ∧ y = .pointer (some ⟨q, 0, none⟩) ∧ wx.heap[p]? = some (.cells #[.int .u32 f, .int .u32 l] 81 (0, 0)) ∧ wx.heap[q]? = some (.cells #[.int .u32 f', .int .u32 l'] 81 (0, 0)) ∧ Fr (fun _ => False) w1 wx)
  case first =>
    go_region
    all_goals (go_wp2_with fail; go_meet)
    all_goals first
      | exact ⟨_, _, rfl, rfl, pair_new w1 _ _ _, pair_old w1 _ _ _, (((Fr.refl _ w1).alloc _).alloc _).drew⟩
      | exact ⟨_, _, rfl, rfl, pair_old w1 _ _ _, pair_new w1 _ _ _, (((Fr.refl _ w1).alloc _).alloc _).drew⟩
  case rest =>
    obtain ⟨p, q, rfl, rfl, hp, hq, hF⟩ := hcut
    have HF := hid (F1.out.trans' hF)
    have k0 := cell_of (hF.heap K1.out (fun e => e)) 0 (v := .bool n) rfl
    have k3 := cell_of (hF.heap K1.out (fun e => e)) 3 (v := .slice ao P c) rfl
    have r0 := cell_of (hF.heap R1.out (fun e => e)) 0 (v := .bool n') rfl
    have r3 := cell_of (hF.heap R1.out (fun e => e)) 3 (v := .slice ao' P' c') rfl
    have p0 := cell_of hp 0 (v := .int .u32 f) rfl
    have p1 := cell_of hp 1 (v := .int .u32 l) rfl
    have q0 := cell_of hq 0 (v := .int .u32 f') rfl
    have q1 := cell_of hq 1 (v := .int .u32 l') rfl
    have hpe := pair_eq f l f' l' wc
    have heq := hid (equal_ok (H.out.fr HF.out) (H'.out.fr HF.out) hP hP')
    clear hF hp hq K1 R1 F1 hkl hrl
    by_cases hn : n = n'
    · subst hn
      by_cases hf : f = f'
      · subst hf
        by_cases hl : l = l'
        · subst hl
          simp only [beq_self_eq_true, Bool.and_self] at hpe
          go_wp2_with (go_at_call 27; refine heq.out.mono ?_; rintro e w9 ⟨b, rfl, hb, hF9⟩)
          go_ret
          exact ⟨b, rfl, ⟨fun h => ⟨rfl, rfl, rfl, hb.1 h⟩, fun h => hb.2 h.t⟩, HF.out.trans' hF9⟩
        · have h1 : ¬ (l : Int) = l' := by omega
          have h2 : ((l : Int) == (l' : Int)) = false := by simpa using h1
          rw [h2, Bool.and_false] at hpe
          go_wp2_with fail
          go_ret
          exact ⟨false, rfl, by simpa using fun h : AlikeP n f l P T n f l' P' T' => hl h.l, HF.out⟩
      · have h1 : ¬ (f : Int) = f' := by omega
        have h2 : ((f : Int) == (f' : Int)) = false := by simpa using h1
        rw [h2, Bool.false_and] at hpe
        go_wp2_with fail
        go_ret
        exact ⟨false, rfl, by simpa using fun h : AlikeP n f l P T n f' l' P' T' => hf h.f, HF.out⟩
    · have hb : (n == n') = false := by simpa using hn
      go_wp2_with fail
      go_ret
      exact ⟨false, rfl, by simpa using fun h : AlikeP n f l P T n' f' l' P' T' => hn h.n, HF.out⟩

end Go.Proofs.Ytceomkoecidoiaa
