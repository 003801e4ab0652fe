/-
  Whether two sets of the program's are alike: alike and slices.Equal, walked.
-/
import Derived.Test.YtceomkoecidoiaaFolWords
namespace Go.Proofs.Ytceomkoecidoiaa
open Go.RowKit

def EqT (P : Nat) (T : Nat → Nat → Bool) (P' : Nat) (T' : Nat → Nat → Bool) : Prop := P = P' ∧ ∀ i, i < P → msk (T i) 32 = msk (T' i) 32

theorem U32V.at_ {w : World} {ao : Option Addr} {P c i : Nat} {T : Nat → Nat → Bool} (h : U32V w (.slice ao P c) P T) (hi : i < P) : ∃ g o, ao = some ⟨g, o, none⟩ ∧ w.cell? ⟨g, o + i, none⟩ = some (.int .u32 (msk (T i) 32)) := by
  obtain ⟨ao', c', hv, hp⟩ := h
  simp only [Value.slice.injEq] at hv
  obtain ⟨rfl, _, _⟩ := hv
  obtain ⟨g, o, ha, _, hc⟩ := hp (by omega)
  exact ⟨g, o, ha, hc i hi⟩

set_option maxHeartbeats 2000000 in
theorem equal_ok {w : World} {v v' : Value} {P P' : Nat} {T T' : Nat → Nat → Bool} (h : U32V w v P T) (h' : U32V w v' P' T') (hP : P ≤ 40) (hP' : P' ≤ 40) :
    Calls Try.prog 27 #[v, v'] w fun e w' => Tells w w' e (EqT P T P' T') := by
  have hv := h
  have hv' := h'
  obtain ⟨ao, c, rfl, _⟩ := hv
  obtain ⟨ao', c', rfl, _⟩ := hv'
  have H := hid h
  have H' := hid h'
  clear h h'
  by_cases hPP : P = P'
  · subst hPP
    go_enter Try.func27, Try.ntmps27
    go_wp2_with fail
    go_loopw [13] (fun i wr => ∃ j : Nat, j ≤ P ∧ i = .int .i64 j ∧ Fr (fun _ => False) w wr ∧ ∀ i, i < j → msk (T i) 32 = msk (T' i) 32) (fun i _ => P - (intOf i).toNat)
    case atStart => exact ⟨0, Nat.zero_le _, rfl, Fr.refl _ _, fun i h => by omega⟩
    case round =>
      obtain ⟨j, hj, rfl, hF, hE⟩ := hrel
      have HE := hid hE
      have HF := hid hF
      clear hE hF
      by_cases hjP : j < P
      · obtain ⟨g, o, rfl, c1⟩ := (H.out.fr HF.out).at_ hjP
        obtain ⟨g', o', rfl, c2⟩ := (H'.out.fr HF.out).at_ hjP
        have hjP' : (j : Int) < P := by omega
        have hj0 : (0 : Int) ≤ j := by omega
        by_cases hm : msk (T j) 32 = msk (T' j) 32
        · rw [← hm] at c2
          go_upto_region 6 with fail
          go_region
          go_wp2_with fail
          exact ⟨⟨j + 1, by omega, rfl, HF.out.trans' ((Fr.refl _ wr).drew), fun i hi => by
            rcases Nat.lt_or_ge i j with h | h
            · exact HE.out i h
            · obtain rfl : i = j := by omega
              exact hm⟩, by simp [intOf]; omega⟩
        · have hm1 : ¬ ((msk (T j) 32 : Nat) : Int) = (msk (T' j) 32 : Nat) := by omega
          have hm2 : (((msk (T j) 32 : Nat) : Int) == (msk (T' j) 32 : Nat)) = false := by simpa using hm1
          go_upto_region 6 with fail
          go_region
          go_wp2_with fail
          go_ret
          exact ⟨false, rfl, by simpa using fun h : EqT P T P T' => hm (h.2 j hjP), HF.out.trans' ((Fr.refl _ wr).drew)⟩
      · obtain rfl : j = P := by omega
        go_wp2_with fail
        go_ret
        exact ⟨true, rfl, ⟨fun _ => ⟨rfl, HE.out⟩, fun _ => rfl⟩, HF.out⟩
  · have h1 : ¬ (P : Int) = P' := by omega
    have h2 : ((P : Int) == (P' : Int)) = false := by simpa using h1
    go_enter Try.func27, Try.ntmps27
    go_wp2_with fail
    go_ret
    exact ⟨false, rfl, by simpa using fun h : EqT P T P' T' => hPP h.1, Fr.refl _ _⟩

structure AlikeP (n : Bool) (f l P : Nat) (T : Nat → Nat → Bool) (n' : Bool) (f' l' P' : Nat) (T' : Nat → Nat → Bool) : Prop where
  n : n = n'
  f : f = f'
  l : l = l'
  t : EqT P T P' T'

set_option maxRecDepth 100000 in
set_option maxHeartbeats 2000000 in
theorem alike_ok {w : World} {v v' : Value} {P P' : Nat} {T T' : Nat → Nat → Bool} (n n' : Bool) (f l f' l' : Nat) (h : U32V w v P T) (h' : U32V w v' P' T') (hP : P ≤ 40) (hP' : P' ≤ 40) :
    Calls Try.prog 11 #[foV n f l v, foV n' f' l' v'] w fun e w' => Tells w w' e (AlikeP n f l P T n' f' l' P' T') := by
  have hv := h
  have hv' := h'
  obtain ⟨ao, c, rfl, _⟩ := hv
  obtain ⟨ao', c', rfl, _⟩ := hv'
  have H := hid h
  have H' := hid h'
  clear h h'
  unfold foV
  go_enter Try.func11, Try.ntmps11
  go_upto_region 1 with fail
  obtain ⟨w1, hw1⟩ : ∃ w1, w1 = (w.alloc (.cells #[.bool n, .int .u32 f, .int .u32 l, .slice ao P c] 32)).alloc (.cells #[.bool n', .int .u32 f', .int .u32 l', .slice ao' P' c'] 32) := ⟨_, rfl⟩
  obtain ⟨k, hk⟩ : ∃ k, k = w.heap.size := ⟨_, rfl⟩
  obtain ⟨r, hr⟩ : ∃ r, r = w.heap.size + 1 := ⟨_, rfl⟩
  rw [← hw1, ← hr, ← hk]
  have K1 := hid (show w1.heap[k]? = some (.cells #[.bool n, .int .u32 f, .int .u32 l, .slice ao P c] 32 (0, 0)) by rw [hw1, hk]; exact heap_old (heap_new w _) _)
  have R1 := hid (show w1.heap[r]? = some (.cells #[.bool n', .int .u32 f', .int .u32 l', .slice ao' P' c'] 32 (0, 0)) by rw [hw1, hr]; simpa using heap_new (w.alloc _) (.cells _ 32))
  have F1 := hid (show Fr (fun _ => False) w w1 by rw [hw1]; exact ((Fr.refl _ w).alloc _).alloc _)
  clear hw1 hk hr
  have k0 := cell_of K1.out 0 (v := .bool n) rfl
  have k1 := cell_of K1.out 1 (v := .int .u32 f) rfl
  have k2 := cell_of K1.out 2 (v := .int .u32 l) rfl
  have k3 := cell_of K1.out 3 (v := .slice ao P c) rfl
  have r0 := cell_of R1.out 0 (v := .bool n') rfl
  have r1 := cell_of R1.out 1 (v := .int .u32 f') rfl
  have r2 := cell_of R1.out 2 (v := .int .u32 l') rfl
  have r3 := cell_of R1.out 3 (v := .slice ao' P' c') rfl
  by_cases hn : n = n'
  · subst hn
    by_cases hf : f = f'
    · subst hf
      by_cases hl : l = l'
      · subst hl
        by_cases hPP : P = P'
        · subst hPP
          go_wp2_with fail
          clear k0 k1 k2 k3 r0 r1 r2 r3
          go_loopw [5] (fun i wr => ∃ j : Nat, j ≤ P ∧ i = .int .i64 j ∧ Fr (fun _ => False) w1 wr ∧ ∀ i, i < j → msk (T i) 32 = msk (T' i) 32) (fun i _ => P - (intOf i).toNat)
          case atStart => exact ⟨0, Nat.zero_le _, rfl, Fr.refl _ _, fun i h => by omega⟩
          case round =>
            obtain ⟨j, hj, rfl, hF, hE⟩ := hrel
            have HE := hid hE
            have HF := hid hF
            have HFw := hid (F1.out.trans' hF)
            clear hE hF
            have k3 := cell_of (HF.out.heap K1.out (fun e => e)) 3 (v := .slice ao P c) rfl
            have r3 := cell_of (HF.out.heap R1.out (fun e => e)) 3 (v := .slice ao' P c') rfl
            by_cases hjP : j < P
            · obtain ⟨g, o, rfl, c1⟩ := (H.out.fr HFw.out).at_ hjP
              obtain ⟨g', o', rfl, c2⟩ := (H'.out.fr HFw.out).at_ hjP
              have hjP' : (j : Int) < P := by omega
              have hj0 : (0 : Int) ≤ j := by omega
              by_cases hm : msk (T j) 32 = msk (T' j) 32
              · rw [← hm] at c2
                go_upto_region 6 with fail
                go_region
                go_wp2_with fail
                exact ⟨⟨j + 1, by omega, rfl, HF.out.trans' ((Fr.refl _ wr).drew), fun i hi => by
                  rcases Nat.lt_or_ge i j with h | h
                  · exact HE.out i h
                  · obtain rfl : i = j := by omega
                    exact hm⟩, by simp [intOf]; omega⟩
              · have hm1 : ¬ ((msk (T j) 32 : Nat) : Int) = (msk (T' j) 32 : Nat) := by omega
                have hm2 : (((msk (T j) 32 : Nat) : Int) == (msk (T' j) 32 : Nat)) = false := by simpa using hm1
                go_upto_region 6 with fail
                go_region
                go_wp2_with fail
                go_ret
                exact ⟨false, rfl, by simpa using fun h : AlikeP n f l P T n f l P T' => hm (h.t.2 j hjP), HFw.out.trans' ((Fr.refl _ wr).drew)⟩
            · obtain rfl : j = P := by omega
              go_wp2_with fail
              go_ret
              exact ⟨true, rfl, ⟨fun _ => ⟨rfl, rfl, rfl, rfl, HE.out⟩, fun _ => rfl⟩, HFw.out⟩
        · have h1 : ¬ (P : Int) = P' := by omega
          have h2 : ((P : Int) == (P' : Int)) = false := by simpa using h1
          go_wp2_with fail
          go_ret
          exact ⟨false, rfl, by simpa using fun h : AlikeP n f l P T n f l P' T' => hPP h.t.1, F1.out⟩
      · have h1 : ¬ (l : Int) = l' := by omega
        have h2 : ((l : Int) == (l' : Int)) = false := by simpa using h1
        go_wp2_with fail
        go_ret
        exact ⟨false, rfl, by simpa using fun h : AlikeP n f l P T n f l' P' T' => hl h.l, F1.out⟩
    · have h1 : ¬ (f : Int) = f' := by omega
      have h2 : ((f : Int) == (f' : Int)) = false := by simpa using h1
      go_wp2_with fail
      go_ret
      exact ⟨false, rfl, by simpa using fun h : AlikeP n f l P T n f' l' P' T' => hf h.f, F1.out⟩
  · have hb : (n == n') = false := by simpa using hn
    go_wp2_with fail
    go_ret
    exact ⟨false, rfl, by simpa using fun h : AlikeP n f l P T n' f' l' P' T' => hn h.n, F1.out⟩

end Go.Proofs.Ytceomkoecidoiaa
