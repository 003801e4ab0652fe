/-
  Over of layer 16, walked: 0 or 1; 0 where there are few nodes, places and tests.
-/
import Derived.Test.YtceomkoecidoiaaFolLoops
import Derived.Test.YtceomkoecidoiaaFolPlaces
import Derived.Test.YtceomkoecidoiaaFolFine
namespace Go.Proofs.Ytceomkoecidoiaa
open Go.RowKit
attribute [local go_sem ↓] run_ld25

def Few (N : List (Int × Int)) (L : List Nat) : Prop := N.length ≤ 250 ∧ L.length ≤ 40 ∧ ∀ (i n : Nat), L[i]? = some n → n ≤ 40
/-- of a core that may be no node stands within more than six loops -/
def Deep (N : List (Int × Int)) (L : List Nat) : Prop := Ok16 N L.length → ∀ t : Tr, N = t.flat → t.depth ≤ 6
structure OverSays (w w' : World) (e : Ending) (N : List (Int × Int)) (L : List Nat) : Prop where
  out : ∃ z : Int, e = .returned (.int .i64 z) ∧ (z = 0 ∨ z = 1) ∧ (z = 0 → Few N L)
  fr : Fr (fun _ => False) w w'
  deep : e = .returned (.int .i64 0) → Deep N L

/-- a node list is of one tree -/
theorem flat_uni : ∀ (t t' : Tr) (r r' : List (Int × Int)), t.flat ++ r = t'.flat ++ r' → t = t' ∧ r = r' := by
  intro t
  induction t with
  | eps p => intro t' r r' h; cases t' <;> simp [Tr.flat] at h; exact ⟨by rw [h.1], h.2⟩
  | leaf p => intro t' r r' h; cases t' <;> simp [Tr.flat] at h; exact ⟨by rw [h.1], h.2⟩
  | cat p a b iha ihb =>
    intro t' r r' h
    cases t' <;> simp [Tr.flat] at h
    obtain ⟨rfl, h⟩ := h
    obtain ⟨e1, h1⟩ := iha _ _ _ h
    obtain ⟨e2, h2⟩ := ihb _ _ _ h1
    exact ⟨by rw [e1, e2], h2⟩
  | alt p a b iha ihb =>
    intro t' r r' h
    cases t' <;> simp [Tr.flat] at h
    obtain ⟨rfl, h⟩ := h
    obtain ⟨e1, h1⟩ := iha _ _ _ h
    obtain ⟨e2, h2⟩ := ihb _ _ _ h1
    exact ⟨by rw [e1, e2], h2⟩
  | loop p a ih =>
    intro t' r r' h
    cases t' <;> simp [Tr.flat] at h
    obtain ⟨rfl, h⟩ := h
    obtain ⟨e1, h1⟩ := ih _ _ _ h
    exact ⟨by rw [e1], h1⟩
theorem flat_one {t t' : Tr} (h : t.flat = t'.flat) : t = t' ∧ True := ⟨(flat_uni t t' [] [] (by rw [h])).1, trivial⟩
theorem ok16_tree {N : List (Int × Int)} {P : Nat} (h : Ok16 N P) : ∃ t : Tr, N = t.flat := parse_one h.sz (fun x hx => ⟨(h.all x hx).1, (h.all x hx).2.1⟩)

set_option maxRecDepth 100000 in
set_option maxHeartbeats 2000000 in
theorem over_ok {w : World} {ok : Nat → Prop} {nv pv : Value} {L : List Nat} {wi : Int} {bv : ByteArray} {mm : Int} {N : List (Int × Int)} (hB : NodesAt w ok nv N) (hPv : PlacesV w pv L) :
    Calls Try.prog 6 #[.agg #[nv, pv, .int .i64 wi, .string bv, .int .u8 mm]] w fun e w' => OverSays w w' e N L := by
  have hB' := hB
  obtain ⟨ao, nc, rfl, _, _, _⟩ := hB'
  have hP' := hPv
  obtain ⟨pa, pc, rfl, _⟩ := hP'
  obtain ⟨n, hn⟩ : ∃ n, n = N.length := ⟨_, rfl⟩
  obtain ⟨P, hPl⟩ : ∃ P, P = L.length := ⟨_, rfl⟩
  have HB := hid hB
  have HPV := hid hPv
  rw [← hn] at HB ⊢
  rw [← hPl] at HPV ⊢
  have HN := hid hn
  have HPL := hid hPl
  obtain ⟨kv, hkv⟩ : ∃ kv : Array Value, kv = #[.slice ao n nc, .slice pa P pc, .int .i64 wi, .string bv, .int .u8 mm] := ⟨_, rfl⟩
  rw [← hkv]
  have HKV := hid hkv
  clear hB hPv hn hPl hkv
  go_enter Try.func6, Try.ntmps6
  go_upto_region 1 with fail
  obtain ⟨w1, hw1⟩ : ∃ w1, w1 = w.alloc (.cells kv 25) := ⟨_, rfl⟩
  obtain ⟨k, hk⟩ : ∃ k, k = w.heap.size := ⟨_, rfl⟩
  rw [← hw1, ← hk]
  have K1 := hid (show w1.heap[k]? = some (.cells kv 25 (0, 0)) by rw [hw1, hk]; exact heap_new w _)
  have F1 := hid (show Fr (fun _ => False) w w1 by rw [hw1]; exact (Fr.refl _ w).alloc _)
  clear hw1 hk
  have k0 := cell_of K1.out 0 (v := .slice ao n nc) (by rw [HKV.out]; rfl)
  have k1 := cell_of K1.out 1 (v := .slice pa P pc) (by rw [HKV.out]; rfl)
  have k3 := cell_of K1.out 3 (v := .string bv) (by rw [HKV.out]; rfl)
  by_cases q1 : 250 < n
  · have q1' : (250 : Int) < n := by omega
    go_wp2_with fail
    go_ret
    exact ⟨⟨1, rfl, .inr rfl, fun h => by omega⟩, F1.out, fun h => by cases h⟩
  have q1' : ¬ (250 : Int) < n := by omega
  by_cases q2 : 40 < P
  · have q2' : (40 : Int) < P := by omega
    go_wp2_with fail
    go_ret
    exact ⟨⟨1, rfl, .inr rfl, fun h => by omega⟩, F1.out, fun h => by cases h⟩
  have q2' : ¬ (40 : Int) < P := by omega
  by_cases q3 : 40 < bv.size
  · have q3' : (40 : Int) < bv.size := by omega
    go_wp2_with fail
    go_ret
    exact ⟨⟨1, rfl, .inr rfl, fun h => by omega⟩, F1.out, fun h => by cases h⟩
  have q3' : ¬ (40 : Int) < bv.size := by omega
  go_wp2_with fail
  clear k0 k1 k3
  go_loopw [3] (fun i wr => ∃ j : Nat, j ≤ P ∧ i = .int .i64 j ∧ Fr (fun _ => False) w1 wr ∧ ∀ (i n : Nat), i < j → L[i]? = some n → n ≤ 40) (fun i _ => P - (intOf i).toNat)
  case atStart => exact ⟨0, Nat.zero_le _, rfl, Fr.refl _ _, fun i n h => by omega⟩
  case round =>
    obtain ⟨j, hj, rfl, hF, hE⟩ := hrel
    have HF := hid hF
    have HE := hid hE
    have FW := hid (F1.out.trans' hF)
    clear hF hE
    have k0 := cell_of (HF.out.heap K1.out (fun e => e)) 0 (v := .slice ao n nc) (by rw [HKV.out]; rfl)
    have k1 := cell_of (HF.out.heap K1.out (fun e => e)) 1 (v := .slice pa P pc) (by rw [HKV.out]; rfl)
    by_cases hjP : j < P
    · have hpv := HPV.out
      obtain ⟨pa', pc', hv, hp⟩ := hpv
      simp only [← HPL.out, Value.slice.injEq, true_and] at hv
      obtain ⟨rfl, rfl⟩ := hv
      obtain ⟨pg, po, rfl, hpl, hc⟩ := hp (by have := HPL.out; omega)
      obtain ⟨tn, htn⟩ : ∃ tn, L[j]? = some tn := ⟨L[j]'(by have := HPL.out; omega), List.getElem?_eq_getElem _⟩
      obtain ⟨ng, va, ty, tv, _, c1, c2, c3, hTv⟩ := hc j tn htn
      have c1 := FW.out.cell c1 (fun e => e)
      have c2 := FW.out.cell c2 (fun e => e)
      have c3 := FW.out.cell c3 (fun e => e)
      have HTN := hid htn
      have hov := hid (over11_ok (hTv.fr FW.out))
      have hjP' : (j : Int) < P := by omega
      have hj0 : (0 : Int) ≤ j := by omega
      clear hp hc htn hTv
      by_cases p1 : 40 < va.size
      · have p1' : (40 : Int) < va.size := by omega
        go_wp2_with fail
        go_ret
        exact ⟨⟨1, rfl, .inr rfl, fun h => by omega⟩, FW.out, fun h => by cases h⟩
      have p1' : ¬ (40 : Int) < va.size := by omega
      by_cases p2 : 40 < ty.size
      · have p2' : (40 : Int) < ty.size := by omega
        go_wp2_with fail
        go_ret
        exact ⟨⟨1, rfl, .inr rfl, fun h => by omega⟩, FW.out, fun h => by cases h⟩
      have p2' : ¬ (40 : Int) < ty.size := by omega
      go_wp2_with fail
      refine hov.out.mono ?_
      rintro e w2 ⟨⟨z, rfl, hz, hz0⟩, hF2⟩
      rcases hz with rfl | rfl
      · have htn := hz0 rfl
        have HTN40 := hid htn
        clear hz0 htn
        go_wp2_with fail
        exact ⟨⟨j + 1, by omega, rfl, HF.out.trans' hF2, fun i n hi hin => by
          rcases Nat.lt_or_ge i j with h | h
          · exact HE.out i n h hin
          · obtain rfl : i = j := by omega
            rw [HTN.out] at hin
            simp only [Option.some.injEq] at hin
            have := HTN40.out
            omega⟩, by simp [intOf]; omega⟩
      · clear hz0
        go_wp2_with fail
        go_ret
        exact ⟨⟨1, rfl, .inr rfl, fun h => by omega⟩, FW.out.trans' hF2, fun h => by cases h⟩
    · obtain rfl : j = P := by omega
      have hfew : Few N L := ⟨by have := HN.out; omega, by have := HPL.out; omega, fun i n hi => HE.out i n (by have := (List.getElem?_eq_some_iff.1 hi).1; have := HPL.out; omega) hi⟩
      have HFEW := hid hfew
      have hld := ld_core (HF.out.heap K1.out (fun e => e)) (by rw [HKV.out]; rfl)
      have hfi := fine16_ok (w := wr) (pa := pa) (P := j) (pc := pc) (wi := wi) (bv := bv) (mm := mm) (HB.out.fr (S := fun _ => False) FW.out (fun _ _ e => e) (fun _ h _ => h)) hfew.1
      unfold coreV at hfi
      rw [← HKV.out] at hfi
      have HFI := hid hfi
      have hk0 := hid (fun (w' : World) (h : Fr (fun _ => False) wr w') => cell_of ((HF.out.trans' h).heap K1.out (fun e => e)) 0 (v := .slice ao n nc) (by rw [HKV.out]; rfl))
      clear hfew hfi k0
      by_cases h16 : Ok16 N j
      · obtain ⟨t, hNt⟩ := ok16_tree h16
        have HFI2 := hid (HFI.out.mono (fun _ _ h => h.yes h16))
        have hlp := loops_ok t
        have HNT := hid hNt
        have HLP := hid hlp
        clear hNt hlp HFI h16
        go_wp2_with fail
        refine HFI2.out.mono ?_
        rintro e w2 ⟨rfl, hF2⟩
        have k0 := hk0.out w2 hF2
        go_wp2_with fail
        have hl2 := HLP.out w2 ok _ N 0 [] (HB.out.fr (S := fun _ => False) (FW.out.trans' hF2) (fun _ _ e => e) (fun _ h _ => h)) (by rw [List.drop_zero, HNT.out, List.append_nil]) HFEW.out.1
        refine hl2.mono ?_
        rintro e w3 ⟨⟨z, rfl, hz, hzd⟩, rfl⟩
        have HZD := hid hzd
        clear hzd
        clear hl2
        by_cases hz6 : 6 < z
        · have hz6' : (6 : Int) < z := by omega
          go_wp2_with fail
          go_ret
          exact ⟨⟨1, rfl, .inr rfl, fun h => by omega⟩, FW.out.trans' hF2, fun h => by cases h⟩
        · have hz6' : ¬ (6 : Int) < z := by omega
          have HZ6 := hid hz6
          clear hz6
          go_wp2_with fail
          go_ret
          exact ⟨⟨0, rfl, .inl rfl, fun _ => HFEW.out⟩, FW.out.trans' hF2, fun _ _ t' ht' => by
            obtain ⟨rfl, _⟩ := flat_one (HNT.out.symm.trans ht')
            have := HZD.out; have := HZ6.out; omega⟩
      · have HFI2 := hid (HFI.out.mono (fun _ _ h => h.no h16))
        have H16 := hid h16
        have HPLE := HPL
        clear HFI h16
        go_wp2_with fail
        refine HFI2.out.mono ?_
        rintro e w2 ⟨rfl, hF2⟩
        go_wp2_with fail
        go_ret
        exact ⟨⟨0, rfl, .inl rfl, fun _ => HFEW.out⟩, FW.out.trans' hF2, fun _ hok => absurd (HPLE.out ▸ hok) H16.out⟩

end Go.Proofs.Ytceomkoecidoiaa
