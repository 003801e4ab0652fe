/-
  letter and over, walked: the places behind a letter.
-/
import Derived.Test.YtceomkoecidoiaaFwMarks
import Derived.Test.YtceomkoecidoiaaFolFine
import Derived.Test.YtceomkoecidoiaaFwLaw
namespace Go.Proofs.Ytceomkoecidoiaa
open Go.RowKit

/-- texts behind a slice's value -/
def StrsV (w : World) (M : Nat) (v : Value) (ws : List ByteArray) : Prop := ∃ ao c, v = .slice ao ws.length c ∧ ws.length ≤ c ∧ (0 < ws.length → ∃ g o, ao = some ⟨g, o, none⟩ ∧ g ≠ M ∧ g < w.heap.size ∧ ∀ i s, ws[i]? = some s → w.cell? ⟨g, o + i, none⟩ = some (.string s))
theorem StrsV.fr {w w' : World} {M : Nat} {v : Value} {ws : List ByteArray} (h : StrsV w M v ws) (hF : Fr (fun k => k = M) w w') : StrsV w' M v ws := by
  obtain ⟨ao, c, hv, hc, hp⟩ := h
  refine ⟨ao, c, hv, hc, fun h0 => ?_⟩
  obtain ⟨g, o, ha, hn, hl, hs⟩ := hp h0
  exact ⟨g, o, ha, hn, Nat.lt_of_lt_of_le hl hF.size, fun i s hi => hF.cell (hs i s hi) hn⟩
theorem StrsV.at_ {w : World} {M : Nat} {ao : Option Addr} {n c i : Nat} {s : ByteArray} {ws : List ByteArray} (h : StrsV w M (.slice ao n c) ws) (hi : ws[i]? = some s) : ∃ g o, ao = some ⟨g, o, none⟩ ∧ w.cell? ⟨g, o + i, none⟩ = some (.string s) := by
  obtain ⟨ao', c', hv, hc, hp⟩ := h
  obtain ⟨g, o, ha, hn, hl, hs⟩ := hp (by have := (List.getElem?_eq_some_iff.1 hi).1; omega)
  simp only [Value.slice.injEq] at hv
  obtain ⟨rfl, _, _⟩ := hv
  exact ⟨g, o, ha, hs i s hi⟩
/-- the letter of a place -/
def lt (p : Nat) : ByteArray := ⟨#[UInt8.ofNat (97 + p)]⟩
/-- places, each with a letter of its own -/
def PlcsV (w : World) (M : Nat) (v : Value) (P : Nat) : Prop := ∃ pa c, v = .slice pa P c ∧ P ≤ c ∧ (0 < P → ∃ g o, pa = some ⟨g, o, none⟩ ∧ g ≠ M ∧ g < w.heap.size ∧
  ∀ i, i < P → w.cell? ⟨g, o + i * 4, none⟩ = some (.bool false) ∧ w.cell? ⟨g, o + i * 4 + 1, none⟩ = some (.string (lt i)) ∧ w.cell? ⟨g, o + i * 4 + 2, none⟩ = some (.string ⟨#[]⟩) ∧ w.cell? ⟨g, o + i * 4 + 3, none⟩ = some (.slice none 0 0))
theorem PlcsV.fr {w w' : World} {M : Nat} {v : Value} {P : Nat} (h : PlcsV w M v P) (hF : Fr (fun k => k = M) w w') : PlcsV w' M v P := by
  obtain ⟨pa, c, hv, hc, hp⟩ := h
  refine ⟨pa, c, hv, hc, fun h0 => ?_⟩
  obtain ⟨g, o, ha, hn, hl, hs⟩ := hp h0
  exact ⟨g, o, ha, hn, Nat.lt_of_lt_of_le hl hF.size, fun i hi => ⟨hF.cell (hs i hi).1 hn, hF.cell (hs i hi).2.1 hn, hF.cell (hs i hi).2.2.1 hn, hF.cell (hs i hi).2.2.2 hn⟩⟩
/-- a reader: its cells, what they lead to; its map's block is M -/
structure Rd (w : World) (R M : Nat) (nv pv wv : Value) (wi mm : Int) (bv : ByteArray) (N : List (Int × Int)) (P : Nat) (ws : List ByteArray) : Prop where
  own : w.heap[R]? = some (.cells #[nv, pv, .int .i64 wi, .string bv, .int .u8 mm, wv, .map (some M)] 86 (0, 0))
  ne : R ≠ M
  nodes : NodesAt w (fun g => g ≠ M) nv N
  places : PlcsV w M pv P
  word : StrsV w M wv ws
theorem Rd.fr {w w' : World} {R M : Nat} {nv pv wv : Value} {wi mm : Int} {bv : ByteArray} {N : List (Int × Int)} {P : Nat} {ws : List ByteArray} (h : Rd w R M nv pv wv wi mm bv N P ws) (hF : Fr (fun k => k = M) w w') : Rd w' R M nv pv wv wi mm bv N P ws :=
  ⟨hF.heap h.own h.ne, h.ne, h.nodes.fr hF (fun _ e => e) (fun _ h _ => h), h.places.fr hF, h.word.fr hF⟩
theorem Fr.toM {w w' : World} (h : Fr (fun _ => False) w w') (M : Nat) : Fr (fun k => k = M) w w' := h.mono (fun _ _ e => e.elim)

theorem letter_ok (s : ByteArray) (w : World) : Calls Try.prog 40 #[.bool false, .string s] w fun e w' => e = .returned (.string s) ∧ w = w' := by
  go_enter Try.func40, Try.ntmps40
  go_wp2
  go_ret
  exact ⟨rfl, rfl⟩
/-- is the i-th letter this one? -/
def hitS (ws : List ByteArray) (s : ByteArray) (i : Nat) : Bool := (ws.getD i ⟨#[]⟩).toList == s.toList
/-- the places behind a letter, of the first k ones -/
def ovS (h : Nat → Bool) (S : Nat → Bool) (k : Nat) : Nat → Bool := fun j => decide (1 ≤ j ∧ j ≤ k) && S (j - 1) && h (j - 1)
theorem ovS_yes {h S : Nat → Bool} {k : Nat} (h1 : h k = true) (h2 : S k = true) : put (ovS h S k) (k + 1) = ovS h S (k + 1) := by
  funext j
  unfold put ovS
  by_cases e : k + 1 = j
  · subst e; simp [h1, h2]
  · have : (1 ≤ j ∧ j ≤ k) ↔ (1 ≤ j ∧ j ≤ k + 1) := by omega
    simp only [decide_eq_false e, Bool.or_false, this]
theorem ovS_no {h S : Nat → Bool} {k : Nat} (h1 : h k = false ∨ S k = false) : ovS h S (k + 1) = ovS h S k := by
  funext j
  unfold ovS
  by_cases e : k + 1 = j
  · subst e
    rcases h1 with h1 | h1 <;> simp [h1]
  · have : (1 ≤ j ∧ j ≤ k + 1) ↔ (1 ≤ j ∧ j ≤ k) := by omega
    simp only [this]
theorem ovS_zero (h S : Nat → Bool) : ovS h S 0 = fun _ => false := by
  funext j
  unfold ovS
  have : ¬ (1 ≤ j ∧ j ≤ 0) := by omega
  rw [decide_eq_false this]; rfl
theorem lo_none : lo (fun _ => false) = 0 := msk_none 64
theorem hi_none : hi (fun _ => false) = 0 := msk_none 64

set_option maxRecDepth 100000 in
set_option maxHeartbeats 4000000 in
theorem rover_ok {w : World} {R M : Nat} {nv pv wv : Value} {wi mm : Int} {bv : ByteArray} {N : List (Int × Int)} {P : Nat} {ws : List ByteArray} (hR : Rd w R M nv pv wv wi mm bv N P ws) (hl : ws.length ≤ 100) (S : Nat → Bool) (s : ByteArray) :
    Calls Try.prog 39 #[.pointer (some ⟨R, 0, none⟩), mk S, .string s] w fun e w' => e = .returned (mk (ovS (hitS ws s) S ws.length)) ∧ Fr (fun _ => False) w w' := by
  obtain ⟨wa, wc, hwv, hwc, _⟩ := hR.word
  subst hwv
  obtain ⟨n, hn⟩ : ∃ n, n = ws.length := ⟨_, rfl⟩
  have HR := hid hR
  rw [← hn] at hl hwc HR ⊢
  have HN := hid hn
  clear hn
  clear hR
  have HH := Lib.hid fun (i : Nat) (hi : i < 128) (w : World) => mhas_ok S i hi w
  have HW := Lib.hid fun (O : Nat → Bool) (i : Nat) (hi : i < 128) (w : World) => mwith_ok O i hi w
  have HZ0 := hid lo_none
  have HZ1 := hid hi_none
  unfold mk at *
  go_enter Try.func39, Try.ntmps39
  go_upto_region 2 with fail
  obtain ⟨w1, hw1⟩ : ∃ w1, w1 = ((w.alloc (.cells #[.int .u64 (lo S), .int .u64 (hi S)] 89)).alloc (.cells #[.int .u64 0, .int .u64 0] 89)).alloc (.cells #[.int .u64 0, .int .u64 0] 89) := ⟨_, rfl⟩
  obtain ⟨k, hk⟩ : ∃ k, k = w.heap.size := ⟨_, rfl⟩
  obtain ⟨r, hr⟩ : ∃ r, r = w.heap.size + 1 := ⟨_, rfl⟩
  obtain ⟨o, ho⟩ : ∃ o, o = w.heap.size + 1 + 1 := ⟨_, rfl⟩
  rw [← hw1, ← ho, ← hr, ← hk]
  have K1 := hid (show w1.heap[k]? = some (.cells #[.int .u64 (lo S), .int .u64 (hi S)] 89 (0, 0)) by rw [hw1, hk]; exact heap_old (heap_old (heap_new w _) _) _)
  have R1 := hid (show w1.heap[r]? = some (.cells #[.int .u64 0, .int .u64 0] 89 (0, 0)) by rw [hw1, hr]; exact heap_old (by simpa using heap_new (w.alloc _) (.cells #[.int .u64 0, .int .u64 0] 89)) _)
  have O1 := hid (show w1.heap[o]? = some (.cells #[.int .u64 0, .int .u64 0] 89 (0, 0)) by rw [hw1, ho]; simpa using heap_new ((w.alloc _).alloc _) (.cells #[.int .u64 0, .int .u64 0] 89))
  have F1 := hid (show Fr (fun _ => False) w w1 by rw [hw1]; exact (((Fr.refl _ w).alloc _).alloc _).alloc _)
  have hkr : k < r := by omega
  have hrs : r < o := by omega
  have hkw : w.heap.size ≤ k := by omega
  have hRk : R < k := by have := lt_of_block HR.out.own; omega
  clear hw1 hk hr ho
  have r0 := cell_of (F1.out.heap HR.out.own (fun e => e)) 5 (v := .slice wa n wc) rfl
  go_wp2_with fail
  go_loopw [15] (fun i wr => ∃ j : Nat, j ≤ n ∧ i = .int .i64 j ∧ wr.heap[o]? = some (.cells #[.int .u64 (lo (ovS (hitS ws s) S j)), .int .u64 (hi (ovS (hitS ws s) S j))] 89 (0, 0)) ∧ Fr (fun q => q = o) w1 wr) (fun i _ => n - (intOf i).toNat)
  case atStart => exact ⟨0, Nat.zero_le _, rfl, by rw [ovS_zero, HZ0.out, HZ1.out]; exact O1.out, Fr.refl _ _⟩
  case round =>
    obtain ⟨j, hj, rfl, hO, hF⟩ := hrel
    have HF := hid hF
    have HO := hid hO
    have HFw := hid (show Fr (fun _ => False) w wr from F1.out.trans HF.out (fun _ e => e) (fun i hi e => by omega))
    clear hO hF r0
    have k0 := cell_of (HF.out.heap K1.out (by omega)) 0 (v := .int .u64 (lo S)) rfl
    have k1 := cell_of (HF.out.heap K1.out (by omega)) 1 (v := .int .u64 (hi S)) rfl
    have r0 := cell_of (HF.out.heap R1.out (by omega)) 0 (v := .int .u64 0) rfl
    have r1 := cell_of (HF.out.heap R1.out (by omega)) 1 (v := .int .u64 0) rfl
    have rf0 := free_of (HF.out.heap R1.out (by omega)) 0
    have rf1 := free_of (HF.out.heap R1.out (by omega)) 1
    have o0 := cell_of HO.out 0 (v := .int .u64 (lo (ovS (hitS ws s) S j))) rfl
    have o1 := cell_of HO.out 1 (v := .int .u64 (hi (ovS (hitS ws s) S j))) rfl
    have of0 := free_of HO.out 0
    have of1 := free_of HO.out 1
    by_cases hjn : j < n
    · obtain ⟨s', hs'⟩ : ∃ s', ws[j]? = some s' := ⟨ws[j]'(by have := HN.out; omega), List.getElem?_eq_getElem _⟩
      have hh : hitS ws s j = (s'.toList == s.toList) := by unfold hitS; rw [List.getD_eq_getElem?_getD, hs']; rfl
      obtain ⟨g, q, rfl, c0⟩ := (HR.out.word.fr (HFw.out.toM M)).at_ hs'
      clear hs'
      have HH1 := hid hh
      clear hh
      cases hb : (s'.toList == s.toList) with
      | false =>
        have hov := hid (ovS_no (S := S) (k := j) (Or.inl (HH1.out.trans hb)))
        go_wp2_with fail
        go_roundw
        case rel => exact ⟨j + 1, by omega, by go_num, by rw [hov.out]; exact HO.out, HF.out⟩
        case measure => simp [intOf]; omega
      | true =>
        cases hsj : S j with
        | false =>
          have hov := hid (ovS_no (h := hitS ws s) (k := j) (Or.inr hsj))
          have HSJ := hid hsj
          clear hsj
          go_wp2_with (go_at_call 30; refine (HH.out j (by omega) _).mono ?_; rintro e w2 ⟨rfl, hf2⟩; rw [HSJ.out])
          have HO2 := hid (hf2.heap HO.out (fun e => e))
          have HF2 := hid (HF.out.trans hf2 (fun _ e => e) (fun _ _ e => e.elim))
          clear hf2
          go_roundw
          case rel => exact ⟨j + 1, by omega, by go_num, by rw [hov.out]; exact HO2.out, HF2.out⟩
          case measure => simp [intOf]; omega
        | true =>
          have hov := hid (ovS_yes (HH1.out.trans hb) hsj)
          have HSJ := hid hsj
          clear hsj
          have HW1 := Lib.hid fun w => HW.out (ovS (hitS ws s) S j) (j + 1) (by omega) w
          rw [hov.out] at HW1
          obtain ⟨O', hO'⟩ : ∃ O', O' = ovS (hitS ws s) S (j + 1) := ⟨_, rfl⟩
          rw [← hO'] at HW1
          have HO' := hid hO'
          clear hO' hov
          go_wp2_with (first | (go_at_call 30; refine (HH.out j (by omega) _).mono ?_; rintro e w2 ⟨rfl, hf2⟩; rw [HSJ.out]; have o2 := hf2.cell o0 (fun e => e); have o3 := hf2.cell o1 (fun e => e)) | (go_at_call 45; refine (HW1.out _).mono ?_; rintro e w3 ⟨rfl, hf3⟩; have o4 := hf3.cell o2 (fun e => e); have o5 := hf3.cell o3 (fun e => e); have HB := hid (hf3.heap (hf2.heap HO.out (fun e => e)) (fun e => e)); have of4 := free_of HB.out 0; have of5 := free_of HB.out 1; have HF3 := hid ((HF.out.trans hf2 (fun _ e => e) (fun _ _ e => e.elim)).trans hf3 (fun _ e => e) (fun _ _ e => e.elim)); clear hf2 hf3))
          go_roundw
          case rel => exact ⟨j + 1, by omega, by go_num, by rw [← HO'.out]; exact heap_set (heap_set HB.out _) _, (HF3.out.setCell (p := ⟨o, 0, none⟩) (fun _ => rfl) _).setCell (p := ⟨o, 1, none⟩) (fun _ => rfl) _⟩
          case measure => simp [intOf]; omega
    · obtain rfl : j = n := by omega
      have hrw : ¬ r < w.heap.size := by omega
      go_wp2_with fail
      exact bodyPost_ret (v := mk (ovS (hitS ws s) S j)) (by simp [results, Try.results39, go_sem, mk, r0, r1, rf0, rf1, o0, o1]) rfl ⟨rfl, (HFw.out.setCell (p := ⟨r, 0, none⟩) (fun h => absurd h hrw) _).setCell (p := ⟨r, 1, none⟩) (fun h => absurd h hrw) _⟩
end Go.Proofs.Ytceomkoecidoiaa
