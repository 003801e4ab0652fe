/-
  Accepts of the program's core, walked: whether a word is read to its end.
-/
import Derived.Test.YtceomkoecidoiaaFwFine
import Derived.Test.YtceomkoecidoiaaFolBuild
import Derived.Carry
namespace Go.Proofs.Ytceomkoecidoiaa
open Go.RowKit
attribute [local go_sem ↓] run_ld39

theorem build_reader (a0 : Option Addr) (l0 c0 : Nat) (pa : Option Addr) (P pc : Nat) (wi : Int) (bv : ByteArray) (mm : Int) (wa : Option Addr) (n wc M : Nat) (w : World) :
    (Instr.build 86 #[(0, .agg #[.slice a0 l0 c0, .slice pa P pc, .int .i64 wi, .string bv, .int .u8 mm]), (1, .slice wa n wc), (2, .map (some M))]).run Try.prog w = .ok (.agg #[.slice a0 l0 c0, .slice pa P pc, .int .i64 wi, .string bv, .int .u8 mm, .slice wa n wc, .map (some M)]) w := by kernel_rfl
theorem build_marks1 (x : Int) (w : World) : (Instr.build 89 #[(0, .int .u64 x)]).run Try.prog w = .ok (.agg #[.int .u64 x, .int .u64 0]) w := by kernel_rfl
def start1 : Nat → Bool := fun j => decide (j = 0)
theorem lo_start : lo start1 = 1 := by decide +kernel
theorem hi_start : hi start1 = 0 := by decide +kernel
theorem StrsV.re {w : World} {M M' : Nat} {v : Value} {ws : List ByteArray} (h : StrsV w M v ws) (hM : w.heap.size ≤ M') : StrsV w M' v ws := by
  obtain ⟨ao, c, hv, hc, hp⟩ := h
  refine ⟨ao, c, hv, hc, fun h0 => ?_⟩
  obtain ⟨g, o, ha, hn, hl, hs⟩ := hp h0
  exact ⟨g, o, ha, by omega, hl, hs⟩
theorem PlcsV.re {w : World} {M M' : Nat} {v : Value} {P : Nat} (h : PlcsV w M v P) (hM : w.heap.size ≤ M') : PlcsV w M' v P := by
  obtain ⟨ao, c, hv, hc, hp⟩ := h
  refine ⟨ao, c, hv, hc, fun h0 => ?_⟩
  obtain ⟨g, o, ha, hn, hl, hs⟩ := hp h0
  exact ⟨g, o, ha, by omega, hl, hs⟩
set_option maxRecDepth 100000 in
set_option maxHeartbeats 2000000 in
theorem accepts_ok {w : World} {M0 : Nat} {nv wv : Value} {pa : Option Addr} {P pc : Nat} {wi : Int} {bv : ByteArray} {mm : Int} {N : List (Int × Int)} {ws : List ByteArray} (hB : NodesAt w (fun _ => True) nv N) (hP : PlcsV w M0 (.slice pa P pc) P) (hW : StrsV w M0 wv ws) (hok : Ok16 N P) (t : Tr) (hNt : N = t.flat) (hlv : ∀ p ∈ t.leaves, 0 ≤ p ∧ p < P) (hw : ws.length ≤ 100) (hc : cost ws.length t ≤ 4611686018427387904) :
    Calls Try.prog 17 #[coreV nv pa P pc wi bv mm, wv] w fun e w' => e = .returned (.bool (sem ws.length (hitW ws) t start1 ws.length)) ∧ Fr (fun _ => False) w w' := by
  obtain ⟨wa, wc, rfl, hwc, _⟩ := id hW
  obtain ⟨ao, nc, rfl, _, _, _⟩ := id hB
  have hCF := cfine_ok (w := w.alloc (.cells #[.slice ao N.length nc, .slice pa P pc, .int .i64 wi, .string bv, .int .u8 mm] 39)) (pa := pa) (P := P) (pc := pc) (wi := wi) (bv := bv) (mm := mm) (hB.fr ((Fr.refl (fun _ => False) w).alloc _) (fun _ _ e => e) (fun _ h _ => h) (ok' := fun _ => True)) hok
  have HB := hid hB
  have HP := hid hP
  have HW := hid hW
  have HNT := hid hNt
  have HLV := hid hlv
  have HC := hid hc
  have HOK := hid hok
  have HNL := hid hok.le
  have hnw : decide ((100 : Int) < ws.length) = false := by simp; omega
  have hnw' : decide (100 < ws.length) = false := by simp; omega
  clear hB hP hW hNt hlv hc hok
  unfold coreV at *
  obtain ⟨kv, hkv⟩ : ∃ kv : Array Value, kv = #[.slice ao N.length nc, .slice pa P pc, .int .i64 wi, .string bv, .int .u8 mm] := ⟨_, rfl⟩
  rw [← hkv] at hCF ⊢
  have HKV := hid hkv
  clear hkv
  have HCF := hid hCF
  clear hCF
  go_enter Try.func17, Try.ntmps17
  go_upto_region 1 with fail
  obtain ⟨w1, hw1⟩ : ∃ w1, w1 = w.alloc (.cells kv 39) := ⟨_, rfl⟩
  obtain ⟨k, hk⟩ : ∃ k, k = w.heap.size := ⟨_, rfl⟩
  rw [← hw1] at HCF ⊢
  rw [← hk]
  have K1 := hid (show w1.heap[k]? = some (.cells kv 39 (0, 0)) by rw [hw1, hk]; exact heap_new w _)
  have F1 := hid (show Fr (fun _ => False) w w1 by rw [hw1]; exact (Fr.refl _ w).alloc _)
  have hk1 : k < w1.heap.size := lt_of_block K1.out
  clear hw1 hk
  have l1 := ld_own K1.out (by rw [HKV.out]; rfl)
  go_upto_region 3 with (go_at_call 28; refine HCF.out.mono ?_; rintro e w2 ⟨rfl, hf2⟩; have HF2 := hid hf2; clear hf2)
  have F2 := hid (F1.out.trans' HF2.out)
  have l2 := ld_own (HF2.out.heap K1.out (fun e => e)) (by rw [HKV.out]; rfl)
  rw [HKV.out] at l2
  have mM := @run_makeMap Try.prog
  have bR := build_reader
  have bM := build_marks1
  clear l1
  go_upto_region 4 with fail
  obtain ⟨M, hM⟩ : ∃ M, M = w2.heap.size := ⟨_, rfl⟩
  obtain ⟨R, hR⟩ : ∃ R, R = w2.heap.size + 1 := ⟨_, rfl⟩
  obtain ⟨w3, hw3⟩ : ∃ w3, w3 = (w2.alloc (.map #[] 0)).alloc (.cells #[.slice ao N.length nc, .slice pa P pc, .int .i64 wi, .string bv, .int .u8 mm, .slice wa ws.length wc, .map (some w2.heap.size)] 86) := ⟨_, rfl⟩
  rw [← hw3, ← hR]
  have F3 := hid (show Fr (fun _ => False) w w3 by rw [hw3]; exact (F2.out.alloc _).alloc _)
  have hwM : w.heap.size ≤ M := by have := F2.out.size; omega
  have HRD := hid (show Rd w3 R M (.slice ao N.length nc) (.slice pa P pc) (.slice wa ws.length wc) wi mm bv N P ws from
    ⟨by rw [hw3, hR, hM]; simpa using heap_new (w2.alloc (.map #[] 0)) (.cells #[.slice ao N.length nc, .slice pa P pc, .int .i64 wi, .string bv, .int .u8 mm, .slice wa ws.length wc, .map (some w2.heap.size)] 86), by omega,
      HB.out.fr F3.out (fun _ _ e => e) (fun g _ hg => by omega), (HP.out.re hwM).fr (F3.out.toM M), (HW.out.re hwM).fr (F3.out.toM M)⟩)
  have HMM := hid (show Memo w3 M 0 N ws.length (hitW ws) by rw [hw3, hM]; exact (memo_made w2 N ws.length (hitW ws)).fr ((Fr.refl _ _).alloc _))
  have hu : Upto ws.length start1 := fun j h => by simp [start1] at h; omega
  have AS := Lib.hid (ask_ok t w3 R M _ _ _ wi mm bv N P ws 0 0 [] start1 HRD.out HMM.out hu (by rw [List.drop_zero, List.append_nil]; exact HNT.out) (by have := HNL.out; omega) hw HLV.out (by rw [Nat.zero_add]; exact HC.out))
  have MH := Lib.hid fun w' => mhas_ok (sem ws.length (hitW ws) t start1) ws.length (by omega) w'
  unfold mk at AS MH
  have e1 : ((lo start1 : Nat) : Int) = 1 := by rw [lo_start]; rfl
  have e2 : ((hi start1 : Nat) : Int) = 0 := by rw [hi_start]; rfl
  rw [e1, e2] at AS
  obtain ⟨O, hO⟩ : ∃ O, O = sem ws.length (hitW ws) t start1 := ⟨_, rfl⟩
  rw [← hO] at AS MH
  have HO := hid hO
  clear hO e1 e2 hu hw3 hR hM mM bR l2
  go_wp2_with (first | (go_at_call 29; refine AS.out.mono ?_; rintro e w4 ⟨rfl, hf4, hm4⟩; have HF4 := hid hf4; clear hf4 hm4) | (go_at_call 30; refine (MH.out _).mono ?_; rintro e w5 ⟨rfl, hf5⟩; have HF5 := hid hf5; clear hf5))
  go_ret
  rw [← HO.out]
  exact ⟨rfl, (F3.out.trans HF4.out (fun _ e => e) (fun i hi e => by omega)).trans' HF5.out⟩
end Go.Proofs.Ytceomkoecidoiaa
