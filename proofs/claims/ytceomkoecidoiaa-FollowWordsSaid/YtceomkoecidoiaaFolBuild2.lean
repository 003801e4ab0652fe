/-
  The document's Build, walked.
-/
import Derived.Test.YtceomkoecidoiaaFolBuild
namespace Go.Proofs.Ytceomkoecidoiaa
open Go.RowKit

structure RefYes (w w' : World) (e : Ending) (P : Nat) (t : Tr) : Prop where
  out : ∃ g, e = .returned (.tuple #[setsV t.null t.first t.last (.slice (some ⟨g, 0, none⟩) P P), .int .i64 0]) ∧ w.heap.size ≤ g ∧ RowsB w' g P t.next ∧ Fr (fun _ => False) w w'
structure RefNo (w w' : World) (e : Ending) : Prop where
  out : e = .returned (.tuple #[setsV false (fun _ => false) (fun _ => false) (.slice none 0 0), .int .i64 2]) ∧ Fr (fun _ => False) w w'

theorem zero_setsN : ∃ C : Array Value, C.size = 66 ∧ (∀ w, (zeroValue 45).run Try.prog w = .ok (.agg C) w) ∧ C = (setsC false (fun _ => false) (fun _ => false) (.slice none 0 0)).toArray :=
  ⟨(setsC false (fun _ => false) (fun _ => false) (.slice none 0 0)).toArray, by rw [List.size_toArray, setsC_len], (zero_of_info (P := Try.prog) (t := 45) (n := 66) (by kernel_rfl)).1, rfl⟩

theorem results_duo {fn : Func} {p u : Tmp} {ty : TypeId} (h : fn.results = #[.cell p ty, .tmp u]) (tmps : Array Value) (w : World) {a : Addr} (ha : tmps.getD p undef = .pointer (some a)) {v : Value} (hv : (loadVar ty a).run Try.prog w = .ok v w) {x : Value} (hx : tmps.getD u undef = x) :
    (results fn tmps).run Try.prog w = .ok (.tuple #[v, x]) w := by
  rw [results_cell_tmp h, ha]
  simp [asAddr, hv, hx, Result.andThen]

section
attribute [local go_sem ↓] run_ld25 run_st45

set_option maxRecDepth 100000 in
set_option maxHeartbeats 2000000 in
theorem refBuild_no {w : World} {ok : Nat → Prop} {nv : Value} {pa : Option Addr} {P pc : Nat} {wi : Int} {bv : ByteArray} {mm : Int} {N : List (Int × Int)} (hB : NodesAt w ok nv N) (hl : N.length ≤ 250) (hno : ¬ Ok17 N P) :
    Calls Try.prog 10 #[coreV nv pa P pc wi bv mm] w fun e w' => RefNo w w' e := by
  obtain ⟨kv, hkv⟩ : ∃ kv : Array Value, kv = #[nv, .slice pa P pc, .int .i64 wi, .string bv, .int .u8 mm] := ⟨_, rfl⟩
  have HB := hid hB
  have HL := hid hl
  have HO := hid hno
  clear hB hl hno
  unfold coreV
  rw [← hkv]
  have HKV := hid hkv
  clear hkv
  go_enter Try.func10, Try.ntmps10
  obtain ⟨Z, hZ, hz, hZ5⟩ := zero_setsN
  have HZ5 := hid hZ5
  clear hZ5
  go_upto_region 1 with fail
  obtain ⟨w1, hw1⟩ : ∃ w1, w1 = (w.alloc (.cells kv 25)).alloc (.cells Z 45) := ⟨_, rfl⟩
  obtain ⟨k, hk⟩ : ∃ k, k = w.heap.size := ⟨_, rfl⟩
  obtain ⟨r, hr⟩ : ∃ r, r = w.heap.size + 1 := ⟨_, rfl⟩
  rw [← hw1, ← hr, ← hk]
  have K1 := hid (show w1.heap[k]? = some (.cells kv 25 (0, 0)) by rw [hw1, hk]; exact heap_old (heap_new w _) _)
  have R1 := hid (show Blk66 w1 r from ⟨Z, hZ, by rw [hw1, hr]; simpa using heap_new (w.alloc _) (.cells Z 45)⟩)
  have F1 := hid (show Fr (fun _ => False) w w1 by rw [hw1]; exact ((Fr.refl _ w).alloc _).alloc _)
  have hkw : w.heap.size ≤ k := by omega
  have hkr : k < r := by omega
  clear hw1 hk hr
  have hld : ∀ w', Fr (fun _ => False) w1 w' → ld 25 (.pointer (some ⟨k, 0, none⟩)) w' = .ok (.value (.agg kv)) w' := fun w' h => ld_core (h.heap K1.out (fun e => e)) (by rw [HKV.out]; rfl)
  have hld1 := hld w1 (Fr.refl _ _)
  have hcall := fine17_ok (w := w1) (pa := pa) (P := P) (pc := pc) (wi := wi) (bv := bv) (mm := mm) (HB.out.fr (S := fun _ => False) F1.out (fun _ _ e => e) (fun _ h _ => h)) HL.out
  unfold coreV at hcall
  rw [← HKV.out] at hcall
  have HC := hid (hcall.mono (fun _ _ h => h.no HO.out))
  clear hcall
  go_upto_region 2 with (go_at_call 24; refine HC.out.mono ?_; rintro e w2 ⟨rfl, hF2⟩)
  have F2 := hid (F1.out.trans' hF2)
  have R2 := hid (R1.out.fr hF2 (fun e => e))
  have hst : st 45 (.pointer (some ⟨r, 0, none⟩)) (.agg Z) w2 = .ok .skip (w2.setCells r 0 (setsC false (fun _ => false) (fun _ => false) (.slice none 0 0))) := by
    rw [HZ5.out]; exact st_sets (n := false) (f := fun _ => false) (l := fun _ => false) (v := .slice none 0 0) rfl R2.out
  clear hld hld1 HC hF2
  go_wp2_with fail
  have h3 := R2.out.put false (fun _ => false) (fun _ => false) (.slice none 0 0)
  refine bodyPost_ret (v := .tuple #[setsV false (fun _ => false) (fun _ => false) (.slice none 0 0), .int .i64 2]) ?_ rfl ⟨rfl, Fr.setCells (by omega) _ _ F2.out⟩
  exact results_duo Try.results10 _ _ (by rfl) (run_loadVar_mid (P := Try.prog) _ _ 0 45 _ _ h3.at_ Try.underlying45 rfl (by rw [setsC_len]; kernel_rfl)) (by rfl)

set_option maxRecDepth 100000 in
set_option maxHeartbeats 2000000 in
theorem refBuild_yes {w : World} {ok : Nat → Prop} {nv : Value} {pa : Option Addr} {P pc : Nat} {wi : Int} {bv : ByteArray} {mm : Int} {N : List (Int × Int)} (hB : NodesAt w ok nv N) (hl : N.length ≤ 250) (hno : Ok17 N P) (t : Tr) (hNt : N = t.flat) (hP : P ≤ 24) (hlv : ∀ p ∈ t.leaves, 0 ≤ p ∧ p < P) :
    Calls Try.prog 10 #[coreV nv pa P pc wi bv mm] w fun e w' => RefYes w w' e P t := by
  have HT := hid hNt
  have HLV := hid hlv
  clear hNt hlv
  obtain ⟨kv, hkv⟩ : ∃ kv : Array Value, kv = #[nv, .slice pa P pc, .int .i64 wi, .string bv, .int .u8 mm] := ⟨_, rfl⟩
  have HB := hid hB
  have HL := hid hl
  have HO := hid hno
  clear hB hl hno
  unfold coreV
  rw [← hkv]
  have HKV := hid hkv
  clear hkv
  go_enter Try.func10, Try.ntmps10
  obtain ⟨Z, hZ, hz, hZ5⟩ := zero_setsN
  have HZ5 := hid hZ5
  clear hZ5
  go_upto_region 1 with fail
  obtain ⟨w1, hw1⟩ : ∃ w1, w1 = (w.alloc (.cells kv 25)).alloc (.cells Z 45) := ⟨_, rfl⟩
  obtain ⟨k, hk⟩ : ∃ k, k = w.heap.size := ⟨_, rfl⟩
  obtain ⟨r, hr⟩ : ∃ r, r = w.heap.size + 1 := ⟨_, rfl⟩
  rw [← hw1, ← hr, ← hk]
  have K1 := hid (show w1.heap[k]? = some (.cells kv 25 (0, 0)) by rw [hw1, hk]; exact heap_old (heap_new w _) _)
  have R1 := hid (show Blk66 w1 r from ⟨Z, hZ, by rw [hw1, hr]; simpa using heap_new (w.alloc _) (.cells Z 45)⟩)
  have F1 := hid (show Fr (fun _ => False) w w1 by rw [hw1]; exact ((Fr.refl _ w).alloc _).alloc _)
  have hkw : w.heap.size ≤ k := by omega
  have hkr : k < r := by omega
  clear hw1 hk hr
  have hld : ∀ w', Fr (fun _ => False) w1 w' → ld 25 (.pointer (some ⟨k, 0, none⟩)) w' = .ok (.value (.agg kv)) w' := fun w' h => ld_core (h.heap K1.out (fun e => e)) (by rw [HKV.out]; rfl)
  have hld1 := hld w1 (Fr.refl _ _)
  have hcall := fine17_ok (w := w1) (pa := pa) (P := P) (pc := pc) (wi := wi) (bv := bv) (mm := mm) (HB.out.fr (S := fun _ => False) F1.out (fun _ _ e => e) (fun _ h _ => h)) HL.out
  unfold coreV at hcall
  rw [← HKV.out] at hcall
  have HC := hid (hcall.mono (fun _ _ h => h.yes HO.out))
  clear hcall
  go_upto_region 3 with (go_at_call 24; refine HC.out.mono ?_; rintro e w2 ⟨rfl, hF2⟩)
  have F2 := hid (F1.out.trans' hF2)
  have R2 := hid (R1.out.fr hF2 (fun e => e))
  have hld2 := hld w2 hF2
  have hof := of_ok t w2 ok nv pa P pc wi bv mm N 0 [] (HB.out.fr (S := fun _ => False) F2.out (fun _ _ e => e) (fun _ h _ => h)) (by rw [List.drop_zero, HT.out, List.append_nil]) HL.out hP HLV.out
  unfold coreV at hof
  rw [← HKV.out] at hof
  have HOF := hid hof
  clear hld hld1 HC hF2 hof
  go_wp2_with (go_at_call 25; refine HOF.out.mono ?_; rintro e w3 ⟨g, rfl, hg, hG3, hF3⟩; have hst := st_sets (n := t.null) (f := t.first) (l := t.last) (v := .slice (some ⟨g, 0, none⟩) P P) rfl (R2.out.fr hF3 (fun e => e)))
  have R3 := R2.out.fr hF3 (fun e => e)
  have h3 := R3.put t.null t.first t.last (.slice (some ⟨g, 0, none⟩) P P)
  have hrl : r < w2.heap.size := by obtain ⟨_, _, h⟩ := R2.out.blk; exact lt_of_block h
  refine bodyPost_ret (v := .tuple #[setsV t.null t.first t.last (.slice (some ⟨g, 0, none⟩) P P), .int .i64 0]) ?_ rfl ⟨g, rfl, by omega, hG3.fr (Fr.many r 0 _) (by omega), Fr.setCells (by omega) _ _ (F2.out.trans' hF3)⟩
  exact results_duo Try.results10 _ _ (by rfl) (run_loadVar_mid (P := Try.prog) _ _ 0 45 _ _ h3.at_ Try.underlying45 rfl (by rw [setsC_len]; kernel_rfl)) (by rfl)
end
end Go.Proofs.Ytceomkoecidoiaa
