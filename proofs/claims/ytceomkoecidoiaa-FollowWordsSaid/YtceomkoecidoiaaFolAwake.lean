/-
  awake, walked: what every right program tells.
-/
import Derived.Test.YtceomkoecidoiaaFolPath
import Derived.Test.YtceomkoecidoiaaFolSame
namespace Go.Proofs.Ytceomkoecidoiaa
open Go.RowKit
attribute [local go_sem ↓] run_ld39

def tA : Tr := .loop 0 (.cat 0 (.leaf 0) (.leaf 1))
theorem okA : Ok17 [(5, 0), (3, 0), (2, 0), (2, 1)] 2 := by
  refine ⟨⟨by decide, by decide, by decide, ?_⟩, by decide, ?_⟩
  · intro x hx
    simp only [List.mem_cons, List.not_mem_nil, or_false] at hx
    rcases hx with rfl | rfl | rfl | rfl <;> simp [good]
  · rintro i k hik ⟨p, h1, h2⟩
    have hi : i < 4 := (List.getElem?_eq_some_iff.1 h1).1
    match i, k with
    | 0, k => omega
    | 1, k => simp at h1
    | 2, 0 => simp at h2
    | 2, 1 => simp at h2
    | 3, 0 => simp at h2
    | 3, 1 => simp at h2
    | 3, 2 => simp at h1 h2; omega
    | 2, k + 2 => omega
    | 3, k + 3 => omega
    | i + 4, k => omega
theorem noA : ¬ Ok17 [(3, 0), (2, 0), (2, 0)] 2 := fun h => h.one 2 1 (by omega) ⟨0, rfl, rfl⟩
theorem mA1 : msk tA.first 32 = 1 := by decide +kernel
theorem mA2 : msk tA.last 32 = 2 := by decide +kernel
theorem mA3 : msk (tA.next 0) 32 = 2 := by decide +kernel
theorem mA4 : msk (tA.next 1) 32 = 1 := by decide +kernel
theorem pA1 : pathB tA.null tA.first tA.last 2 tA.next [0, 1, 0, 1] = true := by decide +kernel
theorem pA2 : pathB tA.null tA.first tA.last 2 tA.next [0, 1, 0] = false := by decide +kernel

theorem make_places : ∃ C : Array Value, ∀ w, (Instr.makeSlice 37 (.int .i64 2) (.int .i64 2)).run Try.prog w = .ok (.slice (some ⟨w.heap.size, 0, none⟩) 2 2) (w.alloc (.cells C 59)) := by
  have hinfo : ((Try.prog.info? 59).map (fun i => (i.zero.isSome, i.bytes))) = some (true, 64) := by kernel_rfl
  cases hi : Try.prog.info? 59 with
  | none => rw [hi] at hinfo; simp at hinfo
  | some i =>
    rw [hi] at hinfo
    simp only [Option.map_some, Option.some.injEq, Prod.mk.injEq] at hinfo
    obtain ⟨z, hz⟩ := Option.isSome_iff_exists.1 hinfo.1
    refine ⟨madeCells z.cells (2 * i.size), fun w => ?_⟩
    have := run_make w 37 59 i z Try.underlying37 hi hz .i64 .i64 2 2 (by omega) (Int.le_refl _) (by rw [hinfo.2]; omega) (by omega)
    exact this

theorem intsV4 (w : World) : IntsV (w.alloc (.cells #[.int .i64 0, .int .i64 1, .int .i64 0, .int .i64 1] 3)) (.slice (some ⟨w.heap.size, 0, none⟩) 4 4) [0, 1, 0, 1] := by
  have h := heap_new w (.cells #[.int .i64 0, .int .i64 1, .int .i64 0, .int .i64 1] 3)
  refine ⟨_, 4, rfl, fun _ => ⟨_, 0, rfl, lt_of_block h, fun i x hi => ?_⟩⟩
  match i with
  | 0 => simp at hi; subst hi; exact cell_of h 0 rfl
  | 1 => simp at hi; subst hi; exact cell_of h 1 rfl
  | 2 => simp at hi; subst hi; exact cell_of h 2 rfl
  | 3 => simp at hi; subst hi; exact cell_of h 3 rfl
  | i + 4 => simp at hi
theorem intsV3 (w : World) : IntsV (w.alloc (.cells #[.int .i64 0, .int .i64 1, .int .i64 0] 3)) (.slice (some ⟨w.heap.size, 0, none⟩) 3 3) [0, 1, 0] := by
  have h := heap_new w (.cells #[.int .i64 0, .int .i64 1, .int .i64 0] 3)
  refine ⟨_, 3, rfl, fun _ => ⟨_, 0, rfl, lt_of_block h, fun i x hi => ?_⟩⟩
  match i with
  | 0 => simp at hi; subst hi; exact cell_of h 0 rfl
  | 1 => simp at hi; subst hi; exact cell_of h 1 rfl
  | 2 => simp at hi; subst hi; exact cell_of h 2 rfl
  | i + 3 => simp at hi

set_option maxRecDepth 100000 in
set_option maxHeartbeats 2000000 in
theorem awake_ok (w : World) : Calls Try.prog 7 #[] w fun e w' => e = .returned (.bool true) ∧ Fr (fun _ => False) w w' := by
  obtain ⟨CP, hmk⟩ := make_places
  go_enter Try.func7, Try.ntmps7
  go_upto_region 2 with fail
  obtain ⟨nb, hnb⟩ : ∃ nb, nb = w.heap.size := ⟨_, rfl⟩
  obtain ⟨pb, hpb⟩ : ∃ pb, pb = w.heap.size + 1 := ⟨_, rfl⟩
  obtain ⟨k, hk⟩ : ∃ k, k = w.heap.size + 1 + 1 := ⟨_, rfl⟩
  obtain ⟨w1, hw1⟩ : ∃ w1, w1 = ((w.alloc (.cells #[.int .u8 5, .int .i64 0, .int .u8 3, .int .i64 0, .int .u8 2, .int .i64 0, .int .u8 2, .int .i64 1] 69)).alloc (.cells CP 59)).alloc (.cells #[.slice (some ⟨w.heap.size, 0, none⟩) 4 4, .slice (some ⟨w.heap.size + 1, 0, none⟩) 2 2, .int .i64 0, .string ⟨#[]⟩, .int .u8 0] 39) := ⟨_, rfl⟩
  rw [← hw1, ← hk]
  rw [← hpb, ← hnb] at hw1
  have N1 := hid (show w1.heap[nb]? = some (.cells #[.int .u8 5, .int .i64 0, .int .u8 3, .int .i64 0, .int .u8 2, .int .i64 0, .int .u8 2, .int .i64 1] 69 (0, 0)) by rw [hw1, hnb]; exact heap_old (heap_old (heap_new w _) _) _)
  have K1 := hid (show w1.heap[k]? = some (.cells #[.slice (some ⟨nb, 0, none⟩) 4 4, .slice (some ⟨pb, 0, none⟩) 2 2, .int .i64 0, .string ⟨#[]⟩, .int .u8 0] 39 (0, 0)) by rw [hw1, hk]; simpa using heap_new ((w.alloc _).alloc _) (.cells _ 39))
  have F1 := hid (show Fr (fun _ => False) w w1 by rw [hw1]; exact (((Fr.refl _ w).alloc _).alloc _).alloc _)
  have hkw : w.heap.size ≤ k := by omega
  clear hw1 hnb hpb hk
  have hld := ld_own K1.out rfl
  have hna : NodesAt w1 (fun _ => True) (.slice (some ⟨nb, 0, none⟩) 4 4) [(5, 0), (3, 0), (2, 0), (2, 1)] := ⟨_, 4, rfl, by simp, by omega, fun _ => ⟨nb, 0, rfl, trivial, lt_of_block N1.out, fun i x hi => by
    match i with
    | 0 => simp at hi; subst hi; exact ⟨cell_of N1.out 0 rfl, cell_of N1.out 1 rfl⟩
    | 1 => simp at hi; subst hi; exact ⟨cell_of N1.out 2 rfl, cell_of N1.out 3 rfl⟩
    | 2 => simp at hi; subst hi; exact ⟨cell_of N1.out 4 rfl, cell_of N1.out 5 rfl⟩
    | 3 => simp at hi; subst hi; exact ⟨cell_of N1.out 6 rfl, cell_of N1.out 7 rfl⟩
    | i + 4 => simp at hi⟩⟩
  have hb1 := hid (build_yes (pa := some ⟨pb, 0, none⟩) (pc := 2) (wi := 0) (bv := ⟨#[]⟩) (mm := 0) hna (by simp) okA tA rfl (by omega) (fun p hp => by simp [tA, Tr.leaves] at hp; omega))
  clear hna
  go_upto_region 3 with (go_at_call 8; refine hb1.out.mono ?_; rintro e w2 ⟨g, rfl, hg, hG, hF2⟩; rw [mA1, mA2, show tA.null = false from rfl]; simp only [foV])
  obtain ⟨w3, hw3⟩ : ∃ w3, w3 = w2.alloc (.cells #[.bool false, .int .u32 1, .int .u32 2, .slice (some ⟨g, 0, none⟩) 2 2] 32) := ⟨_, rfl⟩
  obtain ⟨s, hs⟩ : ∃ s, s = w2.heap.size := ⟨_, rfl⟩
  rw [← hw3, ← hs]
  have hF23 : Fr (fun _ => False) w2 w3 := by rw [hw3]; exact (Fr.refl _ w2).alloc _
  have S3 := hid (show w3.heap[s]? = some (.cells #[.bool false, .int .u32 1, .int .u32 2, .slice (some ⟨g, 0, none⟩) 2 2] 32 (0, 0)) by rw [hw3, hs]; exact heap_new w2 _)
  have G3 := hid (hF23.heap hG.blk (fun e => e))
  have K3 := hid ((hF2.trans' hF23).heap K1.out (fun e => e))
  have F3 := hid (F1.out.trans' (hF2.trans' hF23))
  have hks : k < s := by have := hF2.heap K1.out (fun e => e); have := lt_of_block this; omega
  have hgs : g < s := by have := lt_of_block hG.blk; omega
  have hgk : k < g := by have := lt_of_block K1.out; omega
  clear hw3 hs hF23 hG hF2 hg hb1 K1 N1 F1 hld hmk
  have k0 := cell_of K3.out 0 (v := .slice (some ⟨nb, 0, none⟩) 4 4) rfl
  have fk0 := free_of K3.out 0
  have hkl := lt_of_block K3.out
  go_upto_region 4 with fail
  obtain ⟨n4, hn4⟩ : ∃ n4, n4 = w3.heap.size := ⟨_, rfl⟩
  obtain ⟨w4, hw4⟩ : ∃ w4, w4 = (w3.setCell ⟨k, 0, none⟩ (.slice (some ⟨w3.heap.size, 0, none⟩) 3 3)).alloc (.cells #[.int .u8 3, .int .i64 0, .int .u8 2, .int .i64 0, .int .u8 2, .int .i64 0] 69) := ⟨_, rfl⟩
  rw [← hw4, ← hn4]
  rw [← hn4] at hw4
  have N4 := hid (show w4.heap[n4]? = some (.cells #[.int .u8 3, .int .i64 0, .int .u8 2, .int .i64 0, .int .u8 2, .int .i64 0] 69 (0, 0)) by rw [hw4, hn4]; simpa [World.setCell] using heap_new (w3.setCell ⟨k, 0, none⟩ (.slice (some ⟨w3.heap.size, 0, none⟩) 3 3)) (.cells #[.int .u8 3, .int .i64 0, .int .u8 2, .int .i64 0, .int .u8 2, .int .i64 0] 69))
  have K4 := hid (show w4.heap[k]? = some (.cells #[.slice (some ⟨n4, 0, none⟩) 3 3, .slice (some ⟨pb, 0, none⟩) 2 2, .int .i64 0, .string ⟨#[]⟩, .int .u8 0] 39 (0, 0)) by rw [hw4]; exact heap_old (by rw [heap_set K3.out]; rfl) _)
  have F34 := hid (show Fr (fun j => j = k) w3 w4 by rw [hw4]; exact (Fr.one k 0 _).alloc _)
  have S4 := hid (F34.out.heap S3.out (by omega))
  have G4 := hid (F34.out.heap G3.out (by omega))
  have F4 := hid (F3.out.trans F34.out (fun _ e => e) (fun i hi e => by omega))
  clear hw4 hn4 k0 fk0 hkl K3 S3 G3 F3 F34
  have hld := ld_own K4.out rfl
  have hna : NodesAt w4 (fun _ => True) (.slice (some ⟨n4, 0, none⟩) 3 3) [(3, 0), (2, 0), (2, 0)] := ⟨_, 3, rfl, by simp, by omega, fun _ => ⟨n4, 0, rfl, trivial, lt_of_block N4.out, fun i x hi => by
    match i with
    | 0 => simp at hi; subst hi; exact ⟨cell_of N4.out 0 rfl, cell_of N4.out 1 rfl⟩
    | 1 => simp at hi; subst hi; exact ⟨cell_of N4.out 2 rfl, cell_of N4.out 3 rfl⟩
    | 2 => simp at hi; subst hi; exact ⟨cell_of N4.out 4 rfl, cell_of N4.out 5 rfl⟩
    | i + 3 => simp at hi⟩⟩
  have hb2 := hid (build_no (pa := some ⟨pb, 0, none⟩) (pc := 2) (wi := 0) (bv := ⟨#[]⟩) (mm := 0) hna (by simp) noA)
  have hC : ∀ w', Fr (fun _ => False) w4 w' → w'.cell? ⟨s, 0, none⟩ = some (.bool false) ∧ w'.cell? ⟨s, 1, none⟩ = some (.int .u32 1) ∧ w'.cell? ⟨s, 2, none⟩ = some (.int .u32 2) ∧ w'.cell? ⟨s, 3, none⟩ = some (.slice (some ⟨g, 0, none⟩) 2 2) ∧ w'.cell? ⟨g, 0, none⟩ = some (.int .u32 2) ∧ w'.cell? ⟨g, 1, none⟩ = some (.int .u32 1) ∧ s < w'.heap.size ∧ g < w'.heap.size ∧ U32V w' (.slice (some ⟨g, 0, none⟩) 2 2) 2 tA.next := fun w' h => by
    have hs := h.heap S4.out (fun e => e)
    have hg := h.heap G4.out (fun e => e)
    have e0 : (rowU 2 tA.next)[0]? = some (.int .u32 2) := by rw [rowU_get _ _ _ (by omega), mA3]; rfl
    have e1 : (rowU 2 tA.next)[1]? = some (.int .u32 1) := by rw [rowU_get _ _ _ (by omega), mA4]; rfl
    exact ⟨cell_of hs 0 rfl, cell_of hs 1 rfl, cell_of hs 2 rfl, cell_of hs 3 rfl, cell_of hg 0 e0, cell_of hg 1 e1, lt_of_block hs, lt_of_block hg, ⟨_, _, rfl, fun _ => ⟨g, 0, rfl, lt_of_block hg, fun i hi => by rw [Nat.zero_add]; exact cell_of hg i (rowU_get _ _ _ hi)⟩⟩⟩
  have HC := hid hC
  clear hna hC
  have hh1 := hid (show ∀ w, Calls Try.prog 14 #[.int .u32 2, .int .i64 1] w fun e w' => e = .returned (.bool true) ∧ w = w' from fun w => has_in 2 1 (by omega) (by omega) w)
  have hh0 := hid (show ∀ w, Calls Try.prog 14 #[.int .u32 2, .int .i64 0] w fun e w' => e = .returned (.bool false) ∧ w = w' from fun w => has_in 2 0 (by omega) (by omega) w)
  have hh33 := hid (show ∀ w, Calls Try.prog 14 #[.int .u32 2, .int .i64 33] w fun e w' => e = .returned (.bool false) ∧ w = w' from fun w => has_out 2 33 (by omega) w)
  go_upto_region 5 with (go_at_call 8; refine hb2.out.mono ?_; rintro e w5 ⟨rfl, hF5⟩; obtain ⟨s0, s1, s2, s3, g0, g1, sl, gl, hU⟩ := HC.out w5 hF5; simp only [foV])
  obtain ⟨w6, hw6⟩ : ∃ w6, w6 = w5.alloc (.cells #[.bool false, .int .u32 0, .int .u32 0, .slice none 0 0] 32) := ⟨_, rfl⟩
  rw [← hw6]
  have hF6 : Fr (fun _ => False) w4 w6 := hF5.trans' (by rw [hw6]; exact (Fr.refl _ w5).alloc _)
  clear hw6 s0 s1 s2 s3 g0 g1 sl gl hU hld hb2
  obtain ⟨s0, s1, s2, s3, g0, g1, sl, gl, hU⟩ := HC.out w6 hF6
  have HU := hid hU
  have F6 := hid hF6
  clear hU hF5 hF6
  have hp1 := path_ok (w := w6.alloc (.cells #[.int .i64 0, .int .i64 1, .int .i64 0, .int .i64 1] 3)) (lv := .slice (some ⟨w6.heap.size, 0, none⟩) 4 4) tA.null tA.first tA.last (HU.out.fr ((Fr.refl _ w6).alloc _)) (L := [0, 1, 0, 1]) (intsV4 w6) (by simp)
  rw [pA1, mA1, mA2, show tA.null = false from rfl] at hp1
  have HP1 := hid (show Calls Try.prog 15 #[.agg #[.bool false, .int .u32 1, .int .u32 2, .slice (some ⟨g, 0, none⟩) 2 2], .slice (some ⟨w6.heap.size, 0, none⟩) 4 4] (w6.alloc (.cells #[.int .i64 0, .int .i64 1, .int .i64 0, .int .i64 1] 3)) fun e w' => e = .returned (.bool true) ∧ Fr (fun _ => False) (w6.alloc (.cells #[.int .i64 0, .int .i64 1, .int .i64 0, .int .i64 1] 3)) w' from hp1)
  have hp2 : ∀ w7, Fr (fun _ => False) w4 w7 → Calls Try.prog 15 #[.agg #[.bool false, .int .u32 1, .int .u32 2, .slice (some ⟨g, 0, none⟩) 2 2], .slice (some ⟨w7.heap.size, 0, none⟩) 3 3] (w7.alloc (.cells #[.int .i64 0, .int .i64 1, .int .i64 0] 3)) fun e w' => e = .returned (.bool false) ∧ Fr (fun _ => False) (w7.alloc (.cells #[.int .i64 0, .int .i64 1, .int .i64 0] 3)) w' := fun w7 h7 => by
    obtain ⟨_, _, _, _, _, _, _, _, hU7⟩ := HC.out w7 h7
    have hp2 := path_ok (w := w7.alloc (.cells #[.int .i64 0, .int .i64 1, .int .i64 0] 3)) (lv := .slice (some ⟨w7.heap.size, 0, none⟩) 3 3) tA.null tA.first tA.last (hU7.fr ((Fr.refl _ w7).alloc _)) (L := [0, 1, 0]) (intsV3 w7) (by simp)
    rw [pA2, mA1, mA2, show tA.null = false from rfl] at hp2
    exact hp2
  have HP2 := hid hp2
  have hsm : ∀ w7, Fr (fun _ => False) w4 w7 → Calls Try.prog 13 #[.agg #[.bool false, .int .u32 1, .int .u32 2, .slice (some ⟨g, 0, none⟩) 2 2], .agg #[.bool false, .int .u32 1, .int .u32 2, .slice (some ⟨g, 0, none⟩) 2 2]] w7 fun e w' => e = .returned (.bool true) ∧ Fr (fun _ => False) w7 w' := fun w7 h7 => by
    obtain ⟨_, _, _, _, _, _, _, _, hU7⟩ := HC.out w7 h7
    exact (same_ok false false 1 2 1 2 hU7 hU7 (by omega) (by omega)).mono fun _ _ h => h.yes ⟨rfl, rfl, rfl, rfl, fun _ _ => rfl⟩
  have HSM := hid hsm
  clear hp1 hp2 hsm
  go_wp2_with fail
  refine (hh1.out _).mono ?_
  rintro e w' ⟨rfl, rfl⟩
  go_wp2_with fail
  refine (hh0.out _).mono ?_
  rintro e w' ⟨rfl, rfl⟩
  go_wp2_with fail
  refine (hh33.out _).mono ?_
  rintro e w' ⟨rfl, rfl⟩
  go_wp2_with fail
  refine HP1.out.mono ?_
  rintro e w7 ⟨rfl, hF7⟩
  have F7 := hid (F6.out.trans' (((Fr.refl _ w6).alloc _).trans' hF7))
  clear s0 s1 s2 s3 g0 g1 sl gl hF7
  obtain ⟨s0, s1, s2, s3, g0, g1, sl, gl, _⟩ := HC.out w7 F7.out
  go_wp2_with fail
  refine (HP2.out w7 F7.out).mono ?_
  rintro e w8 ⟨rfl, hF8⟩
  have F8 := hid (F7.out.trans' (((Fr.refl _ w7).alloc _).trans' hF8))
  clear s0 s1 s2 s3 g0 g1 sl gl hF8
  obtain ⟨s0, s1, s2, s3, g0, g1, sl, gl, _⟩ := HC.out w8 F8.out
  go_wp2_with fail
  refine (HSM.out w8 F8.out).mono ?_
  rintro e w9 ⟨rfl, hF9⟩
  go_wp2_with fail
  go_ret
  exact ⟨rfl, F4.out.trans' (F8.out.trans' hF9)⟩

end Go.Proofs.Ytceomkoecidoiaa
