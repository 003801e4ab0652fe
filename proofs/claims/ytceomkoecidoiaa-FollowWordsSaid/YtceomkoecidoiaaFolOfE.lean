/-
  The document's sets of a tree, walked: eps and leaf.
-/
import Derived.Test.YtceomkoecidoiaaFolOf
namespace Go.Proofs.Ytceomkoecidoiaa
open Go.RowKit
attribute [local go_sem ↓] run_ld42 run_st42 run_ld45 run_st45 run_ld25

set_option maxRecDepth 100000 in
set_option maxHeartbeats 2000000 in
theorem of_eps (p : Int) : OfSaid (.eps p) := by
  intro w ok nv pa P pc wi bv mm N a rest hB hN hl hP hlv
  have hal : a < N.length := by
    rcases Nat.lt_or_ge a N.length with h | h
    · exact h
    · rw [List.drop_eq_nil_of_le h] at hN; simp [Tr.flat] at hN
  have hx : N[a]? = some (1, p) := by
    have := congrArg List.head? hN
    simpa [Tr.flat, List.head?_drop] using this
  obtain ⟨n, hn⟩ : ∃ n, n = N.length := ⟨_, rfl⟩
  have hB' := hB
  obtain ⟨ao, nc, rfl, _, _, hp⟩ := hB'
  obtain ⟨ng, no, rfl, _, hngl, hcell⟩ := hp (by omega)
  obtain ⟨c0, c1⟩ := hcell a _ hx
  clear hp hcell hx
  simp only at c0 c1
  have HB := hid hB
  have HN := hid hN
  have HL := hid hl
  have HLV := hid hlv
  rw [← hn] at hal hl HB ⊢
  have HNN := hid hn
  clear hB hN hlv hn
  unfold coreV
  go_enter Try.func25, Try.ntmps25
  obtain ⟨Z, hZ, hz, hZ5⟩ := zero_sets
  have HZ5 := hid hZ5
  clear hZ5
  go_upto_region 1 with fail
  obtain ⟨w1, hw1⟩ : ∃ w1, w1 = (w.alloc (.cells #[.slice (some ⟨ng, no, none⟩) n nc, .slice pa P pc, .int .i64 wi, .string bv, .int .u8 mm] 25)).alloc (.cells Z 45) := ⟨_, rfl⟩
  rw [← hw1]
  obtain ⟨k, hk⟩ : ∃ k, k = w.heap.size := ⟨_, rfl⟩
  obtain ⟨r, hr⟩ : ∃ r, r = w.heap.size + 1 := ⟨_, rfl⟩
  rw [← hr, ← hk]
  have K1 := hid (show w1.heap[k]? = some (.cells #[.slice (some ⟨ng, no, none⟩) n nc, .slice pa P pc, .int .i64 wi, .string bv, .int .u8 mm] 25 (0, 0)) by rw [hw1, hk]; exact heap_old (heap_new w _) _)
  have R1 := hid (show w1.heap[r]? = some (.cells Z 45 (0, 0)) by rw [hw1, hr]; simpa using heap_new (w.alloc _) (.cells Z 45))
  have F1 := hid (show Fr (fun _ => False) w w1 by rw [hw1]; exact ((Fr.refl _ w).alloc _).alloc _)
  have hkw : w.heap.size ≤ k := by omega
  have hkr : k < r := by omega
  have C0 := hid (F1.out.cell c0 (fun h => h))
  have C1 := hid (F1.out.cell c1 (fun h => h))
  clear hw1 hk hr c0 c1
  have k0 := cell_of K1.out 0 (v := .slice (some ⟨ng, no, none⟩) n nc) rfl
  have c0 := C0.out
  have c1 := C1.out
  go_upto_region 2 with fail
  obtain ⟨w2, hw2⟩ : ∃ w2, w2 = w1.alloc (.cells #[.int .u8 1, .int .i64 p] 77) := ⟨_, rfl⟩
  rw [← hw2]
  obtain ⟨m, hm⟩ : ∃ m, m = w1.heap.size := ⟨_, rfl⟩
  rw [← hm]
  have K2 := hid (show w2.heap[k]? = some (.cells #[.slice (some ⟨ng, no, none⟩) n nc, .slice pa P pc, .int .i64 wi, .string bv, .int .u8 mm] 25 (0, 0)) by rw [hw2]; exact heap_old K1.out _)
  have R2 := hid (show w2.heap[r]? = some (.cells Z 45 (0, 0)) by rw [hw2]; exact heap_old R1.out _)
  have M2 := hid (show w2.heap[m]? = some (.cells #[.int .u8 1, .int .i64 p] 77 (0, 0)) by rw [hw2, hm]; exact heap_new w1 _)
  have F2 := hid (show Fr (fun _ => False) w w2 by rw [hw2]; exact F1.out.alloc _)
  have hrm : r < m := by have := lt_of_block R1.out; omega
  clear hw2 hm c0 c1 k0 K1 R1 F1
  have k1 := cell_of K2.out 1 (v := .slice pa P pc) rfl
  have hmk := make_sets P (by omega)
  have hst : st 45 (.pointer (some ⟨w2.heap.size + 1, 0, none⟩)) (.agg (Z.setIfInBounds 65 (.slice (some ⟨w2.heap.size, 0, none⟩) P P))) ((w2.alloc (.cells (rowsL P fun _ _ => false).toArray 42)).alloc (.cells Z 45)) = .ok .skip (((w2.alloc (.cells (rowsL P fun _ _ => false).toArray 42)).alloc (.cells Z 45)).setCells (w2.heap.size + 1) 0 (setsC false (fun _ => false) (fun _ => false) (.slice (some ⟨w2.heap.size, 0, none⟩) P P))) := by
    rw [HZ5.out]
    exact st_sets (n := false) (f := fun _ => false) (l := fun _ => false) (v := .slice (some ⟨w2.heap.size, 0, none⟩) P P) rfl ⟨Z, hZ, by simpa using heap_new (w2.alloc (.cells (rowsL P fun _ _ => false).toArray 42)) (.cells Z 45)⟩
  go_upto_region 3 with fail
  obtain ⟨w3, hw3⟩ : ∃ w3, w3 = ((w2.alloc (.cells (rowsL P fun _ _ => false).toArray 42)).alloc (.cells Z 45)).setCells (w2.heap.size + 1) 0 (setsC false (fun _ => false) (fun _ => false) (.slice (some ⟨w2.heap.size, 0, none⟩) P P)) := ⟨_, rfl⟩
  rw [← hw3]
  obtain ⟨s, hs⟩ : ∃ s, s = w2.heap.size + 1 := ⟨_, rfl⟩
  obtain ⟨g, hg⟩ : ∃ g, g = w2.heap.size := ⟨_, rfl⟩
  rw [← hs, ← hg]
  rw [← hs, ← hg] at hw3
  have hmg : m < g := by have := lt_of_block M2.out; omega
  have hgs : g < s := by omega
  have K3 := hid (show w3.heap[k]? = some (.cells #[.slice (some ⟨ng, no, none⟩) n nc, .slice pa P pc, .int .i64 wi, .string bv, .int .u8 mm] 25 (0, 0)) by rw [hw3]; exact heap_setCells_ne (by omega) _ _ (heap_old (heap_old K2.out _) _))
  have R3 := hid (show Blk66 w3 r from ⟨Z, hZ, by rw [hw3]; exact heap_setCells_ne (by omega) _ _ (heap_old (heap_old R2.out _) _)⟩)
  have M3 := hid (show w3.heap[m]? = some (.cells #[.int .u8 1, .int .i64 p] 77 (0, 0)) by rw [hw3]; exact heap_setCells_ne (by omega) _ _ (heap_old (heap_old M2.out _) _))
  have G3 := hid (show RowsB w3 g P (fun _ _ => false) from ⟨by rw [hw3]; exact heap_setCells_ne (by omega) _ _ (heap_old (by rw [hg]; exact heap_new w2 _) _)⟩)
  have S3 := hid (show SetsB w3 s false (fun _ => false) (fun _ => false) (.slice (some ⟨g, 0, none⟩) P P) by rw [hw3]; exact Blk66.put ⟨Z, hZ, by rw [hs]; simpa using heap_new (w2.alloc _) (.cells Z 45)⟩ _ _ _ _)
  have F3 := hid (show Fr (fun _ => False) w w3 by rw [hw3]; exact Fr.setCells (by omega) _ _ ((F2.out.alloc _).alloc _))
  obtain ⟨kv, hkv⟩ : ∃ kv : Array Value, kv = #[.slice (some ⟨ng, no, none⟩) n nc, .slice pa P pc, .int .i64 wi, .string bv, .int .u8 mm] := ⟨_, rfl⟩
  have Q3 := hid (show OfSt w w3 kv k r m g s P 1 p false (fun _ => false) (fun _ => false) (fun _ _ => false) from ⟨by rw [hkv]; exact K3.out, R3.out, M3.out, G3.out, S3.out, F3.out, by omega⟩)
  have HKV := hid hkv
  clear hw3 hs hg hst hmk k1 K2 R2 M2 F2 hz HZ5 hZ C0 C1 K3 R3 M3 G3 S3 F3 hkv
  have m0 := cell_of Q3.out.node 0 (v := .int .u8 1) rfl
  have s0 := Q3.out.sets.c0
  have fs0 := Q3.out.sets.fz 0
  go_upto_region 5 with fail
  have Q4 := hid (Q3.out.moveS (Fr.one s 0 (.bool true)) (Q3.out.sets.set0 true))
  obtain ⟨w4, hw4⟩ : ∃ w4, w4 = w3.setCell ⟨s, 0, none⟩ (.bool true) := ⟨_, rfl⟩
  rw [← hw4] at Q4 ⊢
  clear hw4 s0 fs0 m0
  have hld := ld_sets Q4.out.sets
  have hst := st_sets (n := true) (f := fun _ => false) (l := fun _ => false) (v := .slice (some ⟨g, 0, none⟩) P P) rfl Q4.out.res
  go_wp2_with fail
  exact bodyPost_ret (v := setsV true (fun _ => false) (fun _ => false) (.slice (some ⟨g, 0, none⟩) P P)) (Q4.out.result _ (by rfl)) rfl ⟨g, Q4.out.done rfl (fun _ _ => rfl) (fun _ _ => rfl) (fun _ _ => rfl)⟩

set_option maxRecDepth 100000 in
set_option maxHeartbeats 2000000 in
theorem of_leaf (p : Int) : OfSaid (.leaf p) := by
  intro w ok nv pa P pc wi bv mm N a rest hB hN hl hP hlv
  have hal : a < N.length := by
    rcases Nat.lt_or_ge a N.length with h | h
    · exact h
    · rw [List.drop_eq_nil_of_le h] at hN; simp [Tr.flat] at hN
  have hx : N[a]? = some (2, p) := by
    have := congrArg List.head? hN
    simpa [Tr.flat, List.head?_drop] using this
  obtain ⟨n, hn⟩ : ∃ n, n = N.length := ⟨_, rfl⟩
  have hB' := hB
  obtain ⟨ao, nc, rfl, _, _, hp⟩ := hB'
  obtain ⟨ng, no, rfl, _, hngl, hcell⟩ := hp (by omega)
  obtain ⟨c0, c1⟩ := hcell a _ hx
  clear hp hcell hx
  simp only at c0 c1
  have HB := hid hB
  have HN := hid hN
  have HL := hid hl
  have HLV := hid hlv
  rw [← hn] at hal hl HB ⊢
  have HNN := hid hn
  clear hB hN hlv hn
  unfold coreV
  go_enter Try.func25, Try.ntmps25
  obtain ⟨Z, hZ, hz, hZ5⟩ := zero_sets
  have HZ5 := hid hZ5
  clear hZ5
  go_upto_region 1 with fail
  obtain ⟨w1, hw1⟩ : ∃ w1, w1 = (w.alloc (.cells #[.slice (some ⟨ng, no, none⟩) n nc, .slice pa P pc, .int .i64 wi, .string bv, .int .u8 mm] 25)).alloc (.cells Z 45) := ⟨_, rfl⟩
  rw [← hw1]
  obtain ⟨k, hk⟩ : ∃ k, k = w.heap.size := ⟨_, rfl⟩
  obtain ⟨r, hr⟩ : ∃ r, r = w.heap.size + 1 := ⟨_, rfl⟩
  rw [← hr, ← hk]
  have K1 := hid (show w1.heap[k]? = some (.cells #[.slice (some ⟨ng, no, none⟩) n nc, .slice pa P pc, .int .i64 wi, .string bv, .int .u8 mm] 25 (0, 0)) by rw [hw1, hk]; exact heap_old (heap_new w _) _)
  have R1 := hid (show w1.heap[r]? = some (.cells Z 45 (0, 0)) by rw [hw1, hr]; simpa using heap_new (w.alloc _) (.cells Z 45))
  have F1 := hid (show Fr (fun _ => False) w w1 by rw [hw1]; exact ((Fr.refl _ w).alloc _).alloc _)
  have hkw : w.heap.size ≤ k := by omega
  have hkr : k < r := by omega
  have C0 := hid (F1.out.cell c0 (fun h => h))
  have C1 := hid (F1.out.cell c1 (fun h => h))
  clear hw1 hk hr c0 c1
  have k0 := cell_of K1.out 0 (v := .slice (some ⟨ng, no, none⟩) n nc) rfl
  have c0 := C0.out
  have c1 := C1.out
  go_upto_region 2 with fail
  obtain ⟨w2, hw2⟩ : ∃ w2, w2 = w1.alloc (.cells #[.int .u8 2, .int .i64 p] 77) := ⟨_, rfl⟩
  rw [← hw2]
  obtain ⟨m, hm⟩ : ∃ m, m = w1.heap.size := ⟨_, rfl⟩
  rw [← hm]
  have K2 := hid (show w2.heap[k]? = some (.cells #[.slice (some ⟨ng, no, none⟩) n nc, .slice pa P pc, .int .i64 wi, .string bv, .int .u8 mm] 25 (0, 0)) by rw [hw2]; exact heap_old K1.out _)
  have R2 := hid (show w2.heap[r]? = some (.cells Z 45 (0, 0)) by rw [hw2]; exact heap_old R1.out _)
  have M2 := hid (show w2.heap[m]? = some (.cells #[.int .u8 2, .int .i64 p] 77 (0, 0)) by rw [hw2, hm]; exact heap_new w1 _)
  have F2 := hid (show Fr (fun _ => False) w w2 by rw [hw2]; exact F1.out.alloc _)
  have hrm : r < m := by have := lt_of_block R1.out; omega
  clear hw2 hm c0 c1 k0 K1 R1 F1
  have k1 := cell_of K2.out 1 (v := .slice pa P pc) rfl
  have hmk := make_sets P (by omega)
  have hst : st 45 (.pointer (some ⟨w2.heap.size + 1, 0, none⟩)) (.agg (Z.setIfInBounds 65 (.slice (some ⟨w2.heap.size, 0, none⟩) P P))) ((w2.alloc (.cells (rowsL P fun _ _ => false).toArray 42)).alloc (.cells Z 45)) = .ok .skip (((w2.alloc (.cells (rowsL P fun _ _ => false).toArray 42)).alloc (.cells Z 45)).setCells (w2.heap.size + 1) 0 (setsC false (fun _ => false) (fun _ => false) (.slice (some ⟨w2.heap.size, 0, none⟩) P P))) := by
    rw [HZ5.out]
    exact st_sets (n := false) (f := fun _ => false) (l := fun _ => false) (v := .slice (some ⟨w2.heap.size, 0, none⟩) P P) rfl ⟨Z, hZ, by simpa using heap_new (w2.alloc (.cells (rowsL P fun _ _ => false).toArray 42)) (.cells Z 45)⟩
  go_upto_region 3 with fail
  obtain ⟨w3, hw3⟩ : ∃ w3, w3 = ((w2.alloc (.cells (rowsL P fun _ _ => false).toArray 42)).alloc (.cells Z 45)).setCells (w2.heap.size + 1) 0 (setsC false (fun _ => false) (fun _ => false) (.slice (some ⟨w2.heap.size, 0, none⟩) P P)) := ⟨_, rfl⟩
  rw [← hw3]
  obtain ⟨s, hs⟩ : ∃ s, s = w2.heap.size + 1 := ⟨_, rfl⟩
  obtain ⟨g, hg⟩ : ∃ g, g = w2.heap.size := ⟨_, rfl⟩
  rw [← hs, ← hg]
  rw [← hs, ← hg] at hw3
  have hmg : m < g := by have := lt_of_block M2.out; omega
  have hgs : g < s := by omega
  have K3 := hid (show w3.heap[k]? = some (.cells #[.slice (some ⟨ng, no, none⟩) n nc, .slice pa P pc, .int .i64 wi, .string bv, .int .u8 mm] 25 (0, 0)) by rw [hw3]; exact heap_setCells_ne (by omega) _ _ (heap_old (heap_old K2.out _) _))
  have R3 := hid (show Blk66 w3 r from ⟨Z, hZ, by rw [hw3]; exact heap_setCells_ne (by omega) _ _ (heap_old (heap_old R2.out _) _)⟩)
  have M3 := hid (show w3.heap[m]? = some (.cells #[.int .u8 2, .int .i64 p] 77 (0, 0)) by rw [hw3]; exact heap_setCells_ne (by omega) _ _ (heap_old (heap_old M2.out _) _))
  have G3 := hid (show RowsB w3 g P (fun _ _ => false) from ⟨by rw [hw3]; exact heap_setCells_ne (by omega) _ _ (heap_old (by rw [hg]; exact heap_new w2 _) _)⟩)
  have S3 := hid (show SetsB w3 s false (fun _ => false) (fun _ => false) (.slice (some ⟨g, 0, none⟩) P P) by rw [hw3]; exact Blk66.put ⟨Z, hZ, by rw [hs]; simpa using heap_new (w2.alloc _) (.cells Z 45)⟩ _ _ _ _)
  have F3 := hid (show Fr (fun _ => False) w w3 by rw [hw3]; exact Fr.setCells (by omega) _ _ ((F2.out.alloc _).alloc _))
  obtain ⟨kv, hkv⟩ : ∃ kv : Array Value, kv = #[.slice (some ⟨ng, no, none⟩) n nc, .slice pa P pc, .int .i64 wi, .string bv, .int .u8 mm] := ⟨_, rfl⟩
  have Q3 := hid (show OfSt w w3 kv k r m g s P 2 p false (fun _ => false) (fun _ => false) (fun _ _ => false) from ⟨by rw [hkv]; exact K3.out, R3.out, M3.out, G3.out, S3.out, F3.out, by omega⟩)
  have HKV := hid hkv
  clear hw3 hs hg hst hmk k1 K2 R2 M2 F2 hz HZ5 hZ C0 C1 K3 R3 M3 G3 S3 F3 hkv
  have m0 := cell_of Q3.out.node 0 (v := .int .u8 2) rfl
  obtain ⟨q, rfl, hq2⟩ : ∃ q : Nat, p = q ∧ q < P := ⟨p.toNat, by have := HLV.out p (by simp [Tr.leaves]); omega⟩
  have m0 := cell_of Q3.out.node 0 (v := .int .u8 2) rfl
  have m1 := cell_of Q3.out.node 1 (v := .int .i64 q) rfl
  have s1 := Q3.out.sets.cf q (by omega)
  have fs1 := Q3.out.sets.fz (1 + q)
  have hq32 : q < 32 := by omega
  go_upto_region 8 with fail
  have Q4 := hid (Q3.out.moveS (Fr.one s (1 + q) (.bool true)) (Q3.out.sets.setFi q hq32))
  obtain ⟨w4, hw4⟩ : ∃ w4, w4 = w3.setCell ⟨s, 1 + q, none⟩ (.bool true) := ⟨_, rfl⟩
  rw [← hw4] at Q4 ⊢
  clear hw4 s1 fs1 m0 m1
  have m0 := cell_of Q4.out.node 0 (v := .int .u8 2) rfl
  have m1 := cell_of Q4.out.node 1 (v := .int .i64 q) rfl
  have s1 := Q4.out.sets.cl q (by omega)
  have fs1 := Q4.out.sets.fz (33 + q)
  go_upto_region 9 with fail
  have Q5 := hid (Q4.out.moveS (Fr.one s (33 + q) (.bool true)) (Q4.out.sets.setLi q hq32))
  obtain ⟨w5, hw5⟩ : ∃ w5, w5 = w4.setCell ⟨s, 33 + q, none⟩ (.bool true) := ⟨_, rfl⟩
  rw [← hw5] at Q5 ⊢
  clear hw5 s1 fs1 m0 m1
  have Q5 := hid (show OfSt w w5 kv k r m g s P 2 q false (fun i => decide (q = i)) (fun i => decide (q = i)) (fun _ _ => false) by have := Q5.out; simpa only [Bool.false_or] using this)
  have hld := ld_sets Q5.out.sets
  have hst := st_sets (n := false) (f := fun i => decide (q = i)) (l := fun i => decide (q = i)) (v := .slice (some ⟨g, 0, none⟩) P P) rfl Q5.out.res
  go_wp2_with fail
  have hd := Q5.out.done (t := .leaf (q : Int)) rfl (fun i _ => show decide (q = i) = decide ((q : Int) = i) from decide_eq_decide.2 (by omega)) (fun i _ => show decide (q = i) = decide ((q : Int) = i) from decide_eq_decide.2 (by omega)) (fun _ _ => rfl)
  refine bodyPost_ret (v := setsV false (fun i => decide (q = i)) (fun i => decide (q = i)) (.slice (some ⟨g, 0, none⟩) P P)) ?_ rfl ?_
  · exact Q5.out.result _ (by rfl)
  · exact ⟨g, hd⟩

end Go.Proofs.Ytceomkoecidoiaa
