/-
  The document's sets of a tree, walked: cat.
-/
import Derived.Test.YtceomkoecidoiaaFolOf
namespace Go.Proofs.Ytceomkoecidoiaa
open Go.RowKit
attribute [local go_sem ↓] run_ld42 run_st42 run_ld45 run_st45 run_ld25

set_option maxRecDepth 100000 in
set_option maxHeartbeats 2000000 in
theorem of_cat (p : Int) (x y : Tr) (ihx : OfSaid x) (ihy : OfSaid y) : OfSaid (.cat p x y) := by
  intro w ok nv pa P pc wi bv mm N a rest hB hN hl hP hlv
  have hal : a < N.length := by
    rcases Nat.lt_or_ge a N.length with h | h
    · exact h
    · rw [List.drop_eq_nil_of_le h] at hN; simp [Tr.flat] at hN
  have hx : N[a]? = some (3, p) := by
    have := congrArg List.head? hN
    simpa [Tr.flat, List.head?_drop] using this
  obtain ⟨n, hn⟩ : ∃ n, n = N.length := ⟨_, rfl⟩
  have hB' := hB
  obtain ⟨ao, nc, rfl, _, _, hp⟩ := hB'
  obtain ⟨ng, no, rfl, _, hngl, hcell⟩ := hp (by omega)
  obtain ⟨c0, c1⟩ := hcell a _ hx
  clear hp hcell hx
  simp only at c0 c1
  have HB := hid hB
  have HN := hid hN
  have HL := hid hl
  have HLV := hid hlv
  rw [← hn] at hal hl HB ⊢
  have HNN := hid hn
  clear hB hN hlv hn
  unfold coreV
  go_enter Try.func25, Try.ntmps25
  obtain ⟨Z, hZ, hz, hZ5⟩ := zero_sets
  have HZ5 := hid hZ5
  clear hZ5
  go_upto_region 1 with fail
  obtain ⟨w1, hw1⟩ : ∃ w1, w1 = (w.alloc (.cells #[.slice (some ⟨ng, no, none⟩) n nc, .slice pa P pc, .int .i64 wi, .string bv, .int .u8 mm] 25)).alloc (.cells Z 45) := ⟨_, rfl⟩
  rw [← hw1]
  obtain ⟨k, hk⟩ : ∃ k, k = w.heap.size := ⟨_, rfl⟩
  obtain ⟨r, hr⟩ : ∃ r, r = w.heap.size + 1 := ⟨_, rfl⟩
  rw [← hr, ← hk]
  have K1 := hid (show w1.heap[k]? = some (.cells #[.slice (some ⟨ng, no, none⟩) n nc, .slice pa P pc, .int .i64 wi, .string bv, .int .u8 mm] 25 (0, 0)) by rw [hw1, hk]; exact heap_old (heap_new w _) _)
  have R1 := hid (show w1.heap[r]? = some (.cells Z 45 (0, 0)) by rw [hw1, hr]; simpa using heap_new (w.alloc _) (.cells Z 45))
  have F1 := hid (show Fr (fun _ => False) w w1 by rw [hw1]; exact ((Fr.refl _ w).alloc _).alloc _)
  have hkw : w.heap.size ≤ k := by omega
  have hkr : k < r := by omega
  have C0 := hid (F1.out.cell c0 (fun h => h))
  have C1 := hid (F1.out.cell c1 (fun h => h))
  clear hw1 hk hr c0 c1
  have k0 := cell_of K1.out 0 (v := .slice (some ⟨ng, no, none⟩) n nc) rfl
  have c0 := C0.out
  have c1 := C1.out
  go_upto_region 2 with fail
  obtain ⟨w2, hw2⟩ : ∃ w2, w2 = w1.alloc (.cells #[.int .u8 3, .int .i64 p] 77) := ⟨_, rfl⟩
  rw [← hw2]
  obtain ⟨m, hm⟩ : ∃ m, m = w1.heap.size := ⟨_, rfl⟩
  rw [← hm]
  have K2 := hid (show w2.heap[k]? = some (.cells #[.slice (some ⟨ng, no, none⟩) n nc, .slice pa P pc, .int .i64 wi, .string bv, .int .u8 mm] 25 (0, 0)) by rw [hw2]; exact heap_old K1.out _)
  have R2 := hid (show w2.heap[r]? = some (.cells Z 45 (0, 0)) by rw [hw2]; exact heap_old R1.out _)
  have M2 := hid (show w2.heap[m]? = some (.cells #[.int .u8 3, .int .i64 p] 77 (0, 0)) by rw [hw2, hm]; exact heap_new w1 _)
  have F2 := hid (show Fr (fun _ => False) w w2 by rw [hw2]; exact F1.out.alloc _)
  have hrm : r < m := by have := lt_of_block R1.out; omega
  clear hw2 hm c0 c1 k0 K1 R1 F1
  have k1 := cell_of K2.out 1 (v := .slice pa P pc) rfl
  have hmk := make_sets P (by omega)
  have hst : st 45 (.pointer (some ⟨w2.heap.size + 1, 0, none⟩)) (.agg (Z.setIfInBounds 65 (.slice (some ⟨w2.heap.size, 0, none⟩) P P))) ((w2.alloc (.cells (rowsL P fun _ _ => false).toArray 42)).alloc (.cells Z 45)) = .ok .skip (((w2.alloc (.cells (rowsL P fun _ _ => false).toArray 42)).alloc (.cells Z 45)).setCells (w2.heap.size + 1) 0 (setsC false (fun _ => false) (fun _ => false) (.slice (some ⟨w2.heap.size, 0, none⟩) P P))) := by
    rw [HZ5.out]
    exact st_sets (n := false) (f := fun _ => false) (l := fun _ => false) (v := .slice (some ⟨w2.heap.size, 0, none⟩) P P) rfl ⟨Z, hZ, by simpa using heap_new (w2.alloc (.cells (rowsL P fun _ _ => false).toArray 42)) (.cells Z 45)⟩
  go_upto_region 3 with fail
  obtain ⟨w3, hw3⟩ : ∃ w3, w3 = ((w2.alloc (.cells (rowsL P fun _ _ => false).toArray 42)).alloc (.cells Z 45)).setCells (w2.heap.size + 1) 0 (setsC false (fun _ => false) (fun _ => false) (.slice (some ⟨w2.heap.size, 0, none⟩) P P)) := ⟨_, rfl⟩
  rw [← hw3]
  obtain ⟨s, hs⟩ : ∃ s, s = w2.heap.size + 1 := ⟨_, rfl⟩
  obtain ⟨g, hg⟩ : ∃ g, g = w2.heap.size := ⟨_, rfl⟩
  rw [← hs, ← hg]
  rw [← hs, ← hg] at hw3
  have hmg : m < g := by have := lt_of_block M2.out; omega
  have hgs : g < s := by omega
  have K3 := hid (show w3.heap[k]? = some (.cells #[.slice (some ⟨ng, no, none⟩) n nc, .slice pa P pc, .int .i64 wi, .string bv, .int .u8 mm] 25 (0, 0)) by rw [hw3]; exact heap_setCells_ne (by omega) _ _ (heap_old (heap_old K2.out _) _))
  have R3 := hid (show Blk66 w3 r from ⟨Z, hZ, by rw [hw3]; exact heap_setCells_ne (by omega) _ _ (heap_old (heap_old R2.out _) _)⟩)
  have M3 := hid (show w3.heap[m]? = some (.cells #[.int .u8 3, .int .i64 p] 77 (0, 0)) by rw [hw3]; exact heap_setCells_ne (by omega) _ _ (heap_old (heap_old M2.out _) _))
  have G3 := hid (show RowsB w3 g P (fun _ _ => false) from ⟨by rw [hw3]; exact heap_setCells_ne (by omega) _ _ (heap_old (by rw [hg]; exact heap_new w2 _) _)⟩)
  have S3 := hid (show SetsB w3 s false (fun _ => false) (fun _ => false) (.slice (some ⟨g, 0, none⟩) P P) by rw [hw3]; exact Blk66.put ⟨Z, hZ, by rw [hs]; simpa using heap_new (w2.alloc _) (.cells Z 45)⟩ _ _ _ _)
  have F3 := hid (show Fr (fun _ => False) w w3 by rw [hw3]; exact Fr.setCells (by omega) _ _ ((F2.out.alloc _).alloc _))
  obtain ⟨kv, hkv⟩ : ∃ kv : Array Value, kv = #[.slice (some ⟨ng, no, none⟩) n nc, .slice pa P pc, .int .i64 wi, .string bv, .int .u8 mm] := ⟨_, rfl⟩
  have Q3 := hid (show OfSt w w3 kv k r m g s P 3 p false (fun _ => false) (fun _ => false) (fun _ _ => false) from ⟨by rw [hkv]; exact K3.out, R3.out, M3.out, G3.out, S3.out, F3.out, by omega⟩)
  have HKV := hid hkv
  clear hw3 hs hg hst hmk k1 K2 R2 M2 F2 hz HZ5 hZ C0 C1 K3 R3 M3 G3 S3 F3 hkv
  have m0 := cell_of Q3.out.node 0 (v := .int .u8 3) rfl
  have hdrop : N.drop (a + 1) = x.flat ++ (y.flat ++ rest) := by
    have := congrArg (List.drop 1) HN.out
    simpa [List.drop_drop, Tr.flat] using this
  have hcall := ihx w3 ok _ pa P pc wi bv mm N (a + 1) _ (HB.out.fr Q3.out.fr (fun _ _ e => e) (fun _ h _ => h)) hdrop HL.out hP (fun p hp => HLV.out p (by simp [Tr.leaves, hp]))
  unfold coreV at hcall
  rw [← HKV.out, show (((a + 1 : Nat) : Int)) = (a : Int) + 1 from rfl] at hcall
  have HC := hid hcall
  clear hcall hdrop
  obtain ⟨Z, hZ, hz, _⟩ := zero_sets
  have hldk := ld_core Q3.out.core (by rw [HKV.out]; rfl)
  have hsw := lt_of_block Q3.out.sets.blk
  go_upto_region 11 with (go_at_call 25; refine HC.out.mono ?_; rintro e w5 ⟨ga, rfl, hga, hGa, hFa⟩; have hst := st_sets (n := x.null) (f := x.first) (l := x.last) (v := .slice (some ⟨ga, 0, none⟩) P P) rfl (w := w5.alloc (.cells Z 45)) (b := w5.heap.size) ⟨Z, hZ, heap_new w5 _⟩; have GA := hid hGa; have FA := hid hFa; clear hGa hFa)
  obtain ⟨w6, hw6⟩ : ∃ w6, w6 = (w5.alloc (.cells Z 45)).setCells w5.heap.size 0 (setsC x.null x.first x.last (.slice (some ⟨ga, 0, none⟩) P P)) := ⟨_, rfl⟩
  obtain ⟨b, hb⟩ : ∃ b, b = w5.heap.size := ⟨_, rfl⟩
  rw [← hw6, ← hb]
  have hbs : s < b := by have := FA.out.size; omega
  have F6 := hid (show Fr (fun _ => False) w5 w6 by rw [hw6]; exact Fr.setCells (by omega) _ _ ((Fr.refl _ w5).alloc _))
  have A6 := hid (show KidB w6 s P b ga x from ⟨by rw [hw6, hb]; exact Blk66.put ⟨Z, hZ, heap_new w5 _⟩ _ _ _ _, GA.out.fr F6.out (fun e => e), hbs, by omega⟩)
  have Q6 := hid ((Q3.out.moveN FA.out).moveN F6.out)
  have hgab : ga < b := by have := lt_of_block GA.out.blk; omega
  clear hw6 hb hst hldk hsw HC Q3 GA FA F6 m0
  have hld := ld_sets A6.out.sets
  have hst := st_sets (n := x.null) (f := x.first) (l := x.last) (v := .slice (some ⟨ga, 0, none⟩) P P) rfl (w := w6.alloc (.cells Z 45)) (b := w6.heap.size) ⟨Z, hZ, heap_new w6 _⟩
  go_upto_region 12 with fail
  obtain ⟨w7, hw7⟩ : ∃ w7, w7 = (w6.alloc (.cells Z 45)).setCells w6.heap.size 0 (setsC x.null x.first x.last (.slice (some ⟨ga, 0, none⟩) P P)) := ⟨_, rfl⟩
  obtain ⟨c, hc⟩ : ∃ c, c = w6.heap.size := ⟨_, rfl⟩
  rw [← hw7, ← hc]
  have hbc : b < c := by have := A6.out.sets.lt; omega
  have F7 := hid (show Fr (fun _ => False) w6 w7 by rw [hw7]; exact Fr.setCells (by omega) _ _ ((Fr.refl _ w6).alloc _))
  have B7 := hid (show KidB w7 s P c ga x from ⟨by rw [hw7, hc]; exact Blk66.put ⟨Z, hZ, heap_new w6 _⟩ _ _ _ _, A6.out.rows.fr F7.out (fun e => e), by omega, A6.out.lt.2⟩)
  have A7 := hid (A6.out.fr F7.out (fun _ e => e.elim))
  have Q7 := hid (Q6.out.moveN F7.out)
  have hgac : ga < c := by omega
  clear hw7 hc hst hld A6 Q6 F7
  have m0 := cell_of Q7.out.node 0 (v := .int .u8 3) rfl
  have hdrop : N.drop (a + 1 + x.flat.length) = y.flat ++ rest := by
    have h1 : N.drop (a + 1) = x.flat ++ (y.flat ++ rest) := by
      have := congrArg (List.drop 1) HN.out
      simpa [List.drop_drop, Tr.flat] using this
    have := congrArg (List.drop x.flat.length) h1
    simpa [List.drop_drop] using this
  have hsz : szAt N (((a + 1 : Nat) : Int)) = (x.flat.length : Nat) := by
    have h1 : N.drop (a + 1) = x.flat ++ (y.flat ++ rest) := by
      have := congrArg (List.drop 1) HN.out
      simpa [List.drop_drop, Tr.flat] using this
    have h2 : a + 1 < N.length := by
      rcases Nat.lt_or_ge (a + 1) N.length with h | h
      · exact h
      · rw [List.drop_eq_nil_of_le h] at h1
        have := x.pos
        cases hx : x.flat with
        | nil => rw [hx] at this; simp at this
        | cons u v => rw [hx] at h1; simp at h1
    simp only [szAt]
    rw [if_neg (by omega), Int.toNat_natCast, h1, sz_flat]
    rfl
  have hxl : a + 1 + x.flat.length ≤ N.length := by
    rcases Nat.lt_or_ge N.length (a + 1 + x.flat.length) with h | h
    · rw [List.drop_eq_nil_of_le (by omega)] at hdrop
      have := y.pos
      cases hy : y.flat with
      | nil => rw [hy] at this; simp at this
      | cons u v => rw [hy] at hdrop; simp at hdrop
    · exact h
  have hl250 := HL.out
  obtain ⟨xl, hxx⟩ : ∃ xl, xl = x.flat.length := ⟨_, rfl⟩
  rw [← hxx] at hdrop hsz hxl
  have hxl2 : a + 1 + xl ≤ 250 := by omega
  have hadd : IntKind.i64.wrap ((a : Int) + 1 + (xl : Int)) = ((a + 1 + xl : Nat) : Int) := by rw [IntWalk.i64_in _ (by omega)]; omega
  have hadd1 : IntKind.i64.wrap ((a : Int) + 1) = (a : Int) + 1 := IntWalk.i64_in _ (by omega)
  have HSZ := hid (show szAt N ((a : Int) + 1) = (xl : Nat) from hsz)
  have HDR := hid hdrop
  clear hsz hdrop hxl hl250 hxx
  go_upto_region 13 with fail
  clear m0
  have hmem : ∀ w', Fr (fun j => j = c) w7 w' → w'.cell? ⟨k, 0, none⟩ = some (.slice (some ⟨ng, no, none⟩) n nc) := fun w' h => cell_of (h.heap Q7.out.core (by have := Q7.out.lt; omega)) 0 (by rw [HKV.out]; rfl)
  have hldk : ∀ w', Fr (fun j => j = c) w7 w' → ld 25 (.pointer (some ⟨k, 0, none⟩)) w' = .ok (.value (.agg kv)) w' := fun w' h => ld_core (h.heap Q7.out.core (by have := Q7.out.lt; omega)) (by rw [HKV.out]; rfl)
  have hsc : k < c := by have := Q7.out.lt; omega
  have hgaw := lt_of_block A7.out.rows.blk
  have hB7 : NodesAt w7.drew ok (.slice (some ⟨ng, no, none⟩) n nc) N := HB.out.fr (S := fun _ => False) (Q7.out.fr.trans' ((Fr.refl (fun _ => False) w7).drew)) (fun _ _ e => e) (fun _ h _ => h)
  have hSz := refSize_ok ((a : Int) + 1) hB7 HL.out
  rw [HSZ.out] at hSz
  have HSz := hid hSz
  have hOf := ihy w7.drew ok _ pa P pc wi bv mm N (a + 1 + xl) _ hB7 HDR.out HL.out hP (fun p hp => HLV.out p (by simp [Tr.leaves, hp]))
  unfold coreV at hOf
  rw [← HKV.out] at hOf
  have HOf := hid hOf
  clear hB7 hSz hOf
  refine wp_region_held_drew (S := (fun w' => Fr (fun j => j = c) w7 w')) (by kernel_rfl) ?_ (fun hH => ?_)
  · exact Fr.drew (Fr.refl _ _)
  refine wpAnyH_take (i := 0) (oi := { dst := some 45, op := Op.load 25 (Operand.tmp 2), type := 25, pos := "ref.go:71", after := #[], guard := none }) (v := ?_) rfl (by kernel_rfl) (by kernel_rfl) (by kernel_rfl) (fun _ _ _ h => h) (Or.inl ⟨by rfl, ?_⟩) hH ?_
  rotate_left
  · intro w hSw; (try dsimp only at hSw); go_simp <;> with_reducible rfl
  try simp only [Act.put, List.setIfInBounds_toArray, List.set_cons_zero, List.set_cons_succ]
  refine wpAnyH_take (i := 1) (oi := { dst := some 46, op := Op.move (Operand.tmp 1), type := 3, pos := "ref.go:71", after := #[], guard := none }) (v := ?_) rfl (by kernel_rfl) (by kernel_rfl) (by kernel_rfl) (fun _ _ _ h => h) (Or.inl ⟨by rfl, ?_⟩) hH ?_
  rotate_left
  · intro w hSw; (try dsimp only at hSw); go_simp <;> with_reducible rfl
  try simp only [Act.put, List.setIfInBounds_toArray, List.set_cons_zero, List.set_cons_succ]
  refine wpAnyH_take (i := 2) (oi := { dst := some 47, op := Op.binOp BinOp.add 3 (Operand.tmp 46) (Operand.const (Value.int IntKind.i64 1)) 3, type := 3, pos := "ref.go:71", after := #[{ on := 1, ground := Ground.data }], guard := none }) (v := ?_) rfl (by kernel_rfl) (by kernel_rfl) (by kernel_rfl) (fun _ _ _ h => h) (Or.inl ⟨by rfl, ?_⟩) hH ?_
  rotate_left
  · intro w hSw; (try dsimp only at hSw); go_simp <;> with_reducible rfl
  try simp only [Act.put, List.setIfInBounds_toArray, List.set_cons_zero, List.set_cons_succ]
  refine wpAnyH_take (i := 3) (oi := { dst := some 48, op := Op.fieldAddr 25 (Operand.tmp 2) 0, type := 0, pos := "ref.go:71", after := #[], guard := none }) (v := ?_) rfl (by kernel_rfl) (by kernel_rfl) (by kernel_rfl) (fun _ _ _ h => h) (Or.inl ⟨by rfl, ?_⟩) hH ?_
  rotate_left
  · intro w hSw; (try dsimp only at hSw); go_simp <;> with_reducible rfl
  try simp only [Act.put, List.setIfInBounds_toArray, List.set_cons_zero, List.set_cons_succ]
  refine wpAnyH_take (i := 4) (oi := { dst := some 49, op := Op.load 22 (Operand.tmp 48), type := 22, pos := "ref.go:71", after := #[{ on := 3, ground := Ground.data }], guard := none }) (v := ?_) rfl (by kernel_rfl) (by kernel_rfl) (by kernel_rfl) (fun _ _ _ h => h) (Or.inl ⟨by rfl, ?_⟩) hH ?_
  rotate_left
  · intro w hSw; (try dsimp only at hSw); go_simp <;> with_reducible rfl
  try simp only [Act.put, List.setIfInBounds_toArray, List.set_cons_zero, List.set_cons_succ]
  refine wpAnyH_take (i := 5) (oi := { dst := some 50, op := Op.move (Operand.tmp 1), type := 3, pos := "ref.go:71", after := #[], guard := none }) (v := ?_) rfl (by kernel_rfl) (by kernel_rfl) (by kernel_rfl) (fun _ _ _ h => h) (Or.inl ⟨by rfl, ?_⟩) hH ?_
  rotate_left
  · intro w hSw; (try dsimp only at hSw); go_simp <;> with_reducible rfl
  try simp only [Act.put, List.setIfInBounds_toArray, List.set_cons_zero, List.set_cons_succ]
  refine wpAnyH_take (i := 6) (oi := { dst := some 51, op := Op.binOp BinOp.add 3 (Operand.tmp 50) (Operand.const (Value.int IntKind.i64 1)) 3, type := 3, pos := "ref.go:71", after := #[{ on := 5, ground := Ground.data }], guard := none }) (v := ?_) rfl (by kernel_rfl) (by kernel_rfl) (by kernel_rfl) (fun _ _ _ h => h) (Or.inl ⟨by rfl, ?_⟩) hH ?_
  rotate_left
  · intro w hSw; (try dsimp only at hSw); go_simp <;> with_reducible rfl
  try simp only [Act.put, List.setIfInBounds_toArray, List.set_cons_zero, List.set_cons_succ]
  refine wpAnyH_ready (rs := [7]) (by kernel_rfl) (by simp) ?_
  refine AllReadyH.cons (o := { dst := some 52, op := Op.call { callee := Callee.value (Operand.func 32), args := #[Operand.tmp 49, Operand.tmp 51], argTypes := #[22, 3] }, type := 3, pos := "ref.go:71", after := #[{ on := 4, ground := Ground.data }, { on := 6, ground := Ground.data }], guard := none }) rfl (fun K hK => ?_) AllReadyH.nil
  go_simp
  go_at_call 32
  refine HSz.out.mono ?_
  rintro e w' ⟨rfl, rfl⟩
  go_simp
  refine hK.out _ _ ?_ (fun hH => ?_)
  · exact hH
  clear hK K
  try simp only [Act.put, List.setIfInBounds_toArray, List.set_cons_zero, List.set_cons_succ]
  refine wpAnyH_take (i := 8) (oi := { dst := some 53, op := Op.binOp BinOp.add 3 (Operand.tmp 47) (Operand.tmp 52) 3, type := 3, pos := "ref.go:71", after := #[{ on := 2, ground := Ground.data }, { on := 7, ground := Ground.data }], guard := none }) (v := ?_) rfl (by kernel_rfl) (by kernel_rfl) (by kernel_rfl) (fun _ _ _ h => h) (Or.inl ⟨by rfl, ?_⟩) hH ?_
  rotate_left
  · intro w hSw; (try dsimp only at hSw); go_simp <;> with_reducible rfl
  try simp only [Act.put, List.setIfInBounds_toArray, List.set_cons_zero, List.set_cons_succ]
  refine wpAnyH_ready (rs := [9]) (by kernel_rfl) (by simp) ?_
  refine AllReadyH.cons (o := { dst := some 54, op := Op.call { callee := Callee.value (Operand.func 25), args := #[Operand.tmp 45, Operand.tmp 53], argTypes := #[25, 3] }, type := 45, pos := "ref.go:71", after := #[{ on := 0, ground := Ground.data }, { on := 8, ground := Ground.data }, { on := 7, ground := Ground.chain }], guard := none }) rfl (fun K hK => ?_) AllReadyH.nil
  go_simp
  go_at_call 25
  refine HOf.out.mono ?_
  rintro e w8 ⟨gb, rfl, hgb, hGb, hF8⟩
  have hst := st_sets (n := y.null) (f := y.first) (l := y.last) (v := .slice (some ⟨gb, 0, none⟩) P P) rfl (w := w8) (b := c) ⟨_, by rw [List.size_toArray, setsC_len], ((B7.out.sets.fr ((Fr.refl (fun _ => False) w7).drew) (fun e => e)).fr hF8 (fun e => e)).blk⟩
  go_simp
  refine hK.out _ _ ?_ (fun hH => ?_)
  · exact hH.trans' hF8.quiet
  clear hK K
  try simp only [Act.put, List.setIfInBounds_toArray, List.set_cons_zero, List.set_cons_succ]
  refine wpAnyH_ready (rs := [10]) (by kernel_rfl) (by simp) ?_
  refine AllReadyH.cons (o := { dst := none, op := Op.store 45 (Operand.tmp 8) (Operand.tmp 54), type := 0, pos := "ref.go:71", after := #[{ on := 9, ground := Ground.data }, { on := 9, ground := Ground.chain }, { on := 0, ground := Ground.phase }, { on := 1, ground := Ground.phase }, { on := 2, ground := Ground.phase }, { on := 3, ground := Ground.phase }, { on := 4, ground := Ground.phase }, { on := 5, ground := Ground.phase }, { on := 6, ground := Ground.phase }, { on := 7, ground := Ground.phase }, { on := 8, ground := Ground.phase }, { on := 9, ground := Ground.phase }], guard := none }) rfl (fun K hK => ?_) AllReadyH.nil
  go_simp
  refine hK.out _ _ ?_ (fun hH => ?_)
  · exact hH.trans' (Fr.many c _ _)
  clear hK K
  refine wpAnyH_done (by kernel_rfl) ?_ _
  have GB := hid hGb
  obtain ⟨w9, hw9⟩ : ∃ w9, w9 = w8.setCells c 0 (setsC y.null y.first y.last (.slice (some ⟨gb, 0, none⟩) P P)) := ⟨_, rfl⟩
  rw [← hw9]
  have F8 := hid ((Fr.refl (fun _ => False) w7).drew.trans' hF8)
  have hgb2 : w7.heap.size ≤ gb := by simpa using hgb
  have hltc := B7.out.sets.lt
  have hlt7 := Q7.out.lt
  have Q9 := hid (show OfSt w w9 kv k r m g s P 3 p false (fun _ => false) (fun _ => false) (fun _ _ => false) from by
    have h := Q7.out.moveN F8.out
    rw [hw9]
    exact ⟨heap_setCells_ne (by omega) _ _ h.core, h.res.fr (Fr.many c 0 _) (by omega), heap_setCells_ne (by omega) _ _ h.node, h.rows.fr (Fr.many c 0 _) (by omega), h.sets.fr (Fr.many c 0 _) (by omega), Fr.setCells (by omega) _ _ h.fr, h.lt⟩)
  have A9 := hid (show KidB w9 s P b ga x from by rw [hw9]; exact (A7.out.fr F8.out (fun _ e => e.elim)).fr' (Fr.many c 0 _) (by omega) (by omega))
  have B9 := hid (show KidB w9 s P c gb y from ⟨by rw [hw9]; exact Blk66.put ⟨_, by rw [List.size_toArray, setsC_len], (B7.out.sets.fr F8.out (fun e => e)).blk⟩ _ _ _ _, by rw [hw9]; exact GB.out.fr (Fr.many c 0 _) (by omega), by omega⟩)
  clear hw9 hldk hmem hst hGb hF8 F8 Q7 A7 B7 GB hH hgb hadd hadd1
  obtain ⟨w7, hw7⟩ : ∃ w7, w7 = w9 := ⟨_, rfl⟩
  rw [← hw7] at Q9 A9 B9 ⊢
  have Q7 := Q9
  have A7 := A9
  have B7 := B9
  clear Q9 A9 B9 hw7
  have m0 := cell_of Q7.out.node 0 (v := .int .u8 3) rfl
  obtain ⟨T, hT⟩ : ∃ T : Nat → Nat → Bool, T = fun i j => x.next i j || y.next i j || (x.last i && y.first j) := ⟨_, rfl⟩
  have HT := hid hT
  clear hT
  go_upto_region 14 with fail
  have P7 := hid (show OfLp w w7 kv k r m g s P b c ga gb 3 p x y T 0 from ⟨by
    refine ⟨Q7.out.core, Q7.out.res, Q7.out.node, Q7.out.rows.congr (fun i hi => ?_), Q7.out.sets, Q7.out.fr, Q7.out.lt⟩
    funext j; simp [rowsTo], A7.out, B7.out⟩)
  clear Q7 A7 B7 m0
  go_wp2_with fail
  go_loopw [9] (fun i wr => ∃ j : Nat, j ≤ P ∧ i = .int .i64 j ∧ OfLp w wr kv k r m g s P b c ga gb 3 p x y T j) (fun i _ => P - (intOf i).toNat)
  case atStart => exact ⟨0, Nat.zero_le _, rfl, P7.out⟩
  case round =>
    obtain ⟨j, hj, rfl, hS⟩ := hrel
    have HS := hid hS
    clear hS
    have s65 := HS.out.st.sets.c65
    by_cases hjP : j < P
    · go_upto_region 17 with fail
      have l1 : ∀ w', Fr (fun j => j = g) wr w' → w'.cell? ⟨s, 65, none⟩ = some (.slice (some ⟨g, 0, none⟩) P P) := fun w' h => (HS.out.frG h).1
      have l2 : ∀ w', Fr (fun j => j = g) wr w' → w'.cell? ⟨b, 65, none⟩ = some (.slice (some ⟨ga, 0, none⟩) P P) := fun w' h => (HS.out.frG h).2.1.sets.c65
      have l3 : ∀ w', Fr (fun j => j = g) wr w' → w'.cell? ⟨c, 65, none⟩ = some (.slice (some ⟨gb, 0, none⟩) P P) := fun w' h => (HS.out.frG h).2.2.sets.c65
      have l4 : ∀ w', Fr (fun j => j = g) wr w' → ld 42 (.pointer (some ⟨ga, j * 32, none⟩)) w' = .ok (.value (setV (x.next j))) w' := fun w' h => ld_set ((HS.out.frG h).2.1.rows.row j hjP)
      have l5 : ∀ w', Fr (fun j => j = g) wr w' → ld 42 (.pointer (some ⟨gb, j * 32, none⟩)) w' = .ok (.value (setV (y.next j))) w' := fun w' h => ld_set ((HS.out.frG h).2.2.rows.row j hjP)
      have hjP' : (j : Int) < P := by omega
      have hj0 : (0 : Int) ≤ j := by omega
      clear s65
      refine wp_region_held_drew (S := (fun w' => Fr (fun j => j = g) wr w')) (by kernel_rfl) ?_ (fun hH => ?_)
      · exact Fr.drew (Fr.refl _ _)
      refine wpAnyH_take (i := 0) (oi := { dst := some 62, op := Op.fieldAddr 45 (Operand.tmp 6) 3, type := 0, pos := "ref.go:74", after := #[], guard := none }) (v := ?_) rfl (by kernel_rfl) (by kernel_rfl) (by kernel_rfl) (fun _ _ _ h => h) (Or.inl ⟨by rfl, ?_⟩) hH ?_
      rotate_left
      · intro w hSw; (try dsimp only at hSw); go_simp <;> with_reducible rfl
      try simp only [Act.put, List.setIfInBounds_toArray, List.set_cons_zero, List.set_cons_succ]
      refine wpAnyH_take (i := 1) (oi := { dst := some 63, op := Op.load 43 (Operand.tmp 62), type := 43, pos := "ref.go:74", after := #[{ on := 0, ground := Ground.data }], guard := none }) (v := ?_) rfl (by kernel_rfl) (by kernel_rfl) (by kernel_rfl) (fun _ _ _ h => h) (Or.inl ⟨by rfl, ?_⟩) hH ?_
      rotate_left
      · intro w hSw; (try dsimp only at hSw); go_simp <;> with_reducible rfl
      try simp only [Act.put, List.setIfInBounds_toArray, List.set_cons_zero, List.set_cons_succ]
      refine wpAnyH_take (i := 2) (oi := { dst := some 64, op := Op.move (Operand.tmp 9), type := 3, pos := "ref.go:74", after := #[], guard := none }) (v := ?_) rfl (by kernel_rfl) (by kernel_rfl) (by kernel_rfl) (fun _ _ _ h => h) (Or.inl ⟨by rfl, ?_⟩) hH ?_
      rotate_left
      · intro w hSw; (try dsimp only at hSw); go_simp <;> with_reducible rfl
      try simp only [Act.put, List.setIfInBounds_toArray, List.set_cons_zero, List.set_cons_succ]
      refine wpAnyH_take (i := 3) (oi := { dst := some 65, op := Op.fieldAddr 45 (Operand.tmp 7) 3, type := 0, pos := "ref.go:74", after := #[], guard := none }) (v := ?_) rfl (by kernel_rfl) (by kernel_rfl) (by kernel_rfl) (fun _ _ _ h => h) (Or.inl ⟨by rfl, ?_⟩) hH ?_
      rotate_left
      · intro w hSw; (try dsimp only at hSw); go_simp <;> with_reducible rfl
      try simp only [Act.put, List.setIfInBounds_toArray, List.set_cons_zero, List.set_cons_succ]
      refine wpAnyH_take (i := 4) (oi := { dst := some 66, op := Op.load 43 (Operand.tmp 65), type := 43, pos := "ref.go:74", after := #[{ on := 3, ground := Ground.data }], guard := none }) (v := ?_) rfl (by kernel_rfl) (by kernel_rfl) (by kernel_rfl) (fun _ _ _ h => h) (Or.inl ⟨by rfl, ?_⟩) hH ?_
      rotate_left
      · intro w hSw; (try dsimp only at hSw); go_simp <;> with_reducible rfl
      try simp only [Act.put, List.setIfInBounds_toArray, List.set_cons_zero, List.set_cons_succ]
      refine wpAnyH_take (i := 5) (oi := { dst := some 67, op := Op.move (Operand.tmp 9), type := 3, pos := "ref.go:74", after := #[], guard := none }) (v := ?_) rfl (by kernel_rfl) (by kernel_rfl) (by kernel_rfl) (fun _ _ _ h => h) (Or.inl ⟨by rfl, ?_⟩) hH ?_
      rotate_left
      · intro w hSw; (try dsimp only at hSw); go_simp <;> with_reducible rfl
      try simp only [Act.put, List.setIfInBounds_toArray, List.set_cons_zero, List.set_cons_succ]
      refine wpAnyH_take (i := 6) (oi := { dst := some 68, op := Op.indexAddr 43 (Operand.tmp 66) (Operand.tmp 67), type := 0, pos := "ref.go:74", after := #[{ on := 4, ground := Ground.data }, { on := 5, ground := Ground.data }], guard := none }) (v := ?_) rfl (by kernel_rfl) (by kernel_rfl) (by kernel_rfl) (fun _ _ _ h => h) (Or.inl ⟨by rfl, ?_⟩) hH ?_
      rotate_left
      · intro w hSw; (try dsimp only at hSw); go_simp <;> with_reducible rfl
      try simp only [Act.put, List.setIfInBounds_toArray, List.set_cons_zero, List.set_cons_succ]
      refine wpAnyH_take (i := 7) (oi := { dst := some 69, op := Op.load 42 (Operand.tmp 68), type := 42, pos := "ref.go:74", after := #[{ on := 6, ground := Ground.data }], guard := none }) (v := ?_) rfl (by kernel_rfl) (by kernel_rfl) (by kernel_rfl) (fun _ _ _ h => h) (Or.inl ⟨by rfl, ?_⟩) hH ?_
      rotate_left
      · intro w hSw; (try dsimp only at hSw); go_simp <;> with_reducible rfl
      try simp only [Act.put, List.setIfInBounds_toArray, List.set_cons_zero, List.set_cons_succ]
      refine wpAnyH_take (i := 8) (oi := { dst := some 70, op := Op.fieldAddr 45 (Operand.tmp 8) 3, type := 0, pos := "ref.go:74", after := #[], guard := none }) (v := ?_) rfl (by kernel_rfl) (by kernel_rfl) (by kernel_rfl) (fun _ _ _ h => h) (Or.inl ⟨by rfl, ?_⟩) hH ?_
      rotate_left
      · intro w hSw; (try dsimp only at hSw); go_simp <;> with_reducible rfl
      try simp only [Act.put, List.setIfInBounds_toArray, List.set_cons_zero, List.set_cons_succ]
      refine wpAnyH_take (i := 9) (oi := { dst := some 71, op := Op.load 43 (Operand.tmp 70), type := 43, pos := "ref.go:74", after := #[{ on := 8, ground := Ground.data }], guard := none }) (v := ?_) rfl (by kernel_rfl) (by kernel_rfl) (by kernel_rfl) (fun _ _ _ h => h) (Or.inl ⟨by rfl, ?_⟩) hH ?_
      rotate_left
      · intro w hSw; (try dsimp only at hSw); go_simp <;> with_reducible rfl
      try simp only [Act.put, List.setIfInBounds_toArray, List.set_cons_zero, List.set_cons_succ]
      refine wpAnyH_take (i := 10) (oi := { dst := some 72, op := Op.move (Operand.tmp 9), type := 3, pos := "ref.go:74", after := #[], guard := none }) (v := ?_) rfl (by kernel_rfl) (by kernel_rfl) (by kernel_rfl) (fun _ _ _ h => h) (Or.inl ⟨by rfl, ?_⟩) hH ?_
      rotate_left
      · intro w hSw; (try dsimp only at hSw); go_simp <;> with_reducible rfl
      try simp only [Act.put, List.setIfInBounds_toArray, List.set_cons_zero, List.set_cons_succ]
      refine wpAnyH_take (i := 11) (oi := { dst := some 73, op := Op.indexAddr 43 (Operand.tmp 71) (Operand.tmp 72), type := 0, pos := "ref.go:74", after := #[{ on := 9, ground := Ground.data }, { on := 10, ground := Ground.data }], guard := none }) (v := ?_) rfl (by kernel_rfl) (by kernel_rfl) (by kernel_rfl) (fun _ _ _ h => h) (Or.inl ⟨by rfl, ?_⟩) hH ?_
      rotate_left
      · intro w hSw; (try dsimp only at hSw); go_simp <;> with_reducible rfl
      try simp only [Act.put, List.setIfInBounds_toArray, List.set_cons_zero, List.set_cons_succ]
      refine wpAnyH_take (i := 12) (oi := { dst := some 74, op := Op.load 42 (Operand.tmp 73), type := 42, pos := "ref.go:74", after := #[{ on := 11, ground := Ground.data }], guard := none }) (v := ?_) rfl (by kernel_rfl) (by kernel_rfl) (by kernel_rfl) (fun _ _ _ h => h) (Or.inl ⟨by rfl, ?_⟩) hH ?_
      rotate_left
      · intro w hSw; (try dsimp only at hSw); go_simp <;> with_reducible rfl
      try simp only [Act.put, List.setIfInBounds_toArray, List.set_cons_zero, List.set_cons_succ]
      refine wpAnyH_ready (rs := [13]) (by kernel_rfl) (by simp) ?_
      refine AllReadyH.cons (o := { dst := some 75, op := Op.call { callee := Callee.value (Operand.func 36), args := #[Operand.tmp 69, Operand.tmp 74], argTypes := #[42, 42] }, type := 42, pos := "ref.go:74", after := #[{ on := 7, ground := Ground.data }, { on := 12, ground := Ground.data }], guard := none }) rfl (fun K hK => ?_) AllReadyH.nil
      go_simp
      go_at_call 36
      refine (either_ok _ _ _).mono ?_
      rintro e w8 ⟨rfl, hF8⟩
      have hst := fun f => st_set (f := f) ((HS.out.fr (((Fr.refl _ wr).drew).trans' hF8)).st.rows.th j hjP)
      go_simp
      refine hK.out _ _ ?_ (fun hH => ?_)
      · exact hH.trans' hF8.quiet
      clear hK K
      try simp only [Act.put, List.setIfInBounds_toArray, List.set_cons_zero, List.set_cons_succ]
      refine wpAnyH_take (i := 14) (oi := { dst := some 76, op := Op.indexAddr 43 (Operand.tmp 63) (Operand.tmp 64), type := 0, pos := "ref.go:74", after := #[{ on := 1, ground := Ground.data }, { on := 2, ground := Ground.data }, { on := 0, ground := Ground.phase }, { on := 1, ground := Ground.phase }, { on := 2, ground := Ground.phase }, { on := 3, ground := Ground.phase }, { on := 4, ground := Ground.phase }, { on := 5, ground := Ground.phase }, { on := 6, ground := Ground.phase }, { on := 7, ground := Ground.phase }, { on := 8, ground := Ground.phase }, { on := 9, ground := Ground.phase }, { on := 10, ground := Ground.phase }, { on := 11, ground := Ground.phase }, { on := 12, ground := Ground.phase }, { on := 13, ground := Ground.phase }], guard := none }) (v := ?_) rfl (by kernel_rfl) (by kernel_rfl) (by kernel_rfl) (fun _ _ _ h => h) (Or.inl ⟨by rfl, ?_⟩) hH ?_
      rotate_left
      · intro w hSw; (try dsimp only at hSw); go_simp <;> with_reducible rfl
      try simp only [Act.put, List.setIfInBounds_toArray, List.set_cons_zero, List.set_cons_succ]
      refine wpAnyH_ready (rs := [15]) (by kernel_rfl) (by simp) ?_
      refine AllReadyH.cons (o := { dst := none, op := Op.store 42 (Operand.tmp 76) (Operand.tmp 75), type := 0, pos := "ref.go:74", after := #[{ on := 14, ground := Ground.data }, { on := 13, ground := Ground.data }, { on := 13, ground := Ground.chain }, { on := 0, ground := Ground.phase }, { on := 1, ground := Ground.phase }, { on := 2, ground := Ground.phase }, { on := 3, ground := Ground.phase }, { on := 4, ground := Ground.phase }, { on := 5, ground := Ground.phase }, { on := 6, ground := Ground.phase }, { on := 7, ground := Ground.phase }, { on := 8, ground := Ground.phase }, { on := 9, ground := Ground.phase }, { on := 10, ground := Ground.phase }, { on := 11, ground := Ground.phase }, { on := 12, ground := Ground.phase }, { on := 13, ground := Ground.phase }], guard := none }) rfl (fun K hK => ?_) AllReadyH.nil
      go_simp
      refine hK.out _ _ ?_ (fun hH => ?_)
      · exact hH.trans' (Fr.many g _ _)
      clear hK K
      refine wpAnyH_done (by kernel_rfl) ?_ _
      obtain ⟨w9, hw9⟩ : ∃ w9, w9 = w8.setCells g (j * 32) (bs (fun i => x.next j i || y.next j i) 32) := ⟨_, rfl⟩
      rw [← hw9]
      obtain ⟨Q9, A9, B9⟩ := HS.out.mid hjP _ (((Fr.refl _ wr).drew).trans' hF8) hw9
      have Q9 := hid Q9
      have A9 := hid A9
      have B9 := hid B9
      clear l1 l2 l3 l4 l5 hst hw9 hH hF8 HS
      have m0 := cell_of Q9.out.node 0 (v := .int .u8 3) rfl
      have ml := A9.out.sets.cl j (by omega)
      cases hxl : x.last j with
      | true =>
        rw [hxl] at ml
        go_upto_region 19 with fail
        have l1 : ∀ w', Fr (fun j => j = g) w9 w' → w'.cell? ⟨s, 65, none⟩ = some (.slice (some ⟨g, 0, none⟩) P P) := fun w' h => h.cell Q9.out.sets.c65 (by have := Q9.out.lt; simp only; omega)
        have l2 : ld 42 (.pointer (some ⟨g, j * 32, none⟩)) w9.drew = .ok (.value (setV (fun i => x.next j i || y.next j i))) w9.drew := ld_set (f := fun i => x.next j i || y.next j i) (by have := Q9.out.rows.row j hjP; rw [rowsMid_at] at this; exact ⟨by simpa using this.at_⟩)
        have l3 : ∀ w', Fr (fun j => j = g) w9 w' → ld 42 (.pointer (some ⟨c, 1, none⟩)) w' = .ok (.value (setV y.first)) w' := fun w' h => ld_set (B9.out.fr h (fun _ e => by have := Q9.out.lt; omega)).sets.rowF
        clear ml m0
        refine wp_region_held_drew (S := (fun w' => Fr (fun j => j = g) w9 w')) (by kernel_rfl) ?_ (fun hH => ?_)
        · exact Fr.drew (Fr.refl _ _)
        refine wpAnyH_take (i := 0) (oi := { dst := some 86, op := Op.fieldAddr 45 (Operand.tmp 6) 3, type := 0, pos := "ref.go:76", after := #[], guard := none }) (v := ?_) rfl (by kernel_rfl) (by kernel_rfl) (by kernel_rfl) (fun _ _ _ h => h) (Or.inl ⟨by rfl, ?_⟩) hH ?_
        rotate_left
        · intro w hSw; (try dsimp only at hSw); go_simp <;> with_reducible rfl
        try simp only [Act.put, List.setIfInBounds_toArray, List.set_cons_zero, List.set_cons_succ]
        refine wpAnyH_take (i := 1) (oi := { dst := some 87, op := Op.load 43 (Operand.tmp 86), type := 43, pos := "ref.go:76", after := #[{ on := 0, ground := Ground.data }], guard := none }) (v := ?_) rfl (by kernel_rfl) (by kernel_rfl) (by kernel_rfl) (fun _ _ _ h => h) (Or.inl ⟨by rfl, ?_⟩) hH ?_
        rotate_left
        · intro w hSw; (try dsimp only at hSw); go_simp <;> with_reducible rfl
        try simp only [Act.put, List.setIfInBounds_toArray, List.set_cons_zero, List.set_cons_succ]
        refine wpAnyH_take (i := 2) (oi := { dst := some 88, op := Op.move (Operand.tmp 9), type := 3, pos := "ref.go:76", after := #[], guard := none }) (v := ?_) rfl (by kernel_rfl) (by kernel_rfl) (by kernel_rfl) (fun _ _ _ h => h) (Or.inl ⟨by rfl, ?_⟩) hH ?_
        rotate_left
        · intro w hSw; (try dsimp only at hSw); go_simp <;> with_reducible rfl
        try simp only [Act.put, List.setIfInBounds_toArray, List.set_cons_zero, List.set_cons_succ]
        refine wpAnyH_take (i := 3) (oi := { dst := some 89, op := Op.fieldAddr 45 (Operand.tmp 6) 3, type := 0, pos := "ref.go:76", after := #[], guard := none }) (v := ?_) rfl (by kernel_rfl) (by kernel_rfl) (by kernel_rfl) (fun _ _ _ h => h) (Or.inl ⟨by rfl, ?_⟩) hH ?_
        rotate_left
        · intro w hSw; (try dsimp only at hSw); go_simp <;> with_reducible rfl
        try simp only [Act.put, List.setIfInBounds_toArray, List.set_cons_zero, List.set_cons_succ]
        refine wpAnyH_take (i := 4) (oi := { dst := some 90, op := Op.load 43 (Operand.tmp 89), type := 43, pos := "ref.go:76", after := #[{ on := 3, ground := Ground.data }], guard := none }) (v := ?_) rfl (by kernel_rfl) (by kernel_rfl) (by kernel_rfl) (fun _ _ _ h => h) (Or.inl ⟨by rfl, ?_⟩) hH ?_
        rotate_left
        · intro w hSw; (try dsimp only at hSw); go_simp <;> with_reducible rfl
        try simp only [Act.put, List.setIfInBounds_toArray, List.set_cons_zero, List.set_cons_succ]
        refine wpAnyH_take (i := 5) (oi := { dst := some 91, op := Op.move (Operand.tmp 9), type := 3, pos := "ref.go:76", after := #[], guard := none }) (v := ?_) rfl (by kernel_rfl) (by kernel_rfl) (by kernel_rfl) (fun _ _ _ h => h) (Or.inl ⟨by rfl, ?_⟩) hH ?_
        rotate_left
        · intro w hSw; (try dsimp only at hSw); go_simp <;> with_reducible rfl
        try simp only [Act.put, List.setIfInBounds_toArray, List.set_cons_zero, List.set_cons_succ]
        refine wpAnyH_take (i := 6) (oi := { dst := some 92, op := Op.indexAddr 43 (Operand.tmp 90) (Operand.tmp 91), type := 0, pos := "ref.go:76", after := #[{ on := 4, ground := Ground.data }, { on := 5, ground := Ground.data }], guard := none }) (v := ?_) rfl (by kernel_rfl) (by kernel_rfl) (by kernel_rfl) (fun _ _ _ h => h) (Or.inl ⟨by rfl, ?_⟩) hH ?_
        rotate_left
        · intro w hSw; (try dsimp only at hSw); go_simp <;> with_reducible rfl
        try simp only [Act.put, List.setIfInBounds_toArray, List.set_cons_zero, List.set_cons_succ]
        refine wpAnyH_take (i := 8) (oi := { dst := some 94, op := Op.fieldAddr 45 (Operand.tmp 8) 1, type := 0, pos := "ref.go:76", after := #[], guard := none }) (v := ?_) rfl (by kernel_rfl) (by kernel_rfl) (by kernel_rfl) (fun _ _ _ h => h) (Or.inl ⟨by rfl, ?_⟩) hH ?_
        rotate_left
        · intro w hSw; (try dsimp only at hSw); go_simp <;> with_reducible rfl
        try simp only [Act.put, List.setIfInBounds_toArray, List.set_cons_zero, List.set_cons_succ]
        refine wpAnyH_take (i := 9) (oi := { dst := some 95, op := Op.load 42 (Operand.tmp 94), type := 42, pos := "ref.go:76", after := #[{ on := 8, ground := Ground.data }], guard := none }) (v := ?_) rfl (by kernel_rfl) (by kernel_rfl) (by kernel_rfl) (fun _ _ _ h => h) (Or.inl ⟨by rfl, ?_⟩) hH ?_
        rotate_left
        · intro w hSw; (try dsimp only at hSw); go_simp <;> with_reducible rfl
        try simp only [Act.put, List.setIfInBounds_toArray, List.set_cons_zero, List.set_cons_succ]
        refine wpAnyH_ready (rs := [7]) (by kernel_rfl) (by simp) ?_
        refine AllReadyH.cons (o := { dst := some 93, op := Op.load 42 (Operand.tmp 92), type := 42, pos := "ref.go:76", after := #[{ on := 6, ground := Ground.data }], guard := none }) rfl (fun K hK => ?_) AllReadyH.nil
        go_simp
        refine hK.out _ _ ?_ (fun hH => ?_)
        · exact hH
        clear hK K
        try simp only [Act.put, List.setIfInBounds_toArray, List.set_cons_zero, List.set_cons_succ]
        refine wpAnyH_ready (rs := [10]) (by kernel_rfl) (by simp) ?_
        refine AllReadyH.cons (o := { dst := some 96, op := Op.call { callee := Callee.value (Operand.func 36), args := #[Operand.tmp 93, Operand.tmp 95], argTypes := #[42, 42] }, type := 42, pos := "ref.go:76", after := #[{ on := 7, ground := Ground.data }, { on := 9, ground := Ground.data }], guard := none }) rfl (fun K hK => ?_) AllReadyH.nil
        go_simp
        go_at_call 36
        refine (either_ok _ _ _).mono ?_
        rintro e w10 ⟨rfl, hF10⟩
        have hst := fun f => st_set (f := f) ((Q9.out.moveN (((Fr.refl _ w9).drew).trans' hF10)).rows.th j hjP)
        go_simp
        refine hK.out _ _ ?_ (fun hH => ?_)
        · exact hH.trans' hF10.quiet
        clear hK K
        try simp only [Act.put, List.setIfInBounds_toArray, List.set_cons_zero, List.set_cons_succ]
        refine wpAnyH_take (i := 11) (oi := { dst := some 97, op := Op.indexAddr 43 (Operand.tmp 87) (Operand.tmp 88), type := 0, pos := "ref.go:76", after := #[{ on := 1, ground := Ground.data }, { on := 2, ground := Ground.data }, { on := 0, ground := Ground.phase }, { on := 1, ground := Ground.phase }, { on := 2, ground := Ground.phase }, { on := 3, ground := Ground.phase }, { on := 4, ground := Ground.phase }, { on := 5, ground := Ground.phase }, { on := 6, ground := Ground.phase }, { on := 7, ground := Ground.phase }, { on := 8, ground := Ground.phase }, { on := 9, ground := Ground.phase }, { on := 10, ground := Ground.phase }], guard := none }) (v := ?_) rfl (by kernel_rfl) (by kernel_rfl) (by kernel_rfl) (fun _ _ _ h => h) (Or.inl ⟨by rfl, ?_⟩) hH ?_
        rotate_left
        · intro w hSw; (try dsimp only at hSw); go_simp <;> with_reducible rfl
        try simp only [Act.put, List.setIfInBounds_toArray, List.set_cons_zero, List.set_cons_succ]
        refine wpAnyH_ready (rs := [12]) (by kernel_rfl) (by simp) ?_
        refine AllReadyH.cons (o := { dst := none, op := Op.store 42 (Operand.tmp 97) (Operand.tmp 96), type := 0, pos := "ref.go:76", after := #[{ on := 11, ground := Ground.data }, { on := 10, ground := Ground.data }, { on := 10, ground := Ground.chain }, { on := 0, ground := Ground.phase }, { on := 1, ground := Ground.phase }, { on := 2, ground := Ground.phase }, { on := 3, ground := Ground.phase }, { on := 4, ground := Ground.phase }, { on := 5, ground := Ground.phase }, { on := 6, ground := Ground.phase }, { on := 7, ground := Ground.phase }, { on := 8, ground := Ground.phase }, { on := 9, ground := Ground.phase }, { on := 10, ground := Ground.phase }], guard := none }) rfl (fun K hK => ?_) AllReadyH.nil
        go_simp
        refine hK.out _ _ ?_ (fun hH => ?_)
        · exact hH.trans' (Fr.many g _ _)
        clear hK K
        refine wpAnyH_done (by kernel_rfl) ?_ _
        have hL := Q9.out.again A9.out B9.out hjP (fun i => x.next j i || y.next j i || y.first i) (((Fr.refl _ w9).drew).trans' hF10) rfl (T := T) (fun q => by rw [HT.out]; simp [hxl])
        have HL2 := hid hL
        obtain ⟨w11, hw11⟩ : ∃ w11, w11 = w10.setCells g (j * 32) (bs (fun i => x.next j i || y.next j i || y.first i) 32) := ⟨_, rfl⟩
        rw [← hw11] at HL2 ⊢
        clear l1 l2 l3 hst hL hw11 hH hF10 Q9 A9 B9
        go_wp2_with fail
        exact ⟨⟨j + 1, by omega, rfl, HL2.out⟩, by simp [intOf]; omega⟩
      | false =>
        rw [hxl] at ml
        go_wp2_with fail
        exact ⟨⟨j + 1, by omega, rfl, Q9.out.next A9.out B9.out (fun q => by rw [HT.out]; simp [hxl])⟩, by simp [intOf]; omega⟩

    · obtain rfl : j = P := by omega
      have E9 := hid (show OfEn w wr kv k r m g s j b c ga gb 3 p x y T false (fun _ => false) (fun _ => false) from ⟨HS.out.st, HS.out.ka, HS.out.kb⟩)
      clear HS s65
      have m0 := cell_of E9.out.st.node 0 (v := .int .u8 3) rfl
      have s0 := E9.out.st.sets.c0
      have f0 := E9.out.st.sets.fz 0
      have a0 := E9.out.ka.sets.c0
      have b0 := E9.out.kb.sets.c0
      have s65 := E9.out.st.sets.c65
      cases hxn : x.null with
      | true =>
        rw [hxn] at a0
        go_upto_region 22 with fail
        have E10 := hid (E9.out.set0 y.null)
        obtain ⟨w10, hw10⟩ : ∃ w10, w10 = wr.setCell ⟨s, 0, none⟩ (.bool y.null) := ⟨_, rfl⟩
        rw [← hw10] at E10 ⊢
        clear hw10 E9 m0 s0 f0 a0 b0 s65
        have l1 : ∀ w', Fr (fun j => j = s) w10 w' → ld 42 (.pointer (some ⟨b, 1, none⟩)) w' = .ok (.value (setV x.first)) w' := fun w' h => ld_set (E10.out.kids h).1.sets.rowF
        have l2 : ∀ w', Fr (fun j => j = s) w10 w' → ld 42 (.pointer (some ⟨c, 33, none⟩)) w' = .ok (.value (setV y.last)) w' := fun w' h => ld_set (E10.out.kids h).2.sets.rowL
        have hst1 := st_set (f := x.first) (E10.out.fr ((Fr.refl _ w10).drew)).st.sets.thF
        have hst2 := st_set (f := y.last) ((E10.out.fr ((Fr.refl _ w10).drew)).putF x.first).st.sets.thL
        refine wp_region_held_drew (S := (fun w' => Fr (fun j => j = s) w10 w')) (by kernel_rfl) ?_ (fun hH => ?_)
        · exact Fr.drew (Fr.refl _ _)
        refine wpAnyH_take (i := 0) (oi := { dst := some 108, op := Op.fieldAddr 45 (Operand.tmp 7) 1, type := 0, pos := "ref.go:81", after := #[], guard := none }) (v := ?_) rfl (by kernel_rfl) (by kernel_rfl) (by kernel_rfl) (fun _ _ _ h => h) (Or.inl ⟨by rfl, ?_⟩) hH ?_
        rotate_left
        · intro w hSw; (try dsimp only at hSw); go_simp <;> with_reducible rfl
        try simp only [Act.put, List.setIfInBounds_toArray, List.set_cons_zero, List.set_cons_succ]
        refine wpAnyH_take (i := 1) (oi := { dst := some 109, op := Op.load 42 (Operand.tmp 108), type := 42, pos := "ref.go:81", after := #[{ on := 0, ground := Ground.data }], guard := none }) (v := ?_) rfl (by kernel_rfl) (by kernel_rfl) (by kernel_rfl) (fun _ _ _ h => h) (Or.inl ⟨by rfl, ?_⟩) hH ?_
        rotate_left
        · intro w hSw; (try dsimp only at hSw); go_simp <;> with_reducible rfl
        try simp only [Act.put, List.setIfInBounds_toArray, List.set_cons_zero, List.set_cons_succ]
        refine wpAnyH_take (i := 2) (oi := { dst := some 110, op := Op.fieldAddr 45 (Operand.tmp 8) 2, type := 0, pos := "ref.go:81", after := #[{ on := 5, ground := Ground.gcOnly Departure.lateStores }], guard := none }) (v := ?_) rfl (by kernel_rfl) (by kernel_rfl) (by kernel_rfl) (fun _ _ _ h => h) (Or.inl ⟨by rfl, ?_⟩) hH ?_
        rotate_left
        · intro w hSw; (try dsimp only at hSw); go_simp <;> with_reducible rfl
        try simp only [Act.put, List.setIfInBounds_toArray, List.set_cons_zero, List.set_cons_succ]
        refine wpAnyH_take (i := 3) (oi := { dst := some 111, op := Op.load 42 (Operand.tmp 110), type := 42, pos := "ref.go:81", after := #[{ on := 2, ground := Ground.data }, { on := 5, ground := Ground.gcOnly Departure.lateStores }], guard := none }) (v := ?_) rfl (by kernel_rfl) (by kernel_rfl) (by kernel_rfl) (fun _ _ _ h => h) (Or.inl ⟨by rfl, ?_⟩) hH ?_
        rotate_left
        · intro w hSw; (try dsimp only at hSw); go_simp <;> with_reducible rfl
        try simp only [Act.put, List.setIfInBounds_toArray, List.set_cons_zero, List.set_cons_succ]
        refine wpAnyH_take (i := 4) (oi := { dst := some 112, op := Op.fieldAddr 45 (Operand.tmp 6) 1, type := 0, pos := "ref.go:81", after := #[{ on := 0, ground := Ground.phase }, { on := 1, ground := Ground.phase }, { on := 2, ground := Ground.textOnly Departure.lateStores }, { on := 3, ground := Ground.textOnly Departure.lateStores }], guard := none }) (v := ?_) rfl (by kernel_rfl) (by kernel_rfl) (by kernel_rfl) (fun _ _ _ h => h) (Or.inl ⟨by rfl, ?_⟩) hH ?_
        rotate_left
        · intro w hSw; (try dsimp only at hSw); go_simp <;> with_reducible rfl
        try simp only [Act.put, List.setIfInBounds_toArray, List.set_cons_zero, List.set_cons_succ]
        refine wpAnyH_ready (rs := [5]) (by kernel_rfl) (by simp) ?_
        refine AllReadyH.cons (o := { dst := none, op := Op.store 42 (Operand.tmp 112) (Operand.tmp 109), type := 0, pos := "ref.go:81", after := #[{ on := 4, ground := Ground.data }, { on := 1, ground := Ground.data }, { on := 0, ground := Ground.phase }, { on := 1, ground := Ground.phase }, { on := 2, ground := Ground.textOnly Departure.lateStores }, { on := 3, ground := Ground.textOnly Departure.lateStores }], guard := none }) rfl (fun K hK => ?_) AllReadyH.nil
        go_simp
        refine hK.out _ _ ?_ (fun hH => ?_)
        · exact hH.trans' (Fr.many s _ _)
        clear hK K
        refine wpAnyH_take (i := 6) (oi := { dst := some 113, op := Op.fieldAddr 45 (Operand.tmp 6) 2, type := 0, pos := "ref.go:81", after := #[{ on := 0, ground := Ground.phase }, { on := 1, ground := Ground.phase }, { on := 2, ground := Ground.phase }, { on := 3, ground := Ground.phase }, { on := 4, ground := Ground.phase }, { on := 5, ground := Ground.phase }], guard := none }) (v := ?_) rfl (by kernel_rfl) (by kernel_rfl) (by kernel_rfl) (fun _ _ _ h => h) (Or.inl ⟨by rfl, ?_⟩) hH ?_
        rotate_left
        · intro w hSw; (try dsimp only at hSw); go_simp <;> with_reducible rfl
        try simp only [Act.put, List.setIfInBounds_toArray, List.set_cons_zero, List.set_cons_succ]
        refine wpAnyH_ready (rs := [7]) (by kernel_rfl) (by simp) ?_
        refine AllReadyH.cons (o := { dst := none, op := Op.store 42 (Operand.tmp 113) (Operand.tmp 111), type := 0, pos := "ref.go:81", after := #[{ on := 6, ground := Ground.data }, { on := 3, ground := Ground.data }, { on := 5, ground := Ground.chain }, { on := 0, ground := Ground.phase }, { on := 1, ground := Ground.phase }, { on := 2, ground := Ground.phase }, { on := 3, ground := Ground.phase }, { on := 4, ground := Ground.phase }, { on := 5, ground := Ground.phase }], guard := none }) rfl (fun K hK => ?_) AllReadyH.nil
        go_simp
        refine hK.out _ _ ?_ (fun hH => ?_)
        · exact hH.trans' (Fr.many s _ _)
        clear hK K
        refine wpAnyH_done (by kernel_rfl) ?_ _
        have E11 := hid (((E10.out.fr ((Fr.refl _ w10).drew)).putF x.first).putL y.last)
        obtain ⟨w11, hw11⟩ : ∃ w11, w11 = (w10.drew.setCells s 1 (bs x.first 32)).setCells s 33 (bs y.last 32) := ⟨_, rfl⟩
        rw [← hw11] at E11 ⊢
        clear hw11 l1 l2 hst1 hst2 hH E10
        have a0 := E11.out.ka.sets.c0
        rw [hxn] at a0
        have hl1 := ld_set E11.out.ka.sets.rowF
        have hl2 := ld_set E11.out.kb.sets.rowF
        go_upto_region 25 with (go_at_call 36; refine (either_ok _ _ _).mono ?_; rintro e w12 ⟨rfl, hF12⟩; have hst := fun f => st_set (f := f) (E11.out.fr hF12).st.sets.thF)
        have E12 := hid ((E11.out.fr hF12).putF (fun i => x.first i || y.first i))
        obtain ⟨w13, hw13⟩ : ∃ w13, w13 = w12.setCells s 1 (bs (fun i => x.first i || y.first i) 32) := ⟨_, rfl⟩
        rw [← hw13] at E12 ⊢
        clear hw13 hl1 hl2 hst hF12 E11 a0
        have b0 := E12.out.kb.sets.c0
        cases hyn : y.null with
        | true =>
          rw [hyn] at b0 E12
          have hl1 := ld_set E12.out.ka.sets.rowL
          have hl2 := ld_set E12.out.kb.sets.rowL
          go_upto_region 27 with (go_at_call 36; refine (either_ok _ _ _).mono ?_; rintro e w14 ⟨rfl, hF14⟩; have hst := fun f => st_set (f := f) (E12.out.fr hF14).st.sets.thL)
          have E14 := hid ((E12.out.fr hF14).putL (fun i => x.last i || y.last i))
          obtain ⟨w15, hw15⟩ : ∃ w15, w15 = w14.setCells s 33 (bs (fun i => x.last i || y.last i) 32) := ⟨_, rfl⟩
          rw [← hw15] at E14 ⊢
          clear hw15 hl1 hl2 hst hF14 E12 b0
          have hld := ld_sets E14.out.st.sets
          have hst := st_sets (n := true) (f := fun i => x.first i || y.first i) (l := fun i => x.last i || y.last i) (v := .slice (some ⟨g, 0, none⟩) j j) rfl E14.out.st.res
          go_wp2_with fail
          have hd := E14.out.st.done (t := (.cat p x y)) (by simp [Tr.null, hxn, hyn]) (fun i _ => by simp [Tr.first, hxn]) (fun i _ => by simp [Tr.last, hyn, Bool.or_comm]) (fun i hi => by funext q; simp only [rowsTo, hi, decide_true, Bool.true_and, HT.out, Tr.next])
          refine bodyPost_ret (v := setsV true (fun i => x.first i || y.first i) (fun i => x.last i || y.last i) (.slice (some ⟨g, 0, none⟩) j j)) ?_ rfl ?_
          · exact E14.out.st.result _ (by rfl)
          · exact ⟨g, hd⟩
        | false =>
          rw [hyn] at b0 E12
          go_upto_region 27 with fail
          have E14 := E12
          clear E12 b0
          have hld := ld_sets E14.out.st.sets
          have hst := st_sets (n := false) (f := fun i => x.first i || y.first i) (l := y.last) (v := .slice (some ⟨g, 0, none⟩) j j) rfl E14.out.st.res
          go_wp2_with fail
          have hd := E14.out.st.done (t := (.cat p x y)) (by simp [Tr.null, hxn, hyn]) (fun i _ => by simp [Tr.first, hxn]) (fun i _ => by simp [Tr.last, hyn]) (fun i hi => by funext q; simp only [rowsTo, hi, decide_true, Bool.true_and, HT.out, Tr.next])
          refine bodyPost_ret (v := setsV false (fun i => x.first i || y.first i) (y.last) (.slice (some ⟨g, 0, none⟩) j j)) ?_ rfl ?_
          · exact E14.out.st.result _ (by rfl)
          · exact ⟨g, hd⟩
      | false =>
        rw [hxn] at a0
        go_upto_region 22 with fail
        have E10 := hid (E9.out.set0 false)
        obtain ⟨w10, hw10⟩ : ∃ w10, w10 = wr.setCell ⟨s, 0, none⟩ (.bool false) := ⟨_, rfl⟩
        rw [← hw10] at E10 ⊢
        clear hw10 E9 m0 s0 f0 a0 b0 s65
        have l1 : ∀ w', Fr (fun j => j = s) w10 w' → ld 42 (.pointer (some ⟨b, 1, none⟩)) w' = .ok (.value (setV x.first)) w' := fun w' h => ld_set (E10.out.kids h).1.sets.rowF
        have l2 : ∀ w', Fr (fun j => j = s) w10 w' → ld 42 (.pointer (some ⟨c, 33, none⟩)) w' = .ok (.value (setV y.last)) w' := fun w' h => ld_set (E10.out.kids h).2.sets.rowL
        have hst1 := st_set (f := x.first) (E10.out.fr ((Fr.refl _ w10).drew)).st.sets.thF
        have hst2 := st_set (f := y.last) ((E10.out.fr ((Fr.refl _ w10).drew)).putF x.first).st.sets.thL
        refine wp_region_held_drew (S := (fun w' => Fr (fun j => j = s) w10 w')) (by kernel_rfl) ?_ (fun hH => ?_)
        · exact Fr.drew (Fr.refl _ _)
        refine wpAnyH_take (i := 0) (oi := { dst := some 108, op := Op.fieldAddr 45 (Operand.tmp 7) 1, type := 0, pos := "ref.go:81", after := #[], guard := none }) (v := ?_) rfl (by kernel_rfl) (by kernel_rfl) (by kernel_rfl) (fun _ _ _ h => h) (Or.inl ⟨by rfl, ?_⟩) hH ?_
        rotate_left
        · intro w hSw; (try dsimp only at hSw); go_simp <;> with_reducible rfl
        try simp only [Act.put, List.setIfInBounds_toArray, List.set_cons_zero, List.set_cons_succ]
        refine wpAnyH_take (i := 1) (oi := { dst := some 109, op := Op.load 42 (Operand.tmp 108), type := 42, pos := "ref.go:81", after := #[{ on := 0, ground := Ground.data }], guard := none }) (v := ?_) rfl (by kernel_rfl) (by kernel_rfl) (by kernel_rfl) (fun _ _ _ h => h) (Or.inl ⟨by rfl, ?_⟩) hH ?_
        rotate_left
        · intro w hSw; (try dsimp only at hSw); go_simp <;> with_reducible rfl
        try simp only [Act.put, List.setIfInBounds_toArray, List.set_cons_zero, List.set_cons_succ]
        refine wpAnyH_take (i := 2) (oi := { dst := some 110, op := Op.fieldAddr 45 (Operand.tmp 8) 2, type := 0, pos := "ref.go:81", after := #[{ on := 5, ground := Ground.gcOnly Departure.lateStores }], guard := none }) (v := ?_) rfl (by kernel_rfl) (by kernel_rfl) (by kernel_rfl) (fun _ _ _ h => h) (Or.inl ⟨by rfl, ?_⟩) hH ?_
        rotate_left
        · intro w hSw; (try dsimp only at hSw); go_simp <;> with_reducible rfl
        try simp only [Act.put, List.setIfInBounds_toArray, List.set_cons_zero, List.set_cons_succ]
        refine wpAnyH_take (i := 3) (oi := { dst := some 111, op := Op.load 42 (Operand.tmp 110), type := 42, pos := "ref.go:81", after := #[{ on := 2, ground := Ground.data }, { on := 5, ground := Ground.gcOnly Departure.lateStores }], guard := none }) (v := ?_) rfl (by kernel_rfl) (by kernel_rfl) (by kernel_rfl) (fun _ _ _ h => h) (Or.inl ⟨by rfl, ?_⟩) hH ?_
        rotate_left
        · intro w hSw; (try dsimp only at hSw); go_simp <;> with_reducible rfl
        try simp only [Act.put, List.setIfInBounds_toArray, List.set_cons_zero, List.set_cons_succ]
        refine wpAnyH_take (i := 4) (oi := { dst := some 112, op := Op.fieldAddr 45 (Operand.tmp 6) 1, type := 0, pos := "ref.go:81", after := #[{ on := 0, ground := Ground.phase }, { on := 1, ground := Ground.phase }, { on := 2, ground := Ground.textOnly Departure.lateStores }, { on := 3, ground := Ground.textOnly Departure.lateStores }], guard := none }) (v := ?_) rfl (by kernel_rfl) (by kernel_rfl) (by kernel_rfl) (fun _ _ _ h => h) (Or.inl ⟨by rfl, ?_⟩) hH ?_
        rotate_left
        · intro w hSw; (try dsimp only at hSw); go_simp <;> with_reducible rfl
        try simp only [Act.put, List.setIfInBounds_toArray, List.set_cons_zero, List.set_cons_succ]
        refine wpAnyH_ready (rs := [5]) (by kernel_rfl) (by simp) ?_
        refine AllReadyH.cons (o := { dst := none, op := Op.store 42 (Operand.tmp 112) (Operand.tmp 109), type := 0, pos := "ref.go:81", after := #[{ on := 4, ground := Ground.data }, { on := 1, ground := Ground.data }, { on := 0, ground := Ground.phase }, { on := 1, ground := Ground.phase }, { on := 2, ground := Ground.textOnly Departure.lateStores }, { on := 3, ground := Ground.textOnly Departure.lateStores }], guard := none }) rfl (fun K hK => ?_) AllReadyH.nil
        go_simp
        refine hK.out _ _ ?_ (fun hH => ?_)
        · exact hH.trans' (Fr.many s _ _)
        clear hK K
        refine wpAnyH_take (i := 6) (oi := { dst := some 113, op := Op.fieldAddr 45 (Operand.tmp 6) 2, type := 0, pos := "ref.go:81", after := #[{ on := 0, ground := Ground.phase }, { on := 1, ground := Ground.phase }, { on := 2, ground := Ground.phase }, { on := 3, ground := Ground.phase }, { on := 4, ground := Ground.phase }, { on := 5, ground := Ground.phase }], guard := none }) (v := ?_) rfl (by kernel_rfl) (by kernel_rfl) (by kernel_rfl) (fun _ _ _ h => h) (Or.inl ⟨by rfl, ?_⟩) hH ?_
        rotate_left
        · intro w hSw; (try dsimp only at hSw); go_simp <;> with_reducible rfl
        try simp only [Act.put, List.setIfInBounds_toArray, List.set_cons_zero, List.set_cons_succ]
        refine wpAnyH_ready (rs := [7]) (by kernel_rfl) (by simp) ?_
        refine AllReadyH.cons (o := { dst := none, op := Op.store 42 (Operand.tmp 113) (Operand.tmp 111), type := 0, pos := "ref.go:81", after := #[{ on := 6, ground := Ground.data }, { on := 3, ground := Ground.data }, { on := 5, ground := Ground.chain }, { on := 0, ground := Ground.phase }, { on := 1, ground := Ground.phase }, { on := 2, ground := Ground.phase }, { on := 3, ground := Ground.phase }, { on := 4, ground := Ground.phase }, { on := 5, ground := Ground.phase }], guard := none }) rfl (fun K hK => ?_) AllReadyH.nil
        go_simp
        refine hK.out _ _ ?_ (fun hH => ?_)
        · exact hH.trans' (Fr.many s _ _)
        clear hK K
        refine wpAnyH_done (by kernel_rfl) ?_ _
        have E11 := hid (((E10.out.fr ((Fr.refl _ w10).drew)).putF x.first).putL y.last)
        obtain ⟨w11, hw11⟩ : ∃ w11, w11 = (w10.drew.setCells s 1 (bs x.first 32)).setCells s 33 (bs y.last 32) := ⟨_, rfl⟩
        rw [← hw11] at E11 ⊢
        clear hw11 l1 l2 hst1 hst2 hH E10
        have a0 := E11.out.ka.sets.c0
        rw [hxn] at a0
        go_upto_region 25 with fail
        obtain ⟨w13, hw13⟩ : ∃ w13, w13 = w11 := ⟨_, rfl⟩
        rw [← hw13] at E11 ⊢
        have E12 := E11
        clear hw13 E11 a0
        have b0 := E12.out.kb.sets.c0
        cases hyn : y.null with
        | true =>
          rw [hyn] at b0
          have hl1 := ld_set E12.out.ka.sets.rowL
          have hl2 := ld_set E12.out.kb.sets.rowL
          go_upto_region 27 with (go_at_call 36; refine (either_ok _ _ _).mono ?_; rintro e w14 ⟨rfl, hF14⟩; have hst := fun f => st_set (f := f) (E12.out.fr hF14).st.sets.thL)
          have E14 := hid ((E12.out.fr hF14).putL (fun i => x.last i || y.last i))
          obtain ⟨w15, hw15⟩ : ∃ w15, w15 = w14.setCells s 33 (bs (fun i => x.last i || y.last i) 32) := ⟨_, rfl⟩
          rw [← hw15] at E14 ⊢
          clear hw15 hl1 hl2 hst hF14 E12 b0
          have hld := ld_sets E14.out.st.sets
          have hst := st_sets (n := false) (f := x.first) (l := fun i => x.last i || y.last i) (v := .slice (some ⟨g, 0, none⟩) j j) rfl E14.out.st.res
          go_wp2_with fail
          have hd := E14.out.st.done (t := (.cat p x y)) (by simp [Tr.null, hxn]) (fun i _ => by simp [Tr.first, hxn]) (fun i _ => by simp [Tr.last, hyn, Bool.or_comm]) (fun i hi => by funext q; simp only [rowsTo, hi, decide_true, Bool.true_and, HT.out, Tr.next])
          refine bodyPost_ret (v := setsV false (x.first) (fun i => x.last i || y.last i) (.slice (some ⟨g, 0, none⟩) j j)) ?_ rfl ?_
          · exact E14.out.st.result _ (by rfl)
          · exact ⟨g, hd⟩
        | false =>
          rw [hyn] at b0
          go_upto_region 27 with fail
          have E14 := E12
          clear E12 b0
          have hld := ld_sets E14.out.st.sets
          have hst := st_sets (n := false) (f := x.first) (l := y.last) (v := .slice (some ⟨g, 0, none⟩) j j) rfl E14.out.st.res
          go_wp2_with fail
          have hd := E14.out.st.done (t := (.cat p x y)) (by simp [Tr.null, hxn]) (fun i _ => by simp [Tr.first, hxn]) (fun i _ => by simp [Tr.last, hyn]) (fun i hi => by funext q; simp only [rowsTo, hi, decide_true, Bool.true_and, HT.out, Tr.next])
          refine bodyPost_ret (v := setsV false (x.first) (y.last) (.slice (some ⟨g, 0, none⟩) j j)) ?_ rfl ?_
          · exact E14.out.st.result _ (by rfl)
          · exact ⟨g, hd⟩


end Go.Proofs.Ytceomkoecidoiaa
