/-
  FollowBuilds, walked.
-/
import Derived.Test.YtceomkoecidoiaaFolOut
import Derived.Test.YtceomkoecidoiaaFolOver
import Derived.Test.YtceomkoecidoiaaFolOwn
import Derived.Test.YtceomkoecidoiaaFolAwake
namespace Go.Proofs.Ytceomkoecidoiaa
open Go.RowKit
attribute [local go_sem ↓] run_ld45 run_st45

/-- a core that came in: its five cells, what they lead to -/
structure CoreIn (w : World) (nv pv : Value) (N : List (Int × Int)) (L : List Nat) : Prop where
  nodes : NodesAt w (fun _ => True) nv N
  places : PlacesV w pv L
theorem CoreIn.fr {w w' : World} {nv pv : Value} {N : List (Int × Int)} {L : List Nat} (h : CoreIn w nv pv N L) (hF : Fr (fun _ => False) w w') : CoreIn w' nv pv N L :=
  ⟨h.nodes.fr (S := fun _ => False) hF (fun _ _ e => e) (fun _ h _ => h), h.places.fr hF⟩

def tenV (n0 p0 : Value) (w0 : Int) (b0 : ByteArray) (m0 : Int) (n1 p1 : Value) (w1 : Int) (b1 : ByteArray) (m1 : Int) : Array Value :=
  #[n0, p0, .int .i64 w0, .string b0, .int .u8 m0, n1, p1, .int .i64 w1, .string b1, .int .u8 m1]

theorem quo_fact (x q : Nat) : (((x : Int) / 2 ^ q % 2) == 1) = x.testBit q := by
  have h2 : (2 : Int) ^ q = ((2 ^ q : Nat) : Int) := by rw [Int.natCast_pow]; rfl
  rw [Nat.testBit_eq_decide_div_mod_eq, h2]
  have h3 : ((x : Int) / ((2 ^ q : Nat) : Int)) = ((x / 2 ^ q : Nat) : Int) := by rw [Int.natCast_ediv]
  rw [h3]
  by_cases h : x / 2 ^ q % 2 = 1
  · have : ((x / 2 ^ q : Nat) : Int) % 2 = 1 := by omega
    simp only [this, h, decide_true, beq_self_eq_true]
  · have : ¬ ((x / 2 ^ q : Nat) : Int) % 2 = 1 := by omega
    simp only [h, decide_false, beq_eq_false_iff_ne, ne_eq, this, not_false_eq_true]

set_option maxRecDepth 100000 in
set_option maxHeartbeats 4000000 in
theorem builds_ok {w : World} {n0 p0 n1 p1 : Value} {w0 m0 w1 m1 : Int} {b0 b1 : ByteArray} {N0 N1 : List (Int × Int)} {L0 L1 : List Nat} (C0 : CoreIn w n0 p0 N0 L0) (C1 : CoreIn w n1 p1 N1 L1) (set : Nat) (hset : set < 4294967296) (i : Int) :
    Calls Try.prog 3 #[.agg (tenV n0 p0 w0 b0 m0 n1 p1 w1 b1 m1), .int .u32 set, .int .i64 i] w fun e w' => e = .returned (.bool true) ∧ Fr (fun _ => False) w w' := by
  obtain ⟨pa0, pc0, rfl, _⟩ := C0.places
  obtain ⟨pa1, pc1, rfl, _⟩ := C1.places
  have hC0 := hid C0
  have hC1 := hid C1
  clear C0 C1
  obtain ⟨Z, hZ, hz, _⟩ := zero_sets
  unfold tenV
  go_enter Try.func3, Try.ntmps3
  go_upto_region 1 with fail
  obtain ⟨u1, hu1⟩ : ∃ u1, u1 = w.alloc (.cells #[n0, .slice pa0 L0.length pc0, .int .i64 w0, .string b0, .int .u8 m0, n1, .slice pa1 L1.length pc1, .int .i64 w1, .string b1, .int .u8 m1] 26) := ⟨_, rfl⟩
  obtain ⟨k, hk⟩ : ∃ k, k = w.heap.size := ⟨_, rfl⟩
  rw [← hu1, ← hk]
  have K1 := hid (show u1.heap[k]? = some (.cells #[n0, .slice pa0 L0.length pc0, .int .i64 w0, .string b0, .int .u8 m0, n1, .slice pa1 L1.length pc1, .int .i64 w1, .string b1, .int .u8 m1] 26 (0, 0)) by rw [hu1, hk]; exact heap_new w _)
  have F1 := hid (show Fr (fun _ => False) w u1 by rw [hu1]; exact (Fr.refl _ w).alloc _)
  clear hu1 hk
  have hK : ∀ w', Fr (fun _ => False) u1 w' → w'.cell? ⟨k, 0, none⟩ = some n0 ∧ w'.cell? ⟨k, 1, none⟩ = some (.slice pa0 L0.length pc0) ∧ w'.cell? ⟨k, 2, none⟩ = some (.int .i64 w0) ∧ w'.cell? ⟨k, 3, none⟩ = some (.string b0) ∧ w'.cell? ⟨k, 4, none⟩ = some (.int .u8 m0) ∧
      w'.cell? ⟨k, 5, none⟩ = some n1 ∧ w'.cell? ⟨k, 6, none⟩ = some (.slice pa1 L1.length pc1) ∧ w'.cell? ⟨k, 7, none⟩ = some (.int .i64 w1) ∧ w'.cell? ⟨k, 8, none⟩ = some (.string b1) ∧ w'.cell? ⟨k, 9, none⟩ = some (.int .u8 m1) := fun w' h =>
    have hb := h.heap K1.out (fun e => e)
    ⟨cell_of hb 0 rfl, cell_of hb 1 rfl, cell_of hb 2 rfl, cell_of hb 3 rfl, cell_of hb 4 rfl, cell_of hb 5 rfl, cell_of hb 6 rfl, cell_of hb 7 rfl, cell_of hb 8 rfl, cell_of hb 9 rfl⟩
  have HK := hid hK
  clear hK
  obtain ⟨c0, c1, c2, c3, c4, c5, c6, c7, c8, c9⟩ := HK.out u1 (Fr.refl _ _)
  go_wp2_with fail
  refine (over_ok (hC0.out.fr F1.out).nodes (hC0.out.fr F1.out).places).mono ?_
  rintro e u2 ⟨⟨z, rfl, hz, hz0⟩, hF2⟩
  clear c0 c1 c2 c3 c4 c5 c6 c7 c8 c9
  have F2 := hid hF2
  clear hF2
  obtain ⟨c0, c1, c2, c3, c4, c5, c6, c7, c8, c9⟩ := HK.out u2 F2.out
  rcases hz with rfl | rfl
  rotate_left
  · clear hz0
    go_wp2_with fail
    refine (awake_ok u2).mono ?_
    rintro e u3 ⟨rfl, hF3⟩
    go_wp2_with fail
    go_ret
    exact ⟨rfl, F1.out.trans' (F2.out.trans' hF3)⟩
  have few0 := hid (hz0 rfl)
  clear hz0
  go_wp2_with fail
  refine (over_ok (hC1.out.fr (F1.out.trans' F2.out)).nodes (hC1.out.fr (F1.out.trans' F2.out)).places).mono ?_
  rintro e u3 ⟨⟨z, rfl, hz, hz0⟩, hF3⟩
  clear c0 c1 c2 c3 c4 c5 c6 c7 c8 c9
  have F3 := hid (F2.out.trans' hF3)
  clear hF3
  obtain ⟨c0, c1, c2, c3, c4, c5, c6, c7, c8, c9⟩ := HK.out u3 F3.out
  rcases hz with rfl | rfl
  rotate_left
  · clear hz0
    go_wp2_with fail
    refine (awake_ok u3).mono ?_
    rintro e u4 ⟨rfl, hF4⟩
    go_wp2_with fail
    go_ret
    exact ⟨rfl, F1.out.trans' (F3.out.trans' hF4)⟩
  have few1 := hid (hz0 rfl)
  clear hz0
  obtain ⟨nb, f, l, P, T, en, O0⟩ := outcome N0 L0.length few0.out.1
  obtain ⟨nb', f', l', P', T', en', O1⟩ := outcome N1 L1.length few1.out.1
  have G3 := F3
  have O0 := hid O0
  have O1 := hid O1
  go_wp2_with fail
  refine (own_ok (hC0.out.fr (F1.out.trans' G3.out)).nodes few0.out.1 (hC0.out.fr (F1.out.trans' G3.out)).places few0.out.2.1 few0.out.2.2).mono ?_
  rintro e x4 ⟨⟨nv4, pa4, pc4, rfl, hN4⟩, hX4⟩
  have HN4 := hid hN4
  have X4 := hid (G3.out.trans' hX4)
  have HX4 := hid hX4
  clear hN4 hX4 c0 c1 c2 c3 c4 c5 c6 c7 c8 c9
  go_wp2_with fail
  refine (O0.out.build _ _ _ _ _ _ _ _ HN4.out).mono ?_
  rintro e y4 ⟨⟨va, rfl, hUa⟩, hY4⟩
  obtain ⟨uaa, uca, rfl, _⟩ := id hUa
  have Y4 := hid (X4.out.trans' hY4)
  have HUa := hid hUa
  have HY4 := hid hY4
  clear hUa hY4
  obtain ⟨c0, c1, c2, c3, c4, c5, c6, c7, c8, c9⟩ := HK.out y4 Y4.out
  simp only [foV]
  go_upto_region 4 with fail
  obtain ⟨z4, hz4⟩ : ∃ z4, z4 = y4.alloc (.cells #[.bool nb, .int .u32 (msk f 32), .int .u32 (msk l 32), .slice uaa P uca] 32) := ⟨_, rfl⟩
  obtain ⟨sa, hsa⟩ : ∃ sa, sa = y4.heap.size := ⟨_, rfl⟩
  rw [← hz4, ← hsa]
  have Sa := hid (show z4.heap[sa]? = some (.cells #[.bool nb, .int .u32 (msk f 32), .int .u32 (msk l 32), .slice uaa P uca] 32 (0, 0)) by rw [hz4, hsa]; exact heap_new y4 _)
  have YZ4 := hid (show Fr (fun _ => False) y4 z4 by rw [hz4]; exact (Fr.refl _ y4).alloc _)
  have G4 := hid (Y4.out.trans' YZ4.out)
  have D4 := hid (HX4.out.trans' (HY4.out.trans' YZ4.out))
  clear hz4 hsa c0 c1 c2 c3 c4 c5 c6 c7 c8 c9
  obtain ⟨c0, c1, c2, c3, c4, c5, c6, c7, c8, c9⟩ := HK.out z4 G4.out
  go_wp2_with fail
  refine (O0.out.ref _ _ _ _ _ _ _ _ (hC0.out.fr (F1.out.trans' G4.out)).nodes).mono ?_
  rintro e y5 ⟨⟨vb, rfl, hUb⟩, hY5⟩
  obtain ⟨uab, ucb, rfl, _⟩ := id hUb
  have Y5 := hid (G4.out.trans' hY5)
  have HUb := hid hUb
  have hst := st_sets (n := nb) (f := f) (l := l) (v := .slice uab P ucb) rfl (w := y5.alloc (.cells Z 45)) (b := y5.heap.size) ⟨Z, hZ, heap_new y5 _⟩
  have HY5 := hid hY5
  clear hUb hY5 c0 c1 c2 c3 c4 c5 c6 c7 c8 c9
  obtain ⟨c0, c1, c2, c3, c4, c5, c6, c7, c8, c9⟩ := HK.out y5 Y5.out
  go_upto_region 5 with fail
  obtain ⟨z5, hz5⟩ : ∃ z5, z5 = (y5.alloc (.cells Z 45)).setCells y5.heap.size 0 (setsC nb f l (.slice uab P ucb)) := ⟨_, rfl⟩
  obtain ⟨sb, hsb⟩ : ∃ sb, sb = y5.heap.size := ⟨_, rfl⟩
  rw [← hz5, ← hsb]
  have Sb := hid (show SetsB z5 sb nb f l (.slice uab P ucb) by rw [hz5, hsb]; exact Blk66.put ⟨Z, hZ, heap_new y5 _⟩ _ _ _ _)
  have YZ5 := hid (show Fr (fun _ => False) y5 z5 by rw [hz5]; exact Fr.setCells (by omega) _ _ ((Fr.refl _ y5).alloc _))
  have G5 := hid (Y5.out.trans' YZ5.out)
  have D5 := hid (HY5.out.trans' YZ5.out)
  clear hz5 hsb hst c0 c1 c2 c3 c4 c5 c6 c7 c8 c9
  obtain ⟨c0, c1, c2, c3, c4, c5, c6, c7, c8, c9⟩ := HK.out z5 G5.out
  go_wp2_with fail
  refine (own_ok (hC1.out.fr (F1.out.trans' G5.out)).nodes few1.out.1 (hC1.out.fr (F1.out.trans' G5.out)).places few1.out.2.1 few1.out.2.2).mono ?_
  rintro e x6 ⟨⟨nv6, pa6, pc6, rfl, hN6⟩, hX6⟩
  have HN6 := hid hN6
  have X6 := hid (G5.out.trans' hX6)
  have HX6 := hid hX6
  clear hN6 hX6 c0 c1 c2 c3 c4 c5 c6 c7 c8 c9
  go_wp2_with fail
  refine (O1.out.build _ _ _ _ _ _ _ _ HN6.out).mono ?_
  rintro e y6 ⟨⟨vc, rfl, hUc⟩, hY6⟩
  obtain ⟨uac, ucc, rfl, _⟩ := id hUc
  have Y6 := hid (X6.out.trans' hY6)
  have HUc := hid hUc
  have HY6 := hid hY6
  clear hUc hY6
  obtain ⟨c0, c1, c2, c3, c4, c5, c6, c7, c8, c9⟩ := HK.out y6 Y6.out
  simp only [foV]
  go_upto_region 6 with fail
  obtain ⟨z6, hz6⟩ : ∃ z6, z6 = y6.alloc (.cells #[.bool nb', .int .u32 (msk f' 32), .int .u32 (msk l' 32), .slice uac P' ucc] 32) := ⟨_, rfl⟩
  obtain ⟨sc, hsc⟩ : ∃ sc, sc = y6.heap.size := ⟨_, rfl⟩
  rw [← hz6, ← hsc]
  have Sc := hid (show z6.heap[sc]? = some (.cells #[.bool nb', .int .u32 (msk f' 32), .int .u32 (msk l' 32), .slice uac P' ucc] 32 (0, 0)) by rw [hz6, hsc]; exact heap_new y6 _)
  have YZ6 := hid (show Fr (fun _ => False) y6 z6 by rw [hz6]; exact (Fr.refl _ y6).alloc _)
  have G6 := hid (Y6.out.trans' YZ6.out)
  have D6 := hid (HX6.out.trans' (HY6.out.trans' YZ6.out))
  clear hz6 hsc c0 c1 c2 c3 c4 c5 c6 c7 c8 c9
  obtain ⟨c0, c1, c2, c3, c4, c5, c6, c7, c8, c9⟩ := HK.out z6 G6.out
  go_wp2_with fail
  refine (O1.out.ref _ _ _ _ _ _ _ _ (hC1.out.fr (F1.out.trans' G6.out)).nodes).mono ?_
  rintro e y7 ⟨⟨vd, rfl, hUd⟩, hY7⟩
  obtain ⟨uad, ucd, rfl, _⟩ := id hUd
  have Y7 := hid (G6.out.trans' hY7)
  have HUd := hid hUd
  have hst := st_sets (n := nb') (f := f') (l := l') (v := .slice uad P' ucd) rfl (w := y7.alloc (.cells Z 45)) (b := y7.heap.size) ⟨Z, hZ, heap_new y7 _⟩
  have HY7 := hid hY7
  clear hUd hY7 c0 c1 c2 c3 c4 c5 c6 c7 c8 c9
  obtain ⟨c0, c1, c2, c3, c4, c5, c6, c7, c8, c9⟩ := HK.out y7 Y7.out
  go_upto_region 7 with fail
  obtain ⟨z7, hz7⟩ : ∃ z7, z7 = (y7.alloc (.cells Z 45)).setCells y7.heap.size 0 (setsC nb' f' l' (.slice uad P' ucd)) := ⟨_, rfl⟩
  obtain ⟨sd, hsd⟩ : ∃ sd, sd = y7.heap.size := ⟨_, rfl⟩
  rw [← hz7, ← hsd]
  have Sd := hid (show SetsB z7 sd nb' f' l' (.slice uad P' ucd) by rw [hz7, hsd]; exact Blk66.put ⟨Z, hZ, heap_new y7 _⟩ _ _ _ _)
  have YZ7 := hid (show Fr (fun _ => False) y7 z7 by rw [hz7]; exact Fr.setCells (by omega) _ _ ((Fr.refl _ y7).alloc _))
  have G7 := hid (Y7.out.trans' YZ7.out)
  have D7 := hid (HY7.out.trans' YZ7.out)
  clear hz7 hsd hst c0 c1 c2 c3 c4 c5 c6 c7 c8 c9
  obtain ⟨c0, c1, c2, c3, c4, c5, c6, c7, c8, c9⟩ := HK.out z7 G7.out
  have E5 := hid (D5.out.trans' (D6.out.trans' D7.out))
  have E6 := hid (D6.out.trans' D7.out)
  have A7 := hid (E5.out.heap Sa.out (fun e => e))
  have B7 := hid (Sb.out.fr E6.out (fun e => e))
  have C7 := hid (D7.out.heap Sc.out (fun e => e))
  have UA := hid (HUa.out.fr (YZ4.out.trans' E5.out))
  have UB := hid (HUb.out.fr (YZ5.out.trans' E6.out))
  have UC := hid (HUc.out.fr (YZ6.out.trans' D7.out))
  have UD := hid (HUd.out.fr YZ7.out)
  have HG7 := hid (F1.out.trans' G7.out)
  clear c0 c1 c2 c3 c4 c5 c6 c7 c8 c9
  obtain ⟨hb, hhb⟩ : ∃ hb, hb = (decide (0 ≤ i ∧ i < 32) && set.testBit i.toNat) := ⟨_, rfl⟩
  have HHB := hid hhb
  clear hhb
  go_cut [15] (fun h wx => h = .bool hb ∧ z7 = wx)
  case first =>
    by_cases hi0 : 0 ≤ i
    · by_cases hi32 : i < 32
      · obtain ⟨q, rfl⟩ : ∃ q : Nat, i = q := ⟨i.toNat, by omega⟩
        have hq : q < 32 := by omega
        have hqm : q % 32 = q := Nat.mod_eq_of_lt hq
        have hpl : (2 : Nat) ^ q < 4294967296 := Nat.lt_of_lt_of_le (Nat.pow_lt_pow_right (by omega) hq) (by omega)
        have hpow : (2 : Int) ^ q % 4294967296 = 2 ^ q := by
          have h1 : ((2 : Nat) : Int) ^ q = ((2 ^ q : Nat) : Int) := by rw [Int.natCast_pow]
          have h2 : (2 : Int) ^ q = ((2 ^ q : Nat) : Int) := h1
          rw [h2]; exact Int.emod_eq_of_lt (Int.natCast_nonneg _) (Int.ofNat_lt.2 hpl)
        have hne : ¬ (2 : Int) ^ q = 0 := by
          have h1 : (2 : Int) ^ q = ((2 ^ q : Nat) : Int) := by rw [Int.natCast_pow]; rfl
          have := Nat.two_pow_pos q
          rw [h1]; omega
        have hqf := quo_fact set q
        have hbq : hb = set.testBit q := by rw [HHB.out, show decide (0 ≤ (q : Int) ∧ (q : Int) < 32) = true by simp; omega]; rfl
        have HBQ := hid hbq
        clear hpl hbq
        go_wp2_with fail
        go_meet
        exact ⟨by rw [HBQ.out], rfl⟩
      · go_wp2_with fail
        go_meet
        exact ⟨by rw [HHB.out, show decide (0 ≤ i ∧ i < 32) = false by simp; omega]; rfl, rfl⟩
    · go_wp2_with fail
      go_meet
      exact ⟨by rw [HHB.out, show decide (0 ≤ i ∧ i < 32) = false by simp; omega]; rfl, rfl⟩
  case rest =>
    obtain ⟨rfl, rfl⟩ := hcut
    have hA : ∀ w', Fr (fun _ => False) z7 w' → w'.cell? ⟨sa, 0, none⟩ = some (.bool nb) := fun w' h => cell_of (h.heap A7.out (fun e => e)) 0 rfl
    have hA1 : ∀ w', Fr (fun _ => False) z7 w' → w'.cell? ⟨sa, 1, none⟩ = some (.int .u32 (msk f 32)) := fun w' h => cell_of (h.heap A7.out (fun e => e)) 1 rfl
    have hA2 : ∀ w', Fr (fun _ => False) z7 w' → w'.cell? ⟨sa, 2, none⟩ = some (.int .u32 (msk l 32)) := fun w' h => cell_of (h.heap A7.out (fun e => e)) 2 rfl
    have hA3 : ∀ w', Fr (fun _ => False) z7 w' → w'.cell? ⟨sa, 3, none⟩ = some (.slice uaa P uca) := fun w' h => cell_of (h.heap A7.out (fun e => e)) 3 rfl
    have hC : ∀ w', Fr (fun _ => False) z7 w' → w'.cell? ⟨sc, 0, none⟩ = some (.bool nb') := fun w' h => cell_of (h.heap C7.out (fun e => e)) 0 rfl
    have hC1 : ∀ w', Fr (fun _ => False) z7 w' → w'.cell? ⟨sc, 1, none⟩ = some (.int .u32 (msk f' 32)) := fun w' h => cell_of (h.heap C7.out (fun e => e)) 1 rfl
    have hC2 : ∀ w', Fr (fun _ => False) z7 w' → w'.cell? ⟨sc, 2, none⟩ = some (.int .u32 (msk l' 32)) := fun w' h => cell_of (h.heap C7.out (fun e => e)) 2 rfl
    have hC3 : ∀ w', Fr (fun _ => False) z7 w' → w'.cell? ⟨sc, 3, none⟩ = some (.slice uac P' ucc) := fun w' h => cell_of (h.heap C7.out (fun e => e)) 3 rfl
    have hB : ∀ w', Fr (fun _ => False) z7 w' → ld 45 (.pointer (some ⟨sb, 0, none⟩)) w' = .ok (.value (setsV nb f l (.slice uab P ucb))) w' := fun w' h => ld_sets (B7.out.fr h (fun e => e))
    have hD : ∀ w', Fr (fun _ => False) z7 w' → ld 45 (.pointer (some ⟨sd, 0, none⟩)) w' = .ok (.value (setsV nb' f' l' (.slice uad P' ucd))) w' := fun w' h => ld_sets (Sd.out.fr h (fun e => e))
    have hP := O0.out.le
    have hP' := O1.out.le
    have hq := (Fr.refl (fun _ => False) z7).drew
    go_upto_region 8 with fail
    refine wp_region_held_drew (S := (fun w' => Fr (fun _ => False) z7 w')) (by kernel_rfl) ?_ (fun hH => ?_)
    · exact hq
    refine wpAnyH_take (i := 0) (oi := { dst := some 69, op := Op.move (Operand.tmp 8), type := 33, pos := "law.go:54", after := #[], guard := none }) (v := ?_) rfl (by kernel_rfl) (by kernel_rfl) (by kernel_rfl) (fun _ _ _ h => h) (Or.inl ⟨by rfl, ?_⟩) hH ?_
    rotate_left
    · intro w hSw; (try dsimp only at hSw); go_simp <;> with_reducible rfl
    try simp only [Act.put, List.setIfInBounds_toArray, List.set_cons_zero, List.set_cons_succ]
    refine wpAnyH_take (i := 1) (oi := { dst := some 70, op := Op.move (Operand.tmp 10), type := 3, pos := "law.go:54", after := #[], guard := none }) (v := ?_) rfl (by kernel_rfl) (by kernel_rfl) (by kernel_rfl) (fun _ _ _ h => h) (Or.inl ⟨by rfl, ?_⟩) hH ?_
    rotate_left
    · intro w hSw; (try dsimp only at hSw); go_simp <;> with_reducible rfl
    try simp only [Act.put, List.setIfInBounds_toArray, List.set_cons_zero, List.set_cons_succ]
    refine wpAnyH_take (i := 2) (oi := { dst := some 71, op := Op.binOp BinOp.eql 3 (Operand.tmp 69) (Operand.tmp 70) 3, type := 4, pos := "law.go:54", after := #[{ on := 0, ground := Ground.data }, { on := 1, ground := Ground.data }], guard := none }) (v := ?_) rfl (by kernel_rfl) (by kernel_rfl) (by kernel_rfl) (fun _ _ _ h => h) (Or.inl ⟨by rfl, ?_⟩) hH ?_
    rotate_left
    · intro w hSw; (try dsimp only at hSw); go_simp <;> with_reducible rfl
    try simp only [Act.put, List.setIfInBounds_toArray, List.set_cons_zero, List.set_cons_succ]
    refine wpAnyH_take (i := 3) (oi := { dst := some 72, op := Op.move (Operand.tmp 71), type := 4, pos := "law.go:54", after := #[{ on := 2, ground := Ground.data }], guard := none }) (v := ?_) rfl (by kernel_rfl) (by kernel_rfl) (by kernel_rfl) (fun _ _ _ h => h) (Or.inl ⟨by rfl, ?_⟩) hH ?_
    rotate_left
    · intro w hSw; (try dsimp only at hSw); go_simp <;> with_reducible rfl
    try simp only [Act.put, List.setIfInBounds_toArray, List.set_cons_zero, List.set_cons_succ]
    refine wpAnyH_take (i := 4) (oi := { dst := some 73, op := Op.load 32 (Operand.tmp 7), type := 32, pos := "law.go:54", after := #[{ on := 3, ground := Ground.guard }], guard := some (3, true) }) (v := ?_) rfl (by kernel_rfl) (by kernel_rfl) (by kernel_rfl) (fun _ _ _ h => h) (Or.inl ⟨by rfl, ?_⟩) hH ?_
    rotate_left
    · intro w hSw; (try dsimp only at hSw); go_simp <;> with_reducible rfl
    try simp only [Act.put, List.setIfInBounds_toArray, List.set_cons_zero, List.set_cons_succ]
    refine wpAnyH_take (i := 5) (oi := { dst := some 74, op := Op.load 45 (Operand.tmp 9), type := 45, pos := "law.go:54", after := #[{ on := 3, ground := Ground.guard }], guard := some (3, true) }) (v := ?_) rfl (by kernel_rfl) (by kernel_rfl) (by kernel_rfl) (fun _ _ _ h => h) (Or.inl ⟨by rfl, ?_⟩) hH ?_
    rotate_left
    · intro w hSw; (try dsimp only at hSw); go_simp <;> with_reducible rfl
    try simp only [Act.put, List.setIfInBounds_toArray, List.set_cons_zero, List.set_cons_succ]
    refine wpAnyH_ready (rs := [6]) (by kernel_rfl) (by simp) ?_
    refine AllReadyH.cons (o := { dst := some 75, op := Op.call { callee := Callee.value (Operand.func 12), args := #[Operand.tmp 74], argTypes := #[45] }, type := 32, pos := "law.go:54", after := #[{ on := 5, ground := Ground.data }, { on := 3, ground := Ground.chain }, { on := 3, ground := Ground.guard }], guard := some (3, true) }) rfl (fun K hK => ?_) AllReadyH.nil
    go_simp
    go_at_call 12
    refine (words_ok nb f l (UB.out.fr hq) (by omega)).mono ?_
    rintro e wx ⟨v1, rfl, hV1, hFx⟩
    have hq := hq.trans' hFx
    obtain ⟨ax1, cx1, rfl, _⟩ := id hV1
    go_simp
    refine hK.out _ _ ?_ (fun hH => ?_)
    · exact hq
    clear hK K
    try simp only [Act.put, List.setIfInBounds_toArray, List.set_cons_zero, List.set_cons_succ]
    refine wpAnyH_ready (rs := [7]) (by kernel_rfl) (by simp) ?_
    refine AllReadyH.cons (o := { dst := some 76, op := Op.call { callee := Callee.value (Operand.func 11), args := #[Operand.tmp 73, Operand.tmp 75], argTypes := #[32, 32] }, type := 4, pos := "law.go:54", after := #[{ on := 4, ground := Ground.data }, { on := 6, ground := Ground.data }, { on := 6, ground := Ground.chain }, { on := 3, ground := Ground.guard }], guard := some (3, true) }) rfl (fun K hK => ?_) AllReadyH.nil
    go_simp
    go_at_call 11
    refine ((alike_ok nb nb (msk f 32) (msk l 32) (msk f 32) (msk l 32) (UA.out.fr hq) hV1 (by omega) (by omega)).mono (fun _ _ h => h.yes ⟨rfl, rfl, rfl, rfl, fun _ _ => rfl⟩)).mono ?_
    rintro e wx ⟨rfl, hFx⟩
    have hq := hq.trans' hFx
    go_simp
    refine hK.out _ _ ?_ (fun hH => ?_)
    · exact hq
    clear hK K
    try simp only [Act.put, List.setIfInBounds_toArray, List.set_cons_zero, List.set_cons_succ]
    refine wpAnyH_take (i := 8) (oi := { dst := some 77, op := Op.pick (Operand.tmp 72) (Operand.tmp 76) (Operand.const (Value.bool false)), type := 4, pos := "law.go:54", after := #[{ on := 3, ground := Ground.data }, { on := 7, ground := Ground.data }], guard := none }) (v := ?_) rfl (by kernel_rfl) (by kernel_rfl) (by kernel_rfl) (fun _ _ _ h => h) (Or.inl ⟨by rfl, ?_⟩) hH ?_
    rotate_left
    · intro w hSw; (try dsimp only at hSw); go_simp <;> with_reducible rfl
    try simp only [Act.put, List.setIfInBounds_toArray, List.set_cons_zero, List.set_cons_succ]
    refine wpAnyH_take (i := 9) (oi := { dst := some 78, op := Op.move (Operand.tmp 77), type := 4, pos := "law.go:54", after := #[{ on := 8, ground := Ground.data }, { on := 7, ground := Ground.chain }], guard := none }) (v := ?_) rfl (by kernel_rfl) (by kernel_rfl) (by kernel_rfl) (fun _ _ _ h => h) (Or.inl ⟨by rfl, ?_⟩) hH ?_
    rotate_left
    · intro w hSw; (try dsimp only at hSw); go_simp <;> with_reducible rfl
    try simp only [Act.put, List.setIfInBounds_toArray, List.set_cons_zero, List.set_cons_succ]
    refine wpAnyH_take (i := 10) (oi := { dst := some 79, op := Op.load 32 (Operand.tmp 7), type := 32, pos := "law.go:54", after := #[{ on := 9, ground := Ground.guard }], guard := some (9, true) }) (v := ?_) rfl (by kernel_rfl) (by kernel_rfl) (by kernel_rfl) (fun _ _ _ h => h) (Or.inl ⟨by rfl, ?_⟩) hH ?_
    rotate_left
    · intro w hSw; (try dsimp only at hSw); go_simp <;> with_reducible rfl
    try simp only [Act.put, List.setIfInBounds_toArray, List.set_cons_zero, List.set_cons_succ]
    refine wpAnyH_take (i := 11) (oi := { dst := some 80, op := Op.load 32 (Operand.tmp 11), type := 32, pos := "law.go:54", after := #[{ on := 9, ground := Ground.guard }], guard := some (9, true) }) (v := ?_) rfl (by kernel_rfl) (by kernel_rfl) (by kernel_rfl) (fun _ _ _ h => h) (Or.inl ⟨by rfl, ?_⟩) hH ?_
    rotate_left
    · intro w hSw; (try dsimp only at hSw); go_simp <;> with_reducible rfl
    try simp only [Act.put, List.setIfInBounds_toArray, List.set_cons_zero, List.set_cons_succ]
    refine wpAnyH_take (i := 13) (oi := { dst := some 82, op := Op.load 45 (Operand.tmp 9), type := 45, pos := "law.go:54", after := #[{ on := 9, ground := Ground.guard }], guard := some (9, true) }) (v := ?_) rfl (by kernel_rfl) (by kernel_rfl) (by kernel_rfl) (fun _ _ _ h => h) (Or.inl ⟨by rfl, ?_⟩) hH ?_
    rotate_left
    · intro w hSw; (try dsimp only at hSw); go_simp <;> with_reducible rfl
    try simp only [Act.put, List.setIfInBounds_toArray, List.set_cons_zero, List.set_cons_succ]
    refine wpAnyH_take (i := 15) (oi := { dst := some 84, op := Op.load 45 (Operand.tmp 13), type := 45, pos := "law.go:54", after := #[{ on := 9, ground := Ground.guard }], guard := some (9, true) }) (v := ?_) rfl (by kernel_rfl) (by kernel_rfl) (by kernel_rfl) (fun _ _ _ h => h) (Or.inl ⟨by rfl, ?_⟩) hH ?_
    rotate_left
    · intro w hSw; (try dsimp only at hSw); go_simp <;> with_reducible rfl
    try simp only [Act.put, List.setIfInBounds_toArray, List.set_cons_zero, List.set_cons_succ]
    refine wpAnyH_ready (rs := [12]) (by kernel_rfl) (by simp) ?_
    refine AllReadyH.cons (o := { dst := some 81, op := Op.call { callee := Callee.value (Operand.func 13), args := #[Operand.tmp 79, Operand.tmp 80], argTypes := #[32, 32] }, type := 4, pos := "law.go:54", after := #[{ on := 10, ground := Ground.data }, { on := 11, ground := Ground.data }, { on := 9, ground := Ground.chain }, { on := 9, ground := Ground.guard }], guard := some (9, true) }) rfl (fun K hK => ?_) AllReadyH.nil
    go_simp
    go_at_call 13
    refine (same_ok nb nb' (msk f 32) (msk l 32) (msk f' 32) (msk l' 32) (UA.out.fr hq) (UC.out.fr hq) (by omega) (by omega)).mono ?_
    rintro e wx ⟨bs, rfl, hbs, hFx⟩
    have HBS := hid hbs
    clear hbs
    have hq := hq.trans' hFx
    go_simp
    refine hK.out _ _ ?_ (fun hH => ?_)
    · exact hq
    clear hK K
    try simp only [Act.put, List.setIfInBounds_toArray, List.set_cons_zero, List.set_cons_succ]
    refine wpAnyH_ready (rs := [14]) (by kernel_rfl) (by simp) ?_
    refine AllReadyH.cons (o := { dst := some 83, op := Op.call { callee := Callee.value (Operand.func 12), args := #[Operand.tmp 82], argTypes := #[45] }, type := 32, pos := "law.go:54", after := #[{ on := 13, ground := Ground.data }, { on := 12, ground := Ground.chain }, { on := 9, ground := Ground.guard }], guard := some (9, true) }) rfl (fun K hK => ?_) AllReadyH.nil
    go_simp
    go_at_call 12
    refine (words_ok nb f l (UB.out.fr hq) (by omega)).mono ?_
    rintro e wx ⟨v2, rfl, hV2, hFx⟩
    have hq := hq.trans' hFx
    obtain ⟨ax2, cx2, rfl, _⟩ := id hV2
    go_simp
    refine hK.out _ _ ?_ (fun hH => ?_)
    · exact hq
    clear hK K
    try simp only [Act.put, List.setIfInBounds_toArray, List.set_cons_zero, List.set_cons_succ]
    refine wpAnyH_ready (rs := [16]) (by kernel_rfl) (by simp) ?_
    refine AllReadyH.cons (o := { dst := some 85, op := Op.call { callee := Callee.value (Operand.func 12), args := #[Operand.tmp 84], argTypes := #[45] }, type := 32, pos := "law.go:54", after := #[{ on := 15, ground := Ground.data }, { on := 14, ground := Ground.chain }, { on := 9, ground := Ground.guard }], guard := some (9, true) }) rfl (fun K hK => ?_) AllReadyH.nil
    have hV2 := hid hV2
    go_simp
    go_at_call 12
    refine (words_ok nb' f' l' (UD.out.fr hq) (by omega)).mono ?_
    rintro e wx ⟨v3, rfl, hV3, hFx⟩
    have hq := hq.trans' hFx
    have hV2 := hid (hV2.out.fr hFx)
    obtain ⟨ax3, cx3, rfl, _⟩ := id hV3
    go_simp
    refine hK.out _ _ ?_ (fun hH => ?_)
    · exact hq
    clear hK K
    try simp only [Act.put, List.setIfInBounds_toArray, List.set_cons_zero, List.set_cons_succ]
    refine wpAnyH_ready (rs := [17]) (by kernel_rfl) (by simp) ?_
    refine AllReadyH.cons (o := { dst := some 86, op := Op.call { callee := Callee.value (Operand.func 11), args := #[Operand.tmp 83, Operand.tmp 85], argTypes := #[32, 32] }, type := 4, pos := "law.go:54", after := #[{ on := 14, ground := Ground.data }, { on := 16, ground := Ground.data }, { on := 16, ground := Ground.chain }, { on := 9, ground := Ground.guard }], guard := some (9, true) }) rfl (fun K hK => ?_) AllReadyH.nil
    go_simp
    go_at_call 11
    refine (alike_ok nb nb' (msk f 32) (msk l 32) (msk f' 32) (msk l' 32) hV2.out hV3 (by omega) (by omega)).mono ?_
    rintro e wx ⟨b2, rfl, hb2, hFx⟩
    have hbb : b2 = bs := Bool.eq_iff_iff.2 (hb2.trans HBS.out.symm)
    subst hbb
    clear hb2
    have hq := hq.trans' hFx
    go_simp
    refine hK.out _ _ ?_ (fun hH => ?_)
    · exact hq
    clear hK K
    try simp only [Act.put, List.setIfInBounds_toArray, List.set_cons_zero, List.set_cons_succ]
    refine wpAnyH_take (i := 18) (oi := { dst := some 87, op := Op.binOp BinOp.eql 4 (Operand.tmp 81) (Operand.tmp 86) 4, type := 4, pos := "law.go:54", after := #[{ on := 12, ground := Ground.data }, { on := 17, ground := Ground.data }, { on := 9, ground := Ground.guard }], guard := some (9, true) }) (v := ?_) rfl (by kernel_rfl) (by kernel_rfl) (by kernel_rfl) (fun _ _ _ h => h) (Or.inl ⟨by rfl, ?_⟩) hH ?_
    rotate_left
    · intro w hSw; (try dsimp only at hSw); go_simp <;> with_reducible rfl
    try simp only [Act.put, List.setIfInBounds_toArray, List.set_cons_zero, List.set_cons_succ]
    refine wpAnyH_take (i := 19) (oi := { dst := some 88, op := Op.pick (Operand.tmp 78) (Operand.tmp 87) (Operand.const (Value.bool false)), type := 4, pos := "law.go:54", after := #[{ on := 9, ground := Ground.data }, { on := 18, ground := Ground.data }], guard := none }) (v := ?_) rfl (by kernel_rfl) (by kernel_rfl) (by kernel_rfl) (fun _ _ _ h => h) (Or.inl ⟨by rfl, ?_⟩) hH ?_
    rotate_left
    · intro w hSw; (try dsimp only at hSw); go_simp <;> with_reducible rfl
    try simp only [Act.put, List.setIfInBounds_toArray, List.set_cons_zero, List.set_cons_succ]
    refine wpAnyH_take (i := 20) (oi := { dst := some 89, op := Op.move (Operand.tmp 88), type := 4, pos := "law.go:54", after := #[{ on := 19, ground := Ground.data }, { on := 17, ground := Ground.chain }], guard := none }) (v := ?_) rfl (by kernel_rfl) (by kernel_rfl) (by kernel_rfl) (fun _ _ _ h => h) (Or.inl ⟨by rfl, ?_⟩) hH ?_
    rotate_left
    · intro w hSw; (try dsimp only at hSw); go_simp <;> with_reducible rfl
    try simp only [Act.put, List.setIfInBounds_toArray, List.set_cons_zero, List.set_cons_succ]
    refine wpAnyH_take (i := 21) (oi := { dst := some 90, op := Op.move (Operand.tmp 1), type := 27, pos := "law.go:54", after := #[{ on := 20, ground := Ground.guard }], guard := some (20, true) }) (v := ?_) rfl (by kernel_rfl) (by kernel_rfl) (by kernel_rfl) (fun _ _ _ h => h) (Or.inl ⟨by rfl, ?_⟩) hH ?_
    rotate_left
    · intro w hSw; (try dsimp only at hSw); go_simp <;> with_reducible rfl
    try simp only [Act.put, List.setIfInBounds_toArray, List.set_cons_zero, List.set_cons_succ]
    refine wpAnyH_take (i := 22) (oi := { dst := some 91, op := Op.move (Operand.tmp 2), type := 3, pos := "law.go:54", after := #[{ on := 20, ground := Ground.guard }], guard := some (20, true) }) (v := ?_) rfl (by kernel_rfl) (by kernel_rfl) (by kernel_rfl) (fun _ _ _ h => h) (Or.inl ⟨by rfl, ?_⟩) hH ?_
    rotate_left
    · intro w hSw; (try dsimp only at hSw); go_simp <;> with_reducible rfl
    try simp only [Act.put, List.setIfInBounds_toArray, List.set_cons_zero, List.set_cons_succ]
    refine wpAnyH_take (i := 24) (oi := { dst := some 93, op := Op.move (Operand.tmp 15), type := 4, pos := "law.go:54", after := #[{ on := 20, ground := Ground.guard }], guard := some (20, true) }) (v := ?_) rfl (by kernel_rfl) (by kernel_rfl) (by kernel_rfl) (fun _ _ _ h => h) (Or.inl ⟨by rfl, ?_⟩) hH ?_
    rotate_left
    · intro w hSw; (try dsimp only at hSw); go_simp <;> with_reducible rfl
    try simp only [Act.put, List.setIfInBounds_toArray, List.set_cons_zero, List.set_cons_succ]
    refine wpAnyH_ready (rs := [23]) (by kernel_rfl) (by simp) ?_
    refine AllReadyH.cons (o := { dst := some 92, op := Op.call { callee := Callee.value (Operand.func 14), args := #[Operand.tmp 90, Operand.tmp 91], argTypes := #[27, 3] }, type := 4, pos := "law.go:54", after := #[{ on := 21, ground := Ground.data }, { on := 22, ground := Ground.data }, { on := 20, ground := Ground.chain }, { on := 20, ground := Ground.guard }], guard := some (20, true) }) rfl (fun K hK => ?_) AllReadyH.nil
    go_simp
    go_at_call 14
    refine (has_any set i hset _).mono ?_
    rw [← HHB.out]
    rintro e wx ⟨rfl, rfl⟩
    go_simp
    refine hK.out _ _ ?_ (fun hH => ?_)
    · exact hq
    clear hK K
    try simp only [Act.put, List.setIfInBounds_toArray, List.set_cons_zero, List.set_cons_succ]
    refine wpAnyH_take (i := 25) (oi := { dst := some 94, op := Op.binOp BinOp.eql 4 (Operand.tmp 92) (Operand.tmp 93) 4, type := 4, pos := "law.go:54", after := #[{ on := 23, ground := Ground.data }, { on := 24, ground := Ground.data }, { on := 20, ground := Ground.guard }], guard := some (20, true) }) (v := ?_) rfl (by kernel_rfl) (by kernel_rfl) (by kernel_rfl) (fun _ _ _ h => h) (Or.inl ⟨by rfl, ?_⟩) hH ?_
    rotate_left
    · intro w hSw; (try dsimp only at hSw); go_simp <;> with_reducible rfl
    try simp only [Act.put, List.setIfInBounds_toArray, List.set_cons_zero, List.set_cons_succ]
    refine wpAnyH_take (i := 26) (oi := { dst := some 95, op := Op.pick (Operand.tmp 89) (Operand.tmp 94) (Operand.const (Value.bool false)), type := 4, pos := "law.go:54", after := #[{ on := 20, ground := Ground.data }, { on := 25, ground := Ground.data }], guard := none }) (v := ?_) rfl (by kernel_rfl) (by kernel_rfl) (by kernel_rfl) (fun _ _ _ h => h) (Or.inl ⟨by rfl, ?_⟩) hH ?_
    rotate_left
    · intro w hSw; (try dsimp only at hSw); go_simp <;> with_reducible rfl
    try simp only [Act.put, List.setIfInBounds_toArray, List.set_cons_zero, List.set_cons_succ]
    refine wpAnyH_take (i := 27) (oi := { dst := some 96, op := Op.move (Operand.tmp 95), type := 4, pos := "law.go:54", after := #[{ on := 26, ground := Ground.data }, { on := 23, ground := Ground.chain }], guard := none }) (v := ?_) rfl (by kernel_rfl) (by kernel_rfl) (by kernel_rfl) (fun _ _ _ h => h) (Or.inl ⟨by rfl, ?_⟩) hH ?_
    rotate_left
    · intro w hSw; (try dsimp only at hSw); go_simp <;> with_reducible rfl
    try simp only [Act.put, List.setIfInBounds_toArray, List.set_cons_zero, List.set_cons_succ]
    refine wpAnyH_ready (rs := [28]) (by kernel_rfl) (by simp) ?_
    refine AllReadyH.cons (o := { dst := some 97, op := Op.call { callee := Callee.value (Operand.func 7), args := #[], argTypes := #[] }, type := 4, pos := "law.go:54", after := #[{ on := 27, ground := Ground.chain }, { on := 27, ground := Ground.guard }], guard := some (27, true) }) rfl (fun K hK => ?_) AllReadyH.nil
    go_simp
    go_at_call 7
    refine (awake_ok _).mono ?_
    rintro e wx ⟨rfl, hFx⟩
    have hq := hq.trans' hFx
    go_simp
    refine hK.out _ _ ?_ (fun hH => ?_)
    · exact hq
    clear hK K
    try simp only [Act.put, List.setIfInBounds_toArray, List.set_cons_zero, List.set_cons_succ]
    refine wpAnyH_take (i := 29) (oi := { dst := some 98, op := Op.pick (Operand.tmp 96) (Operand.tmp 97) (Operand.const (Value.bool false)), type := 4, pos := "law.go:54", after := #[{ on := 27, ground := Ground.data }, { on := 28, ground := Ground.data }], guard := none }) (v := ?_) rfl (by kernel_rfl) (by kernel_rfl) (by kernel_rfl) (fun _ _ _ h => h) (Or.inl ⟨by rfl, ?_⟩) hH ?_
    rotate_left
    · intro w hSw; (try dsimp only at hSw); go_simp <;> with_reducible rfl
    try simp only [Act.put, List.setIfInBounds_toArray, List.set_cons_zero, List.set_cons_succ]
    refine wpAnyH_take (i := 30) (oi := { dst := some 6, op := Op.assign (Operand.tmp 98), type := 4, pos := "law.go:54", after := #[{ on := 29, ground := Ground.data }, { on := 28, ground := Ground.chain }, { on := 0, ground := Ground.phase }, { on := 1, ground := Ground.phase }, { on := 2, ground := Ground.phase }, { on := 3, ground := Ground.phase }, { on := 4, ground := Ground.phase }, { on := 5, ground := Ground.phase }, { on := 6, ground := Ground.phase }, { on := 7, ground := Ground.phase }, { on := 8, ground := Ground.phase }, { on := 9, ground := Ground.phase }, { on := 10, ground := Ground.phase }, { on := 11, ground := Ground.phase }, { on := 12, ground := Ground.phase }, { on := 13, ground := Ground.phase }, { on := 14, ground := Ground.phase }, { on := 15, ground := Ground.phase }, { on := 16, ground := Ground.phase }, { on := 17, ground := Ground.phase }, { on := 18, ground := Ground.phase }, { on := 19, ground := Ground.phase }, { on := 20, ground := Ground.phase }, { on := 21, ground := Ground.phase }, { on := 22, ground := Ground.phase }, { on := 23, ground := Ground.phase }, { on := 24, ground := Ground.phase }, { on := 25, ground := Ground.phase }, { on := 26, ground := Ground.phase }, { on := 27, ground := Ground.phase }, { on := 28, ground := Ground.phase }, { on := 29, ground := Ground.phase }], guard := none }) (v := ?_) rfl (by kernel_rfl) (by kernel_rfl) (by kernel_rfl) (fun _ _ _ h => h) (Or.inl ⟨by rfl, ?_⟩) hH ?_
    rotate_left
    · intro w hSw; (try dsimp only at hSw); go_simp <;> with_reducible rfl
    try simp only [Act.put, List.setIfInBounds_toArray, List.set_cons_zero, List.set_cons_succ]
    refine wpAnyH_done (by kernel_rfl) ?_ _
    go_wp2_with fail
    go_ret
    exact ⟨rfl, HG7.out.trans' hq⟩

end Go.Proofs.Ytceomkoecidoiaa
