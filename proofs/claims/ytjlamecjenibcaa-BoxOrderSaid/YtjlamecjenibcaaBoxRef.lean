/-
  The document's box (telltaleref30), and 'same', walked.
-/
import Derived.Test.YtjlamecjenibcaaBoxW6
namespace Go.Proofs.Ytjlamecjenibcaa
open Go.RowKit

/-- The slice v reads as the numbers L; they lie in a block that is ok. -/
def IntsAt (w : World) (ok : Nat → Prop) (v : Value) (L : List Int) : Prop :=
  ∃ ao c, v = .slice ao L.length c ∧ L.length ≤ c ∧ c ≤ 9223372036854775807 ∧
    (0 < L.length → ∃ g o, ao = some ⟨g, o, none⟩ ∧ ok g ∧ g < w.heap.size ∧ ∀ i z, L[i]? = some z → w.cell? ⟨g, o + i, none⟩ = some (.int .i64 z))

theorem IntsAt.nil (w : World) (ok : Nat → Prop) : IntsAt w ok (.slice none 0 0) [] := ⟨none, 0, rfl, by simp, by omega, fun h => by simp at h⟩

theorem IntsAt.fr {S ok ok' : Nat → Prop} {w w' : World} {v : Value} {L : List Int} (h : IntsAt w ok v L) (hf : Fr S w w') (h1 : ∀ g, ok g → ¬ S g) (h2 : ∀ g, ok g → g < w.heap.size → ok' g) : IntsAt w' ok' v L := by
  obtain ⟨ao, c, hv, hc, hm, hp⟩ := h
  refine ⟨ao, c, hv, hc, hm, fun h0 => ?_⟩
  obtain ⟨g, o, ha, hok, hlt, hcell⟩ := hp h0
  exact ⟨g, o, ha, h2 g hok hlt, Nat.lt_of_lt_of_le hlt hf.size, fun i z hz => hf.cell (hcell i z hz) (h1 g hok)⟩

theorem IntsAt.mono {ok ok' : Nat → Prop} {w : World} {v : Value} {L : List Int} (h : IntsAt w ok v L) (h2 : ∀ g, ok g → g < w.heap.size → ok' g) : IntsAt w ok' v L :=
  h.fr (S := fun _ => False) (Fr.refl _ _) (fun _ _ e => e) h2

theorem IntsAt.of_owns {w : World} {base : Nat} {v : Value} {n : Nat} {L : List Int} (h : w.ownsRow base 3 1 v n (L.map (Value.int .i64))) : IntsAt w (fun g => base ≤ g) v L := by
  have hl := h.1
  simp only [List.length_map, Nat.mul_one] at hl
  subst hl
  rcases owns_form h with ⟨rfl, hz⟩ | ⟨g, cap, rfl, hc, hm, hb, hlt⟩
  · obtain rfl := List.length_eq_zero_iff.1 hz
    exact IntsAt.nil _ _
  · refine ⟨_, _, rfl, hc, by unfold maxLen at hm; omega, fun _ => ⟨g, 0, rfl, hb, hlt, fun i z hz => ?_⟩⟩
    have hi := (List.getElem?_eq_some_iff.1 hz).1
    rw [Nat.zero_add, h.cellAt i (by omega), List.getElem?_map, hz]; rfl

theorem IntsAt.len {w : World} {ok : Nat → Prop} {v : Value} {L : List Int} (h : IntsAt w ok v L) : L.length ≤ 9223372036854775807 := by
  obtain ⟨_, _, _, h1, h2, _⟩ := h; omega

theorem same_eq {w : World} {ok1 ok2 : Nat → Prop} {va vb : Value} {L : List Int} (ha : IntsAt w ok1 va L) (hb : IntsAt w ok2 vb L) :
    Calls Try.prog 15 #[va, vb] w fun e w' => e = .returned (.bool true) ∧ ∃ m, w' = w.drewN m := by
  have hL := ha.len
  obtain ⟨ao, c, rfl, _, _, hpa⟩ := ha
  obtain ⟨bo, d, rfl, _, _, hpb⟩ := hb
  obtain ⟨n, hn⟩ : ∃ n, n = L.length := ⟨_, rfl⟩
  rw [← hn] at hL hpa hpb ⊢
  have HN := hid hn
  have HA := hid hpa
  have HB := hid hpb
  clear hn hpa hpb
  go_enter Try.func15, Try.ntmps15
  go_wp2
  go_loopw [5] (fun i wr => ∃ k m : Nat, k ≤ n ∧ i = .int .i64 k ∧ wr = w.drewN m) (fun i _ => n - (intOf i).toNat)
  case atStart => exact ⟨0, 0, Nat.zero_le _, rfl, rfl⟩
  case round =>
    obtain ⟨k, m, hk, rfl, rfl⟩ := hrel
    by_cases hkl : k < n
    · obtain ⟨z, hz⟩ : ∃ z, L[k]? = some z := ⟨_, List.getElem?_eq_getElem (by rw [← HN.out]; exact hkl)⟩
      obtain ⟨g, o, rfl, _, _, hca⟩ := HA.out (by omega)
      obtain ⟨g', o', rfl, _, _, hcb⟩ := HB.out (by omega)
      have c1 := hca k z hz
      have c2 := hcb k z hz
      clear hca hcb hz HA HB
      go_wp2
      go_quiet (fail)
      go_wp2
      go_roundw
      case rel => exact ⟨k + 1, _, by omega, by go_num, rfl⟩
      case measure => simp [intOf]; omega
    · clear HA HB
      go_wp2
      go_ret
      exact ⟨rfl, _, rfl⟩

theorem refMay_ok (n : Int) (w : World) (h1 : 1 ≤ n) (h2 : n ≤ 4096) : Calls Try.prog 7 #[.int .i64 n] w fun e w' => e = .returned (.bool true) ∧ w = w' := by
  go_enter Try.func7, Try.ntmps7
  go_wp2
  go_ret
  exact ⟨rfl, rfl⟩

theorem refMay_bad (n : Int) (w : World) (h : n < 1 ∨ 4096 < n) : Calls Try.prog 7 #[.int .i64 n] w fun e w' => e = .returned (.bool false) ∧ w = w' := by
  rcases h with h | h
  · have q : ¬ 1 ≤ n := by omega
    go_enter Try.func7, Try.ntmps7
    go_wp2
    go_ret
    exact ⟨rfl, rfl⟩
  · have q : ¬ n < 1 := by omega
    have q2 : decide (n ≤ 4096) = false := by simp; omega
    go_enter Try.func7, Try.ntmps7
    go_wp2
    go_ret
    exact ⟨rfl, rfl⟩

theorem refPop_none (cap : Int) (ao : Option Addr) (c : Nat) (w : World) :
    Calls Try.prog 9 #[.agg #[.int .i64 cap, .slice ao 0 c]] w fun e w' => e = .returned (.tuple #[.int .i64 0, .agg #[.int .i64 cap, .slice ao 0 c], .int .i64 16]) ∧ Below w.heap.size w w' := by
  go_enter Try.func9, Try.ntmps9
  go_wp2
  go_region
  all_goals go_wp2
  refine bodyPost_ret (v := .tuple #[.int .i64 0, .agg #[.int .i64 cap, .slice ao 0 c], .int .i64 16]) (by simp [results, Try.results9, go_sem]) rfl ⟨rfl, ?_⟩
  exact (((Below.refl _ w).alloc (Nat.le_refl _) _).alloc (by simp) _).drew

theorem refPop_some (cap : Int) (v : Value) (y : Int) (L : List Int) (ok : Nat → Prop) (w : World) (h : IntsAt w ok v (y :: L)) :
    Calls Try.prog 9 #[.agg #[.int .i64 cap, v]] w fun e w' => ∃ v', e = .returned (.tuple #[.int .i64 y, .agg #[.int .i64 cap, v'], .int .i64 0]) ∧ IntsAt w ok v' L ∧ Below w.heap.size w w' := by
  have hL := h.len
  obtain ⟨ao, c, rfl, hlc, hc, hp⟩ := h
  obtain ⟨g, o, rfl, hok, hlt, hcell⟩ := hp (by simp)
  have c0 := hcell 0 y rfl
  rw [Nat.add_zero] at c0
  obtain ⟨n, hn⟩ : ∃ n, n = L.length := ⟨_, rfl⟩
  simp only [List.length_cons] at hL hlc ⊢
  rw [← hn] at hL hlc ⊢
  have HC := hid hcell
  have HN := hid hn
  clear hcell hp hn
  have c1 : ∀ x1 x2, ((w.alloc x1).alloc x2).cell? ⟨g, o, none⟩ = some (.int .i64 y) := fun x1 x2 => by
    rw [World.cell?_alloc_lt _ _ _ (by simp; omega), World.cell?_alloc_lt _ _ _ hlt]; exact c0
  have e1 : ((n + 1 : Nat) : Int) = (n : Int) + 1 := by omega
  have q1 : ((n : Int) + 1 == 0) = false := by simp; omega
  have q2 : (0 : Int) < (n : Int) + 1 := by omega
  have q3 : (1 : Int) ≤ (n : Int) + 1 := by omega
  obtain ⟨A, hA⟩ : ∃ A, (if c = 1 then some (⟨g, o, none⟩ : Addr) else some ⟨g, o + 1, none⟩) = some A := by by_cases h : c = 1 <;> simp [h]
  go_enter Try.func9, Try.ntmps9
  go_wp2
  go_region
  all_goals go_wp2
  refine bodyPost_ret (v := .tuple #[.int .i64 y, .agg #[.int .i64 cap, .slice (some A) n (c - 1)], .int .i64 0]) (by simp [results, Try.results9, go_sem]) rfl ⟨_, rfl, ?_, ?_⟩
  · have hnl := HN.out
    refine ⟨some A, c - 1, by rw [hnl], by omega, by omega, fun h0 => ?_⟩
    have hc1 : ¬ c = 1 := by omega
    rw [if_neg hc1] at hA
    obtain rfl := Option.some.inj hA
    refine ⟨g, o + 1, rfl, hok, hlt, fun i z hz => ?_⟩
    have := HC.out (i + 1) z (by simpa using hz)
    rw [show o + 1 + i = o + (i + 1) from by omega]
    exact this
  · exact (((Below.refl _ w).alloc (Nat.le_refl _) _).alloc (by simp) _).drew

theorem refPush_full (cap : Int) (ao : Option Addr) (n c : Nat) (y : Int) (w : World) (h : cap ≤ n) :
    Calls Try.prog 11 #[.agg #[.int .i64 cap, .slice ao n c], .int .i64 y] w fun e w' => e = .returned (.tuple #[.agg #[.int .i64 cap, .slice ao n c], .int .i64 7]) ∧ Below w.heap.size w w' := by
  go_enter Try.func11, Try.ntmps11
  go_wp2
  refine bodyPost_ret (v := .tuple #[.agg #[.int .i64 cap, .slice ao n c], .int .i64 7]) (by simp [results, Try.results11, go_sem]) rfl ⟨rfl, ?_⟩
  exact (((Below.refl _ w).alloc (Nat.le_refl _) _).alloc (by simp) _)

theorem owns_zero (w : World) (k base : Nat) (hk : w.heap.size = k) (hb : base ≤ k) : (w.alloc (.cells #[] 3)).ownsRow base 3 1 (.slice (some ⟨k, 0, none⟩) 0 0) 0 [] := by
  subst hk; exact World.ownsRow_made w #[] 0 hb (by decide) rfl

theorem addr_add (g o j : Nat) : (⟨g, o, none⟩ : Addr).add j = ⟨g, o + j, none⟩ := by unfold Addr.add; split <;> simp_all

theorem news_of {w w' : World} {g o B : Nat} {M : List Int} (hc : ∀ (i : Nat) (z : Int), M[i]? = some z → w.cell? ⟨g, o + i, none⟩ = some (.int .i64 z)) (hb : Below B w w') (hlt : g < B) :
    ∀ (j : Nat) (u : Value), (M.map (Value.int .i64))[j]? = some u → w'.cell? ((⟨g, o, none⟩ : Addr).add j) = some u := fun j u hu => by
  rw [List.getElem?_map] at hu
  obtain ⟨z, hz, rfl⟩ := Option.map_eq_some_iff.1 hu
  rw [addr_add, hb.cell hlt]
  exact hc j z hz

theorem grown_heap {w w' : World} {row : Option Nat} {k : Nat} {o : Obj} (h : w.heap[k]? = some o) (hg : w.grownBy w' row) (hne : row ≠ some k) : w'.heap[k]? = some o :=
  (hg.block k (lt_of_block h) (Ne.symm hne)).trans h

theorem res_block (w : World) (a x c : Obj) : (((w.alloc a).alloc x).alloc c).drew.heap[w.heap.size + 1]? = some x := by
  refine heap_old (w := (w.alloc a).alloc x) ?_ c
  have := heap_new (w.alloc a) x
  simpa using this

theorem pickA {P : Program} {ops : Array Oper} {o : Oper} {a : Act} {K : Act → World → Prop} {Q : Exit → Act → World → Prop} {E : Prop} {w : World} {c : Array Value} {t : TypeId}
    (h : if Region.wanted o (yielded ops a.tmps) = true then Oper.wp P o a (w.alloc (.cells c t)).drew K Q else E) :
    if Region.wanted o (yielded ops a.tmps) = true then Oper.wp P o a (w.alloc (.cells c t)).drew K Q else E := h
theorem pickB {P : Program} {ops : Array Oper} {o : Oper} {a : Act} {K : Act → World → Prop} {Q : Exit → Act → World → Prop} {E : Prop} {w : World} {c : Value} {t : TypeId}
    (h : if Region.wanted o (yielded ops a.tmps) = true then Oper.wp P o a ((w.alloc (.cells #[] t)).alloc (.cells #[c] t)).drew K Q else E) :
    if Region.wanted o (yielded ops a.tmps) = true then Oper.wp P o a ((w.alloc (.cells #[] t)).alloc (.cells #[c] t)).drew K Q else E := h
theorem pickC {P : Program} {ops : Array Oper} {o : Oper} {a : Act} {K : Act → World → Prop} {Q : Exit → Act → World → Prop} {E : Prop} {w : World} {c : Value} {t : TypeId}
    (h : if Region.wanted o (yielded ops a.tmps) = true then Oper.wp P o a ((w.alloc (.cells #[c] t)).alloc (.cells #[] t)).drew K Q else E) :
    if Region.wanted o (yielded ops a.tmps) = true then Oper.wp P o a ((w.alloc (.cells #[c] t)).alloc (.cells #[] t)).drew K Q else E := h

theorem ownA (w : World) (base : Nat) (hb : base ≤ w.heap.size) : ((w.alloc (.cells #[] 3)).drew).ownsRow base 3 1 (.slice (some ⟨w.heap.size, 0, none⟩) 0 0) 0 [] := owns_zero w _ _ rfl hb
theorem ownB (w : World) (base : Nat) (d : Obj) (hb : base ≤ w.heap.size) : (((w.alloc (.cells #[] 3)).alloc d).drew).ownsRow base 3 1 (.slice (some ⟨w.heap.size, 0, none⟩) 0 0) 0 [] := (owns_zero w _ _ rfl hb).alloc d
theorem ownC (w : World) (base : Nat) (d : Obj) (hb : base ≤ w.heap.size) : (((w.alloc d).alloc (.cells #[] 3)).drew).ownsRow base 3 1 (.slice (some ⟨w.heap.size + 1, 0, none⟩) 0 0) 0 [] := owns_zero (w.alloc d) _ _ (by simp) (by omega)
theorem belA {B : Nat} {w w2 : World} (h : Below B w w2) (hB : B ≤ w2.heap.size) (o : Obj) : Below B w (w2.alloc o).drew := (h.alloc hB o).drew
theorem belB {B : Nat} {w w2 : World} (h : Below B w w2) (hB : B ≤ w2.heap.size) (o o' : Obj) : Below B w ((w2.alloc o).alloc o').drew := ((h.alloc hB o).alloc (by simp; omega) o').drew
theorem blkA {w : World} {k : Nat} {x : Obj} (h : w.heap[k]? = some x) (o : Obj) : (w.alloc o).drew.heap[k]? = some x := heap_old h o
theorem blkB {w : World} {k : Nat} {x : Obj} (h : w.heap[k]? = some x) (o o' : Obj) : ((w.alloc o).alloc o').drew.heap[k]? = some x := heap_old (heap_old h o) o'
theorem lastB (w : World) (o o' : Obj) : ((w.alloc o).alloc o').drew.heap[w.heap.size + 1]? = some o' := by
  have := heap_new (w.alloc o) o'
  simp only [World.size_alloc] at this
  exact this
theorem lastC (w : World) (o o' : Obj) : ((w.alloc o).alloc o').drew.heap[w.heap.size]? = some o := heap_old (heap_new w o) o'
theorem gr_heap {w w' : World} {g n c k : Nat} {o : Obj} (h : w.heap[k]? = some o) (hg : w.grownBy w' (Value.slice (some ⟨g, 0, none⟩) n c).ownBlock) (hne : g ≠ k) : w'.heap[k]? = some o :=
  grown_heap h hg (by simpa [Value.ownBlock] using hne)
theorem szA (w : World) (o : Obj) : (w.alloc o).drew.heap.size = w.heap.size + 1 := by simp
theorem szB (w : World) (o o' : Obj) : ((w.alloc o).alloc o').drew.heap.size = w.heap.size + 2 := by simp
theorem sz1 (w : World) (o : Obj) : (w.alloc o).heap.size = w.heap.size + 1 := by simp
theorem own_eq {g n c j k : Nat} (h : (Value.slice (some ⟨g, 0, none⟩) n c).ownBlock = some j ∨ j = k) : g = j ∨ j = k := by simpa [Value.ownBlock] using h
theorem belG {B : Nat} {w0 w w' : World} {g n c : Nat} (h : Below B w0 w) (hg : w.grownBy w' (Value.slice (some ⟨g, 0, none⟩) n c).ownBlock) (hB : B ≤ w.heap.size) (hgB : B ≤ g) : Below B w0 w' :=
  h.grown hg hB (fun k hk => by simp [Value.ownBlock] at hk; omega)

/-- two new blocks, in whatever order -/
theorem keepN {w w' : World} {row : Option Nat} {b i j : Nat} {u v : Value} (hg : w.grownBy w' row) (h : w.cell? ⟨b, i, none⟩ = some u ∧ w.cell? ⟨b, j, none⟩ = some v) (hne : row ≠ some b) :
    w'.cell? ⟨b, i, none⟩ = some u ∧ w'.cell? ⟨b, j, none⟩ = some v :=
  ⟨hg.cell h.1 (Ne.symm hne), hg.cell h.2 (Ne.symm hne)⟩

theorem one_pos : 0 < 1 := by omega
theorem one_one (y : Int) : ∀ u ∈ [Value.int .i64 y], u.oneCell' = true := by simp [Value.oneCell']
theorem ownA2 {w1 : World} {p g1 m c1 : Nat} {M : List Int} (h : w1.ownsRow p 3 1 (.slice (some ⟨g1, 0, none⟩) (0 + m) c1) (0 + m) ([] ++ M.map (Value.int .i64))) (o : Obj) :
    (w1.alloc o).ownsRow p 3 1 (.slice (some ⟨g1, 0, none⟩) m c1) m (M.map (Value.int .i64)) := by
  rw [Nat.zero_add, List.nil_append] at h; exact h.alloc o

theorem own_ne {g c n k : Nat} (h : g ≠ k) : (Value.slice (some ⟨g, 0, none⟩) n c).ownBlock ≠ some k := by simpa [Value.ownBlock] using h

set_option maxHeartbeats 2000000 in
theorem refPush_some (cap : Int) (v : Value) (y z : Int) (L : List Int) (ok : Nat → Prop) (w : World) (h : IntsAt w ok v (z :: L)) (hcl : (z :: L).length < cap) (hcap : cap ≤ 4096) :
    Calls Try.prog 11 #[.agg #[.int .i64 cap, v], .int .i64 y] w fun e w' => ∃ v', e = .returned (.tuple #[.agg #[.int .i64 cap, v'], .int .i64 0]) ∧ IntsAt w' (fun g => w.heap.size ≤ g) v' (z :: L ++ [y]) ∧ Below w.heap.size w w' := by
  have hL := h.len
  obtain ⟨ao, c, rfl, hlc, hc, hp⟩ := h
  obtain ⟨g, o, rfl, hok, hlt, hcell⟩ := hp (by simp)
  obtain ⟨M, hM⟩ : ∃ M, M = z :: L := ⟨_, rfl⟩
  rw [← hM] at hL hlc hcell hcl ⊢
  have HC := hid hcell
  have hM0 : 0 < M.length := by rw [hM]; simp
  clear hcell hp hM
  obtain ⟨m, hm⟩ : ∃ m, m = M.length := ⟨_, rfl⟩
  rw [← hm] at hL hlc hcl hM0 ⊢
  have HM := hid hm
  clear hm
  obtain ⟨i0, hi0, hz0, hz1, hz2⟩ := info_parts info_int
  have q1 : ¬ cap ≤ m := by omega
  go_enter Try.func11, Try.ntmps11
  go_wp2
  obtain ⟨w2, hw2⟩ : ∃ w2, w2 = (w.alloc (.cells #[.int .i64 cap, .slice (some ⟨g, o, none⟩) m c] 31)).alloc (.cells #[.int .i64 0, .slice none 0 0] 31) := ⟨_, rfl⟩
  rw [← hw2]
  have HBEL := hid (show Below w.heap.size w w2 by rw [hw2]; exact ((Below.refl _ w).alloc (Nat.le_refl _) _).alloc (by simp) _)
  have HR := hid (show w2.heap[w.heap.size + 1]? = some (.cells #[.int .i64 0, .slice none 0 0] 31 (0, 0)) by
    rw [hw2]; have := heap_new (w.alloc (.cells #[.int .i64 cap, .slice (some ⟨g, o, none⟩) m c] 31)) (.cells #[.int .i64 0, .slice none 0 0] 31); simp only [World.size_alloc] at this; exact this)
  have hA : w2.heap[w.heap.size]? = some (.cells #[.int .i64 cap, .slice (some ⟨g, o, none⟩) m c] 31 (0, 0)) := by rw [hw2]; exact heap_old (heap_new w _) _
  have a0 := cell_of hA 0 (v := .int .i64 cap) rfl
  have a1 := cell_of hA 1 (v := .slice (some ⟨g, o, none⟩) m c) rfl
  have hs2 : w2.heap.size = w.heap.size + 2 := by rw [hw2]; simp
  clear hA hw2
  obtain ⟨p, hp⟩ : ∃ p, p = w.heap.size := ⟨_, rfl⟩
  obtain ⟨r, hr⟩ : ∃ r, r = w.heap.size + 1 := ⟨_, rfl⟩
  rw [← hr]
  rw [← hr] at HR
  rw [← hp] at a0 a1 hs2 HBEL hr hlt ⊢
  have hs3 : p ≤ w2.heap.size := by omega
  have hs4 : w2.heap.size ≤ p + 2 := by omega
  have hs5 : p + 2 ≤ w2.heap.size := by omega
  have hr1 : r ≤ p + 1 := by omega
  have hr2 : p + 1 ≤ r := by omega
  have HP := hid hp
  have hmm := hid (show (M.map (Value.int .i64)).length = m * 1 by rw [List.length_map, ← HM.out]; simp)
  have hb1 : 0 + m ≤ maxLen := by unfold maxLen; omega
  have hb2 : (0 + m) * 8 ≤ 140737488355328 := by omega
  have hb3 : 0 + m + 1 ≤ maxLen := by unfold maxLen; omega
  have hb4 : (0 + m + 1) * 8 ≤ 140737488355328 := by omega
  have hb5 : m + 1 ≤ maxLen := by unfold maxLen; omega
  have hb6 : (m + 1) * 8 ≤ 140737488355328 := by omega
  have hrp : ¬ r = p := by omega
  have hpr : ¬ p = r := by omega
  clear hs2 hr hp
  go_region_held3 (fun w' => w'.cell? ⟨p, 0, none⟩ = some (.int .i64 cap) ∧ w'.cell? ⟨p, 1, none⟩ = some (.slice (some ⟨g, o, none⟩) m c)) (first | (refine keepN hgrow2 ?_ ne2; assumption) | ((fail_if_success (have _t := hgrow2)); refine keepN hgrow1 ?_ ne1; assumption) | go_keep)
    (first
      | ((fail_if_success (have _t := hown1)); (with_reducible refine pickA (w := w2) ?_); refine step_append_lies _ (by rfl) (.tmp 15) (.tmp 17) _ (by rfl) p 3 i0 _ 1 8 Try.underlying29 hi0 hz0 hz1 hz2 rfl one_pos (.slice (some ⟨w2.heap.size, 0, none⟩) 0 0) 0 [] (by rfl) (ownA w2 p hs3) ⟨g, o, none⟩ m c (M.map (Value.int .i64)) (by rfl) hmm.out (news_of HC.out (belA HBEL.out hs3 _) hlt) (ints_oneCell _ _) hM0 hb1 hb2 (by rw [szA]; omega) _ rfl ?_; intro g1 c1 w1 hown1 hgrow1 hat1 hlt1; have e1 := own_eq hat1; rw [szA] at e1; have H0 := hid hown1; have b1 := hid (gr_heap (blkA HR.out _) hgrow1 (by omega)); have BL := hid (belG (belA HBEL.out hs3 _) hgrow1 (by rw [szA]; omega) (by omega)); have ne1 := own_ne (n := 0) (c := 0) (show w2.heap.size ≠ p by omega); have hs1 := hgrow1.size; rw [szA] at hs1; clear hat1)
      | ((fail_if_success (have _t := hown1)); (with_reducible refine pickB ?_); refine step_append_lies _ (by rfl) (.tmp 15) (.tmp 17) _ (by rfl) p 3 i0 _ 1 8 Try.underlying29 hi0 hz0 hz1 hz2 rfl one_pos (.slice (some ⟨w2.heap.size, 0, none⟩) 0 0) 0 [] (by rfl) (ownB w2 p _ hs3) ⟨g, o, none⟩ m c (M.map (Value.int .i64)) (by rfl) hmm.out (news_of HC.out (belB HBEL.out hs3 _ _) hlt) (ints_oneCell _ _) hM0 hb1 hb2 (by rw [szB]; omega) _ rfl ?_; intro g1 c1 w1 hown1 hgrow1 hat1 hlt1; have e1 := own_eq hat1; rw [szB] at e1; have H0 := hid hown1; have b1 := hid (gr_heap (blkB HR.out _ _) hgrow1 (by omega)); have BL := hid (belG (belB HBEL.out hs3 _ _) hgrow1 (by rw [szB]; omega) (by omega)); have ne1 := own_ne (n := 0) (c := 0) (show w2.heap.size ≠ p by omega); have hs1 := hgrow1.size; rw [szB] at hs1; have n1 := hid (gr_heap (lastB w2 _ _) hgrow1 (by omega)); clear hat1)
      | ((fail_if_success (have _t := hown1)); (with_reducible refine pickC ?_); refine step_append_lies _ (by rfl) (.tmp 15) (.tmp 17) _ (by rfl) p 3 i0 _ 1 8 Try.underlying29 hi0 hz0 hz1 hz2 rfl one_pos (.slice (some ⟨w2.heap.size + 1, 0, none⟩) 0 0) 0 [] (by rfl) (ownC w2 p _ hs3) ⟨g, o, none⟩ m c (M.map (Value.int .i64)) (by rfl) hmm.out (news_of HC.out (belB HBEL.out hs3 _ _) hlt) (ints_oneCell _ _) hM0 hb1 hb2 (by rw [szB]; omega) _ rfl ?_; intro g1 c1 w1 hown1 hgrow1 hat1 hlt1; have e1 := own_eq hat1; rw [szB] at e1; have H0 := hid hown1; have b1 := hid (gr_heap (blkB HR.out _ _) hgrow1 (by omega)); have BL := hid (belG (belB HBEL.out hs3 _ _) hgrow1 (by rw [szB]; omega) (by omega)); have ne1 := own_ne (n := 0) (c := 0) (show w2.heap.size + 1 ≠ p by omega); have hs1 := hgrow1.size; rw [szB] at hs1; have n2 := hid (gr_heap (lastC w2 _ _) hgrow1 (by omega)); clear hat1)
      | (have _t := n1; refine step_append_lies _ (by rfl) (.tmp 18) (.tmp 20) _ (by rfl) p 3 i0 _ 1 8 Try.underlying29 hi0 hz0 hz1 hz2 rfl one_pos (.slice (some ⟨g1, 0, none⟩) (0 + m) c1) (0 + m) ([] ++ M.map (Value.int .i64)) (by rfl) (H0.out) ⟨w2.heap.size + 1, 0, none⟩ 1 1 [.int .i64 y] (by rfl) rfl (World.news_of_block (cs := #[.int .i64 y]) (t := 3) (fr := (0, 0)) (n1.out)) (one_one y) one_pos hb3 hb4 (by omega) _ rfl ?_; intro g2 c2 w3 hown2 hgrow2 hat2 hlt2; (try simp only [Nat.zero_add, List.nil_append] at hown2); have b2 := gr_heap (b1.out) hgrow2 (by omega); have z0 := cell_of b2 0 (v := .int .i64 0) rfl; have z1 := cell_of b2 1 (v := .slice none 0 0) rfl; have f0 := free_of b2 0; have f1 := free_of b2 1; have B2 := hid b2; have BL2 := hid (belG (BL.out) hgrow2 (by omega) (by omega)); have ne2 := own_ne (n := m) (c := c1) (show g1 ≠ p by omega); have H2 := hid hown2; have e2 := own_eq hat2; have ng := hid (show g2 ≠ r by omega); clear b2 hat2 hown2 e2)
      | (have _t := n2; refine step_append_lies _ (by rfl) (.tmp 18) (.tmp 20) _ (by rfl) p 3 i0 _ 1 8 Try.underlying29 hi0 hz0 hz1 hz2 rfl one_pos (.slice (some ⟨g1, 0, none⟩) (0 + m) c1) (0 + m) ([] ++ M.map (Value.int .i64)) (by rfl) (H0.out) ⟨w2.heap.size, 0, none⟩ 1 1 [.int .i64 y] (by rfl) rfl (World.news_of_block (cs := #[.int .i64 y]) (t := 3) (fr := (0, 0)) (n2.out)) (one_one y) one_pos hb3 hb4 (by omega) _ rfl ?_; intro g2 c2 w3 hown2 hgrow2 hat2 hlt2; (try simp only [Nat.zero_add, List.nil_append] at hown2); have b2 := gr_heap (b1.out) hgrow2 (by omega); have z0 := cell_of b2 0 (v := .int .i64 0) rfl; have z1 := cell_of b2 1 (v := .slice none 0 0) rfl; have f0 := free_of b2 0; have f1 := free_of b2 1; have B2 := hid b2; have BL2 := hid (belG (BL.out) hgrow2 (by omega) (by omega)); have ne2 := own_ne (n := m) (c := c1) (show g1 ≠ p by omega); have H2 := hid hown2; have e2 := own_eq hat2; have ng := hid (show g2 ≠ r by omega); clear b2 hat2 hown2 e2)
      | (have _t := hown1; (fail_if_success (have _t := n1)); (fail_if_success (have _t := n2)); refine step_append_lies _ (by rfl) (.tmp 18) (.tmp 20) _ (by rfl) p 3 i0 _ 1 8 Try.underlying29 hi0 hz0 hz1 hz2 rfl one_pos (.slice (some ⟨g1, 0, none⟩) m c1) m (M.map (Value.int .i64)) (by rfl) (ownA2 H0.out _) ⟨w1.heap.size, 0, none⟩ 1 1 [.int .i64 y] (by rfl) rfl (World.news_of_block (cs := #[.int .i64 y]) (t := 3) (fr := (0, 0)) (heap_new w1 _)) (one_one y) one_pos hb5 hb6 (by rw [sz1]; omega) _ rfl ?_; intro g2 c2 w3 hown2 hgrow2 hat2 hlt2; (try simp only [Nat.zero_add, List.nil_append] at hown2); have b2 := gr_heap (heap_old b1.out _) hgrow2 (by omega); have z0 := cell_of b2 0 (v := .int .i64 0) rfl; have z1 := cell_of b2 1 (v := .slice none 0 0) rfl; have f0 := free_of b2 0; have f1 := free_of b2 1; have B2 := hid b2; have BL2 := hid (belG (BL.out.alloc (by omega) _) hgrow2 (by rw [sz1]; omega) (by omega)); have ne2 := own_ne (n := m) (c := c1) (show g1 ≠ p by omega); have H2 := hid hown2; have e2 := own_eq hat2; rw [sz1] at e2; have ng := hid (show g2 ≠ r by omega); clear b2 hat2 hown2 e2)
      | fail)
  all_goals
    clear hown1 hgrow1 hgrow2
    go_wp2
    refine bodyPost_ret (v := .tuple #[.agg #[.int .i64 cap, .slice (some ⟨g2, 0, none⟩) (m + 1) c2], .int .i64 0]) (by simp [results, Try.results11, go_sem, z0, z1]) rfl ⟨_, rfl, ?_, ?_⟩
    · rw [← HP.out]
      have e5 := Go.ownsRow_setCell_other (Go.ownsRow_setCell_other H2.out (a := ⟨r, 0, none⟩) (own_ne ng.out) (.int .i64 cap)) (a := ⟨r, 1, none⟩) (own_ne ng.out) (.slice (some ⟨g2, 0, none⟩) (m + 1) c2)
      have e6 : M.map (Value.int .i64) ++ [.int .i64 y] = (M ++ [y]).map (Value.int .i64) := by simp
      rw [e6] at e5
      exact IntsAt.of_owns e5
    · rw [← HP.out]
      exact (BL2.out.setCell (p := ⟨r, 0, none⟩) (by simp; omega) _).setCell (p := ⟨r, 1, none⟩) (by simp; omega) _

end Go.Proofs.Ytjlamecjenibcaa
