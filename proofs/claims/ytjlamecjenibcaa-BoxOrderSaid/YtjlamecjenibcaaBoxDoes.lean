/-
  BoxDoes, walked.
-/
import Derived.Test.YtjlamecjenibcaaBoxAwake
import Derived.Deep.DeepCutAuto
namespace Go.Proofs.Ytjlamecjenibcaa
open Go.RowKit

variable {σ : Type}

theorem refPop_ok (cap : Int) (v : Value) (L : List Int) (ok : Nat → Prop) (w : World) (h : IntsAt w ok v L) :
    Calls Try.prog 9 #[.agg #[.int .i64 cap, v]] w fun e w' => ∃ ao c, e = .returned (.tuple #[.int .i64 (popV L), .agg #[.int .i64 cap, .slice ao L.tail.length c], .int .i64 (popE L)]) ∧ IntsAt w' ok (.slice ao L.tail.length c) L.tail ∧ Below w.heap.size w w' := by
  cases L with
  | nil =>
    have H := h
    obtain ⟨ao, c, rfl, _⟩ := h
    refine (refPop_none cap ao c w).mono ?_
    rintro e w' ⟨rfl, hb⟩
    exact ⟨_, _, rfl, H.fr (S := fun _ => False) (Fr.of_below hb (fun i h1 h2 => by omega)) (fun _ _ e => e) (fun _ h _ => h), hb⟩
  | cons y L =>
    refine (refPop_some cap v y L ok w h).mono ?_
    rintro e w' ⟨v', rfl, hi, hb⟩
    have hi' := hi.fr (S := fun _ => False) (Fr.of_below hb (fun i h1 h2 => by omega)) (fun _ _ e => e) (ok' := ok) (fun _ h _ => h)
    have H := hi'
    obtain ⟨ao, c, rfl, _⟩ := hi'
    exact ⟨_, _, rfl, H, hb⟩

theorem refPush_any (most : Nat) (v : Value) (y : Int) (L : List Int) (ok : Nat → Prop) (w : World) (h : IntsAt w ok v L) (hcl : L.length ≤ most) (hcap : most ≤ 4096) :
    Calls Try.prog 11 #[.agg #[.int .i64 most, v], .int .i64 y] w fun e w' => ∃ ao c, e = .returned (.tuple #[.agg #[.int .i64 most, .slice ao (pushL most L y).length c], .int .i64 (pushE most L)]) ∧
      IntsAt w' (fun g => ok g ∨ w.heap.size ≤ g) (.slice ao (pushL most L y).length c) (pushL most L y) ∧ Below w.heap.size w w' := by
  by_cases hf : L.length < most
  · simp only [pushE, pushL, if_pos hf]
    refine (refPush_ok most v y L ok w h (by omega) (by omega)).mono ?_
    rintro e w' ⟨v', rfl, hi, hb⟩
    have H := hi.mono (ok' := fun g => ok g ∨ w.heap.size ≤ g) (fun g h _ => .inr h)
    obtain ⟨ao, c, rfl, _⟩ := hi
    exact ⟨_, _, rfl, H, hb⟩
  · simp only [pushE, pushL, if_neg hf]
    have H := h
    obtain ⟨ao, c, rfl, _⟩ := h
    refine (refPush_full most ao L.length c y w (by omega)).mono ?_
    rintro e w' ⟨rfl, hb⟩
    exact ⟨_, _, rfl, H.fr (S := fun _ => False) (Fr.of_below hb (fun i h1 h2 => by omega)) (fun _ _ e => e) (fun _ h _ => .inl h), hb⟩

/-- what BoxDoes reads: turns -/
def OpsAt (w : World) (ao : Option Addr) (ops : List (Bool × Int)) : Prop :=
  ∀ i p x, ops[i]? = some (p, x) → ∃ g o, ao = some ⟨g, o, none⟩ ∧ g < w.heap.size ∧ w.cell? ⟨g, o + i * 2, none⟩ = some (.bool p) ∧ w.cell? ⟨g, o + i * 2 + 1, none⟩ = some (.int .i64 x)

set_option maxHeartbeats 1000000 in
theorem does_long (most : Int) (ao : Option Addr) (n cap : Nat) (w : World) (hn : 60 < n) (hn2 : n ≤ 9223372036854775807) :
    Calls Try.prog 3 #[.int .i64 most, .slice ao n cap] w fun e w' => e = .returned (.bool true) ∧ Below w.heap.size w w' := by
  go_enter Try.func3, Try.ntmps3
  go_wp2_with fail
  refine (awake_ok w).mono ?_
  rintro e w' ⟨rfl, hb⟩
  have HB := hid hb
  clear hb
  go_wp2_with fail
  go_ret
  exact ⟨rfl, HB.out⟩

set_option maxHeartbeats 1000000 in
theorem does_bad (most : Int) (ao : Option Addr) (n cap : Nat) (w : World) (hn : n ≤ 60) (hm : most < 1 ∨ 4096 < most) :
    Calls Try.prog 3 #[.int .i64 most, .slice ao n cap] w fun e w' => e = .returned (.bool true) ∧ Below w.heap.size w w' := by
  have q1 : ¬ (60 : Int) < n := by omega
  go_enter Try.func3, Try.ntmps3
  go_wp2_with fail
  refine (new_bad most w hm).mono ?_
  rintro e w' ⟨rfl, rfl⟩
  go_wp2_with fail
  refine (refMay_bad most w hm).mono ?_
  rintro e w' ⟨rfl, rfl⟩
  go_wp2_with fail
  refine (awake_ok w).mono ?_
  rintro e w' ⟨rfl, hb⟩
  have HB := hid hb
  clear hb
  go_wp2_with fail
  go_ret
  exact ⟨rfl, HB.out⟩

/-- what holds at each round's head -/
def DoesInv (w wr : World) (b pc most : Nat) : Prop :=
  ∃ (L : List Int) (S : Nat → Prop) (vc : Value), Live W0 wr w.heap.size b most L () S ∧ wr.heap[pc]? = some (.cells #[.int .i64 most, vc] 31 (0, 0)) ∧ ¬ S pc ∧
    IntsAt wr (fun g => ¬ S g ∧ g ≠ pc) vc L ∧ Below w.heap.size w wr ∧ (∀ k, S k → w.heap.size ≤ k) ∧ w.heap.size ≤ pc

/-- what holds behind the round's turn -/
structure DoesMid (w wr : World) (b pc most : Nat) (L : List Int) (S : Nat → Prop) (vc : Value) : Prop where
  live : Live W0 wr w.heap.size b most L () S
  blk : wr.heap[pc]? = some (.cells #[.int .i64 most, vc] 31 (0, 0))
  ns : ¬ S pc
  ints : IntsAt wr (fun g => ¬ S g ∧ g ≠ pc) vc L
  bel : Below w.heap.size w wr
  old : ∀ k, S k → w.heap.size ≤ k
  pcb : w.heap.size ≤ pc

theorem DoesMid.eq {w w1 w2 : World} {b pc most : Nat} {L : List Int} {S : Nat → Prop} {vc : Value} (h : DoesMid w w1 b pc most L S vc) (hh : w2.heap = w1.heap) (ho : w2.os = w1.os) (ht : w2.tape = w1.tape) (hp : w2.output = w1.output) : DoesMid w w2 b pc most L S vc :=
  ⟨h.live.fr (T := fun _ => False) ⟨ho, ht, hp, by rw [hh]; exact Nat.le_refl _, fun _ _ _ => by rw [hh]⟩ (fun _ _ e => e), by rw [hh]; exact h.blk, h.ns,
    h.ints.fr (S := fun _ => False) ⟨ho, ht, hp, by rw [hh]; exact Nat.le_refl _, fun _ _ _ => by rw [hh]⟩ (fun _ _ e => e) (fun _ h _ => h),
    ⟨ho.trans h.bel.os, ht.trans h.bel.tape, hp.trans h.bel.output, by rw [hh]; exact h.bel.size, fun k hk => by rw [hh]; exact h.bel.block k hk⟩, h.old, h.pcb⟩

/-- a new block, and the document's box stored -/
theorem DoesMid.stored {w w1 w2 : World} {b pc most : Nat} {L : List Int} {S : Nat → Prop} {vc v' : Value} (hL : Live W0 w1 w.heap.size b most L () S) (hb : w1.heap[pc]? = some (.cells #[.int .i64 most, vc] 31 (0, 0)))
    (hs : ¬ S pc) (hi : IntsAt w1 (fun g => ¬ S g ∧ g ≠ pc) v' L) (hbel : Below w.heap.size w w1) (hold : ∀ k, S k → w.heap.size ≤ k) (hpc : w.heap.size ≤ pc) (o : Obj)
    (hh : w2 = ((w1.setCell ⟨pc, 0, none⟩ (.int .i64 most)).setCell ⟨pc, 1, none⟩ v').alloc o) : DoesMid w w2 b pc most L S v' := by
  have hf : Fr (fun k => k = pc) w1 w2 := by
    rw [hh]; exact (((Fr.refl (fun k => k = pc) w1).setCell (fun _ => rfl) _).setCell (fun _ => rfl) _).alloc o
  refine ⟨hL.fr hf (fun k hk e => hs (e ▸ hk)), ?_, hs, hi.fr hf (fun g h e => h.2 e) (fun g h _ => h), ?_, hold, hpc⟩
  · have := heap_old (heap_set (heap_set (i := 0) hb (.int .i64 most)) (i := 1) v') o
    rw [hh, this]; simp
  · exact hbel.trans (hf.below hbel.size (fun i hi e => by omega))

theorem DoesMid.storedB {w w1 w2 : World} {b pc most q : Nat} {L : List Int} {S : Nat → Prop} {vc v' : Value} (hL : Live W0 w1 w.heap.size b most L () S) (hb : w1.heap[pc]? = some (.cells #[.int .i64 most, vc] 31 (0, 0)))
    (hs : ¬ S pc) (hi : IntsAt w1 (fun g => (¬ S g ∧ g ≠ pc) ∧ g ≠ q) v' L) (hbel : Below w.heap.size w w1) (hold : ∀ k, S k → w.heap.size ≤ k) (hpc : w.heap.size ≤ pc) (hq : ¬ S q) (hq2 : w.heap.size ≤ q) (hne : q ≠ pc) (u0 u1 : Value)
    (hh : w2 = (((w1.setCell ⟨q, 0, none⟩ u0).setCell ⟨q, 1, none⟩ u1).setCell ⟨pc, 0, none⟩ (.int .i64 most)).setCell ⟨pc, 1, none⟩ v') : DoesMid w w2 b pc most L S v' := by
  have hf1 : Fr (fun k => k = q) w1 ((w1.setCell ⟨q, 0, none⟩ u0).setCell ⟨q, 1, none⟩ u1) :=
    ((Fr.refl (fun k => k = q) w1).setCell (fun _ => rfl) _).setCell (fun _ => rfl) _
  have hf2 : Fr (fun k => k = pc) ((w1.setCell ⟨q, 0, none⟩ u0).setCell ⟨q, 1, none⟩ u1) w2 := by
    rw [hh]; exact ((Fr.refl (fun k => k = pc) _).setCell (fun _ => rfl) _).setCell (fun _ => rfl) _
  have hb1 := hf1.heap hb (fun e => hne e.symm)
  have hbel1 := hbel.trans (hf1.below hbel.size (fun i hi e => by omega))
  refine ⟨(hL.fr hf1 (fun k hk e => hq (e ▸ hk))).fr hf2 (fun k hk e => hs (e ▸ hk)), ?_, hs,
    (hi.fr hf1 (ok' := fun g => ¬ S g ∧ g ≠ pc) (fun g h e => h.2 e) (fun g h _ => h.1)).fr hf2 (fun g h e => h.2 e) (fun g h _ => h), ?_, hold, hpc⟩
  · have := heap_set (heap_set (i := 0) hb1 (.int .i64 most)) (i := 1) v'
    rw [hh, this]; simp
  · exact hbel1.trans (hf2.below hbel1.size (fun i hi e => by omega))

theorem keepB {w w' : World} {pc i j : Nat} {u v : Value} {o : Nat} (hb : Below (w.drewN o).heap.size (w.drewN o) w') (hp : pc < w.heap.size) (h : (w.drewN o).cell? ⟨pc, i, none⟩ = some u ∧ (w.drewN o).cell? ⟨pc, j, none⟩ = some v) :
    w'.cell? ⟨pc, i, none⟩ = some u ∧ w'.cell? ⟨pc, j, none⟩ = some v :=
  ⟨(hb.cell (p := ⟨pc, i, none⟩) hp).trans h.1, (hb.cell (p := ⟨pc, j, none⟩) hp).trans h.2⟩

theorem keepB3 {w w' : World} {pc i j g k : Nat} {u v x : Value} {o : Nat} (hb : Below (w.drewN o).heap.size (w.drewN o) w') (hp : pc < w.heap.size) (hg : g < w.heap.size) (h : (w.drewN o).cell? ⟨pc, i, none⟩ = some u ∧ (w.drewN o).cell? ⟨pc, j, none⟩ = some v ∧ (w.drewN o).cell? ⟨g, k, none⟩ = some x) :
    w'.cell? ⟨pc, i, none⟩ = some u ∧ w'.cell? ⟨pc, j, none⟩ = some v ∧ w'.cell? ⟨g, k, none⟩ = some x :=
  ⟨(hb.cell (p := ⟨pc, i, none⟩) hp).trans h.1, (hb.cell (p := ⟨pc, j, none⟩) hp).trans h.2.1, (hb.cell (p := ⟨g, k, none⟩) hg).trans h.2.2⟩

theorem keepD3 {w w' : World} {pc i j g k : Nat} {u v x : Value} (hb : Below w.drew.heap.size w.drew w') (hp : pc < w.heap.size) (hg : g < w.heap.size) (h : w.drew.cell? ⟨pc, i, none⟩ = some u ∧ w.drew.cell? ⟨pc, j, none⟩ = some v ∧ w.drew.cell? ⟨g, k, none⟩ = some x) :
    w'.cell? ⟨pc, i, none⟩ = some u ∧ w'.cell? ⟨pc, j, none⟩ = some v ∧ w'.cell? ⟨g, k, none⟩ = some x :=
  ⟨(hb.cell (p := ⟨pc, i, none⟩) hp).trans h.1, (hb.cell (p := ⟨pc, j, none⟩) hp).trans h.2.1, (hb.cell (p := ⟨g, k, none⟩) hg).trans h.2.2⟩
theorem allocD3 {w : World} {pc i j g k : Nat} {u v x : Value} (h : w.cell? ⟨pc, i, none⟩ = some u ∧ w.cell? ⟨pc, j, none⟩ = some v ∧ w.cell? ⟨g, k, none⟩ = some x) (o : Obj) :
    (w.alloc o).cell? ⟨pc, i, none⟩ = some u ∧ (w.alloc o).cell? ⟨pc, j, none⟩ = some v ∧ (w.alloc o).cell? ⟨g, k, none⟩ = some x :=
  ⟨(World.cell?_alloc_lt _ _ _ (World.block_lt_of_cell? _ _ h.1)).trans h.1, (World.cell?_alloc_lt _ _ _ (World.block_lt_of_cell? _ _ h.2.1)).trans h.2.1, (World.cell?_alloc_lt _ _ _ (World.block_lt_of_cell? _ _ h.2.2)).trans h.2.2⟩
theorem intsAl {w : World} {ok : Nat → Prop} {v : Value} {L : List Int} {o : Obj} (h : IntsAt w ok v L) : IntsAt (w.alloc o).drew ok v L :=
  h.fr (S := fun _ => False) (((Fr.refl (fun _ => False) w).alloc o).drew) (fun _ _ e => e) (fun _ h _ => h)
theorem keepE3 {w w' : World} {pc i j g k : Nat} {u v x : Value} {q : Obj} (hb : Below (w.alloc q).drew.heap.size (w.alloc q).drew w') (hp : pc < w.heap.size) (hg : g < w.heap.size) (h : w.cell? ⟨pc, i, none⟩ = some u ∧ w.cell? ⟨pc, j, none⟩ = some v ∧ w.cell? ⟨g, k, none⟩ = some x) :
    w'.cell? ⟨pc, i, none⟩ = some u ∧ w'.cell? ⟨pc, j, none⟩ = some v ∧ w'.cell? ⟨g, k, none⟩ = some x := by
  have h' := allocD3 h q
  exact ⟨(hb.cell (p := ⟨pc, i, none⟩) (by simp; omega)).trans h'.1, (hb.cell (p := ⟨pc, j, none⟩) (by simp; omega)).trans h'.2.1, (hb.cell (p := ⟨g, k, none⟩) (by simp; omega)).trans h'.2.2⟩
theorem blk15 {w w' : World} {q : Obj} (hb : Below (w.alloc q).drew.heap.size (w.alloc q).drew w') : w'.heap[w.heap.size]? = some q :=
  (hb.block w.heap.size (by simp)).trans (heap_new w q)
theorem intsDrew {w : World} {ok : Nat → Prop} {v : Value} {L : List Int} (h : IntsAt w ok v L) : IntsAt w.drew ok v L :=
  h.fr (S := fun _ => False) ((Fr.refl (fun _ => False) w).drew) (fun _ _ e => e) (fun _ h _ => h)

theorem len_liveN (W : Watch 51 Try.prog 22 σ) {w : World} {B b most m2 : Nat} {L : List Int} {s : σ} {S : Nat → Prop} (h : Live W w B b most L s S) (hm : m2 = L.length) :
    Calls Try.prog 13 #[.pointer (some ⟨b, 0, none⟩)] w fun e w' => e = .returned (.int .i64 m2) ∧ w = w' := by subst hm; exact len_live W h
theorem room_liveN (W : Watch 51 Try.prog 22 σ) {w : World} {B b most m2 : Nat} {L : List Int} {s : σ} {S : Nat → Prop} (h : Live W w B b most L s S) (hm : m2 = L.length) :
    Calls Try.prog 14 #[.pointer (some ⟨b, 0, none⟩)] w fun e w' => e = .returned (.int .i64 ((most : Int) - (m2 : Int))) ∧ ∃ m, w' = w.drewN m := by subst hm; exact room_live W h
theorem doesFirst {w w4 : World} {b pc most : Nat} {y : Int} {L : List Int} {S : Nat → Prop} {ao : Option Addr} {m c : Nat} (M : DoesMid w w4 b pc most (y :: L) S (.slice ao m c)) :
    ∃ g o, ao = some ⟨g, o, none⟩ ∧ w4.cell? ⟨g, o, none⟩ = some (.int .i64 y) ∧ g < w4.heap.size := by
  obtain ⟨ao', c', hv, _, _, hp⟩ := M.ints
  obtain ⟨g, o, rfl, _, hl, hc⟩ := hp (by simp)
  simp only [Value.slice.injEq] at hv
  exact ⟨g, o, hv.1, by have := hc 0 y rfl; simpa using this, hl⟩

theorem doesC {w w4 w8 : World} {b pc most : Nat} {L : List Int} {S : Nat → Prop} {vc : Value} (M : DoesMid w w4 b pc most L S vc) {j : Nat} (hb : Below (w4.drewN j).heap.size (w4.drewN j) w8) : IntsAt w8 (fun _ => True) vc L :=
  M.ints.fr (S := fun _ => False) (((Fr.refl (fun _ => False) w4).drewN j).trans' (Fr.of_below hb (fun i h1 h2 => by omega))) (fun _ _ e => e) (fun _ _ _ => trivial)

def DoesCut (w : World) (b pc most : Nat) (wx : World) : Prop := ∃ (L : List Int) (S : Nat → Prop) (ao : Option Addr) (c : Nat), DoesMid w wx b pc most L S (.slice ao L.length c)

set_option maxRecDepth 100000 in
set_option maxHeartbeats 4000000 in
theorem does_ok (most : Nat) (ao : Option Addr) (n cap : Nat) (ops : List (Bool × Int)) (w : World) (hn : n ≤ 60) (ho : ops.length = n) (hops : OpsAt w ao ops) (hm1 : 1 ≤ most) (hm2 : most ≤ 4096) :
    Calls Try.prog 3 #[.int .i64 most, .slice ao n cap] w fun e w' => e = .returned (.bool true) ∧ Below w.heap.size w w' := by
  have q1 : ¬ (60 : Int) < n := by omega
  have HO := hid ho
  have HOPS := hid hops
  clear ho hops
  go_enter Try.func3, Try.ntmps3
  go_wp2_with fail
  refine (new_live most w (by omega) (by omega)).mono ?_
  rintro e w1 ⟨b, rfl, hL, hb1, hwb⟩
  have HL := hid hL
  have HB1 := hid hb1
  clear hL hb1
  go_wp2_with fail
  refine (refMay_ok most w1 (by omega) (by omega)).mono ?_
  rintro e w' ⟨rfl, rfl⟩
  go_wp2_with fail
  obtain ⟨pc, hpc⟩ : ∃ pc, pc = w1.heap.size := ⟨_, rfl⟩
  have hbs := HL.out.lt b rfl
  rw [← hpc]
  have HPC := hid hpc
  clear hpc
  go_loopw [8] (fun i wr => ∃ k : Nat, k ≤ n ∧ i = .int .i64 k ∧ DoesInv w wr b pc most) (fun i _ => n - (intOf i).toNat)
  case atStart =>
    refine ⟨0, Nat.zero_le _, rfl, [], _, .slice none 0 0, HL.out.fr ((Fr.refl (fun _ => False) w1).alloc _) (fun _ _ e => e), ?_, ?_, IntsAt.nil _ _, HB1.out.alloc HB1.out.size _, ?_, by rw [HPC.out]; exact HB1.out.size⟩
    · rw [HPC.out]; exact heap_new w1 _
    · rw [HPC.out]; omega
    · rintro k rfl; exact hwb
  case round =>
    obtain ⟨k, hk, rfl, hinv⟩ := hrel
    by_cases hkl : k < n
    · obtain ⟨⟨p, x⟩, hop⟩ : ∃ z, ops[k]? = some z := ⟨_, List.getElem?_eq_getElem (by rw [HO.out]; exact hkl)⟩
      obtain ⟨g, o, rfl, hgl, hc0, hc1⟩ := HOPS.out k p x hop
      obtain ⟨L, S, vc, hL, hpb, hpS, hI, hbel, hS, hpcb⟩ := hinv
      have r0 : wr.cell? ⟨g, o + k * 2, none⟩ = some (.bool p) := (hbel.cell hgl).trans hc0
      have r1 : wr.cell? ⟨g, o + k * 2 + 1, none⟩ = some (.int .i64 x) := (hbel.cell hgl).trans hc1
      have cL := hL.cnt.1
      have c0 := cell_of hpb 0 (v := .int .i64 most) rfl
      have c1 := cell_of hpb 1 (v := vc) rfl
      have HLv := hid hL
      have HPB := hid hpb
      have HPS := hid hpS
      have HI := hid hI
      have HBEL := hid hbel
      have HS := hid hS
      have hc1' := hid hc1
      clear hop hc0 hc1 hL hpb hpS hI hbel hS
      go_upto_if 58 with fail
      go_cut [] (fun wx => DoesCut w b pc most wx)
      case first =>
        cases p with
        | true =>
          go_wp2_with fail
          refine (pop_live W0 HLv.out).mono ?_
          rintro e w2 ⟨rfl, hL, hF⟩
          have hpb2 := hF.heap HPB.out HPS.out
          have hI2 := HI.out.fr hF (fun g h => h.1) (ok' := fun g => ¬ S g ∧ g ≠ pc) (fun g h _ => h)
          have hbel2 := HBEL.out.trans (hF.below HBEL.out.size (fun i hi hs => by have := HS.out i hs; omega))
          have d0 := cell_of hpb2 0 (v := .int .i64 most) rfl
          have d1 := cell_of hpb2 1 (v := vc) rfl
          have HL2 := hid hL
          have HPB2 := hid hpb2
          have HI2 := hid hI2
          have HBEL2 := hid hbel2
          clear hL hF hpb2 hI2 hbel2 c0 c1 r0 r1 HLv HPB HI HBEL
          go_wp2_with fail
          refine (refPop_ok most vc L _ w2 HI2.out).mono ?_
          rintro e w3 ⟨ao2, c2, rfl, hI3, hb3⟩
          have hf3 := Fr.of_below (S := fun _ => False) hb3 (fun i h1 h2 => by omega)
          have hL3 := HL2.out.fr hf3 (fun _ _ e => e)
          have hpb3 := hf3.heap HPB2.out (fun e => e)
          have hbel3 := HBEL2.out.trans (hb3.mono HBEL2.out.size)
          obtain ⟨L2, hL2⟩ : ∃ L2, L2 = L.tail := ⟨_, rfl⟩
          rw [← hL2] at hI3 hL3 ⊢
          clear hL2
          obtain ⟨w4, hw4⟩ : ∃ w4, w4 = ((w3.setCell ⟨pc, 0, none⟩ (.int .i64 most)).setCell ⟨pc, 1, none⟩ (.slice ao2 L2.length c2)).alloc (.cells #[.int .i64 most, .slice ao2 L2.length c2] 31) := ⟨_, rfl⟩
          have M := hid (DoesMid.stored hL3 hpb3 HPS.out hI3 hbel3 HS.out hpcb _ hw4)
          have d0 := cell_of hpb3 0 (v := .int .i64 most) rfl
          have d1 := cell_of hpb3 1 (v := vc) rfl
          have f0 := free_of hpb3 0
          have f1 := free_of hpb3 1
          have hpl := lt_of_block hpb3
          have HW4 := hid hw4
          clear hI3 hb3 hf3 hL3 hpb3 hbel3 HL2 HPB2 HI2 HBEL2 hw4
          go_wp2_with fail
          rw [← HW4.out]
          clear d0 d1 f0 f1 HW4
          go_meet
          exact ⟨_, _, _, _, M.out⟩
        | false =>
          go_wp2_with fail
          refine (push_live W0 HLv.out HBEL.out.size x).mono ?_
          rintro e w2 ⟨rfl, S2, hL, hF, hS2⟩
          have hpb2 := hF.heap HPB.out HPS.out
          have hpS2 : ¬ S2 pc := fun h => (hS2 pc h).elim HPS.out (fun h => by have := lt_of_block HPB.out; omega)
          have hI2 := HI.out.fr hF (fun g h => h.1) (ok' := fun g => ¬ S2 g ∧ g ≠ pc) (fun g h hl => ⟨fun h2 => (hS2 g h2).elim h.1 (fun h3 => by omega), h.2⟩)
          have hbel2 := HBEL.out.trans (hF.below HBEL.out.size (fun i hi hs => by have := HS.out i hs; omega))
          have hold2 : ∀ k, S2 k → w.heap.size ≤ k := fun k hk => (hS2 k hk).elim (HS.out k) (fun h => Nat.le_trans HBEL.out.size h)
          have d0 := cell_of hpb2 0 (v := .int .i64 most) rfl
          have d1 := cell_of hpb2 1 (v := vc) rfl
          have r1' : w2.cell? ⟨g, o + k * 2 + 1, none⟩ = some (.int .i64 x) := (hbel2.cell hgl).trans hc1'.out
          have HL2 := hid hL
          have HPB2 := hid hpb2
          have HPS2 := hid hpS2
          have HI2 := hid hI2
          have HI2B := hid (hI2.mono (ok' := fun g => (¬ S2 g ∧ g ≠ pc) ∧ g ≠ w2.heap.size) (fun g h hl => ⟨h, by omega⟩))
          have HBEL2 := hid hbel2
          have HS2 := hid hold2
          have hpl2 := lt_of_block hpb2
          have hgl2 := Nat.lt_of_lt_of_le hgl hbel2.size
          clear hL hF hpb2 hI2 hbel2 c0 c1 r0 r1 HLv HPB HI HBEL hpS2 hS2 hold2 HPS HS
          go_wp2_with fail
          go_region_held3 (fun w' => w'.cell? ⟨pc, 0, none⟩ = some (.int .i64 most) ∧ w'.cell? ⟨pc, 1, none⟩ = some vc ∧ w'.cell? ⟨g, o + k * 2 + 1, none⟩ = some (.int .i64 x))
            (first | exact allocD3 k3 _ | exact k3 | go_keep)
            (first
              | (go_at_call 11; refine (refPush_any most vc x L _ w2.drew (intsDrew HI2.out) cL hm2).mono ?_; rintro e w3 ⟨ao2, c2, rfl, hI3, hb3⟩; have k3 := keepD3 hb3 hpl2 hgl2 ⟨d0, d1, r1'⟩)
              | (go_at_call 11; refine (refPush_any most vc x L _ (w2.alloc (.cells #[.int .i64 0, .slice none 0 0] 31)).drew (intsAl HI2B.out) cL hm2).mono ?_; rintro e w3 ⟨ao2, c2, rfl, hI3, hb3⟩; have k3 := keepE3 hb3 hpl2 hgl2 ⟨d0, d1, r1'⟩; have b15 := blk15 hb3; have z0 := cell_of b15 0 (v := .int .i64 0) rfl; have z1 := cell_of b15 1 (v := .slice none 0 0) rfl; have f0 := free_of b15 0; have f1 := free_of b15 1; have n1 : ¬ w2.heap.size = pc := (by omega); have n2 : ¬ w2.heap.size = g := (by omega); have n3 : ¬ g = w2.heap.size := (by omega); have n4 : ¬ pc = w2.heap.size := (by omega); have B15 := hid b15; clear b15))
          · have hf3 : Fr (fun _ => False) w2 w3 := ((Fr.refl (fun _ => False) w2).drew).trans' (Fr.of_below hb3 (fun i h1 h2 => by omega))
            have hL3 := HL2.out.fr hf3 (fun _ _ e => e)
            have hpb3 := hf3.heap HPB2.out (fun e => e)
            have hbel3 := HBEL2.out.trans (hf3.below HBEL2.out.size (fun i hi e => e.elim))
            have hI3' := hI3.mono (ok' := fun g => ¬ S2 g ∧ g ≠ pc) (fun g h hl => h.elim id (fun h => ⟨fun hs => by have := HL2.out.lt g hs; simp at h; omega, by simp at h; omega⟩))
            have f0 := free_of hpb3 0
            have f1 := free_of hpb3 1
            have hpl := lt_of_block hpb3
            have HL3 := hid hL3
            have HPB3 := hid hpb3
            have HBEL3 := hid hbel3
            have HI3 := hid hI3'
            clear hf3 hL3 hpb3 hbel3 hI3' hI3 hb3
            go_wp2_with fail
            go_meet
            exact ⟨_, _, _, _, DoesMid.stored HL3.out HPB3.out HPS2.out HI3.out HBEL3.out HS2.out hpcb _ rfl⟩
          · have hf3 : Fr (fun _ => False) w2 w3 := (((Fr.refl (fun _ => False) w2).alloc _).drew).trans' (Fr.of_below hb3 (fun i h1 h2 => by omega))
            have hL3 := HL2.out.fr hf3 (fun _ _ e => e)
            have hpb3 := hf3.heap HPB2.out (fun e => e)
            have hbel3 := HBEL2.out.trans (hf3.below HBEL2.out.size (fun i hi e => e.elim))
            have hI3' := hI3.mono (ok' := fun g => (¬ S2 g ∧ g ≠ pc) ∧ g ≠ w2.heap.size) (fun g h hl => h.elim id (fun h => ⟨⟨fun hs => by have := HL2.out.lt g hs; simp at h; omega, by simp at h; omega⟩, by simp at h; omega⟩))
            have hns : ¬ S2 w2.heap.size := fun hs => by have := HL2.out.lt _ hs; omega
            have f2 := free_of hpb3 0
            have f3 := free_of hpb3 1
            have hpl := lt_of_block hpb3
            have hw2 : w.heap.size ≤ w2.heap.size := HBEL2.out.size
            have HL3 := hid hL3
            have HPB3 := hid hpb3
            have HBEL3 := hid hbel3
            have HI3 := hid hI3'
            clear hf3 hL3 hpb3 hbel3 hI3' hI3 hb3
            go_wp2_with fail
            go_meet
            exact ⟨_, _, _, _, DoesMid.storedB HL3.out HPB3.out HPS2.out HI3.out HBEL3.out HS2.out hpcb hns hw2 (by omega) _ _ rfl⟩
      case rest =>
        obtain ⟨L2, S2, ao2, c2, M⟩ := hcut
        obtain ⟨w4, hw4⟩ : ∃ w4, w4 = wc := ⟨_, rfl⟩
        rw [← hw4] at M ⊢
        clear hw4
        have qz := M.live.cnt
        obtain ⟨m2, hm2⟩ : ∃ m2, m2 = L2.length := ⟨_, rfl⟩
        rw [← hm2] at M qz
        have HM2 := hid hm2
        clear hm2
        have M := hid M
        cases L2 with
        | nil =>
          obtain rfl : m2 = 0 := HM2.out
          go_wp2_with fail
          refine (peek_live W0 M.out.live).mono ?_
          rintro e w' ⟨rfl, m, rfl⟩
          have e0 := cell_of M.out.blk 0 (v := .int .i64 most) rfl
          have e1 := cell_of M.out.blk 1 (v := .slice ao2 0 c2) rfl
          have qv : popV ([] : List Int) = 0 := rfl
          have qw : IntKind.i64.wrap (most : Int) = (most : Int) := IntWalk.i64_in _ (by omega)
          have hpl := lt_of_block M.out.blk
          go_wp2_with fail
          refine wp_region_held_drew (S := (fun w' => w'.cell? ⟨pc, 0, none⟩ = some (.int .i64 most) ∧ w'.cell? ⟨pc, 1, none⟩ = some (.slice ao2 0 c2))) (by kernel_rfl) ?_ (fun hH => ?_)
          · go_keep
          refine wpAnyH_take (i := 0) (oi := { dst := some 105, op := Op.move (Operand.tmp 5), type := 24, pos := "law.go:76", after := #[], guard := none }) (v := ?_) rfl (by kernel_rfl) (by kernel_rfl) (by kernel_rfl) (fun _ _ _ h => h) (Or.inl ⟨by rfl, ?_⟩) hH ?_
          rotate_left
          · intro w hSw; (try dsimp only at hSw); go_simp <;> with_reducible rfl
          try simp only [Act.put, List.setIfInBounds_toArray, List.set_cons_zero, List.set_cons_succ]
          refine wpAnyH_take (i := 2) (oi := { dst := some 107, op := Op.fieldAddr 31 (Operand.tmp 7) 1, type := 0, pos := "law.go:76", after := #[], guard := none }) (v := ?_) rfl (by kernel_rfl) (by kernel_rfl) (by kernel_rfl) (fun _ _ _ h => h) (Or.inl ⟨by rfl, ?_⟩) hH ?_
          rotate_left
          · intro w hSw; (try dsimp only at hSw); go_simp <;> with_reducible rfl
          try simp only [Act.put, List.setIfInBounds_toArray, List.set_cons_zero, List.set_cons_succ]
          refine wpAnyH_take (i := 3) (oi := { dst := some 108, op := Op.load 29 (Operand.tmp 107), type := 29, pos := "law.go:76", after := #[{ on := 2, ground := Ground.data }], guard := none }) (v := ?_) rfl (by kernel_rfl) (by kernel_rfl) (by kernel_rfl) (fun _ _ _ h => h) (Or.inl ⟨by rfl, ?_⟩) hH ?_
          rotate_left
          · intro w hSw; (try dsimp only at hSw); go_simp <;> with_reducible rfl
          try simp only [Act.put, List.setIfInBounds_toArray, List.set_cons_zero, List.set_cons_succ]
          refine wpAnyH_take (i := 4) (oi := { dst := some 109, op := Op.call { callee := Callee.builtin Builtin.len, args := #[Operand.tmp 108], argTypes := #[29] }, type := 3, pos := "law.go:76", after := #[{ on := 3, ground := Ground.data }], guard := none }) (v := ?_) rfl (by kernel_rfl) (by kernel_rfl) (by kernel_rfl) (fun _ _ _ h => h) (Or.inl ⟨by rfl, ?_⟩) hH ?_
          rotate_left
          · intro w hSw; (try dsimp only at hSw); go_simp <;> with_reducible rfl
          try simp only [Act.put, List.setIfInBounds_toArray, List.set_cons_zero, List.set_cons_succ]
          refine wpAnyH_ready (rs := [1]) (by kernel_rfl) (by simp) ?_
          refine AllReadyH.cons (o := { dst := some 106, op := Op.call { callee := Callee.value (Operand.func 13), args := #[Operand.tmp 105], argTypes := #[24] }, type := 3, pos := "law.go:76", after := #[{ on := 0, ground := Ground.data }], guard := none }) rfl (fun K hK => ?_) AllReadyH.nil
          go_simp
          go_at_call 13
          refine (len_liveN W0 (M.out.live.drewN _) HM2.out).mono ?_
          rintro e w' ⟨rfl, rfl⟩
          go_simp
          refine hK.out _ _ ?_ (fun hH => ?_)
          · go_keep
          clear hK K
          try simp only [Act.put, List.setIfInBounds_toArray, List.set_cons_zero, List.set_cons_succ]
          refine wpAnyH_take (i := 5) (oi := { dst := some 110, op := Op.binOp BinOp.neq 3 (Operand.tmp 106) (Operand.tmp 109) 3, type := 4, pos := "law.go:76", after := #[{ on := 1, ground := Ground.data }, { on := 4, ground := Ground.data }], guard := none }) (v := ?_) rfl (by kernel_rfl) (by kernel_rfl) (by kernel_rfl) (fun _ _ _ h => h) (Or.inl ⟨by rfl, ?_⟩) hH ?_
          rotate_left
          · intro w hSw; (try dsimp only at hSw); go_simp <;> with_reducible rfl
          try simp only [Act.put, List.setIfInBounds_toArray, List.set_cons_zero, List.set_cons_succ]
          refine wpAnyH_take (i := 6) (oi := { dst := some 111, op := Op.move (Operand.tmp 110), type := 4, pos := "law.go:76", after := #[{ on := 5, ground := Ground.data }, { on := 1, ground := Ground.chain }], guard := none }) (v := ?_) rfl (by kernel_rfl) (by kernel_rfl) (by kernel_rfl) (fun _ _ _ h => h) (Or.inl ⟨by rfl, ?_⟩) hH ?_
          rotate_left
          · intro w hSw; (try dsimp only at hSw); go_simp <;> with_reducible rfl
          try simp only [Act.put, List.setIfInBounds_toArray, List.set_cons_zero, List.set_cons_succ]
          refine wpAnyH_take (i := 7) (oi := { dst := some 112, op := Op.move (Operand.tmp 5), type := 24, pos := "law.go:76", after := #[{ on := 6, ground := Ground.guard }], guard := some (6, false) }) (v := ?_) rfl (by kernel_rfl) (by kernel_rfl) (by kernel_rfl) (fun _ _ _ h => h) (Or.inl ⟨by rfl, ?_⟩) hH ?_
          rotate_left
          · intro w hSw; (try dsimp only at hSw); go_simp <;> with_reducible rfl
          try simp only [Act.put, List.setIfInBounds_toArray, List.set_cons_zero, List.set_cons_succ]
          refine wpAnyH_take (i := 9) (oi := { dst := some 114, op := Op.fieldAddr 31 (Operand.tmp 7) 0, type := 0, pos := "law.go:76", after := #[{ on := 6, ground := Ground.guard }], guard := some (6, false) }) (v := ?_) rfl (by kernel_rfl) (by kernel_rfl) (by kernel_rfl) (fun _ _ _ h => h) (Or.inl ⟨by rfl, ?_⟩) hH ?_
          rotate_left
          · intro w hSw; (try dsimp only at hSw); go_simp <;> with_reducible rfl
          try simp only [Act.put, List.setIfInBounds_toArray, List.set_cons_zero, List.set_cons_succ]
          refine wpAnyH_take (i := 10) (oi := { dst := some 115, op := Op.load 3 (Operand.tmp 114), type := 3, pos := "law.go:76", after := #[{ on := 9, ground := Ground.data }, { on := 6, ground := Ground.guard }], guard := some (6, false) }) (v := ?_) rfl (by kernel_rfl) (by kernel_rfl) (by kernel_rfl) (fun _ _ _ h => h) (Or.inl ⟨by rfl, ?_⟩) hH ?_
          rotate_left
          · intro w hSw; (try dsimp only at hSw); go_simp <;> with_reducible rfl
          try simp only [Act.put, List.setIfInBounds_toArray, List.set_cons_zero, List.set_cons_succ]
          refine wpAnyH_take (i := 11) (oi := { dst := some 116, op := Op.fieldAddr 31 (Operand.tmp 7) 1, type := 0, pos := "law.go:76", after := #[{ on := 6, ground := Ground.guard }], guard := some (6, false) }) (v := ?_) rfl (by kernel_rfl) (by kernel_rfl) (by kernel_rfl) (fun _ _ _ h => h) (Or.inl ⟨by rfl, ?_⟩) hH ?_
          rotate_left
          · intro w hSw; (try dsimp only at hSw); go_simp <;> with_reducible rfl
          try simp only [Act.put, List.setIfInBounds_toArray, List.set_cons_zero, List.set_cons_succ]
          refine wpAnyH_take (i := 12) (oi := { dst := some 117, op := Op.load 29 (Operand.tmp 116), type := 29, pos := "law.go:76", after := #[{ on := 11, ground := Ground.data }, { on := 6, ground := Ground.guard }], guard := some (6, false) }) (v := ?_) rfl (by kernel_rfl) (by kernel_rfl) (by kernel_rfl) (fun _ _ _ h => h) (Or.inl ⟨by rfl, ?_⟩) hH ?_
          rotate_left
          · intro w hSw; (try dsimp only at hSw); go_simp <;> with_reducible rfl
          try simp only [Act.put, List.setIfInBounds_toArray, List.set_cons_zero, List.set_cons_succ]
          refine wpAnyH_take (i := 13) (oi := { dst := some 118, op := Op.call { callee := Callee.builtin Builtin.len, args := #[Operand.tmp 117], argTypes := #[29] }, type := 3, pos := "law.go:76", after := #[{ on := 12, ground := Ground.data }, { on := 6, ground := Ground.guard }], guard := some (6, false) }) (v := ?_) rfl (by kernel_rfl) (by kernel_rfl) (by kernel_rfl) (fun _ _ _ h => h) (Or.inl ⟨by rfl, ?_⟩) hH ?_
          rotate_left
          · intro w hSw; (try dsimp only at hSw); go_simp <;> with_reducible rfl
          try simp only [Act.put, List.setIfInBounds_toArray, List.set_cons_zero, List.set_cons_succ]
          refine wpAnyH_take (i := 14) (oi := { dst := some 119, op := Op.binOp BinOp.sub 3 (Operand.tmp 115) (Operand.tmp 118) 3, type := 3, pos := "law.go:76", after := #[{ on := 10, ground := Ground.data }, { on := 13, ground := Ground.data }, { on := 6, ground := Ground.guard }], guard := some (6, false) }) (v := ?_) rfl (by kernel_rfl) (by kernel_rfl) (by kernel_rfl) (fun _ _ _ h => h) (Or.inl ⟨by rfl, ?_⟩) hH ?_
          rotate_left
          · intro w hSw; (try dsimp only at hSw); go_simp <;> with_reducible rfl
          try simp only [Act.put, List.setIfInBounds_toArray, List.set_cons_zero, List.set_cons_succ]
          refine wpAnyH_ready (rs := [8]) (by kernel_rfl) (by simp) ?_
          refine AllReadyH.cons (o := { dst := some 113, op := Op.call { callee := Callee.value (Operand.func 14), args := #[Operand.tmp 112], argTypes := #[24] }, type := 3, pos := "law.go:76", after := #[{ on := 7, ground := Ground.data }, { on := 6, ground := Ground.chain }, { on := 6, ground := Ground.guard }], guard := some (6, false) }) rfl (fun K hK => ?_) AllReadyH.nil
          go_simp
          go_at_call 14
          refine (room_liveN W0 (M.out.live.drewN _) HM2.out).mono ?_
          rintro e w' ⟨rfl, mm, rfl⟩
          go_simp
          refine hK.out _ _ ?_ (fun hH => ?_)
          · go_keep
          clear hK K
          try simp only [Act.put, List.setIfInBounds_toArray, List.set_cons_zero, List.set_cons_succ]
          refine wpAnyH_take (i := 15) (oi := { dst := some 120, op := Op.binOp BinOp.neq 3 (Operand.tmp 113) (Operand.tmp 119) 3, type := 4, pos := "law.go:76", after := #[{ on := 8, ground := Ground.data }, { on := 14, ground := Ground.data }, { on := 6, ground := Ground.guard }], guard := some (6, false) }) (v := ?_) rfl (by kernel_rfl) (by kernel_rfl) (by kernel_rfl) (fun _ _ _ h => h) (Or.inl ⟨by rfl, ?_⟩) hH ?_
          rotate_left
          · intro w hSw; (try dsimp only at hSw); go_simp <;> with_reducible rfl
          try simp only [Act.put, List.setIfInBounds_toArray, List.set_cons_zero, List.set_cons_succ]
          refine wpAnyH_take (i := 16) (oi := { dst := some 121, op := Op.pick (Operand.tmp 111) (Operand.const (Value.bool true)) (Operand.tmp 120), type := 4, pos := "law.go:76", after := #[{ on := 6, ground := Ground.data }, { on := 15, ground := Ground.data }], guard := none }) (v := ?_) rfl (by kernel_rfl) (by kernel_rfl) (by kernel_rfl) (fun _ _ _ h => h) (Or.inl ⟨by rfl, ?_⟩) hH ?_
          rotate_left
          · intro w hSw; (try dsimp only at hSw); go_simp <;> with_reducible rfl
          try simp only [Act.put, List.setIfInBounds_toArray, List.set_cons_zero, List.set_cons_succ]
          refine wpAnyH_take (i := 17) (oi := { dst := some 122, op := Op.move (Operand.tmp 121), type := 4, pos := "law.go:76", after := #[{ on := 16, ground := Ground.data }, { on := 8, ground := Ground.chain }], guard := none }) (v := ?_) rfl (by kernel_rfl) (by kernel_rfl) (by kernel_rfl) (fun _ _ _ h => h) (Or.inl ⟨by rfl, ?_⟩) hH ?_
          rotate_left
          · intro w hSw; (try dsimp only at hSw); go_simp <;> with_reducible rfl
          try simp only [Act.put, List.setIfInBounds_toArray, List.set_cons_zero, List.set_cons_succ]
          refine wpAnyH_take (i := 18) (oi := { dst := some 123, op := Op.move (Operand.tmp 5), type := 24, pos := "law.go:76", after := #[{ on := 17, ground := Ground.guard }], guard := some (17, false) }) (v := ?_) rfl (by kernel_rfl) (by kernel_rfl) (by kernel_rfl) (fun _ _ _ h => h) (Or.inl ⟨by rfl, ?_⟩) hH ?_
          rotate_left
          · intro w hSw; (try dsimp only at hSw); go_simp <;> with_reducible rfl
          try simp only [Act.put, List.setIfInBounds_toArray, List.set_cons_zero, List.set_cons_succ]
          refine wpAnyH_take (i := 20) (oi := { dst := some 125, op := Op.fieldAddr 31 (Operand.tmp 7) 1, type := 0, pos := "law.go:76", after := #[{ on := 17, ground := Ground.guard }], guard := some (17, false) }) (v := ?_) rfl (by kernel_rfl) (by kernel_rfl) (by kernel_rfl) (fun _ _ _ h => h) (Or.inl ⟨by rfl, ?_⟩) hH ?_
          rotate_left
          · intro w hSw; (try dsimp only at hSw); go_simp <;> with_reducible rfl
          try simp only [Act.put, List.setIfInBounds_toArray, List.set_cons_zero, List.set_cons_succ]
          refine wpAnyH_take (i := 21) (oi := { dst := some 126, op := Op.load 29 (Operand.tmp 125), type := 29, pos := "law.go:76", after := #[{ on := 20, ground := Ground.data }, { on := 17, ground := Ground.guard }], guard := some (17, false) }) (v := ?_) rfl (by kernel_rfl) (by kernel_rfl) (by kernel_rfl) (fun _ _ _ h => h) (Or.inl ⟨by rfl, ?_⟩) hH ?_
          rotate_left
          · intro w hSw; (try dsimp only at hSw); go_simp <;> with_reducible rfl
          try simp only [Act.put, List.setIfInBounds_toArray, List.set_cons_zero, List.set_cons_succ]
          refine wpAnyH_ready (rs := [19]) (by kernel_rfl) (by simp) ?_
          refine AllReadyH.cons (o := { dst := some 124, op := Op.call { callee := Callee.value (Operand.func 16), args := #[Operand.tmp 123], argTypes := #[24] }, type := 29, pos := "law.go:76", after := #[{ on := 18, ground := Ground.data }, { on := 17, ground := Ground.chain }, { on := 17, ground := Ground.guard }], guard := some (17, false) }) rfl (fun K hK => ?_) AllReadyH.nil
          go_simp
          go_at_call 16
          refine (list_live W0 (M.out.live.drewN _)).mono ?_
          rintro e w8 ⟨v, rfl, hI8, hbl⟩
          have HI8 := hid hI8
          clear hI8
          go_simp
          refine hK.out _ _ ?_ (fun hH => ?_)
          · (first | go_keep | exact keepB hbl hpl hH)
          clear hK K
          try simp only [Act.put, List.setIfInBounds_toArray, List.set_cons_zero, List.set_cons_succ]
          refine wpAnyH_ready (rs := [22]) (by kernel_rfl) (by simp) ?_
          refine AllReadyH.cons (o := { dst := some 127, op := Op.call { callee := Callee.value (Operand.func 15), args := #[Operand.tmp 124, Operand.tmp 126], argTypes := #[29, 29] }, type := 4, pos := "law.go:76", after := #[{ on := 19, ground := Ground.data }, { on := 21, ground := Ground.data }, { on := 19, ground := Ground.chain }, { on := 17, ground := Ground.guard }], guard := some (17, false) }) rfl (fun K hK => ?_) AllReadyH.nil
          go_simp
          go_at_call 15
          refine (same_eq HI8.out (doesC M.out hbl)).mono ?_
          rintro e w' ⟨rfl, m3, rfl⟩
          go_simp
          refine hK.out _ _ ?_ (fun hH => ?_)
          · go_keep
          clear hK K
          try simp only [Act.put, List.setIfInBounds_toArray, List.set_cons_zero, List.set_cons_succ]
          refine wpAnyH_take (i := 23) (oi := { dst := some 128, op := Op.unOp UnOp.not 4 (Operand.tmp 127), type := 4, pos := "law.go:76", after := #[{ on := 22, ground := Ground.data }, { on := 17, ground := Ground.guard }], guard := some (17, false) }) (v := ?_) rfl (by kernel_rfl) (by kernel_rfl) (by kernel_rfl) (fun _ _ _ h => h) (Or.inl ⟨by rfl, ?_⟩) hH ?_
          rotate_left
          · intro w hSw; (try dsimp only at hSw); go_simp <;> with_reducible rfl
          try simp only [Act.put, List.setIfInBounds_toArray, List.set_cons_zero, List.set_cons_succ]
          refine wpAnyH_take (i := 24) (oi := { dst := some 129, op := Op.pick (Operand.tmp 122) (Operand.const (Value.bool true)) (Operand.tmp 128), type := 4, pos := "law.go:76", after := #[{ on := 17, ground := Ground.data }, { on := 23, ground := Ground.data }], guard := none }) (v := ?_) rfl (by kernel_rfl) (by kernel_rfl) (by kernel_rfl) (fun _ _ _ h => h) (Or.inl ⟨by rfl, ?_⟩) hH ?_
          rotate_left
          · intro w hSw; (try dsimp only at hSw); go_simp <;> with_reducible rfl
          try simp only [Act.put, List.setIfInBounds_toArray, List.set_cons_zero, List.set_cons_succ]
          refine wpAnyH_take (i := 25) (oi := { dst := some 130, op := Op.move (Operand.tmp 129), type := 4, pos := "law.go:76", after := #[{ on := 24, ground := Ground.data }, { on := 22, ground := Ground.chain }], guard := none }) (v := ?_) rfl (by kernel_rfl) (by kernel_rfl) (by kernel_rfl) (fun _ _ _ h => h) (Or.inl ⟨by rfl, ?_⟩) hH ?_
          rotate_left
          · intro w hSw; (try dsimp only at hSw); go_simp <;> with_reducible rfl
          try simp only [Act.put, List.setIfInBounds_toArray, List.set_cons_zero, List.set_cons_succ]
          refine wpAnyH_take (i := 26) (oi := { dst := some 131, op := Op.move (Operand.tmp 18), type := 4, pos := "law.go:76", after := #[{ on := 25, ground := Ground.guard }], guard := some (25, false) }) (v := ?_) rfl (by kernel_rfl) (by kernel_rfl) (by kernel_rfl) (fun _ _ _ h => h) (Or.inl ⟨by rfl, ?_⟩) hH ?_
          rotate_left
          · intro w hSw; (try dsimp only at hSw); go_simp <;> with_reducible rfl
          try simp only [Act.put, List.setIfInBounds_toArray, List.set_cons_zero, List.set_cons_succ]
          refine wpAnyH_take (i := 27) (oi := { dst := some 132, op := Op.fieldAddr 31 (Operand.tmp 7) 1, type := 0, pos := "law.go:76", after := #[{ on := 25, ground := Ground.guard }], guard := some (25, false) }) (v := ?_) rfl (by kernel_rfl) (by kernel_rfl) (by kernel_rfl) (fun _ _ _ h => h) (Or.inl ⟨by rfl, ?_⟩) hH ?_
          rotate_left
          · intro w hSw; (try dsimp only at hSw); go_simp <;> with_reducible rfl
          try simp only [Act.put, List.setIfInBounds_toArray, List.set_cons_zero, List.set_cons_succ]
          refine wpAnyH_take (i := 28) (oi := { dst := some 133, op := Op.load 29 (Operand.tmp 132), type := 29, pos := "law.go:76", after := #[{ on := 27, ground := Ground.data }, { on := 25, ground := Ground.guard }], guard := some (25, false) }) (v := ?_) rfl (by kernel_rfl) (by kernel_rfl) (by kernel_rfl) (fun _ _ _ h => h) (Or.inl ⟨by rfl, ?_⟩) hH ?_
          rotate_left
          · intro w hSw; (try dsimp only at hSw); go_simp <;> with_reducible rfl
          try simp only [Act.put, List.setIfInBounds_toArray, List.set_cons_zero, List.set_cons_succ]
          refine wpAnyH_take (i := 29) (oi := { dst := some 134, op := Op.call { callee := Callee.builtin Builtin.len, args := #[Operand.tmp 133], argTypes := #[29] }, type := 3, pos := "law.go:76", after := #[{ on := 28, ground := Ground.data }, { on := 25, ground := Ground.guard }], guard := some (25, false) }) (v := ?_) rfl (by kernel_rfl) (by kernel_rfl) (by kernel_rfl) (fun _ _ _ h => h) (Or.inl ⟨by rfl, ?_⟩) hH ?_
          rotate_left
          · intro w hSw; (try dsimp only at hSw); go_simp <;> with_reducible rfl
          try simp only [Act.put, List.setIfInBounds_toArray, List.set_cons_zero, List.set_cons_succ]
          refine wpAnyH_take (i := 30) (oi := { dst := some 135, op := Op.binOp BinOp.gtr 3 (Operand.tmp 134) (Operand.const (Value.int IntKind.i64 0)) 3, type := 4, pos := "law.go:76", after := #[{ on := 29, ground := Ground.data }, { on := 25, ground := Ground.guard }], guard := some (25, false) }) (v := ?_) rfl (by kernel_rfl) (by kernel_rfl) (by kernel_rfl) (fun _ _ _ h => h) (Or.inl ⟨by rfl, ?_⟩) hH ?_
          rotate_left
          · intro w hSw; (try dsimp only at hSw); go_simp <;> with_reducible rfl
          try simp only [Act.put, List.setIfInBounds_toArray, List.set_cons_zero, List.set_cons_succ]
          refine wpAnyH_take (i := 31) (oi := { dst := some 136, op := Op.binOp BinOp.neq 4 (Operand.tmp 131) (Operand.tmp 135) 4, type := 4, pos := "law.go:76", after := #[{ on := 26, ground := Ground.data }, { on := 30, ground := Ground.data }, { on := 25, ground := Ground.guard }], guard := some (25, false) }) (v := ?_) rfl (by kernel_rfl) (by kernel_rfl) (by kernel_rfl) (fun _ _ _ h => h) (Or.inl ⟨by rfl, ?_⟩) hH ?_
          rotate_left
          · intro w hSw; (try dsimp only at hSw); go_simp <;> with_reducible rfl
          try simp only [Act.put, List.setIfInBounds_toArray, List.set_cons_zero, List.set_cons_succ]
          refine wpAnyH_take (i := 32) (oi := { dst := some 137, op := Op.pick (Operand.tmp 130) (Operand.const (Value.bool true)) (Operand.tmp 136), type := 4, pos := "law.go:76", after := #[{ on := 25, ground := Ground.data }, { on := 31, ground := Ground.data }], guard := none }) (v := ?_) rfl (by kernel_rfl) (by kernel_rfl) (by kernel_rfl) (fun _ _ _ h => h) (Or.inl ⟨by rfl, ?_⟩) hH ?_
          rotate_left
          · intro w hSw; (try dsimp only at hSw); go_simp <;> with_reducible rfl
          try simp only [Act.put, List.setIfInBounds_toArray, List.set_cons_zero, List.set_cons_succ]
          refine wpAnyH_take (i := 33) (oi := { dst := some 138, op := Op.move (Operand.tmp 137), type := 4, pos := "law.go:76", after := #[{ on := 32, ground := Ground.data }, { on := 25, ground := Ground.chain }], guard := none }) (v := ?_) rfl (by kernel_rfl) (by kernel_rfl) (by kernel_rfl) (fun _ _ _ h => h) (Or.inl ⟨by rfl, ?_⟩) hH ?_
          rotate_left
          · intro w hSw; (try dsimp only at hSw); go_simp <;> with_reducible rfl
          try simp only [Act.put, List.setIfInBounds_toArray, List.set_cons_zero, List.set_cons_succ]
          refine wpAnyH_take (i := 34) (oi := { dst := some 139, op := Op.move (Operand.tmp 18), type := 4, pos := "law.go:76", after := #[{ on := 33, ground := Ground.guard }], guard := some (33, false) }) (v := ?_) rfl (by kernel_rfl) (by kernel_rfl) (by kernel_rfl) (fun _ _ _ h => h) (Or.inl ⟨by rfl, ?_⟩) hH ?_
          rotate_left
          · intro w hSw; (try dsimp only at hSw); go_simp <;> with_reducible rfl
          try simp only [Act.put, List.setIfInBounds_toArray, List.set_cons_zero, List.set_cons_succ]
          refine wpAnyH_take (i := 35) (oi := { dst := some 140, op := Op.move (Operand.tmp 139), type := 4, pos := "law.go:76", after := #[{ on := 34, ground := Ground.data }, { on := 33, ground := Ground.chain }, { on := 33, ground := Ground.guard }], guard := some (33, false) }) (v := ?_) rfl (by kernel_rfl) (by kernel_rfl) (by kernel_rfl) (fun _ _ _ h => h) (Or.inl ⟨by rfl, ?_⟩) hH ?_
          rotate_left
          · intro w hSw; (try dsimp only at hSw); go_simp <;> with_reducible rfl
          try simp only [Act.put, List.setIfInBounds_toArray, List.set_cons_zero, List.set_cons_succ]
          refine wpAnyH_take (i := 36) (oi := { dst := some 141, op := Op.move (Operand.tmp 17), type := 3, pos := "law.go:76", after := #[{ on := 35, ground := Ground.guard }], guard := some (35, true) }) (v := undef) rfl (by kernel_rfl) (by kernel_rfl) (by kernel_rfl) (fun _ _ _ h => h) (Or.inr ⟨by rfl, rfl⟩) hH ?_
          try simp only [Act.put, List.setIfInBounds_toArray, List.set_cons_zero, List.set_cons_succ]
          refine wpAnyH_take (i := 37) (oi := { dst := some 142, op := Op.fieldAddr 31 (Operand.tmp 7) 1, type := 0, pos := "law.go:76", after := #[{ on := 35, ground := Ground.guard }], guard := some (35, true) }) (v := undef) rfl (by kernel_rfl) (by kernel_rfl) (by kernel_rfl) (fun _ _ _ h => h) (Or.inr ⟨by rfl, rfl⟩) hH ?_
          try simp only [Act.put, List.setIfInBounds_toArray, List.set_cons_zero, List.set_cons_succ]
          refine wpAnyH_take (i := 38) (oi := { dst := some 143, op := Op.load 29 (Operand.tmp 142), type := 29, pos := "law.go:76", after := #[{ on := 37, ground := Ground.data }, { on := 35, ground := Ground.guard }], guard := some (35, true) }) (v := undef) rfl (by kernel_rfl) (by kernel_rfl) (by kernel_rfl) (fun _ _ _ h => h) (Or.inr ⟨by rfl, rfl⟩) hH ?_
          try simp only [Act.put, List.setIfInBounds_toArray, List.set_cons_zero, List.set_cons_succ]
          refine wpAnyH_take (i := 39) (oi := { dst := some 144, op := Op.indexAddr 29 (Operand.tmp 143) (Operand.const (Value.int IntKind.i64 0)), type := 0, pos := "law.go:76", after := #[{ on := 38, ground := Ground.data }, { on := 35, ground := Ground.guard }], guard := some (35, true) }) (v := undef) rfl (by kernel_rfl) (by kernel_rfl) (by kernel_rfl) (fun _ _ _ h => h) (Or.inr ⟨by rfl, rfl⟩) hH ?_
          try simp only [Act.put, List.setIfInBounds_toArray, List.set_cons_zero, List.set_cons_succ]
          refine wpAnyH_take (i := 40) (oi := { dst := some 145, op := Op.load 3 (Operand.tmp 144), type := 3, pos := "law.go:76", after := #[{ on := 39, ground := Ground.data }, { on := 35, ground := Ground.guard }], guard := some (35, true) }) (v := undef) rfl (by kernel_rfl) (by kernel_rfl) (by kernel_rfl) (fun _ _ _ h => h) (Or.inr ⟨by rfl, rfl⟩) hH ?_
          try simp only [Act.put, List.setIfInBounds_toArray, List.set_cons_zero, List.set_cons_succ]
          refine wpAnyH_take (i := 41) (oi := { dst := some 146, op := Op.binOp BinOp.neq 3 (Operand.tmp 141) (Operand.tmp 145) 3, type := 4, pos := "law.go:76", after := #[{ on := 36, ground := Ground.data }, { on := 40, ground := Ground.data }, { on := 35, ground := Ground.guard }], guard := some (35, true) }) (v := undef) rfl (by kernel_rfl) (by kernel_rfl) (by kernel_rfl) (fun _ _ _ h => h) (Or.inr ⟨by rfl, rfl⟩) hH ?_
          try simp only [Act.put, List.setIfInBounds_toArray, List.set_cons_zero, List.set_cons_succ]
          refine wpAnyH_take (i := 42) (oi := { dst := some 147, op := Op.pick (Operand.tmp 140) (Operand.tmp 146) (Operand.const (Value.bool false)), type := 4, pos := "law.go:76", after := #[{ on := 35, ground := Ground.data }, { on := 41, ground := Ground.data }, { on := 33, ground := Ground.guard }], guard := some (33, false) }) (v := ?_) rfl (by kernel_rfl) (by kernel_rfl) (by kernel_rfl) (fun _ _ _ h => h) (Or.inl ⟨by rfl, ?_⟩) hH ?_
          rotate_left
          · intro w hSw; (try dsimp only at hSw); go_simp <;> with_reducible rfl
          try simp only [Act.put, List.setIfInBounds_toArray, List.set_cons_zero, List.set_cons_succ]
          refine wpAnyH_take (i := 43) (oi := { dst := some 148, op := Op.pick (Operand.tmp 138) (Operand.const (Value.bool true)) (Operand.tmp 147), type := 4, pos := "law.go:76", after := #[{ on := 33, ground := Ground.data }, { on := 42, ground := Ground.data }], guard := none }) (v := ?_) rfl (by kernel_rfl) (by kernel_rfl) (by kernel_rfl) (fun _ _ _ h => h) (Or.inl ⟨by rfl, ?_⟩) hH ?_
          rotate_left
          · intro w hSw; (try dsimp only at hSw); go_simp <;> with_reducible rfl
          try simp only [Act.put, List.setIfInBounds_toArray, List.set_cons_zero, List.set_cons_succ]
          refine wpAnyH_take (i := 44) (oi := { dst := some 149, op := Op.move (Operand.tmp 148), type := 4, pos := "law.go:76", after := #[{ on := 43, ground := Ground.data }, { on := 35, ground := Ground.chain }], guard := none }) (v := ?_) rfl (by kernel_rfl) (by kernel_rfl) (by kernel_rfl) (fun _ _ _ h => h) (Or.inl ⟨by rfl, ?_⟩) hH ?_
          rotate_left
          · intro w hSw; (try dsimp only at hSw); go_simp <;> with_reducible rfl
          try simp only [Act.put, List.setIfInBounds_toArray, List.set_cons_zero, List.set_cons_succ]
          refine wpAnyH_take (i := 45) (oi := { dst := some 150, op := Op.move (Operand.tmp 18), type := 4, pos := "law.go:76", after := #[{ on := 44, ground := Ground.guard }], guard := some (44, false) }) (v := ?_) rfl (by kernel_rfl) (by kernel_rfl) (by kernel_rfl) (fun _ _ _ h => h) (Or.inl ⟨by rfl, ?_⟩) hH ?_
          rotate_left
          · intro w hSw; (try dsimp only at hSw); go_simp <;> with_reducible rfl
          try simp only [Act.put, List.setIfInBounds_toArray, List.set_cons_zero, List.set_cons_succ]
          refine wpAnyH_take (i := 46) (oi := { dst := some 151, op := Op.unOp UnOp.not 4 (Operand.tmp 150), type := 4, pos := "law.go:76", after := #[{ on := 45, ground := Ground.data }, { on := 44, ground := Ground.guard }], guard := some (44, false) }) (v := ?_) rfl (by kernel_rfl) (by kernel_rfl) (by kernel_rfl) (fun _ _ _ h => h) (Or.inl ⟨by rfl, ?_⟩) hH ?_
          rotate_left
          · intro w hSw; (try dsimp only at hSw); go_simp <;> with_reducible rfl
          try simp only [Act.put, List.setIfInBounds_toArray, List.set_cons_zero, List.set_cons_succ]
          refine wpAnyH_take (i := 47) (oi := { dst := some 152, op := Op.move (Operand.tmp 151), type := 4, pos := "law.go:76", after := #[{ on := 46, ground := Ground.data }, { on := 44, ground := Ground.chain }, { on := 44, ground := Ground.guard }], guard := some (44, false) }) (v := ?_) rfl (by kernel_rfl) (by kernel_rfl) (by kernel_rfl) (fun _ _ _ h => h) (Or.inl ⟨by rfl, ?_⟩) hH ?_
          rotate_left
          · intro w hSw; (try dsimp only at hSw); go_simp <;> with_reducible rfl
          try simp only [Act.put, List.setIfInBounds_toArray, List.set_cons_zero, List.set_cons_succ]
          refine wpAnyH_take (i := 48) (oi := { dst := some 153, op := Op.move (Operand.tmp 17), type := 3, pos := "law.go:76", after := #[{ on := 47, ground := Ground.guard }], guard := some (47, true) }) (v := ?_) rfl (by kernel_rfl) (by kernel_rfl) (by kernel_rfl) (fun _ _ _ h => h) (Or.inl ⟨by rfl, ?_⟩) hH ?_
          rotate_left
          · intro w hSw; (try dsimp only at hSw); go_simp <;> with_reducible rfl
          try simp only [Act.put, List.setIfInBounds_toArray, List.set_cons_zero, List.set_cons_succ]
          refine wpAnyH_take (i := 49) (oi := { dst := some 154, op := Op.binOp BinOp.neq 3 (Operand.tmp 153) (Operand.const (Value.int IntKind.i64 0)) 3, type := 4, pos := "law.go:76", after := #[{ on := 48, ground := Ground.data }, { on := 47, ground := Ground.guard }], guard := some (47, true) }) (v := ?_) rfl (by kernel_rfl) (by kernel_rfl) (by kernel_rfl) (fun _ _ _ h => h) (Or.inl ⟨by rfl, ?_⟩) hH ?_
          rotate_left
          · intro w hSw; (try dsimp only at hSw); go_simp <;> with_reducible rfl
          try simp only [Act.put, List.setIfInBounds_toArray, List.set_cons_zero, List.set_cons_succ]
          refine wpAnyH_take (i := 50) (oi := { dst := some 155, op := Op.pick (Operand.tmp 152) (Operand.tmp 154) (Operand.const (Value.bool false)), type := 4, pos := "law.go:76", after := #[{ on := 47, ground := Ground.data }, { on := 49, ground := Ground.data }, { on := 44, ground := Ground.guard }], guard := some (44, false) }) (v := ?_) rfl (by kernel_rfl) (by kernel_rfl) (by kernel_rfl) (fun _ _ _ h => h) (Or.inl ⟨by rfl, ?_⟩) hH ?_
          rotate_left
          · intro w hSw; (try dsimp only at hSw); go_simp <;> with_reducible rfl
          try simp only [Act.put, List.setIfInBounds_toArray, List.set_cons_zero, List.set_cons_succ]
          refine wpAnyH_take (i := 51) (oi := { dst := some 156, op := Op.pick (Operand.tmp 149) (Operand.const (Value.bool true)) (Operand.tmp 155), type := 4, pos := "law.go:76", after := #[{ on := 44, ground := Ground.data }, { on := 50, ground := Ground.data }], guard := none }) (v := ?_) rfl (by kernel_rfl) (by kernel_rfl) (by kernel_rfl) (fun _ _ _ h => h) (Or.inl ⟨by rfl, ?_⟩) hH ?_
          rotate_left
          · intro w hSw; (try dsimp only at hSw); go_simp <;> with_reducible rfl
          try simp only [Act.put, List.setIfInBounds_toArray, List.set_cons_zero, List.set_cons_succ]
          refine wpAnyH_done (by kernel_rfl) ?_ _
          have B8 := hid (M.out.bel.trans ((below_drewN (Below.refl _ w4) _).trans (hbl.mono M.out.bel.size)))
          have L8 := hid ((M.out.live.drewN _).below hbl)
          have P8 := hid ((hbl.block pc hpl).trans M.out.blk)
          have I8 := hid (M.out.ints.fr (S := fun _ => False) (ok' := fun g => ¬ S2 g ∧ g ≠ pc) (((Fr.refl (fun _ => False) w4).drewN _).trans' (Fr.of_below hbl (fun i h1 h2 => by omega))) (fun _ _ e => e) (fun _ h _ => h))
          clear hH hbl
          go_wp2_with fail
          go_roundw
          case rel => exact ⟨k + 1, by omega, by go_num, _, _, _, L8.out.drewN m3, P8.out, M.out.ns, I8.out.fr (S := fun _ => False) ((Fr.refl (fun _ => False) w8).drewN m3) (fun _ _ e => e) (fun _ h _ => h), below_drewN B8.out m3, M.out.old, M.out.pcb⟩
          case measure => simp [intOf]; omega
        | cons y L3 =>
          go_wp2_with fail
          refine (peek_live W0 M.out.live).mono ?_
          rintro e w' ⟨rfl, m, rfl⟩
          have hmp : 0 < m2 := by rw [HM2.out]; simp
          obtain ⟨g2, o2, rfl, c2c, hgl2⟩ := doesFirst M.out
          have e0 := cell_of M.out.blk 0 (v := .int .i64 most) rfl
          have e1 := cell_of M.out.blk 1 (v := .slice (some ⟨g2, o2, none⟩) m2 c2) rfl
          have qv : popV (y :: L3) = y := rfl
          have qi : (y :: L3).isEmpty = false := rfl
          have qw : IntKind.i64.wrap ((most : Int) - (m2 : Int)) = (most : Int) - (m2 : Int) := IntWalk.i64_in _ (by omega)
          have qg : decide ((0 : Int) < (m2 : Int)) = true := by simp; omega
          have qg2 : (0 : Int) < (m2 : Int) := by omega
          have hpl := lt_of_block M.out.blk
          go_wp2_with fail
          refine wp_region_held_drew (S := (fun w' => w'.cell? ⟨pc, 0, none⟩ = some (.int .i64 most) ∧ w'.cell? ⟨pc, 1, none⟩ = some (.slice (some ⟨g2, o2, none⟩) m2 c2) ∧ w'.cell? ⟨g2, o2, none⟩ = some (.int .i64 y))) (by kernel_rfl) ?_ (fun hH => ?_)
          · go_keep
          refine wpAnyH_take (i := 0) (oi := { dst := some 105, op := Op.move (Operand.tmp 5), type := 24, pos := "law.go:76", after := #[], guard := none }) (v := ?_) rfl (by kernel_rfl) (by kernel_rfl) (by kernel_rfl) (fun _ _ _ h => h) (Or.inl ⟨by rfl, ?_⟩) hH ?_
          rotate_left
          · intro w hSw; (try dsimp only at hSw); go_simp <;> with_reducible rfl
          try simp only [Act.put, List.setIfInBounds_toArray, List.set_cons_zero, List.set_cons_succ]
          refine wpAnyH_take (i := 2) (oi := { dst := some 107, op := Op.fieldAddr 31 (Operand.tmp 7) 1, type := 0, pos := "law.go:76", after := #[], guard := none }) (v := ?_) rfl (by kernel_rfl) (by kernel_rfl) (by kernel_rfl) (fun _ _ _ h => h) (Or.inl ⟨by rfl, ?_⟩) hH ?_
          rotate_left
          · intro w hSw; (try dsimp only at hSw); go_simp <;> with_reducible rfl
          try simp only [Act.put, List.setIfInBounds_toArray, List.set_cons_zero, List.set_cons_succ]
          refine wpAnyH_take (i := 3) (oi := { dst := some 108, op := Op.load 29 (Operand.tmp 107), type := 29, pos := "law.go:76", after := #[{ on := 2, ground := Ground.data }], guard := none }) (v := ?_) rfl (by kernel_rfl) (by kernel_rfl) (by kernel_rfl) (fun _ _ _ h => h) (Or.inl ⟨by rfl, ?_⟩) hH ?_
          rotate_left
          · intro w hSw; (try dsimp only at hSw); go_simp <;> with_reducible rfl
          try simp only [Act.put, List.setIfInBounds_toArray, List.set_cons_zero, List.set_cons_succ]
          refine wpAnyH_take (i := 4) (oi := { dst := some 109, op := Op.call { callee := Callee.builtin Builtin.len, args := #[Operand.tmp 108], argTypes := #[29] }, type := 3, pos := "law.go:76", after := #[{ on := 3, ground := Ground.data }], guard := none }) (v := ?_) rfl (by kernel_rfl) (by kernel_rfl) (by kernel_rfl) (fun _ _ _ h => h) (Or.inl ⟨by rfl, ?_⟩) hH ?_
          rotate_left
          · intro w hSw; (try dsimp only at hSw); go_simp <;> with_reducible rfl
          try simp only [Act.put, List.setIfInBounds_toArray, List.set_cons_zero, List.set_cons_succ]
          refine wpAnyH_ready (rs := [1]) (by kernel_rfl) (by simp) ?_
          refine AllReadyH.cons (o := { dst := some 106, op := Op.call { callee := Callee.value (Operand.func 13), args := #[Operand.tmp 105], argTypes := #[24] }, type := 3, pos := "law.go:76", after := #[{ on := 0, ground := Ground.data }], guard := none }) rfl (fun K hK => ?_) AllReadyH.nil
          go_simp
          go_at_call 13
          refine (len_liveN W0 (M.out.live.drewN _) HM2.out).mono ?_
          rintro e w' ⟨rfl, rfl⟩
          go_simp
          refine hK.out _ _ ?_ (fun hH => ?_)
          · go_keep
          clear hK K
          try simp only [Act.put, List.setIfInBounds_toArray, List.set_cons_zero, List.set_cons_succ]
          refine wpAnyH_take (i := 5) (oi := { dst := some 110, op := Op.binOp BinOp.neq 3 (Operand.tmp 106) (Operand.tmp 109) 3, type := 4, pos := "law.go:76", after := #[{ on := 1, ground := Ground.data }, { on := 4, ground := Ground.data }], guard := none }) (v := ?_) rfl (by kernel_rfl) (by kernel_rfl) (by kernel_rfl) (fun _ _ _ h => h) (Or.inl ⟨by rfl, ?_⟩) hH ?_
          rotate_left
          · intro w hSw; (try dsimp only at hSw); go_simp <;> with_reducible rfl
          try simp only [Act.put, List.setIfInBounds_toArray, List.set_cons_zero, List.set_cons_succ]
          refine wpAnyH_take (i := 6) (oi := { dst := some 111, op := Op.move (Operand.tmp 110), type := 4, pos := "law.go:76", after := #[{ on := 5, ground := Ground.data }, { on := 1, ground := Ground.chain }], guard := none }) (v := ?_) rfl (by kernel_rfl) (by kernel_rfl) (by kernel_rfl) (fun _ _ _ h => h) (Or.inl ⟨by rfl, ?_⟩) hH ?_
          rotate_left
          · intro w hSw; (try dsimp only at hSw); go_simp <;> with_reducible rfl
          try simp only [Act.put, List.setIfInBounds_toArray, List.set_cons_zero, List.set_cons_succ]
          refine wpAnyH_take (i := 7) (oi := { dst := some 112, op := Op.move (Operand.tmp 5), type := 24, pos := "law.go:76", after := #[{ on := 6, ground := Ground.guard }], guard := some (6, false) }) (v := ?_) rfl (by kernel_rfl) (by kernel_rfl) (by kernel_rfl) (fun _ _ _ h => h) (Or.inl ⟨by rfl, ?_⟩) hH ?_
          rotate_left
          · intro w hSw; (try dsimp only at hSw); go_simp <;> with_reducible rfl
          try simp only [Act.put, List.setIfInBounds_toArray, List.set_cons_zero, List.set_cons_succ]
          refine wpAnyH_take (i := 9) (oi := { dst := some 114, op := Op.fieldAddr 31 (Operand.tmp 7) 0, type := 0, pos := "law.go:76", after := #[{ on := 6, ground := Ground.guard }], guard := some (6, false) }) (v := ?_) rfl (by kernel_rfl) (by kernel_rfl) (by kernel_rfl) (fun _ _ _ h => h) (Or.inl ⟨by rfl, ?_⟩) hH ?_
          rotate_left
          · intro w hSw; (try dsimp only at hSw); go_simp <;> with_reducible rfl
          try simp only [Act.put, List.setIfInBounds_toArray, List.set_cons_zero, List.set_cons_succ]
          refine wpAnyH_take (i := 10) (oi := { dst := some 115, op := Op.load 3 (Operand.tmp 114), type := 3, pos := "law.go:76", after := #[{ on := 9, ground := Ground.data }, { on := 6, ground := Ground.guard }], guard := some (6, false) }) (v := ?_) rfl (by kernel_rfl) (by kernel_rfl) (by kernel_rfl) (fun _ _ _ h => h) (Or.inl ⟨by rfl, ?_⟩) hH ?_
          rotate_left
          · intro w hSw; (try dsimp only at hSw); go_simp <;> with_reducible rfl
          try simp only [Act.put, List.setIfInBounds_toArray, List.set_cons_zero, List.set_cons_succ]
          refine wpAnyH_take (i := 11) (oi := { dst := some 116, op := Op.fieldAddr 31 (Operand.tmp 7) 1, type := 0, pos := "law.go:76", after := #[{ on := 6, ground := Ground.guard }], guard := some (6, false) }) (v := ?_) rfl (by kernel_rfl) (by kernel_rfl) (by kernel_rfl) (fun _ _ _ h => h) (Or.inl ⟨by rfl, ?_⟩) hH ?_
          rotate_left
          · intro w hSw; (try dsimp only at hSw); go_simp <;> with_reducible rfl
          try simp only [Act.put, List.setIfInBounds_toArray, List.set_cons_zero, List.set_cons_succ]
          refine wpAnyH_take (i := 12) (oi := { dst := some 117, op := Op.load 29 (Operand.tmp 116), type := 29, pos := "law.go:76", after := #[{ on := 11, ground := Ground.data }, { on := 6, ground := Ground.guard }], guard := some (6, false) }) (v := ?_) rfl (by kernel_rfl) (by kernel_rfl) (by kernel_rfl) (fun _ _ _ h => h) (Or.inl ⟨by rfl, ?_⟩) hH ?_
          rotate_left
          · intro w hSw; (try dsimp only at hSw); go_simp <;> with_reducible rfl
          try simp only [Act.put, List.setIfInBounds_toArray, List.set_cons_zero, List.set_cons_succ]
          refine wpAnyH_take (i := 13) (oi := { dst := some 118, op := Op.call { callee := Callee.builtin Builtin.len, args := #[Operand.tmp 117], argTypes := #[29] }, type := 3, pos := "law.go:76", after := #[{ on := 12, ground := Ground.data }, { on := 6, ground := Ground.guard }], guard := some (6, false) }) (v := ?_) rfl (by kernel_rfl) (by kernel_rfl) (by kernel_rfl) (fun _ _ _ h => h) (Or.inl ⟨by rfl, ?_⟩) hH ?_
          rotate_left
          · intro w hSw; (try dsimp only at hSw); go_simp <;> with_reducible rfl
          try simp only [Act.put, List.setIfInBounds_toArray, List.set_cons_zero, List.set_cons_succ]
          refine wpAnyH_take (i := 14) (oi := { dst := some 119, op := Op.binOp BinOp.sub 3 (Operand.tmp 115) (Operand.tmp 118) 3, type := 3, pos := "law.go:76", after := #[{ on := 10, ground := Ground.data }, { on := 13, ground := Ground.data }, { on := 6, ground := Ground.guard }], guard := some (6, false) }) (v := ?_) rfl (by kernel_rfl) (by kernel_rfl) (by kernel_rfl) (fun _ _ _ h => h) (Or.inl ⟨by rfl, ?_⟩) hH ?_
          rotate_left
          · intro w hSw; (try dsimp only at hSw); go_simp <;> with_reducible rfl
          try simp only [Act.put, List.setIfInBounds_toArray, List.set_cons_zero, List.set_cons_succ]
          refine wpAnyH_ready (rs := [8]) (by kernel_rfl) (by simp) ?_
          refine AllReadyH.cons (o := { dst := some 113, op := Op.call { callee := Callee.value (Operand.func 14), args := #[Operand.tmp 112], argTypes := #[24] }, type := 3, pos := "law.go:76", after := #[{ on := 7, ground := Ground.data }, { on := 6, ground := Ground.chain }, { on := 6, ground := Ground.guard }], guard := some (6, false) }) rfl (fun K hK => ?_) AllReadyH.nil
          go_simp
          go_at_call 14
          refine (room_liveN W0 (M.out.live.drewN _) HM2.out).mono ?_
          rintro e w' ⟨rfl, mm, rfl⟩
          go_simp
          refine hK.out _ _ ?_ (fun hH => ?_)
          · go_keep
          clear hK K
          try simp only [Act.put, List.setIfInBounds_toArray, List.set_cons_zero, List.set_cons_succ]
          refine wpAnyH_take (i := 15) (oi := { dst := some 120, op := Op.binOp BinOp.neq 3 (Operand.tmp 113) (Operand.tmp 119) 3, type := 4, pos := "law.go:76", after := #[{ on := 8, ground := Ground.data }, { on := 14, ground := Ground.data }, { on := 6, ground := Ground.guard }], guard := some (6, false) }) (v := ?_) rfl (by kernel_rfl) (by kernel_rfl) (by kernel_rfl) (fun _ _ _ h => h) (Or.inl ⟨by rfl, ?_⟩) hH ?_
          rotate_left
          · intro w hSw; (try dsimp only at hSw); go_simp <;> with_reducible rfl
          try simp only [Act.put, List.setIfInBounds_toArray, List.set_cons_zero, List.set_cons_succ]
          refine wpAnyH_take (i := 16) (oi := { dst := some 121, op := Op.pick (Operand.tmp 111) (Operand.const (Value.bool true)) (Operand.tmp 120), type := 4, pos := "law.go:76", after := #[{ on := 6, ground := Ground.data }, { on := 15, ground := Ground.data }], guard := none }) (v := ?_) rfl (by kernel_rfl) (by kernel_rfl) (by kernel_rfl) (fun _ _ _ h => h) (Or.inl ⟨by rfl, ?_⟩) hH ?_
          rotate_left
          · intro w hSw; (try dsimp only at hSw); go_simp <;> with_reducible rfl
          try simp only [Act.put, List.setIfInBounds_toArray, List.set_cons_zero, List.set_cons_succ]
          refine wpAnyH_take (i := 17) (oi := { dst := some 122, op := Op.move (Operand.tmp 121), type := 4, pos := "law.go:76", after := #[{ on := 16, ground := Ground.data }, { on := 8, ground := Ground.chain }], guard := none }) (v := ?_) rfl (by kernel_rfl) (by kernel_rfl) (by kernel_rfl) (fun _ _ _ h => h) (Or.inl ⟨by rfl, ?_⟩) hH ?_
          rotate_left
          · intro w hSw; (try dsimp only at hSw); go_simp <;> with_reducible rfl
          try simp only [Act.put, List.setIfInBounds_toArray, List.set_cons_zero, List.set_cons_succ]
          refine wpAnyH_take (i := 18) (oi := { dst := some 123, op := Op.move (Operand.tmp 5), type := 24, pos := "law.go:76", after := #[{ on := 17, ground := Ground.guard }], guard := some (17, false) }) (v := ?_) rfl (by kernel_rfl) (by kernel_rfl) (by kernel_rfl) (fun _ _ _ h => h) (Or.inl ⟨by rfl, ?_⟩) hH ?_
          rotate_left
          · intro w hSw; (try dsimp only at hSw); go_simp <;> with_reducible rfl
          try simp only [Act.put, List.setIfInBounds_toArray, List.set_cons_zero, List.set_cons_succ]
          refine wpAnyH_take (i := 20) (oi := { dst := some 125, op := Op.fieldAddr 31 (Operand.tmp 7) 1, type := 0, pos := "law.go:76", after := #[{ on := 17, ground := Ground.guard }], guard := some (17, false) }) (v := ?_) rfl (by kernel_rfl) (by kernel_rfl) (by kernel_rfl) (fun _ _ _ h => h) (Or.inl ⟨by rfl, ?_⟩) hH ?_
          rotate_left
          · intro w hSw; (try dsimp only at hSw); go_simp <;> with_reducible rfl
          try simp only [Act.put, List.setIfInBounds_toArray, List.set_cons_zero, List.set_cons_succ]
          refine wpAnyH_take (i := 21) (oi := { dst := some 126, op := Op.load 29 (Operand.tmp 125), type := 29, pos := "law.go:76", after := #[{ on := 20, ground := Ground.data }, { on := 17, ground := Ground.guard }], guard := some (17, false) }) (v := ?_) rfl (by kernel_rfl) (by kernel_rfl) (by kernel_rfl) (fun _ _ _ h => h) (Or.inl ⟨by rfl, ?_⟩) hH ?_
          rotate_left
          · intro w hSw; (try dsimp only at hSw); go_simp <;> with_reducible rfl
          try simp only [Act.put, List.setIfInBounds_toArray, List.set_cons_zero, List.set_cons_succ]
          refine wpAnyH_ready (rs := [19]) (by kernel_rfl) (by simp) ?_
          refine AllReadyH.cons (o := { dst := some 124, op := Op.call { callee := Callee.value (Operand.func 16), args := #[Operand.tmp 123], argTypes := #[24] }, type := 29, pos := "law.go:76", after := #[{ on := 18, ground := Ground.data }, { on := 17, ground := Ground.chain }, { on := 17, ground := Ground.guard }], guard := some (17, false) }) rfl (fun K hK => ?_) AllReadyH.nil
          go_simp
          go_at_call 16
          refine (list_live W0 (M.out.live.drewN _)).mono ?_
          rintro e w8 ⟨v, rfl, hI8, hbl⟩
          have HI8 := hid hI8
          clear hI8
          go_simp
          refine hK.out _ _ ?_ (fun hH => ?_)
          · (first | go_keep | exact keepB3 hbl hpl hgl2 hH)
          clear hK K
          try simp only [Act.put, List.setIfInBounds_toArray, List.set_cons_zero, List.set_cons_succ]
          refine wpAnyH_ready (rs := [22]) (by kernel_rfl) (by simp) ?_
          refine AllReadyH.cons (o := { dst := some 127, op := Op.call { callee := Callee.value (Operand.func 15), args := #[Operand.tmp 124, Operand.tmp 126], argTypes := #[29, 29] }, type := 4, pos := "law.go:76", after := #[{ on := 19, ground := Ground.data }, { on := 21, ground := Ground.data }, { on := 19, ground := Ground.chain }, { on := 17, ground := Ground.guard }], guard := some (17, false) }) rfl (fun K hK => ?_) AllReadyH.nil
          go_simp
          go_at_call 15
          refine (same_eq HI8.out (doesC M.out hbl)).mono ?_
          rintro e w' ⟨rfl, m3, rfl⟩
          go_simp
          refine hK.out _ _ ?_ (fun hH => ?_)
          · go_keep
          clear hK K
          try simp only [Act.put, List.setIfInBounds_toArray, List.set_cons_zero, List.set_cons_succ]
          refine wpAnyH_take (i := 23) (oi := { dst := some 128, op := Op.unOp UnOp.not 4 (Operand.tmp 127), type := 4, pos := "law.go:76", after := #[{ on := 22, ground := Ground.data }, { on := 17, ground := Ground.guard }], guard := some (17, false) }) (v := ?_) rfl (by kernel_rfl) (by kernel_rfl) (by kernel_rfl) (fun _ _ _ h => h) (Or.inl ⟨by rfl, ?_⟩) hH ?_
          rotate_left
          · intro w hSw; (try dsimp only at hSw); go_simp <;> with_reducible rfl
          try simp only [Act.put, List.setIfInBounds_toArray, List.set_cons_zero, List.set_cons_succ]
          refine wpAnyH_take (i := 24) (oi := { dst := some 129, op := Op.pick (Operand.tmp 122) (Operand.const (Value.bool true)) (Operand.tmp 128), type := 4, pos := "law.go:76", after := #[{ on := 17, ground := Ground.data }, { on := 23, ground := Ground.data }], guard := none }) (v := ?_) rfl (by kernel_rfl) (by kernel_rfl) (by kernel_rfl) (fun _ _ _ h => h) (Or.inl ⟨by rfl, ?_⟩) hH ?_
          rotate_left
          · intro w hSw; (try dsimp only at hSw); go_simp <;> with_reducible rfl
          try simp only [Act.put, List.setIfInBounds_toArray, List.set_cons_zero, List.set_cons_succ]
          refine wpAnyH_take (i := 25) (oi := { dst := some 130, op := Op.move (Operand.tmp 129), type := 4, pos := "law.go:76", after := #[{ on := 24, ground := Ground.data }, { on := 22, ground := Ground.chain }], guard := none }) (v := ?_) rfl (by kernel_rfl) (by kernel_rfl) (by kernel_rfl) (fun _ _ _ h => h) (Or.inl ⟨by rfl, ?_⟩) hH ?_
          rotate_left
          · intro w hSw; (try dsimp only at hSw); go_simp <;> with_reducible rfl
          try simp only [Act.put, List.setIfInBounds_toArray, List.set_cons_zero, List.set_cons_succ]
          refine wpAnyH_take (i := 26) (oi := { dst := some 131, op := Op.move (Operand.tmp 18), type := 4, pos := "law.go:76", after := #[{ on := 25, ground := Ground.guard }], guard := some (25, false) }) (v := ?_) rfl (by kernel_rfl) (by kernel_rfl) (by kernel_rfl) (fun _ _ _ h => h) (Or.inl ⟨by rfl, ?_⟩) hH ?_
          rotate_left
          · intro w hSw; (try dsimp only at hSw); go_simp <;> with_reducible rfl
          try simp only [Act.put, List.setIfInBounds_toArray, List.set_cons_zero, List.set_cons_succ]
          refine wpAnyH_take (i := 27) (oi := { dst := some 132, op := Op.fieldAddr 31 (Operand.tmp 7) 1, type := 0, pos := "law.go:76", after := #[{ on := 25, ground := Ground.guard }], guard := some (25, false) }) (v := ?_) rfl (by kernel_rfl) (by kernel_rfl) (by kernel_rfl) (fun _ _ _ h => h) (Or.inl ⟨by rfl, ?_⟩) hH ?_
          rotate_left
          · intro w hSw; (try dsimp only at hSw); go_simp <;> with_reducible rfl
          try simp only [Act.put, List.setIfInBounds_toArray, List.set_cons_zero, List.set_cons_succ]
          refine wpAnyH_take (i := 28) (oi := { dst := some 133, op := Op.load 29 (Operand.tmp 132), type := 29, pos := "law.go:76", after := #[{ on := 27, ground := Ground.data }, { on := 25, ground := Ground.guard }], guard := some (25, false) }) (v := ?_) rfl (by kernel_rfl) (by kernel_rfl) (by kernel_rfl) (fun _ _ _ h => h) (Or.inl ⟨by rfl, ?_⟩) hH ?_
          rotate_left
          · intro w hSw; (try dsimp only at hSw); go_simp <;> with_reducible rfl
          try simp only [Act.put, List.setIfInBounds_toArray, List.set_cons_zero, List.set_cons_succ]
          refine wpAnyH_take (i := 29) (oi := { dst := some 134, op := Op.call { callee := Callee.builtin Builtin.len, args := #[Operand.tmp 133], argTypes := #[29] }, type := 3, pos := "law.go:76", after := #[{ on := 28, ground := Ground.data }, { on := 25, ground := Ground.guard }], guard := some (25, false) }) (v := ?_) rfl (by kernel_rfl) (by kernel_rfl) (by kernel_rfl) (fun _ _ _ h => h) (Or.inl ⟨by rfl, ?_⟩) hH ?_
          rotate_left
          · intro w hSw; (try dsimp only at hSw); go_simp <;> with_reducible rfl
          try simp only [Act.put, List.setIfInBounds_toArray, List.set_cons_zero, List.set_cons_succ]
          refine wpAnyH_take (i := 30) (oi := { dst := some 135, op := Op.binOp BinOp.gtr 3 (Operand.tmp 134) (Operand.const (Value.int IntKind.i64 0)) 3, type := 4, pos := "law.go:76", after := #[{ on := 29, ground := Ground.data }, { on := 25, ground := Ground.guard }], guard := some (25, false) }) (v := ?_) rfl (by kernel_rfl) (by kernel_rfl) (by kernel_rfl) (fun _ _ _ h => h) (Or.inl ⟨by rfl, ?_⟩) hH ?_
          rotate_left
          · intro w hSw; (try dsimp only at hSw); go_simp <;> with_reducible rfl
          try simp only [Act.put, List.setIfInBounds_toArray, List.set_cons_zero, List.set_cons_succ]
          refine wpAnyH_take (i := 31) (oi := { dst := some 136, op := Op.binOp BinOp.neq 4 (Operand.tmp 131) (Operand.tmp 135) 4, type := 4, pos := "law.go:76", after := #[{ on := 26, ground := Ground.data }, { on := 30, ground := Ground.data }, { on := 25, ground := Ground.guard }], guard := some (25, false) }) (v := ?_) rfl (by kernel_rfl) (by kernel_rfl) (by kernel_rfl) (fun _ _ _ h => h) (Or.inl ⟨by rfl, ?_⟩) hH ?_
          rotate_left
          · intro w hSw; (try dsimp only at hSw); go_simp <;> with_reducible rfl
          try simp only [Act.put, List.setIfInBounds_toArray, List.set_cons_zero, List.set_cons_succ]
          refine wpAnyH_take (i := 32) (oi := { dst := some 137, op := Op.pick (Operand.tmp 130) (Operand.const (Value.bool true)) (Operand.tmp 136), type := 4, pos := "law.go:76", after := #[{ on := 25, ground := Ground.data }, { on := 31, ground := Ground.data }], guard := none }) (v := ?_) rfl (by kernel_rfl) (by kernel_rfl) (by kernel_rfl) (fun _ _ _ h => h) (Or.inl ⟨by rfl, ?_⟩) hH ?_
          rotate_left
          · intro w hSw; (try dsimp only at hSw); go_simp <;> with_reducible rfl
          try simp only [Act.put, List.setIfInBounds_toArray, List.set_cons_zero, List.set_cons_succ]
          refine wpAnyH_take (i := 33) (oi := { dst := some 138, op := Op.move (Operand.tmp 137), type := 4, pos := "law.go:76", after := #[{ on := 32, ground := Ground.data }, { on := 25, ground := Ground.chain }], guard := none }) (v := ?_) rfl (by kernel_rfl) (by kernel_rfl) (by kernel_rfl) (fun _ _ _ h => h) (Or.inl ⟨by rfl, ?_⟩) hH ?_
          rotate_left
          · intro w hSw; (try dsimp only at hSw); go_simp <;> with_reducible rfl
          try simp only [Act.put, List.setIfInBounds_toArray, List.set_cons_zero, List.set_cons_succ]
          refine wpAnyH_take (i := 34) (oi := { dst := some 139, op := Op.move (Operand.tmp 18), type := 4, pos := "law.go:76", after := #[{ on := 33, ground := Ground.guard }], guard := some (33, false) }) (v := ?_) rfl (by kernel_rfl) (by kernel_rfl) (by kernel_rfl) (fun _ _ _ h => h) (Or.inl ⟨by rfl, ?_⟩) hH ?_
          rotate_left
          · intro w hSw; (try dsimp only at hSw); go_simp <;> with_reducible rfl
          try simp only [Act.put, List.setIfInBounds_toArray, List.set_cons_zero, List.set_cons_succ]
          refine wpAnyH_take (i := 35) (oi := { dst := some 140, op := Op.move (Operand.tmp 139), type := 4, pos := "law.go:76", after := #[{ on := 34, ground := Ground.data }, { on := 33, ground := Ground.chain }, { on := 33, ground := Ground.guard }], guard := some (33, false) }) (v := ?_) rfl (by kernel_rfl) (by kernel_rfl) (by kernel_rfl) (fun _ _ _ h => h) (Or.inl ⟨by rfl, ?_⟩) hH ?_
          rotate_left
          · intro w hSw; (try dsimp only at hSw); go_simp <;> with_reducible rfl
          try simp only [Act.put, List.setIfInBounds_toArray, List.set_cons_zero, List.set_cons_succ]
          refine wpAnyH_take (i := 36) (oi := { dst := some 141, op := Op.move (Operand.tmp 17), type := 3, pos := "law.go:76", after := #[{ on := 35, ground := Ground.guard }], guard := some (35, true) }) (v := ?_) rfl (by kernel_rfl) (by kernel_rfl) (by kernel_rfl) (fun _ _ _ h => h) (Or.inl ⟨by rfl, ?_⟩) hH ?_
          rotate_left
          · intro w hSw; (try dsimp only at hSw); go_simp <;> with_reducible rfl
          try simp only [Act.put, List.setIfInBounds_toArray, List.set_cons_zero, List.set_cons_succ]
          refine wpAnyH_take (i := 37) (oi := { dst := some 142, op := Op.fieldAddr 31 (Operand.tmp 7) 1, type := 0, pos := "law.go:76", after := #[{ on := 35, ground := Ground.guard }], guard := some (35, true) }) (v := ?_) rfl (by kernel_rfl) (by kernel_rfl) (by kernel_rfl) (fun _ _ _ h => h) (Or.inl ⟨by rfl, ?_⟩) hH ?_
          rotate_left
          · intro w hSw; (try dsimp only at hSw); go_simp <;> with_reducible rfl
          try simp only [Act.put, List.setIfInBounds_toArray, List.set_cons_zero, List.set_cons_succ]
          refine wpAnyH_take (i := 38) (oi := { dst := some 143, op := Op.load 29 (Operand.tmp 142), type := 29, pos := "law.go:76", after := #[{ on := 37, ground := Ground.data }, { on := 35, ground := Ground.guard }], guard := some (35, true) }) (v := ?_) rfl (by kernel_rfl) (by kernel_rfl) (by kernel_rfl) (fun _ _ _ h => h) (Or.inl ⟨by rfl, ?_⟩) hH ?_
          rotate_left
          · intro w hSw; (try dsimp only at hSw); go_simp <;> with_reducible rfl
          try simp only [Act.put, List.setIfInBounds_toArray, List.set_cons_zero, List.set_cons_succ]
          refine wpAnyH_take (i := 39) (oi := { dst := some 144, op := Op.indexAddr 29 (Operand.tmp 143) (Operand.const (Value.int IntKind.i64 0)), type := 0, pos := "law.go:76", after := #[{ on := 38, ground := Ground.data }, { on := 35, ground := Ground.guard }], guard := some (35, true) }) (v := ?_) rfl (by kernel_rfl) (by kernel_rfl) (by kernel_rfl) (fun _ _ _ h => h) (Or.inl ⟨by rfl, ?_⟩) hH ?_
          rotate_left
          · intro w hSw; (try dsimp only at hSw); go_simp <;> with_reducible rfl
          try simp only [Act.put, List.setIfInBounds_toArray, List.set_cons_zero, List.set_cons_succ]
          refine wpAnyH_take (i := 40) (oi := { dst := some 145, op := Op.load 3 (Operand.tmp 144), type := 3, pos := "law.go:76", after := #[{ on := 39, ground := Ground.data }, { on := 35, ground := Ground.guard }], guard := some (35, true) }) (v := ?_) rfl (by kernel_rfl) (by kernel_rfl) (by kernel_rfl) (fun _ _ _ h => h) (Or.inl ⟨by rfl, ?_⟩) hH ?_
          rotate_left
          · intro w hSw; (try dsimp only at hSw); go_simp <;> with_reducible rfl
          try simp only [Act.put, List.setIfInBounds_toArray, List.set_cons_zero, List.set_cons_succ]
          refine wpAnyH_take (i := 41) (oi := { dst := some 146, op := Op.binOp BinOp.neq 3 (Operand.tmp 141) (Operand.tmp 145) 3, type := 4, pos := "law.go:76", after := #[{ on := 36, ground := Ground.data }, { on := 40, ground := Ground.data }, { on := 35, ground := Ground.guard }], guard := some (35, true) }) (v := ?_) rfl (by kernel_rfl) (by kernel_rfl) (by kernel_rfl) (fun _ _ _ h => h) (Or.inl ⟨by rfl, ?_⟩) hH ?_
          rotate_left
          · intro w hSw; (try dsimp only at hSw); go_simp <;> with_reducible rfl
          try simp only [Act.put, List.setIfInBounds_toArray, List.set_cons_zero, List.set_cons_succ]
          refine wpAnyH_take (i := 42) (oi := { dst := some 147, op := Op.pick (Operand.tmp 140) (Operand.tmp 146) (Operand.const (Value.bool false)), type := 4, pos := "law.go:76", after := #[{ on := 35, ground := Ground.data }, { on := 41, ground := Ground.data }, { on := 33, ground := Ground.guard }], guard := some (33, false) }) (v := ?_) rfl (by kernel_rfl) (by kernel_rfl) (by kernel_rfl) (fun _ _ _ h => h) (Or.inl ⟨by rfl, ?_⟩) hH ?_
          rotate_left
          · intro w hSw; (try dsimp only at hSw); go_simp <;> with_reducible rfl
          try simp only [Act.put, List.setIfInBounds_toArray, List.set_cons_zero, List.set_cons_succ]
          refine wpAnyH_take (i := 43) (oi := { dst := some 148, op := Op.pick (Operand.tmp 138) (Operand.const (Value.bool true)) (Operand.tmp 147), type := 4, pos := "law.go:76", after := #[{ on := 33, ground := Ground.data }, { on := 42, ground := Ground.data }], guard := none }) (v := ?_) rfl (by kernel_rfl) (by kernel_rfl) (by kernel_rfl) (fun _ _ _ h => h) (Or.inl ⟨by rfl, ?_⟩) hH ?_
          rotate_left
          · intro w hSw; (try dsimp only at hSw); go_simp <;> with_reducible rfl
          try simp only [Act.put, List.setIfInBounds_toArray, List.set_cons_zero, List.set_cons_succ]
          refine wpAnyH_take (i := 44) (oi := { dst := some 149, op := Op.move (Operand.tmp 148), type := 4, pos := "law.go:76", after := #[{ on := 43, ground := Ground.data }, { on := 35, ground := Ground.chain }], guard := none }) (v := ?_) rfl (by kernel_rfl) (by kernel_rfl) (by kernel_rfl) (fun _ _ _ h => h) (Or.inl ⟨by rfl, ?_⟩) hH ?_
          rotate_left
          · intro w hSw; (try dsimp only at hSw); go_simp <;> with_reducible rfl
          try simp only [Act.put, List.setIfInBounds_toArray, List.set_cons_zero, List.set_cons_succ]
          refine wpAnyH_take (i := 45) (oi := { dst := some 150, op := Op.move (Operand.tmp 18), type := 4, pos := "law.go:76", after := #[{ on := 44, ground := Ground.guard }], guard := some (44, false) }) (v := ?_) rfl (by kernel_rfl) (by kernel_rfl) (by kernel_rfl) (fun _ _ _ h => h) (Or.inl ⟨by rfl, ?_⟩) hH ?_
          rotate_left
          · intro w hSw; (try dsimp only at hSw); go_simp <;> with_reducible rfl
          try simp only [Act.put, List.setIfInBounds_toArray, List.set_cons_zero, List.set_cons_succ]
          refine wpAnyH_take (i := 46) (oi := { dst := some 151, op := Op.unOp UnOp.not 4 (Operand.tmp 150), type := 4, pos := "law.go:76", after := #[{ on := 45, ground := Ground.data }, { on := 44, ground := Ground.guard }], guard := some (44, false) }) (v := ?_) rfl (by kernel_rfl) (by kernel_rfl) (by kernel_rfl) (fun _ _ _ h => h) (Or.inl ⟨by rfl, ?_⟩) hH ?_
          rotate_left
          · intro w hSw; (try dsimp only at hSw); go_simp <;> with_reducible rfl
          try simp only [Act.put, List.setIfInBounds_toArray, List.set_cons_zero, List.set_cons_succ]
          refine wpAnyH_take (i := 47) (oi := { dst := some 152, op := Op.move (Operand.tmp 151), type := 4, pos := "law.go:76", after := #[{ on := 46, ground := Ground.data }, { on := 44, ground := Ground.chain }, { on := 44, ground := Ground.guard }], guard := some (44, false) }) (v := ?_) rfl (by kernel_rfl) (by kernel_rfl) (by kernel_rfl) (fun _ _ _ h => h) (Or.inl ⟨by rfl, ?_⟩) hH ?_
          rotate_left
          · intro w hSw; (try dsimp only at hSw); go_simp <;> with_reducible rfl
          try simp only [Act.put, List.setIfInBounds_toArray, List.set_cons_zero, List.set_cons_succ]
          refine wpAnyH_take (i := 48) (oi := { dst := some 153, op := Op.move (Operand.tmp 17), type := 3, pos := "law.go:76", after := #[{ on := 47, ground := Ground.guard }], guard := some (47, true) }) (v := undef) rfl (by kernel_rfl) (by kernel_rfl) (by kernel_rfl) (fun _ _ _ h => h) (Or.inr ⟨by rfl, rfl⟩) hH ?_
          try simp only [Act.put, List.setIfInBounds_toArray, List.set_cons_zero, List.set_cons_succ]
          refine wpAnyH_take (i := 49) (oi := { dst := some 154, op := Op.binOp BinOp.neq 3 (Operand.tmp 153) (Operand.const (Value.int IntKind.i64 0)) 3, type := 4, pos := "law.go:76", after := #[{ on := 48, ground := Ground.data }, { on := 47, ground := Ground.guard }], guard := some (47, true) }) (v := undef) rfl (by kernel_rfl) (by kernel_rfl) (by kernel_rfl) (fun _ _ _ h => h) (Or.inr ⟨by rfl, rfl⟩) hH ?_
          try simp only [Act.put, List.setIfInBounds_toArray, List.set_cons_zero, List.set_cons_succ]
          refine wpAnyH_take (i := 50) (oi := { dst := some 155, op := Op.pick (Operand.tmp 152) (Operand.tmp 154) (Operand.const (Value.bool false)), type := 4, pos := "law.go:76", after := #[{ on := 47, ground := Ground.data }, { on := 49, ground := Ground.data }, { on := 44, ground := Ground.guard }], guard := some (44, false) }) (v := ?_) rfl (by kernel_rfl) (by kernel_rfl) (by kernel_rfl) (fun _ _ _ h => h) (Or.inl ⟨by rfl, ?_⟩) hH ?_
          rotate_left
          · intro w hSw; (try dsimp only at hSw); go_simp <;> with_reducible rfl
          try simp only [Act.put, List.setIfInBounds_toArray, List.set_cons_zero, List.set_cons_succ]
          refine wpAnyH_take (i := 51) (oi := { dst := some 156, op := Op.pick (Operand.tmp 149) (Operand.const (Value.bool true)) (Operand.tmp 155), type := 4, pos := "law.go:76", after := #[{ on := 44, ground := Ground.data }, { on := 50, ground := Ground.data }], guard := none }) (v := ?_) rfl (by kernel_rfl) (by kernel_rfl) (by kernel_rfl) (fun _ _ _ h => h) (Or.inl ⟨by rfl, ?_⟩) hH ?_
          rotate_left
          · intro w hSw; (try dsimp only at hSw); go_simp <;> with_reducible rfl
          try simp only [Act.put, List.setIfInBounds_toArray, List.set_cons_zero, List.set_cons_succ]
          refine wpAnyH_done (by kernel_rfl) ?_ _
          have B8 := hid (M.out.bel.trans ((below_drewN (Below.refl _ w4) _).trans (hbl.mono M.out.bel.size)))
          have L8 := hid ((M.out.live.drewN _).below hbl)
          have P8 := hid ((hbl.block pc hpl).trans M.out.blk)
          have I8 := hid (M.out.ints.fr (S := fun _ => False) (ok' := fun g => ¬ S2 g ∧ g ≠ pc) (((Fr.refl (fun _ => False) w4).drewN _).trans' (Fr.of_below hbl (fun i h1 h2 => by omega))) (fun _ _ e => e) (fun _ h _ => h))
          clear hH hbl
          go_wp2_with fail
          go_roundw
          case rel => exact ⟨k + 1, by omega, by go_num, _, _, _, L8.out.drewN m3, P8.out, M.out.ns, I8.out.fr (S := fun _ => False) ((Fr.refl (fun _ => False) w8).drewN m3) (fun _ _ e => e) (fun _ h _ => h), below_drewN B8.out m3, M.out.old, M.out.pcb⟩
          case measure => simp [intOf]; omega
    · go_wp2_with fail
      refine (awake_ok wr).mono ?_
      rintro e w' ⟨rfl, hb⟩
      have HB := hid hb
      clear hb
      go_wp2_with fail
      go_ret
      obtain ⟨L, S, vc, hL, hpb, hpS, hI, hbel, hS, hpcb⟩ := hinv
      exact ⟨rfl, hbel.trans (HB.out.mono hbel.size)⟩

end Go.Proofs.Ytjlamecjenibcaa
