/-
  What holds at each round's head of MeshDoes; the inputs; the short ways.
-/
import Derived.Test.YtakhmommcgfoaaaMeD2
namespace Go.Proofs.Ytakhmommcgfoaaa
open Go.RowKit

/-- a turn: its four cells -/
structure Oq where
  r : Bool
  a : Int
  b : Int
  s : Option Addr
  n : Nat
  c : Nat
deriving Inhabited
def encO (x : Oq) : List Value := [.bool x.r, .int .i64 x.a, .int .i64 x.b, .slice x.s x.n x.c]
/-- turns that came in -/
def OpsIn (w : World) (B : Nat) (ao : Option Addr) (ops : List Oq) : Prop :=
  ops = [] ∨ ∃ b o, ao = some ⟨b, o, none⟩ ∧ b < B ∧ ∀ (i : Nat) (x : Oq), ops[i]? = some x → w.rangeAt b (o + i * 4) (encO x) ∧ ∃ P, Pr w B x.s x.n P
theorem OpsIn.below {w w' : World} {B : Nat} {ao : Option Addr} {ops : List Oq} (h : OpsIn w B ao ops) (hb : Below B w w') : OpsIn w' B ao ops := by
  refine h.imp (fun e => e) ?_
  rintro ⟨b, o, e, hlt, hr⟩
  refine ⟨b, o, e, hlt, fun i x hi => ⟨fun j c hc => (hb.cell (p := ⟨b, o + i * 4 + j, none⟩) hlt).trans ((hr i x hi).1 j c hc), ?_⟩⟩
  obtain ⟨P, hP⟩ := (hr i x hi).2
  exact ⟨P, hP.below hb⟩

/-- what belongs to the mesh or to the document's variable -/
def GG (F : Nat → Prop) (pc : Nat) : Nat → Prop := fun i => F i ∨ i = pc
theorem AlM.turn {w1 w2 : World} {F F' : Nat → Prop} {pc : Nat} {L M : List Mq} (h : AlM w1 (GG F pc) (GG F pc) L M) (hf : Fr F w1 w2) (hF : ∀ i, F' i → F i ∨ w1.heap.size ≤ i) : AlM w2 (GG F' pc) (GG F' pc) L M := by
  have h1 : AlM w1 (fun i => F i ∨ GG F' pc i) (fun i => F i ∨ GG F' pc i) L M := h.of (fun i hi hlt => ?_) (fun i hi hlt => ?_)
  · exact (h1.fr hf (fun i hi => .inl hi) (fun i hi => .inl hi)).of (fun i hi _ => .inr hi) (fun i hi _ => .inr hi)
  all_goals
    rcases hi with hi | hi | hi
    · exact .inl hi
    · rcases hF i hi with h | h
      · exact .inl h
      · omega
    · exact .inr hi
theorem AlP.turn {w1 w2 : World} {F F' : Nat → Prop} {pc : Nat} {Q P : List Pq} (h : AlP w1 (GG F pc) (GG F pc) Q P) (hf : Fr F w1 w2) (hF : ∀ i, F' i → F i ∨ w1.heap.size ≤ i) : AlP w2 (GG F' pc) (GG F' pc) Q P := by
  have h1 : AlP w1 (fun i => F i ∨ GG F' pc i) (fun i => F i ∨ GG F' pc i) Q P := h.of (fun i hi hlt => ?_) (fun i hi hlt => ?_)
  · exact (h1.fr hf (fun i hi => .inl hi) (fun i hi => .inl hi)).of (fun i hi _ => .inr hi) (fun i hi _ => .inr hi)
  all_goals
    rcases hi with hi | hi | hi
    · exact .inl hi
    · rcases hF i hi with h | h
      · exact .inl h
      · omega
    · exact .inr hi

structure DMem (w wr : World) (p pc W most : Nat) (R : Nat → List Mq) (F : Nat → Prop) (s : Option Addr) (n k : Nat) (A : List Pq) : Prop where
  mesh : MeshAt wr p W most R F
  blk : wr.heap[pc]? = some (.cells (encR W most s n k).toArray 32 (0, 0))
  row : RowA wr s n k A
  fb : ∀ i, F i → w.heap.size ≤ i ∧ i ≠ pc
  rb : ∀ i, (Value.slice s n k).ownBlock = some i → ¬ F i ∧ i ≠ pc
  bel : Below w.heap.size w wr
  pcb : w.heap.size ≤ pc
structure DRel (wr : World) (pc W : Nat) (R : Nat → List Mq) (F : Nat → Prop) (A : List Pq) : Prop where
  allin : AllIn W A
  al : ∀ j, j < W * W → AlM wr (GG F pc) (GG F pc) (R j) (msgsTo W A j)

section
variable {w wr w' : World} {p pc W most n k : Nat} {R R' : Nat → List Mq} {F F' : Nat → Prop} {s : Option Addr} {A A' : List Pq}
theorem DMem.pcl (D : DMem w wr p pc W most R F s n k A) : pc < wr.heap.size := lt_of_block D.blk
theorem DMem.no (D : DMem w wr p pc W most R F s n k A) (hf : Fr (fun _ => False) wr w') : DMem w w' p pc W most R F s n k A :=
  ⟨D.mesh.no hf, hf.heap D.blk (fun e => e), D.row.fr hf (fun _ _ e => e), D.fb, D.rb, D.bel.trans (hf.below D.bel.size (fun _ _ e => e)), D.pcb⟩
theorem DRel.no (D : DRel wr pc W R F A) (hf : Fr (fun _ => False) wr w') : DRel w' pc W R F A :=
  ⟨D.allin, fun j hj => (D.al j hj).fr hf (fun _ e => e.elim) (fun _ e => e.elim)⟩
/-- the document's variable stored, behind a turn of both -/
theorem DMem.turn (D : DMem w wr p pc W most R F s n k A) {w3 w5 w6 : World} {s' : Option Addr} {n' k' : Nat} (hm : MeshAt w5 p W most R' F') (hF : ∀ i, F' i → F i ∨ wr.heap.size ≤ i) (hrow : RowA w5 s' n' k' A')
    (hf : Fr F wr w5) (hnew : NewRow w3 s n k s' n' k') (hz : wr.heap.size ≤ w3.heap.size) (hF3 : ∀ i, F' i → i < w3.heap.size) (h6 : w6 = w5.setCells pc 0 (encR W most s' n' k')) : DMem w w6 p pc W most R' F' s' n' k' A' := by
  have hpc := D.pcl
  have hf6 : Fr (fun i => i = pc) w5 w6 := by rw [h6]; exact Fr.setCells (S := fun i => i = pc) (b := pc) (fun _ => rfl) _ _ (Fr.refl _ _)
  have hFpc : ¬ F pc := fun e => (D.fb pc e).2 rfl
  have hF' : ∀ i, F' i → i ≠ pc := fun i hi => by
    rcases hF i hi with h | h
    · exact (D.fb i h).2
    · omega
  have hr' : ∀ i, (Value.slice s' n' k').ownBlock = some i → ¬ F' i ∧ i ≠ pc := fun i e => by
    rcases hnew i e with h | h
    · refine ⟨fun h2 => ?_, (D.rb i h).2⟩
      rcases hF i h2 with h3 | h3
      · exact (D.rb i h).1 h3
      · have := D.row.lt i h; omega
    · exact ⟨fun h2 => by have := hF3 i h2; omega, by omega⟩
  refine ⟨hm.fr hf6 hF', ?_, hrow.fr hf6 (fun i e => (hr' i e).2), fun i hi => ⟨?_, hF' i hi⟩, hr', ?_, D.pcb⟩
  · rw [h6]; exact encR_put (hf.heap D.blk hFpc)
  · rcases hF i hi with h | h
    · exact (D.fb i h).1
    · exact Nat.le_trans D.bel.size h
  · refine D.bel.trans ((hf.below D.bel.size (fun i hi e => by have := (D.fb i e).1; omega)).trans (hf6.below (Nat.le_trans D.bel.size hf.size) (fun i hi e => ?_)))
    have := D.pcb
    omega
theorem DRel.turn {w5 w6 : World} {x : List Value} (h1 : AllIn W A') (h2 : ∀ j, j < W * W → AlM w5 (GG F' pc) (GG F' pc) (R' j) (msgsTo W A' j)) (h6 : w6 = w5.setCells pc 0 x) : DRel w6 pc W R' F' A' := by
  have hf6 : Fr (fun i => i = pc) w5 w6 := by rw [h6]; exact Fr.setCells (S := fun i => i = pc) (b := pc) (fun _ => rfl) _ _ (Fr.refl _ _)
  exact ⟨h1, fun j hj => (h2 j hj).fr hf6 (fun i e => .inr e) (fun i e => .inr e)⟩
/-- both tell alike how many a link has -/
theorem DRel.len (D : DRel wr pc W R F A) (a b : Int) : (if thereI W a b then ((R (lk W a b)).length : Int) else 0) = (cntA a b A : Int) := by
  by_cases h : thereI W a b
  · rw [if_pos h, cntA_eq D.allin h, (D.al _ (lk_lt h)).1, msgsTo_len]
  · rw [if_neg h, cntA_zero D.allin h]; rfl
theorem DRel.least (D : DRel wr pc W R F A) : lst R (W * W) = lsA A := least_agree D.allin (fun j hj => (D.al j hj).times)
theorem DRel.cnt (D : DRel wr pc W R F A) (a b : Nat) (ha : a < W) (hb : b < W) : (R (a * W + b)).length = cntA a b A := by
  have ht : thereI W a b := ⟨by omega, by omega, by omega, by omega⟩
  have h := D.len a b
  have hlk : lk W a b = a * W + b := by
    have := lk_int ht
    have h2 : ((a * W + b : Nat) : Int) = (a : Int) * W + b := by rw [Int.natCast_add, Int.natCast_mul]
    omega
  rw [if_pos ht, hlk] at h
  omega
end

set_option maxRecDepth 100000 in
theorem does_long (n0 n1 : Int) (ao : Option Addr) (n cap : Nat) (w : World) (hn : 14 < n) (hn2 : n ≤ 9223372036854775807) :
    Calls Try.prog 3 #[.agg #[.int .i64 n0, .int .i64 n1], .slice ao n cap] w fun e w' => e = .returned (.bool true) ∧ Below w.heap.size w w' := by
  have HB0 := hid (Below.refl w.heap.size w)
  go_enter Try.func3, Try.ntmps3
  go_wp2_with fail
  refine (awake_ok _).mono ?_
  rintro e w' ⟨rfl, hb⟩
  have HB := hid (((Below.refl w.heap.size w).alloc (Nat.le_refl _) _).trans (hb.mono (by simp)))
  clear hb
  go_wp2_with fail
  go_ret
  exact ⟨rfl, HB.out⟩

set_option maxRecDepth 100000 in
set_option maxHeartbeats 1000000 in
theorem does_bad (n0 n1 : Int) (ao : Option Addr) (n cap : Nat) (w : World) (hn : n ≤ 14) (hm : mayB n0 n1 = false) :
    Calls Try.prog 3 #[.agg #[.int .i64 n0, .int .i64 n1], .slice ao n cap] w fun e w' => e = .returned (.bool true) ∧ Below w.heap.size w w' := by
  have q1 : ¬ (14 : Int) < n := by omega
  have NW := hid (fun w : World => (show Calls Try.prog 6 #[.int .i64 n0, .int .i64 n1] w fun e w' => e = .returned (.tuple #[.pointer none, .int .i64 2]) ∧ Fr (fun _ => False) w w' from by
    by_cases h0 : n0 < 1 ∨ 16 < n0
    · refine (mnew_bad n0 n1 w h0).mono ?_
      rintro e w' ⟨rfl, rfl⟩
      exact ⟨rfl, Fr.refl _ _⟩
    · obtain ⟨W, rfl⟩ : ∃ W : Nat, n0 = W := ⟨n0.toNat, by omega⟩
      have h1 : n1 < 1 ∨ 4096 < n1 := by
        unfold mayB at hm
        simp only [Bool.and_eq_false_iff, decide_eq_false_iff_not] at hm
        omega
      exact mnew_bad2 W n1 w (by omega) (by omega) h1))
  have MY := hid (fun w : World => (show Calls Try.prog 7 #[.int .i64 n0, .int .i64 n1] w fun e w' => e = .returned (.bool false) ∧ w = w' from by
    have h := refMay_ok n0 n1 w
    rwa [hm] at h))
  clear hm
  go_enter Try.func3, Try.ntmps3
  go_upto_region 3 with fail
  generalize hw1 : World.alloc w _ = w1
  have HB1 := hid (show Below w.heap.size w w1 by rw [← hw1]; exact (Below.refl _ _).alloc (Nat.le_refl _) _)
  have G1 : w1.heap[w.heap.size]? = some (.cells #[.int .i64 n0, .int .i64 n1] 22 (0, 0)) := by rw [← hw1]; exact heap_new w _
  have c0 := cell_of G1 0 (v := .int .i64 n0) rfl
  have c1 := cell_of G1 1 (v := .int .i64 n1) rfl
  generalize hb : w.heap.size = b at *
  have HBB := hid hb
  clear hw1 hb
  go_wp2_with fail
  refine (NW.out _).mono ?_
  rintro e w2 ⟨rfl, hf⟩
  have d0 := hf.cell c0 (fun e => e)
  have d1 := hf.cell c1 (fun e => e)
  have hbl := (lt_of_block G1)
  have HB2 := hid (HB1.out.trans (hf.below (by omega) (fun _ _ e => e)))
  have HZ := hid (show b ≤ w2.heap.size by have := hf.size; omega)
  clear hf c0 c1 G1
  go_wp2_with fail
  refine (MY.out _).mono ?_
  rintro e w' ⟨rfl, rfl⟩
  go_wp2_with fail
  refine (awake_ok w2).mono ?_
  rintro e w' ⟨rfl, hb⟩
  have HB := hid (HB2.out.trans (hb.mono HZ.out))
  clear hb
  go_wp2_with fail
  go_ret
  exact ⟨rfl, by rw [HBB.out]; exact HB.out⟩

end Go.Proofs.Ytakhmommcgfoaaa
