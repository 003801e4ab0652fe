/-
  What holds at the heads of MeshOrder's loops; the short ways.
-/
import Derived.Test.YtakhmommcgfoaaaMeE1
namespace Go.Proofs.Ytakhmommcgfoaaa
open Go.RowKit

def GS (F : Nat → Prop) (v : Value) : Nat → Prop := fun i => F i ∨ v.ownBlock = some i
structure OMem (w wr : World) (p W most : Nat) (F : Nat → Prop) (v : Value) (A : List Pq) : Prop where
  mesh : MeshAt wr p W most (msgsTo W A) F
  row : wr.ownsRow w.heap.size 69 9 v A.length (A.flatMap encP)
  inn : AllIn W A
  al : AlP wr (GS F v) (GS F v) A A
  fb : ∀ i, F i → w.heap.size ≤ i ∧ v.ownBlock ≠ some i
  bel : Below w.heap.size w wr

section
variable {w wr w' : World} {p W most : Nat} {F F' : Nat → Prop} {v : Value} {A : List Pq}
theorem OMem.no (D : OMem w wr p W most F v A) (hf : Fr (fun _ => False) wr w') : OMem w w' p W most F v A :=
  ⟨D.mesh.no hf, hf.owns D.row (fun _ _ e => e), D.inn, D.al.fr hf (fun _ e => e.elim) (fun _ e => e.elim), D.fb, D.bel.trans (hf.below D.bel.size (fun _ _ e => e))⟩
/-- nothing was sent -/
theorem OMem.unsent (D : OMem w wr p W most F v A) {w4 : World} (hm : MeshAt w4 p W most (msgsTo W A) F') (hf : Fr F wr w4) (hF : ∀ i, F' i → F i ∨ wr.heap.size ≤ i) : OMem w w4 p W most F' v A := by
  have hv : ∀ i, v.ownBlock = some i → i < wr.heap.size := fun i e => (D.row.lt i e).2
  refine ⟨hm, hf.owns D.row (fun i e h => (D.fb i h).2 e), D.inn, D.al.go hf (fun i h _ => .inl h) (fun i h hlt => ?_), fun i hi => ?_, D.bel.trans (hf.below D.bel.size (fun i hi e => by have := (D.fb i e).1; omega))⟩
  · rcases h with h | h
    · rcases hF i h with h | h
      · exact .inl h
      · omega
    · exact .inr h
  · rcases hF i hi with h | h
    · exact D.fb i h
    · exact ⟨Nat.le_trans D.bel.size h, fun e => by have := hv i e; omega⟩
/-- the list Q was sent -/
theorem OMem.sent (D : OMem w wr p W most F v A) {w4 w5 : World} {Q : List Pq} {S : Nat → Prop} {v5 : Value} (hm : MeshAt w4 p W most (msgsTo W (A ++ Q)) F') (hf : Fr F wr w4) (hF : ∀ i, F' i → F i ∨ wr.heap.size ≤ i)
    (hQ : AlP wr S S Q Q) (hS1 : ∀ i, F i → S i) (hS2 : ∀ i, v.ownBlock = some i → S i) (hin : AllIn W Q) (hown : w5.ownsRow w.heap.size 69 9 v5 (A.length + Q.length) (A.flatMap encP ++ Q.flatMap encP)) (hg : w4.grownBy w5 v.ownBlock)
    (hv5 : v5.ownBlock = v.ownBlock ∨ v5.ownBlock = some w4.heap.size) : OMem w w5 p W most F' v5 (A ++ Q) := by
  have hv : ∀ i, v.ownBlock = some i → i < wr.heap.size := fun i e => (D.row.lt i e).2
  have hz := hf.size
  have hf5 : Fr (fun i => v.ownBlock = some i) w4 w5 := (Fr.refl _ w4).grown hg (fun i e _ => e)
  have hFv : ∀ i, F' i → ¬ v.ownBlock = some i := fun i hi e => by
    rcases hF i hi with h | h
    · exact (D.fb i h).2 e
    · have := hv i e; omega
  have hG : ∀ i, (F' i ∨ v.ownBlock = some i ∨ v5.ownBlock = some i) → i < wr.heap.size → F i ∨ v.ownBlock = some i := by
    intro i hi hlt
    rcases hi with h | h | h
    · rcases hF i h with h | h
      · exact .inl h
      · omega
    · exact .inr h
    · rcases hv5 with e | e
      · exact .inr (e ▸ h)
      · rw [e] at h; injection h with h; omega
  have c1 : AlP w5 (GS F' v5) (GS F' v5) A A := (D.al.go (G := fun i => F' i ∨ v.ownBlock = some i ∨ v5.ownBlock = some i) hf (fun i h _ => .inl h) (fun i h hlt => hG i h hlt)).go hf5 (fun i h _ => .inr (.inl h)) (fun i h _ => h.elim .inl (fun h => .inr (.inr h)))
  have c2 : AlP w5 (GS F' v5) (GS F' v5) Q Q := (hQ.go (G := fun i => F' i ∨ v.ownBlock = some i ∨ v5.ownBlock = some i) hf (fun i h _ => hS1 i h) (fun i h hlt => (hG i h hlt).elim (hS1 i) (hS2 i))).go hf5 (fun i h _ => .inr (.inl h)) (fun i h _ => h.elim .inl (fun h => .inr (.inr h)))
  refine ⟨hm.fr hf5 hFv, by rw [List.length_append, List.flatMap_append]; exact hown, D.inn.append hin, c1.append c2, fun i hi => ⟨?_, fun e => ?_⟩, ?_⟩
  · rcases hF i hi with h | h
    · exact (D.fb i h).1
    · exact Nat.le_trans D.bel.size h
  · rcases hv5 with h | h
    · exact hFv i hi (h ▸ e)
    · rw [h] at e; injection e with e
      have := hm.lt i hi; omega
  · exact D.bel.trans ((hf.below D.bel.size (fun i hi e => by have := (D.fb i e).1; omega)).trans (hf5.below (Nat.le_trans D.bel.size hz) (fun i hi e => by have := (D.row.lt i e).1; omega)))
/-- one was taken -/
theorem OMem.took (D : OMem w wr p W most F v A) {w5 w7 : World} {A' : List Pq} {v2 : Value} (hm : MeshAt w5 p W most (msgsTo W A') F) (hf : Fr F wr w5) (hs : ∀ x ∈ A', x ∈ A) (hrow : w7.ownsRow w5.heap.size 69 9 v2 A'.length (A'.flatMap encP)) (h7 : Fr (fun _ => False) w5 w7) :
    OMem w w7 p W most F v2 A' := by
  have hz := Nat.le_trans D.bel.size hf.size
  have hlt : ∀ i, v2.ownBlock = some i → w5.heap.size ≤ i := fun i e => (hrow.lt i e).1
  refine ⟨hm.no h7, owns_base hrow hz, fun x hx => D.inn x (hs x hx), ?_, fun i hi => ⟨(D.fb i hi).1, fun e => ?_⟩, ?_⟩
  · refine (((D.al.part hs).go (G := fun i => F i ∨ v2.ownBlock = some i) hf (fun i h _ => .inl h) (fun i h hl => ?_)).fr h7 (fun _ e => e.elim) (fun _ e => e.elim))
    rcases h with h | h
    · exact .inl h
    · have := hlt i h; have := hf.size; omega
  · have := hlt i e; have := hm.lt i hi; omega
  · exact D.bel.trans ((hf.below D.bel.size (fun i hi e => by have := (D.fb i e).1; omega)).trans (h7.below hz (fun _ _ e => e)))
end

/-- numbers that came in -/
def IntsIn (w : World) (B : Nat) (ao : Option Addr) (L : List Int) : Prop :=
  L = [] ∨ ∃ b o, ao = some ⟨b, o, none⟩ ∧ b < B ∧ ∀ (i : Nat) (x : Int), L[i]? = some x → w.cell? ⟨b, o + i, none⟩ = some (.int .i64 x)
def OBad (n0 n1 : Int) (nl nk : Nat) : Prop := n0 < 1 ∨ 4 < n0 ∨ n1 < 1 ∨ 12 < n1 ∨ 10 < nl ∨ 200 < nk

set_option maxRecDepth 100000 in
set_option maxHeartbeats 2000000 in
theorem order_short (n0 n1 : Int) (ao ko : Option Addr) (nl cl nk ck : Nat) (w : World) (hl : nl ≤ 9223372036854775807) (hk : nk ≤ 9223372036854775807) (hb : OBad n0 n1 nl nk) :
    Calls Try.prog 4 #[.agg #[.int .i64 n0, .int .i64 n1], .slice ao nl cl, .slice ko nk ck] w fun e w' => e = .returned (.bool true) ∧ Below w.heap.size w w' := by
  unfold OBad at hb
  by_cases t1 : n0 < 1
  rotate_left
  by_cases t2 : 4 < n0
  rotate_left
  by_cases t3 : n1 < 1
  rotate_left
  by_cases t4 : 12 < n1
  rotate_left
  by_cases t5 : 10 < nl
  rotate_left
  have t6 : 200 < nk := by omega
  all_goals
    clear hb
    try have s1 : decide (n0 < 1) = false := by simpa using t1
    try have s1 : decide (n0 < 1) = true := by simpa using t1
    try have s2 : decide (4 < n0) = false := by simpa using t2
    try have s2 : decide (4 < n0) = true := by simpa using t2
    try have s3 : decide (n1 < 1) = false := by simpa using t3
    try have s3 : decide (n1 < 1) = true := by simpa using t3
    try have s4 : decide (12 < n1) = false := by simpa using t4
    try have s4 : decide (12 < n1) = true := by simpa using t4
    try have s5 : decide ((10 : Int) < (nl : Int)) = false := by (have := t5; simp; omega)
    try have s5 : decide ((10 : Int) < (nl : Int)) = true := by (have := t5; simp; omega)
    try have s6 : decide ((200 : Int) < (nk : Int)) = true := by (have := t6; simp; omega)
    go_enter Try.func4, Try.ntmps4
    go_upto_region 1 with fail
    generalize hw1 : World.alloc w _ = w1
    have HB1 := hid (show Below w.heap.size w w1 by rw [← hw1]; exact (Below.refl _ _).alloc (Nat.le_refl _) _)
    have G1 : w1.heap[w.heap.size]? = some (.cells #[.int .i64 n0, .int .i64 n1] 22 (0, 0)) := by rw [← hw1]; exact heap_new w _
    have c0 := cell_of G1 0 (v := .int .i64 n0) rfl
    have c1 := cell_of G1 1 (v := .int .i64 n1) rfl
    clear hw1 G1
    go_wp2_with fail
    refine (awake_ok w1).mono ?_
    rintro e w' ⟨rfl, hb⟩
    have HB := hid (HB1.out.trans (hb.mono HB1.out.size))
    clear hb
    go_wp2_with fail
    go_ret
    exact ⟨rfl, HB.out⟩

end Go.Proofs.Ytakhmommcgfoaaa
