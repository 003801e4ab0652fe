/-
  A mesh: what a change of one link makes of it; Recv, walked.
-/
import Derived.Test.YtakhmommcgfoaaaMeM1
namespace Go.Proofs.Ytakhmommcgfoaaa
open Go.RowKit
attribute [local go_sem ↓] run_ldM run_stM

def upd {α : Type} (R : Nat → α) (k : Nat) (x : α) : Nat → α := fun j => if j = k then x else R j
theorem upd_same {α : Type} (R : Nat → α) (k : Nat) (x : α) : upd R k x k = x := by simp [upd]
theorem upd_ne {α : Type} (R : Nat → α) {k j : Nat} (x : α) (h : j ≠ k) : upd R k x j = R j := by simp [upd, h]

theorem MeshIn.put {w w' : World} {p W most : Nat} {R : Nat → List Mq} {F F' : Nat → Prop} {q cap : Nat} {bx : Nat → Nat} {S : Nat → Nat → Prop} (h : MeshIn w p W most R F q cap bx S) {k : Nat} (hk : k < W * W) {L : List Mq} {S' : Nat → Prop}
    (hl : Live w' (bx k) most L S') (hf : Fr (S k) w w') (hs : ∀ i, S' i → S k i ∨ w.heap.size ≤ i) (h1 : ∀ i, F i → F' i) (h2 : ∀ i, S' i → F' i) (h3 : ∀ i, F' i → i < w'.heap.size) :
    MeshIn w' p W most (upd R k L) F' q cap bx (upd S k S') := by
  have hp := (h.lt p h.fp)
  have hq := (h.lt q h.fq)
  have ap : ∀ j, j < W * W → j ≠ k → ∀ i, S j i → ¬ S' i := by
    intro j hj hjk i hi hi'
    rcases hs i hi' with h4 | h4
    · exact h.apart j k hj hk hjk i hi h4
    · have := (h.live j hj).lt i hi; omega
  refine ⟨hf.heap h.blk (fun e => (h.sub k hk p e).2.1 rfl), h.cap1, h.cap2, fun j hj => hf.cell (h.links j hj) (fun e => (h.sub k hk q e).2.2 rfl), fun j hj => ?_, fun i j hi hj hij x hx => ?_, fun j hj i hi => ?_, h1 p h.fp, h1 q h.fq, h3⟩
  · by_cases e : j = k
    · subst e; rw [upd_same, upd_same]; exact hl
    · rw [upd_ne _ _ e, upd_ne _ _ e]
      exact (h.live j hj).fr hf (fun i hi => h.apart j k hj hk e i hi)
  · by_cases e : i = k
    · subst e
      rw [upd_same] at hx
      rw [upd_ne _ _ (fun e => hij e.symm)]
      exact fun h5 => ap j hj (fun e => hij e.symm) x h5 hx
    · rw [upd_ne _ _ e] at hx
      by_cases e2 : j = k
      · subst e2; rw [upd_same]; exact ap i hi e x hx
      · rw [upd_ne _ _ e2]; exact h.apart i j hi hj hij x hx
  · by_cases e : j = k
    · subst e
      rw [upd_same] at hi
      refine ⟨h2 i hi, ?_⟩
      rcases hs i hi with h4 | h4
      · exact (h.sub j hj i h4).2
      · exact ⟨by omega, by omega⟩
    · rw [upd_ne _ _ e] at hi
      exact ⟨h1 i (h.sub j hj i hi).1, (h.sub j hj i hi).2⟩

theorem one_hole {w w1 : World} {T : TypeId} (hw : w.alloc (.cells (encM noM).toArray T) = w1) :
    w1.heap[w.heap.size]? = some (.cells (encM noM).toArray T (0, 0)) ∧ Fr (fun _ => False) w w1 ∧ w1.heap.size = w.heap.size + 1 := one_built hw

/-- what is read of a result cell -/
theorem hole_put {w : World} {b : Nat} {m : Mq} {T : TypeId} (h : w.heap[b]? = some (.cells (encM m).toArray T (0, 0))) (y : Mq) : MsgAt (w.setCells b 0 (encM y)) b 0 y :=
  MsgAt.of_block (t := T) (fr := (0, 0)) (by rw [heap_setCells _ _ h, encM_zero _ _ rfl])

theorem recv_no {w : World} {p W most : Nat} {R : Nat → List Mq} {F : Nat → Prop} (h : MeshAt w p W most R F) (a b : Int) (hn : ¬ thereI W a b) :
    Calls Try.prog 9 #[.pointer (some ⟨p, 0, none⟩), .int .i64 a, .int .i64 b] w fun e w' => e = .returned (.tuple #[msgV noM, .int .i64 6]) ∧ Fr (fun _ => False) w w' := by
  have HM := hid h
  have HN := hid hn
  clear h hn
  go_enter Try.func9, Try.ntmps9
  go_upto_region 1 with fail
  generalize hw1 : World.alloc w _ = w1
  obtain ⟨P0, F1, z1⟩ := one_hole hw1
  clear hw1
  have L1 := hid (link_no (HM.out.no F1) a b HN.out)
  have S5 : st 40 (.pointer (some ⟨w.heap.size, 0, none⟩)) (.agg #[.int .i64 0, .string ⟨#[]⟩, .int .i64 0, .int .i64 0, .int .i64 0, .string ⟨#[]⟩, .slice none 0 0]) w1 = .ok .skip (w1.setCells w.heap.size 0 (encM noM)) := st_msg noM (there_block P0)
  generalize hr : w.heap.size = r at *
  have HP := hid P0
  have HF := hid F1
  clear P0 F1
  go_wp2_with (go_at_call 26; refine L1.out.mono ?_; rintro e w' ⟨rfl, rfl⟩)
  refine bodyPost_ret (results_msg Try.results9 (b := r) (m := noM) (by rfl) (hole_put HP.out noM)) rfl ⟨rfl, ?_⟩
  exact HF.out.setCells (fun h => by omega) _ _

theorem recv_none {w : World} {p W most : Nat} {R : Nat → List Mq} {F : Nat → Prop} (h : MeshAt w p W most R F) (a b : Int) (hn : thereI W a b) (he : R (lk W a b) = []) :
    Calls Try.prog 9 #[.pointer (some ⟨p, 0, none⟩), .int .i64 a, .int .i64 b] w fun e w' => e = .returned (.tuple #[msgV noM, .int .i64 16]) ∧ Fr (fun _ => False) w w' := by
  obtain ⟨hw, q, cap, bx, S, hm⟩ := h
  have HM := hid hm
  have HN := hid hn
  have HE := hid he
  have HW := hid hw
  clear hm hn he hw
  go_enter Try.func9, Try.ntmps9
  go_upto_region 1 with fail
  generalize hw1 : World.alloc w _ = w1
  obtain ⟨P0, F1, z1⟩ := one_hole hw1
  clear hw1
  have hm1 := HM.out.fr F1 (fun _ _ e => e)
  have L1 := hid (link_ok HW.out.2.1 hm1 a b HN.out)
  have L2 := hid (fun (m : Nat) => (show Calls Try.prog 27 #[.pointer (some ⟨bx (lk W a b), 0, none⟩)] (w1.drewN m) fun e w' => e = .returned (.tuple #[msgV noM, .int .i64 16]) ∧ Fr (fun _ => False) (w1.drewN m) w' from by
    have hl := (hm1.live _ (lk_lt HN.out)).fr ((Fr.refl (fun _ => False) w1).drewN m) (fun _ _ e => e)
    rw [HE.out] at hl
    exact pop_live_none hl))
  generalize hr : w.heap.size = r at *
  have HP := hid P0
  have HF := hid F1
  clear P0 F1 hm1
  go_wp2_with (first
    | (go_at_call 26; refine L1.out.mono ?_; rintro e w' ⟨rfl, m, rfl⟩)
    | (go_at_call 27; refine (L2.out _).mono ?_; rintro e w2 ⟨rfl, hf2⟩; have E6 := hf2.heap (k := r) HP.out (fun e => e); have S5 := st_msg noM (there_block E6); have HE6 := hid E6; have HF2 := hid hf2; clear E6 hf2))
  refine bodyPost_ret (results_msg Try.results9 (b := r) (m := noM) (by rfl) (hole_put HE6.out noM)) rfl ⟨rfl, ?_⟩
  exact ((HF.out.drewN _).trans' HF2.out).setCells (fun h => by omega) _ _

theorem recv_some {w : World} {p W most : Nat} {R : Nat → List Mq} {F : Nat → Prop} (h : MeshAt w p W most R F) (a b : Int) (hn : thereI W a b) {y : Mq} {L : List Mq} (he : R (lk W a b) = y :: L) :
    Calls Try.prog 9 #[.pointer (some ⟨p, 0, none⟩), .int .i64 a, .int .i64 b] w fun e w' => e = .returned (.tuple #[msgV y, .int .i64 0]) ∧ MeshAt w' p W most (upd R (lk W a b) L) F ∧ Fr F w w' := by
  obtain ⟨hw, q, cap, bx, S, hm⟩ := h
  have HM := hid hm
  have HN := hid hn
  have HE := hid he
  have HW := hid hw
  clear hm hn he hw
  go_enter Try.func9, Try.ntmps9
  go_upto_region 1 with fail
  generalize hw1 : World.alloc w _ = w1
  obtain ⟨P0, F1, z1⟩ := one_hole hw1
  clear hw1
  have hm1 := HM.out.fr F1 (fun _ _ e => e)
  have L1 := hid (link_ok HW.out.2.1 hm1 a b HN.out)
  have L2 := hid (fun (m : Nat) => (show Calls Try.prog 27 #[.pointer (some ⟨bx (lk W a b), 0, none⟩)] (w1.drewN m) fun e w' => e = .returned (.tuple #[msgV y, .int .i64 0]) ∧ Live w' (bx (lk W a b)) most L (S (lk W a b)) ∧ Fr (S (lk W a b)) (w1.drewN m) w' from by
    have hl := (hm1.live _ (lk_lt HN.out)).fr ((Fr.refl (fun _ => False) w1).drewN m) (fun _ _ e => e)
    rw [HE.out] at hl
    exact pop_live hl))
  generalize hr : w.heap.size = r at *
  have hrS : ¬ S (lk W a b) r := fun e => by have := HM.out.lt r (HM.out.sub _ (lk_lt HN.out) r e).1; omega
  have HRS := hid hrS
  have HP := hid P0
  have HF := hid F1
  have HM1 := hid hm1
  clear P0 F1 hm1 hrS
  go_wp2_with (first
    | (go_at_call 26; refine L1.out.mono ?_; rintro e w' ⟨rfl, m, rfl⟩)
    | (go_at_call 27; refine (L2.out _).mono ?_; rintro e w2 ⟨rfl, hl2, hf2⟩; have E6 := hf2.heap (k := r) HP.out HRS.out; have S5 := st_msg y (there_block E6); have HE6 := hid E6; have HF2 := hid hf2; have HL2 := hid hl2; clear E6 hf2 hl2))
  refine bodyPost_ret (results_msg Try.results9 (b := r) (m := y) (by rfl) (hole_put HE6.out y)) rfl ⟨rfl, ?_⟩
  have hmz := (HM1.out.fr ((Fr.refl (fun _ => False) w1).drewN _) (fun _ _ e => e)).put (lk_lt HN.out) HL2.out HF2.out (fun i hi => .inl hi) (F' := F) (fun i hi => hi) (fun i hi => (HM.out.sub _ (lk_lt HN.out) i hi).1) (fun i hi => Nat.lt_of_lt_of_le (HM1.out.lt i hi) HF2.out.size)
  have hfp : Fr (fun k => k = r) w2 (w2.setCells r 0 (encM y)) := Fr.setCells (S := fun k => k = r) (b := r) (fun _ => rfl) _ _ (Fr.refl _ _)
  refine ⟨⟨HW.out, _, _, _, _, hmz.fr hfp (fun i hi e => by have := HM.out.lt i hi; omega)⟩, ?_⟩
  refine (((HF.out.drewN _).mono (S' := F) (fun _ _ h => h.elim)).trans HF2.out (fun i hi => hi) (fun i _ hi => (HM.out.sub _ (lk_lt HN.out) i hi).1)).trans hfp (fun i hi => hi) (fun i hi e => ?_)
  omega

end Go.Proofs.Ytakhmommcgfoaaa
