/-
  One turn of the mesh against the document's: the contracts in one form, and what holds behind a turn.
-/
import Derived.Test.YtakhmommcgfoaaaMeA1
namespace Go.Proofs.Ytakhmommcgfoaaa
open Go.RowKit

theorem AlP.cons {w : World} {F G : Nat → Prop} {x y : Pq} {P Q : List Pq} (h : AlP w F G (x :: P) (y :: Q)) : (x.f = y.f ∧ x.d = y.d ∧ Al w F G x.m y.m) ∧ AlP w F G P Q :=
  ⟨h.2 0 x y rfl rfl, by have := h.1; simpa using this, fun i a b ha hb => h.2 (i + 1) a b (by simpa using ha) (by simpa using hb)⟩
theorem AlP.msgs {w : World} {F G : Nat → Prop} (W k : Nat) {Q : List Pq} : ∀ {P : List Pq}, AlP w F G Q P → AlM w F G (msgsTo W Q k) (msgsTo W P k) := by
  induction Q with
  | nil =>
    intro P h
    obtain rfl : P = [] := List.eq_nil_of_length_eq_zero (by have := h.1; simpa using this.symm)
    exact AlM.nil _ _ _
  | cons x Q ih =>
    intro P h
    cases P with
    | nil => have := h.1; simp at this
    | cons y P =>
      obtain ⟨⟨h1, h2, h3⟩, h4⟩ := h.cons
      have e1 : ∀ (z : Pq) (L : List Pq), msgsTo W (z :: L) k = (if lk W z.f z.d = k then [z.m] else []) ++ msgsTo W L k := by
        intro z L
        unfold msgsTo
        by_cases e : lk W z.f z.d = k
        · simp [e]
        · simp [e]
      rw [e1, e1, h1, h2]
      refine AlM.append ?_ (ih h4)
      by_cases e : lk W y.f y.d = k
      · rw [if_pos e, if_pos e]
        refine ⟨rfl, fun i a b ha hb => ?_⟩
        cases i with
        | zero => simp at ha hb; exact ha ▸ hb ▸ h3
        | succ i => simp at ha
      · rw [if_neg e, if_neg e]
        exact AlM.nil _ _ _
theorem AlP.in_ {w : World} {F G : Nat → Prop} {W : Nat} {Q P : List Pq} (h : AlP w F G Q P) : AllIn W Q ↔ AllIn W P := by
  constructor
  · intro hq y hy
    obtain ⟨i, hi⟩ := List.mem_iff_getElem?.1 hy
    have hl := (List.getElem?_eq_some_iff.1 hi).1
    obtain ⟨x, hx⟩ : ∃ x, Q[i]? = some x := ⟨Q[i]'(by have := h.1; omega), List.getElem?_eq_getElem _⟩
    obtain ⟨h1, h2, _⟩ := h.2 i x y hx hi
    rw [← h1, ← h2]
    exact hq x (List.mem_of_getElem? hx)
  · intro hp x hx
    obtain ⟨i, hi⟩ := List.mem_iff_getElem?.1 hx
    have hl := (List.getElem?_eq_some_iff.1 hi).1
    obtain ⟨y, hy⟩ : ∃ y, P[i]? = some y := ⟨P[i]'(by have := h.1; omega), List.getElem?_eq_getElem _⟩
    obtain ⟨h1, h2, _⟩ := h.2 i x y hi hy
    rw [h1, h2]
    exact hp y (List.mem_of_getElem? hy)

theorem MeshAt.cnt {w : World} {p W most : Nat} {R : Nat → List Mq} {F : Nat → Prop} (h : MeshAt w p W most R F) (k : Nat) (hk : k < W * W) : (R k).length ≤ most := by
  obtain ⟨_, q, cap, bx, S, hm⟩ := h
  exact (hm.live k hk).cnt.1
theorem MeshAt.lt {w : World} {p W most : Nat} {R : Nat → List Mq} {F : Nat → Prop} (h : MeshAt w p W most R F) (i : Nat) (hi : F i) : i < w.heap.size := by
  obtain ⟨_, q, cap, bx, S, hm⟩ := h
  exact hm.lt i hi
theorem MeshAt.here {w : World} {p W most : Nat} {R : Nat → List Mq} {F : Nat → Prop} (h : MeshAt w p W most R F) : p < w.heap.size := by
  obtain ⟨_, q, cap, bx, S, hm⟩ := h
  exact hm.lt p hm.fp

/-- what Recv says and leaves -/
def RecvStep (W : Nat) (R : Nat → List Mq) (a b : Int) (y : Mq) (z : Int) (R' : Nat → List Mq) : Prop :=
  (¬ thereI W a b ∧ y = noM ∧ z = 6 ∧ R' = R) ∨ (thereI W a b ∧ R (lk W a b) = [] ∧ y = noM ∧ z = 16 ∧ R' = R) ∨ (thereI W a b ∧ ∃ L, R (lk W a b) = y :: L ∧ z = 0 ∧ R' = upd R (lk W a b) L)
def RecvU (w : World) (p W most : Nat) (R : Nat → List Mq) (F : Nat → Prop) (a b : Int) (e : Ending) (w' : World) : Prop :=
  ∃ y z R', e = .returned (.tuple #[msgV y, .int .i64 z]) ∧ RecvStep W R a b y z R' ∧ MeshAt w' p W most R' F ∧ Fr F w w'
theorem recv_any {w : World} {p W most : Nat} {R : Nat → List Mq} {F : Nat → Prop} (h : MeshAt w p W most R F) (a b : Int) :
    Calls Try.prog 9 #[.pointer (some ⟨p, 0, none⟩), .int .i64 a, .int .i64 b] w (RecvU w p W most R F a b) := by
  by_cases ht : thereI W a b
  · cases he : R (lk W a b) with
    | nil =>
      refine (recv_none h a b ht he).mono ?_
      rintro e w' ⟨rfl, hf⟩
      exact ⟨noM, 16, R, rfl, .inr (.inl ⟨ht, he, rfl, rfl, rfl⟩), h.no hf, hf.mono (fun _ _ e => e.elim)⟩
    | cons y L =>
      refine (recv_some h a b ht he).mono ?_
      rintro e w' ⟨rfl, hm, hf⟩
      exact ⟨y, 0, _, rfl, .inr (.inr ⟨ht, L, he, rfl, rfl⟩), hm, hf⟩
  · refine (recv_no h a b ht).mono ?_
    rintro e w' ⟨rfl, hf⟩
    exact ⟨noM, 6, R, rfl, .inl ⟨ht, rfl, rfl, rfl⟩, h.no hf, hf.mono (fun _ _ e => e.elim)⟩

/-- the document's row behind a call: its block is the old one or a new one -/
def NewRow (w : World) (s : Option Addr) (n k : Nat) (s' : Option Addr) (n' k' : Nat) : Prop :=
  ∀ i, (Value.slice s' n' k').ownBlock = some i → (Value.slice s n k).ownBlock = some i ∨ w.heap.size ≤ i
def RRecvStep (W : Nat) (A : List Pq) (a b : Int) (y : Mq) (z : Int) (A' : List Pq) : Prop :=
  (¬ thereI W a b ∧ y = noM ∧ z = 6 ∧ A' = A) ∨ (thereI W a b ∧ (∀ x ∈ A, ¬ (x.f = a ∧ x.d = b)) ∧ y = noM ∧ z = 16 ∧ A' = A) ∨
  (thereI W a b ∧ ∃ (i : Nat) (x : Pq), A[i]? = some x ∧ x.f = a ∧ x.d = b ∧ (∀ y ∈ A.take i, ¬ (y.f = a ∧ y.d = b)) ∧ y = x.m ∧ z = 0 ∧ A' = A.take i ++ A.drop (i + 1))
def RRecvU (w : World) (W cap : Nat) (s : Option Addr) (n k : Nat) (A : List Pq) (a b : Int) (e : Ending) (w' : World) : Prop :=
  ∃ y z s' n' k' A', e = .returned (.tuple #[msgV y, rmV W cap (.slice s' n' k'), .int .i64 z]) ∧ RRecvStep W A a b y z A' ∧ RowA w' s' n' k' A' ∧ Fr (fun _ => False) w w' ∧ NewRow w s n k s' n' k'
theorem refRecv_any {w : World} {W cap : Nat} {s : Option Addr} {n k : Nat} {A : List Pq} (hr : RowA w s n k A) (hA : A.length ≤ 4000) (a b : Int) :
    Calls Try.prog 10 #[rmV W cap (.slice s n k), .int .i64 a, .int .i64 b] w (RRecvU w W cap s n k A a b) := by
  refine (refRecv_ok hr hA a b).mono ?_
  rintro e w' ⟨hf, h⟩
  rcases h with ⟨ht, rfl⟩ | ⟨ht, hn, rfl⟩ | ⟨ht, i, x, hx, h1, h2, hn, s', n', k', rfl, hrow, hnew⟩
  · exact ⟨noM, 6, s, n, k, A, rfl, .inl ⟨ht, rfl, rfl, rfl⟩, hr.fr hf (fun _ _ e => e), hf, fun i e => .inl e⟩
  · exact ⟨noM, 16, s, n, k, A, rfl, .inr (.inl ⟨ht, hn, rfl, rfl, rfl⟩), hr.fr hf (fun _ _ e => e), hf, fun i e => .inl e⟩
  · exact ⟨x.m, 0, s', n', k', _, rfl, .inr (.inr ⟨ht, i, x, hx, h1, h2, hn, rfl, rfl, rfl⟩), hrow, hf, fun i e => .inr (hnew i e)⟩

theorem recv_same {w : World} {F G : Nat → Prop} {W : Nat} {R R' : Nat → List Mq} {A A' : List Pq} {a b : Int} {y y' : Mq} {z z' : Int} (hA : AllIn W A) (hal : ∀ j, j < W * W → AlM w F G (R j) (msgsTo W A j))
    (h : RecvStep W R a b y z R') (k : RRecvStep W A a b y' z' A') : z = z' ∧ Al w F G y y' ∧ AllIn W A' ∧ (∀ j, j < W * W → AlM w F G (R' j) (msgsTo W A' j)) ∧ A'.length ≤ A.length := by
  have hno : Al w F G noM noM := ⟨rfl, rfl, rfl, rfl, rfl, rfl, [], va_nil _ _, va_nil _ _⟩
  rcases h with ⟨h1, rfl, rfl, rfl⟩ | ⟨h1, h2, rfl, rfl, rfl⟩ | ⟨h1, L, h2, rfl, rfl⟩ <;> rcases k with ⟨k1, rfl, rfl, rfl⟩ | ⟨k1, k2, rfl, rfl, rfl⟩ | ⟨k1, i, x, hx, k2, k3, k4, rfl, rfl, rfl⟩
  · exact ⟨rfl, hno, hA, hal, Nat.le_refl _⟩
  · exact absurd k1 h1
  · exact absurd k1 h1
  · exact absurd h1 k1
  · exact ⟨rfl, hno, hA, hal, Nat.le_refl _⟩
  · have e := recv_agree hA k1 hx k2 k3 k4 (lk W a b)
    have hl := (hal _ (lk_lt k1)).1
    rw [e, if_pos rfl, h2] at hl
    simp at hl
  · exact absurd h1 k1
  · have e := recv_none_agree hA k1 k2
    have hl := (hal _ (lk_lt k1)).1
    rw [e, h2] at hl
    simp at hl
  · have e := recv_agree hA k1 hx k2 k3 k4
    have h0 := hal _ (lk_lt k1)
    rw [e, if_pos rfl, h2] at h0
    obtain ⟨c1, c2⟩ := h0.cons
    refine ⟨rfl, c1, ?_, fun j hj => ?_, ?_⟩
    · intro y hy
      rcases List.mem_append.1 hy with h | h
      · exact hA y (List.mem_of_mem_take h)
      · exact hA y (List.mem_of_mem_drop h)
    · by_cases ej : j = lk W a b
      · subst ej; rw [upd_same]; exact c2
      · rw [upd_ne _ _ ej]
        have := hal j hj
        rwa [e, if_neg ej] at this
    · rw [List.length_append, List.length_take, List.length_drop]; omega

/-- what Send says and leaves -/
def SendStep (W most : Nat) (R : Nat → List Mq) (P : List Pq) (z : Int) (R' : Nat → List Mq) : Prop :=
  (¬ AllIn W P ∧ z = 6 ∧ R' = R) ∨ (AllIn W P ∧ (∃ k, k < W * W ∧ most < (R k).length + cntP W P k) ∧ z = 7 ∧ R' = R) ∨ (AllIn W P ∧ (∀ k, k < W * W → (R k).length + cntP W P k ≤ most) ∧ z = 0 ∧ R' = fun k => R k ++ msgsTo W P k)
def SendU (w : World) (p W most : Nat) (R : Nat → List Mq) (F : Nat → Prop) (P : List Pq) (e : Ending) (w' : World) : Prop :=
  ∃ z R' F', e = .returned (.int .i64 z) ∧ SendStep W most R P z R' ∧ MeshAt w' p W most R' F' ∧ Fr F w w' ∧ ∀ i, F' i → F i ∨ w.heap.size ≤ i
theorem send_any {w : World} {p W most : Nat} {R : Nat → List Mq} {F : Nat → Prop} (h : MeshAt w p W most R F) {B : Nat} {v : Value} {P : List Pq} (ho : w.ownsRow B 69 9 v P.length (P.flatMap encP)) (hv : ∀ x, v.ownBlock = some x → ¬ F x) (hP : P.length ≤ 4096) :
    Calls Try.prog 13 #[.pointer (some ⟨p, 0, none⟩), v] w (SendU w p W most R F P) := by
  refine (send_ok h ho hv hP).mono ?_
  rintro e w' (⟨h1, rfl, hf⟩ | ⟨h1, h2, rfl, hf⟩ | ⟨h1, h2, rfl, F', hm, hf, hF⟩)
  · exact ⟨6, R, F, rfl, .inl ⟨h1, rfl, rfl⟩, h.no hf, hf.mono (fun _ _ e => e.elim), fun i hi => .inl hi⟩
  · exact ⟨7, R, F, rfl, .inr (.inl ⟨h1, h2, rfl, rfl⟩), h.no hf, hf.mono (fun _ _ e => e.elim), fun i hi => .inl hi⟩
  · exact ⟨0, _, F', rfl, .inr (.inr ⟨h1, h2, rfl, rfl⟩), hm, hf, hF⟩
def RSendStep (W cap : Nat) (A P : List Pq) (z : Int) (A' : List Pq) : Prop :=
  (¬ AllIn W P ∧ z = 6 ∧ A' = A) ∨ (AllIn W P ∧ (∃ (j : Nat) (x : Pq), P[j]? = some x ∧ cap ≤ cntA x.f x.d (A ++ P.take j)) ∧ z = 7 ∧ A' = A) ∨ (AllIn W P ∧ (∀ (j : Nat) x, P[j]? = some x → cntA x.f x.d (A ++ P.take j) < cap) ∧ z = 0 ∧ A' = A ++ P)
def RSendU (w : World) (W cap : Nat) (s : Option Addr) (n k : Nat) (A P : List Pq) (e : Ending) (w' : World) : Prop :=
  ∃ z s' n' k' A', e = .returned (.tuple #[rmV W cap (.slice s' n' k'), .int .i64 z]) ∧ RSendStep W cap A P z A' ∧ RowA w' s' n' k' A' ∧ Fr (fun _ => False) w w' ∧ NewRow w s n k s' n' k'
theorem refSend_any {w : World} {F : Nat → Prop} {W cap : Nat} {s l : Option Addr} {n k ln lc : Nat} {A P : List Pq} (hr : RowA w s n k A) (hP : Pa w F l ln P) (hA : A.length ≤ 4000) :
    Calls Try.prog 15 #[rmV W cap (.slice s n k), .slice l ln lc] w (RSendU w W cap s n k A P) := by
  refine (refSend_ok hr hP hA).mono ?_
  rintro e w' ⟨hf, h⟩
  rcases h with ⟨h1, rfl⟩ | ⟨h1, h2, rfl⟩ | ⟨h1, h2, s', n', k', rfl, hrow, hnew⟩
  · exact ⟨6, s, n, k, A, rfl, .inl ⟨h1, rfl, rfl⟩, hr.fr hf (fun _ _ e => e), hf, fun i e => .inl e⟩
  · exact ⟨7, s, n, k, A, rfl, .inr (.inl ⟨h1, h2, rfl, rfl⟩), hr.fr hf (fun _ _ e => e), hf, fun i e => .inl e⟩
  · exact ⟨0, s', n', k', _, rfl, .inr (.inr ⟨h1, h2, rfl, rfl⟩), hrow, hf, hnew⟩

theorem send_same {w : World} {F G : Nat → Prop} {W most : Nat} {R R' : Nat → List Mq} {A A' P Q : List Pq} {z z' : Int} (hA : AllIn W A) (hal : ∀ j, j < W * W → AlM w F G (R j) (msgsTo W A j)) (hc : ∀ j, j < W * W → (R j).length ≤ most)
    (hQ : AlP w F G Q P) (h : SendStep W most R Q z R') (k : RSendStep W most A P z' A') : z = z' ∧ AllIn W A' ∧ (∀ j, j < W * W → AlM w F G (R' j) (msgsTo W A' j)) ∧ A'.length ≤ A.length + P.length := by
  have hl : ∀ j, j < W * W → (R j).length = cntP W A j := fun j hj => by rw [(hal j hj).1, msgsTo_len]
  have hq : ∀ j, cntP W Q j = cntP W P j := fun j => by rw [← msgsTo_len, ← msgsTo_len, (hQ.msgs W j).1]
  have hin := hQ.in_ (W := W)
  rcases h with ⟨h1, rfl, rfl⟩ | ⟨h1, h2, rfl, rfl⟩ | ⟨h1, h2, rfl, rfl⟩ <;> rcases k with ⟨k1, rfl, rfl⟩ | ⟨k1, k2, rfl, rfl⟩ | ⟨k1, k2, rfl, rfl⟩
  · exact ⟨rfl, hA, hal, Nat.le_add_right _ _⟩
  · exact absurd (hin.2 k1) h1
  · exact absurd (hin.2 k1) h1
  · exact absurd (hin.1 h1) k1
  · exact ⟨rfl, hA, hal, Nat.le_add_right _ _⟩
  · exfalso
    obtain ⟨j, hj, h3⟩ := h2
    have := (send_agree hA k1 (fun j hj => by rw [← hl j hj]; exact hc j hj)).1 k2 j hj
    rw [hl j hj, hq] at h3
    omega
  · exact absurd (hin.1 h1) k1
  · exfalso
    obtain ⟨j, x, hx, h3⟩ := k2
    have := (send_agree hA k1 (fun j hj => by rw [← hl j hj]; exact hc j hj)).2 (fun j hj => by rw [← hl j hj, ← hq]; exact h2 j hj) j x hx
    omega
  · refine ⟨rfl, hA.append k1, fun j hj => ?_, by rw [List.length_append]; exact Nat.le_refl _⟩
    rw [msgsTo_append]
    exact (hal j hj).append (hQ.msgs W j)

/-- a message of the program's made the document's -/
theorem lback_al {w : World} {F G : Nat → Prop} {y y' : Mq} (h : Al w F G y y') :
    Calls Try.prog 12 #[msgV y] w fun e w' => ∃ x, e = .returned (msgV x) ∧ Al w' (fun i => i < w.heap.size) G x y' ∧ Fr (fun _ => False) w w' := by
  obtain ⟨p, k, t, s, q, u, a, n, c⟩ := y
  obtain ⟨h1, h2, h3, h4, h5, h6, V, h7, h8⟩ := h
  refine (lback_ok p k t s q u c h7).mono ?_
  rintro e w' ⟨a', c', rfl, hV, hf⟩
  exact ⟨⟨p, k, t, s, q, u, a', n, c'⟩, rfl, ⟨h1, h2, h3, h4, h5, h6, V, hV, h8.no hf⟩, hf⟩

end Go.Proofs.Ytakhmommcgfoaaa
