/-
  Plain laws: the links' lists against the document's one list.
-/
import Derived.Test.YtakhmommcgfoaaaMeS4
namespace Go.Proofs.Ytakhmommcgfoaaa
open Go.RowKit

/-- alike messages, one by one -/
def AlM (w : World) (F G : Nat → Prop) (L M : List Mq) : Prop := L.length = M.length ∧ ∀ (i : Nat) (x y : Mq), L[i]? = some x → M[i]? = some y → Al w F G x y
theorem AlM.nil (w : World) (F G : Nat → Prop) : AlM w F G [] [] := ⟨rfl, fun i x y h => by simp at h⟩
theorem AlM.fr {w w' : World} {F G T : Nat → Prop} {L M : List Mq} (h : AlM w F G L M) (hf : Fr T w w') (h1 : ∀ i, T i → F i) (h2 : ∀ i, T i → G i) : AlM w' F G L M :=
  ⟨h.1, fun i x y hx hy => (h.2 i x y hx hy).fr hf h1 h2⟩
theorem AlM.of {w : World} {F G F' G' : Nat → Prop} {L M : List Mq} (h : AlM w F G L M) (h1 : ∀ i, F' i → i < w.heap.size → F i) (h2 : ∀ i, G' i → i < w.heap.size → G i) : AlM w F' G' L M :=
  ⟨h.1, fun i x y hx hy => (h.2 i x y hx hy).of h1 h2⟩
theorem AlM.append {w : World} {F G : Nat → Prop} {L M L' M' : List Mq} (h : AlM w F G L M) (k : AlM w F G L' M') : AlM w F G (L ++ L') (M ++ M') := by
  refine ⟨by simp [h.1, k.1], fun i x y hx hy => ?_⟩
  by_cases hi : i < L.length
  · rw [List.getElem?_append_left hi] at hx
    rw [List.getElem?_append_left (by have := h.1; omega)] at hy
    exact h.2 i x y hx hy
  · rw [List.getElem?_append_right (by omega)] at hx
    rw [List.getElem?_append_right (by have := h.1; omega), ← h.1] at hy
    exact k.2 _ x y hx hy
theorem AlM.cons {w : World} {F G : Nat → Prop} {x y : Mq} {L M : List Mq} (h : AlM w F G (x :: L) (y :: M)) : Al w F G x y ∧ AlM w F G L M :=
  ⟨h.2 0 x y rfl rfl, by have := h.1; simpa using this, fun i a b ha hb => h.2 (i + 1) a b (by simpa using ha) (by simpa using hb)⟩
theorem AlM.times {w : World} {F G : Nat → Prop} {L M : List Mq} (h : AlM w F G L M) : L.map Mq.t = M.map Mq.t := by
  apply List.ext_getElem?
  intro i
  simp only [List.getElem?_map]
  by_cases hi : i < L.length
  · obtain ⟨x, hx⟩ : ∃ x, L[i]? = some x := ⟨L[i], by simp [hi]⟩
    obtain ⟨y, hy⟩ : ∃ y, M[i]? = some y := ⟨M[i]'(by have := h.1; omega), List.getElem?_eq_getElem _⟩
    rw [hx, hy]
    have := (h.2 i x y hx hy).2.2.1
    simp [this]
  · rw [List.getElem?_eq_none (by omega), List.getElem?_eq_none (by have := h.1; omega)]

theorem lk_inj {W : Nat} {a b c d : Int} (h : thereI W a b) (k : thereI W c d) (e : lk W a b = lk W c d) : a = c ∧ b = d := by
  have e1 := lk_int h
  have e2 := lk_int k
  rw [e] at e1
  obtain ⟨h1, h2, h3, h4⟩ := h
  obtain ⟨k1, k2, k3, k4⟩ := k
  have hW : (W : Int) ≠ 0 := by omega
  have d1 : (b + a * W) / (W : Int) = a := by rw [Int.add_mul_ediv_right _ _ hW, Int.ediv_eq_zero_of_lt h3 h4, Int.zero_add]
  have d2 : (d + c * W) / (W : Int) = c := by rw [Int.add_mul_ediv_right _ _ hW, Int.ediv_eq_zero_of_lt k3 k4, Int.zero_add]
  have hs : b + a * W = d + c * W := by omega
  rw [hs, d2] at d1
  subst d1
  exact ⟨rfl, by omega⟩

theorem msgsTo_append (W : Nat) (A B : List Pq) (k : Nat) : msgsTo W (A ++ B) k = msgsTo W A k ++ msgsTo W B k := by simp [msgsTo, List.filter_append]
theorem cntP_append (W : Nat) (A B : List Pq) (k : Nat) : cntP W (A ++ B) k = cntP W A k + cntP W B k := by simp [cntP, List.filter_append]
def AllIn (W : Nat) (A : List Pq) : Prop := ∀ x ∈ A, thereI W x.f x.d
theorem AllIn.append {W : Nat} {A B : List Pq} (h : AllIn W A) (k : AllIn W B) : AllIn W (A ++ B) := fun x hx => (List.mem_append.1 hx).elim (h x) (k x)
theorem AllIn.take {W : Nat} {A : List Pq} (h : AllIn W A) (j : Nat) : AllIn W (A.take j) := fun x hx => h x (List.mem_of_mem_take hx)
theorem cntA_eq {W : Nat} {A : List Pq} (h : AllIn W A) {a b : Int} (ht : thereI W a b) : cntA a b A = cntP W A (lk W a b) := by
  unfold cntA cntP
  congr 1
  apply List.filter_congr
  intro x hx
  rw [Bool.eq_iff_iff]
  simp only [Bool.and_eq_true, beq_iff_eq]
  exact ⟨fun ⟨h1, h2⟩ => by rw [h1, h2], fun e => lk_inj (h x hx) ht e⟩
theorem cntA_zero {W : Nat} {A : List Pq} (h : AllIn W A) {a b : Int} (ht : ¬ thereI W a b) : cntA a b A = 0 := by
  unfold cntA
  rw [List.length_eq_zero_iff, List.filter_eq_nil_iff]
  intro x hx
  simp only [Bool.and_eq_true, beq_iff_eq]
  rintro ⟨rfl, rfl⟩
  exact ht (h x hx)

theorem send_agree {W cap : Nat} {A P : List Pq} (hA : AllIn W A) (hP : AllIn W P) (hM : ∀ k, k < W * W → cntP W A k ≤ cap) :
    (∀ (j : Nat) x, P[j]? = some x → cntA x.f x.d (A ++ P.take j) < cap) ↔ ∀ k, k < W * W → cntP W A k + cntP W P k ≤ cap := by
  constructor
  · intro h k hk
    have : ∀ j, j ≤ P.length → cntP W A k + cntP W (P.take j) k ≤ cap := by
      intro j
      induction j with
      | zero => intro _; simpa [cntP] using hM k hk
      | succ j ih =>
        intro hj
        have h1 := ih (by omega)
        obtain ⟨x, hx⟩ : ∃ x, P[j]? = some x := ⟨P[j], by simp [show j < P.length by omega]⟩
        rw [take_snoc P j x hx, cntP_snoc]
        by_cases e : lk W x.f x.d = k
        · have h2 := h j x hx
          rw [cntA_eq (hA.append (hP.take j)) (hP x (List.mem_of_getElem? hx)), cntP_append, e] at h2
          rw [if_pos e]; omega
        · rw [if_neg e]; omega
    have := this P.length (Nat.le_refl _)
    rwa [List.take_length] at this
  · intro h j x hx
    have hx' := hP x (List.mem_of_getElem? hx)
    rw [cntA_eq (hA.append (hP.take j)) hx', cntP_append]
    have h1 := h _ (lk_lt hx')
    have h2 := cntP_take W P (j + 1) (lk W x.f x.d)
    rw [take_snoc P j x hx, cntP_snoc, if_pos rfl] at h2
    omega

theorem split_at {α : Type} {A : List α} {i : Nat} {x : α} (hx : A[i]? = some x) : A = A.take i ++ x :: A.drop (i + 1) := by
  obtain ⟨hi, e⟩ := List.getElem?_eq_some_iff.1 hx
  rw [← e, ← List.drop_eq_getElem_cons hi, List.take_append_drop]

theorem recv_agree {W : Nat} {A : List Pq} (hA : AllIn W A) {a b : Int} (ht : thereI W a b) {i : Nat} {x : Pq} (hx : A[i]? = some x) (h1 : x.f = a) (h2 : x.d = b) (hn : ∀ y ∈ A.take i, ¬ (y.f = a ∧ y.d = b)) (k : Nat) :
    msgsTo W A k = if k = lk W a b then x.m :: msgsTo W (A.take i ++ A.drop (i + 1)) k else msgsTo W (A.take i ++ A.drop (i + 1)) k := by
  have e : msgsTo W A k = msgsTo W (A.take i) k ++ msgsTo W (x :: A.drop (i + 1)) k := by
    conv => lhs; rw [split_at hx]
    rw [msgsTo_append]
  rw [e, msgsTo_append]
  by_cases hk : k = lk W a b
  · subst hk
    have h0 : msgsTo W (A.take i) (lk W a b) = [] := by
      unfold msgsTo
      rw [List.map_eq_nil_iff, List.filter_eq_nil_iff]
      intro y hy
      simp only [beq_iff_eq]
      intro e
      exact hn y hy (lk_inj (hA.take i y hy) ht e)
    rw [if_pos rfl, h0]
    subst h1 h2
    simp [msgsTo]
  · have h3 : ¬ lk W x.f x.d = k := by rw [h1, h2]; exact fun e => hk e.symm
    rw [if_neg hk]
    simp [msgsTo, h3]
theorem recv_none_agree {W : Nat} {A : List Pq} (hA : AllIn W A) {a b : Int} (ht : thereI W a b) (hn : ∀ y ∈ A, ¬ (y.f = a ∧ y.d = b)) : msgsTo W A (lk W a b) = [] := by
  unfold msgsTo
  rw [List.map_eq_nil_iff, List.filter_eq_nil_iff]
  intro y hy
  simp only [beq_iff_eq]
  exact fun e => hn y hy (lk_inj (hA y hy) ht e)

/-- r is the least of those of P, if there is any -/
def Lmin (P : Int → Prop) (r : Int × Bool) : Prop := (r = (0, false) ∧ ∀ t, ¬ P t) ∨ (r.2 = true ∧ P r.1 ∧ ∀ t, P t → r.1 ≤ t)
theorem Lmin.unique {P : Int → Prop} {r s : Int × Bool} (h : Lmin P r) (k : Lmin P s) : r = s := by
  rcases h with ⟨rfl, h⟩ | ⟨h1, h2, h3⟩ <;> rcases k with ⟨rfl, k⟩ | ⟨k1, k2, k3⟩
  · rfl
  · exact absurd k2 (h _)
  · exact absurd h2 (k _)
  · have := h3 _ k2
    have := k3 _ h2
    exact Prod.ext (by omega) (by rw [h1, k1])
theorem Lmin.iff {P Q : Int → Prop} {r : Int × Bool} (h : Lmin P r) (e : ∀ t, P t ↔ Q t) : Lmin Q r := by
  have : P = Q := funext fun t => propext (e t)
  exact this ▸ h
theorem Lmin.step {P : Int → Prop} {r : Int × Bool} (h : Lmin P r) (u : Int) : Lmin (fun t => P t ∨ t = u) (lstep r u) := by
  right
  unfold lstep
  rcases h with ⟨rfl, h⟩ | ⟨h1, h2, h3⟩
  · rw [if_pos (.inl rfl)]
    exact ⟨rfl, .inr rfl, fun t ht => ht.elim (fun e => absurd e (h t)) (fun e => by simp only; omega)⟩
  · by_cases hu : u < r.1
    · rw [if_pos (.inr hu)]
      exact ⟨rfl, .inr rfl, fun t ht => ht.elim (fun e => by have := h3 t e; simp only; omega) (fun e => by simp only; omega)⟩
    · rw [if_neg (by rintro (e | e) <;> simp_all)]
      exact ⟨h1, .inl h2, fun t ht => ht.elim (h3 t) (fun e => by omega)⟩
theorem Lmin.fold {l : List Int} : ∀ {P : Int → Prop} {r : Int × Bool}, Lmin P r → Lmin (fun t => P t ∨ t ∈ l) (l.foldl lstep r) := by
  induction l with
  | nil => intro P r h; exact h.iff (fun t => by simp)
  | cons u l ih => intro P r h; exact (ih (h.step u)).iff (fun t => by simp [or_assoc])
theorem lst_min (R : Nat → List Mq) (n : Nat) : Lmin (fun t => ∃ k, k < n ∧ t ∈ (R k).map Mq.t) (lst R n) := by
  induction n with
  | zero => exact .inl ⟨rfl, fun t ⟨k, hk, _⟩ => by omega⟩
  | succ n ih =>
    refine (ih.fold (l := (R n).map Mq.t)).iff (fun t => ⟨?_, ?_⟩)
    · rintro (⟨k, hk, h⟩ | h)
      · exact ⟨k, by omega, h⟩
      · exact ⟨n, by omega, h⟩
    · rintro ⟨k, hk, h⟩
      by_cases e : k = n
      · subst e; exact .inr h
      · exact .inl ⟨k, by omega, h⟩
theorem lsA_min (A : List Pq) : Lmin (fun t => t ∈ A.map fun x => x.m.t) (lsA A) :=
  ((show Lmin (fun _ => False) (0, false) from .inl ⟨rfl, fun _ e => e⟩).fold (l := A.map fun x => x.m.t)).iff (fun t => by simp)
theorem least_agree {W : Nat} {A : List Pq} {R : Nat → List Mq} (hA : AllIn W A) (h : ∀ k, k < W * W → (R k).map Mq.t = (msgsTo W A k).map Mq.t) : lst R (W * W) = lsA A := by
  refine (lst_min R (W * W)).unique ((lsA_min A).iff (fun t => ⟨?_, ?_⟩))
  · intro ht
    obtain ⟨x, hx, rfl⟩ := List.mem_map.1 ht
    refine ⟨lk W x.f x.d, lk_lt (hA x hx), ?_⟩
    rw [h _ (lk_lt (hA x hx))]
    exact List.mem_map.2 ⟨x.m, by unfold msgsTo; exact List.mem_map.2 ⟨x, List.mem_filter.2 ⟨hx, by simp⟩, rfl⟩, rfl⟩
  · rintro ⟨k, hk, ht⟩
    rw [h k hk] at ht
    obtain ⟨m, hm, rfl⟩ := List.mem_map.1 ht
    obtain ⟨x, hx, rfl⟩ := List.mem_map.1 hm
    exact List.mem_map.2 ⟨x, (List.mem_filter.1 hx).1, rfl⟩

/-- what is ready up to k is a part ahead of what is ready up to more -/
theorem rdy_more (W : Nat) (R : Nat → List Mq) (k : Nat) : ∀ n, k ≤ n → ∃ l, rdy W R n = rdy W R k ++ l := by
  intro n h
  induction n with
  | zero => obtain rfl : k = 0 := by omega
            exact ⟨[], by simp⟩
  | succ n ih =>
    by_cases e : k = n + 1
    · subst e; exact ⟨[], by simp⟩
    · obtain ⟨l, hl⟩ := ih (by omega)
      have es : rdy W R (n + 1) = if (R n).length = 0 then rdy W R n else rdy W R n ++ [(((n / W : Nat) : Int), ((n % W : Nat) : Int))] := rfl
      rw [es, hl]
      by_cases hz : (R n).length = 0
      · rw [if_pos hz]; exact ⟨l, rfl⟩
      · rw [if_neg hz]; exact ⟨l ++ [(((n / W : Nat) : Int), ((n % W : Nat) : Int))], by rw [List.append_assoc]⟩
theorem rdy_at (W : Nat) (R : Nat → List Mq) {k n : Nat} (h : k < n) (hr : ¬ (R k).length = 0) : (rdy W R n)[(rdy W R k).length]? = some (((k / W : Nat) : Int), ((k % W : Nat) : Int)) := by
  obtain ⟨l, hl⟩ := rdy_more W R (k + 1) n (by omega)
  have e : rdy W R (k + 1) = rdy W R k ++ [(((k / W : Nat) : Int), ((k % W : Nat) : Int))] := by rw [rdy, if_neg hr]
  rw [hl, e, List.append_assoc, List.getElem?_append_right (Nat.le_refl _), Nat.sub_self]
  rfl
theorem divmod {W a b : Nat} (hb : b < W) : (a * W + b) / W = a ∧ (a * W + b) % W = b := by
  have hW : 0 < W := by omega
  refine ⟨?_, ?_⟩
  · rw [Nat.mul_comm, Nat.mul_add_div hW, Nat.div_eq_of_lt hb, Nat.add_zero]
  · rw [Nat.mul_comm, Nat.mul_add_mod, Nat.mod_eq_of_lt hb]

end Go.Proofs.Ytakhmommcgfoaaa
