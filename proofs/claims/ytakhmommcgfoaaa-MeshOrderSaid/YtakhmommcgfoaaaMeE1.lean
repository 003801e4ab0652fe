/-
  Plain laws for MeshOrder: what is ready, the sum of all links, what stays alike.
-/
import Derived.Test.YtakhmommcgfoaaaMeD3
namespace Go.Proofs.Ytakhmommcgfoaaa
open Go.RowKit

theorem Al.self {w : World} {F G : Nat → Prop} {x y : Mq} (h : Al w F G x y) : Al w F F x x := by
  obtain ⟨_, _, _, _, _, _, V, h1, _⟩ := h
  exact ⟨rfl, rfl, rfl, rfl, rfl, rfl, V, h1, h1⟩
theorem AlP.self {w : World} {F G : Nat → Prop} {Q P : List Pq} (h : AlP w F G Q P) : AlP w F F Q Q := by
  refine ⟨rfl, fun i x y hx hy => ?_⟩
  obtain rfl : x = y := by rw [hx] at hy; simpa using hy
  have hl := (List.getElem?_eq_some_iff.1 hx).1
  obtain ⟨z, hz⟩ : ∃ z, P[i]? = some z := ⟨P[i]'(by have := h.1; omega), List.getElem?_eq_getElem _⟩
  exact ⟨rfl, rfl, (h.2 i x z hx hz).2.2.self⟩
theorem AlP.go {w1 w2 : World} {S T G : Nat → Prop} {Q P : List Pq} (h : AlP w1 S S Q P) (hf : Fr T w1 w2) (hT : ∀ i, T i → i < w1.heap.size → S i) (hG : ∀ i, G i → i < w1.heap.size → S i) : AlP w2 G G Q P := by
  have h1 : AlP w1 (fun i => S i ∨ T i ∨ G i) (fun i => S i ∨ T i ∨ G i) Q P := h.of (fun i hi hlt => ?_) (fun i hi hlt => ?_)
  · exact (h1.fr hf (fun i hi => .inr (.inl hi)) (fun i hi => .inr (.inl hi))).of (fun i hi _ => .inr (.inr hi)) (fun i hi _ => .inr (.inr hi))
  all_goals
    rcases hi with hi | hi | hi
    · exact hi
    · exact hT i hi hlt
    · exact hG i hi hlt
theorem AlP.append {w : World} {F G : Nat → Prop} {Q P Q' P' : List Pq} (h : AlP w F G Q P) (k : AlP w F G Q' P') : AlP w F G (Q ++ Q') (P ++ P') := by
  refine ⟨by simp [h.1, k.1], fun i x y hx hy => ?_⟩
  by_cases hi : i < Q.length
  · rw [List.getElem?_append_left hi] at hx
    rw [List.getElem?_append_left (by have := h.1; omega)] at hy
    exact h.2 i x y hx hy
  · rw [List.getElem?_append_right (by omega)] at hx
    rw [List.getElem?_append_right (by have := h.1; omega), ← h.1] at hy
    exact k.2 _ x y hx hy
/-- of alike lists the same part -/
theorem AlP.part {w : World} {F : Nat → Prop} {Q P : List Pq} (h : AlP w F F Q Q) (hs : ∀ x ∈ P, x ∈ Q) : AlP w F F P P := by
  refine ⟨rfl, fun i x y hx hy => ?_⟩
  obtain rfl : x = y := by rw [hx] at hy; simpa using hy
  obtain ⟨j, hj⟩ := List.mem_iff_getElem?.1 (hs x (List.mem_of_getElem? hx))
  exact ⟨rfl, rfl, (h.2 j x x hj hj).2.2⟩
theorem owns_base {w : World} {B B' : Nat} {e : TypeId} {size : Nat} {v : Value} {n : Nat} {xs : List Value} (h : w.ownsRow B e size v n xs) (hB : B' ≤ B) : w.ownsRow B' e size v n xs := by
  refine ⟨h.1, ?_⟩
  rcases h.2 with hn | ⟨g, cap, cur, rfl, hb, rest⟩
  · exact .inl hn
  · exact .inr ⟨g, cap, cur, rfl, Nat.le_trans hB hb, rest⟩

theorem rdy_mem (W : Nat) (R : Nat → List Mq) {a b : Int} : ∀ (n j : Nat), (rdy W R n)[j]? = some (a, b) → ∃ k, k < n ∧ a = ((k / W : Nat) : Int) ∧ b = ((k % W : Nat) : Int) ∧ ¬ (R k).length = 0 := by
  intro n
  induction n with
  | zero => intro j h; simp [rdy] at h
  | succ n ih =>
    intro j h
    have es : rdy W R (n + 1) = if (R n).length = 0 then rdy W R n else rdy W R n ++ [(((n / W : Nat) : Int), ((n % W : Nat) : Int))] := rfl
    rw [es] at h
    by_cases hz : (R n).length = 0
    · rw [if_pos hz] at h
      obtain ⟨k, hk, r⟩ := ih j h
      exact ⟨k, by omega, r⟩
    · rw [if_neg hz] at h
      by_cases hj : j < (rdy W R n).length
      · rw [List.getElem?_append_left hj] at h
        obtain ⟨k, hk, r⟩ := ih j h
        exact ⟨k, by omega, r⟩
      · rw [List.getElem?_append_right (by omega)] at h
        have hm := List.mem_of_getElem? h
        rw [List.mem_singleton, Prod.mk.injEq] at hm
        exact ⟨n, by omega, hm.1, hm.2, hz⟩
theorem lk_of {W k : Nat} (h : k < W * W) : thereI W ((k / W : Nat) : Int) ((k % W : Nat) : Int) ∧ lk W ((k / W : Nat) : Int) ((k % W : Nat) : Int) = k := by
  have hW : 0 < W := by
    rcases Nat.eq_zero_or_pos W with h0 | h0
    · subst h0; simp at h
    · exact h0
  have h1 : k / W < W := Nat.div_lt_of_lt_mul h
  have h2 : k % W < W := Nat.mod_lt _ hW
  have ht : thereI W ((k / W : Nat) : Int) ((k % W : Nat) : Int) := ⟨Int.natCast_nonneg _, by omega, Int.natCast_nonneg _, by omega⟩
  refine ⟨ht, ?_⟩
  have := lk_int ht
  have h3 : (((k / W : Nat) : Int)) * (W : Int) + ((k % W : Nat) : Int) = (k : Int) := by
    rw [← Int.natCast_mul, ← Int.natCast_add, Nat.div_add_mod']
  omega
theorem rdy_nil (W : Nat) (R : Nat → List Mq) : ∀ n, (rdy W R n).length = 0 → ∀ k, k < n → R k = [] := by
  intro n h k hk
  by_cases hz : (R k).length = 0
  · exact List.eq_nil_of_length_eq_zero hz
  · have := (List.getElem?_eq_some_iff.1 (rdy_at W R hk hz)).1
    omega
theorem all_nil {W : Nat} {A : List Pq} (hA : AllIn W A) (h : ∀ k, k < W * W → msgsTo W A k = []) : A = [] := by
  cases A with
  | nil => rfl
  | cons x A =>
    exfalso
    have := h _ (lk_lt (hA x (List.mem_cons_self ..)))
    simp [msgsTo] at this
theorem rdy_none (W n : Nat) : rdy W (fun _ => []) n = [] := by
  induction n with
  | zero => rfl
  | succ n ih => rw [rdy, if_pos List.length_nil, ih]
theorem lst_none (n : Nat) : lst (fun _ => []) n = (0, false) := by
  induction n with
  | zero => rfl
  | succ n ih => rw [lst, ih]; rfl

/-- how many messages the links below k have -/
def sumR (R : Nat → List Mq) : Nat → Nat
  | 0 => 0
  | k + 1 => sumR R k + (R k).length
def sumL (W : Nat) (R : Nat → List Mq) (l : List (Int × Int)) : Nat := (l.map fun t => (R (lk W t.1 t.2)).length).sum
theorem sumL_snoc (W : Nat) (R : Nat → List Mq) (l : List (Int × Int)) (t : Int × Int) : sumL W R (l ++ [t]) = sumL W R l + (R (lk W t.1 t.2)).length := by simp [sumL]
theorem sumL_rdy (W : Nat) (R : Nat → List Mq) : ∀ n, n ≤ W * W → sumL W R (rdy W R n) = sumR R n := by
  intro n
  induction n with
  | zero => intro _; rfl
  | succ n ih =>
    intro hn
    have es : rdy W R (n + 1) = if (R n).length = 0 then rdy W R n else rdy W R n ++ [(((n / W : Nat) : Int), ((n % W : Nat) : Int))] := rfl
    rw [es, sumR]
    by_cases hz : (R n).length = 0
    · rw [if_pos hz, ih (by omega), hz]; rfl
    · rw [if_neg hz, sumL_snoc, ih (by omega), (lk_of (show n < W * W by omega)).2]
theorem sumL_take (W : Nat) (R : Nat → List Mq) (l : List (Int × Int)) : ∀ j, sumL W R (l.take j) ≤ sumL W R l := by
  intro j
  have ha : ∀ a b : List (Int × Int), sumL W R (a ++ b) = sumL W R a + sumL W R b := fun a b => by simp [sumL]
  have h := ha (l.take j) (l.drop j)
  rw [List.take_append_drop] at h
  omega
theorem sumR_cons (W : Nat) (x : Pq) (A : List Pq) : ∀ n, sumR (msgsTo W (x :: A)) n = sumR (msgsTo W A) n + if lk W x.f x.d < n then 1 else 0 := by
  intro n
  induction n with
  | zero => rfl
  | succ n ih =>
    rw [sumR, sumR, ih]
    have e : (msgsTo W (x :: A) n).length = (msgsTo W A n).length + if lk W x.f x.d = n then 1 else 0 := by
      unfold msgsTo
      by_cases h : lk W x.f x.d = n
      · simp [h]
      · simp [h]
    rw [e]
    by_cases h1 : lk W x.f x.d < n
    · rw [if_pos h1, if_neg (by omega), if_pos (by omega)]; omega
    · by_cases h2 : lk W x.f x.d = n
      · rw [if_neg h1, if_pos h2, if_pos (by omega)]; omega
      · rw [if_neg h1, if_neg h2, if_neg (by omega)]; omega
theorem sumR_all {W : Nat} {A : List Pq} (hA : AllIn W A) : sumR (msgsTo W A) (W * W) = A.length := by
  induction A with
  | nil =>
    have : ∀ n, sumR (msgsTo W []) n = 0 := by
      intro n
      induction n with
      | zero => rfl
      | succ n ih => rw [sumR, ih]; rfl
    exact this _
  | cons x A ih =>
    rw [sumR_cons, ih (fun y hy => hA y (List.mem_cons_of_mem _ hy)), if_pos (lk_lt (hA x (List.mem_cons_self ..)))]
    rfl

/-- one is taken: the links are the list's, without it -/
theorem recv_own {W : Nat} {A : List Pq} (hA : AllIn W A) {a b : Int} (ht : thereI W a b) {i : Nat} {x : Pq} (hx : A[i]? = some x) (h1 : x.f = a) (h2 : x.d = b) (hn : ∀ y ∈ A.take i, ¬ (y.f = a ∧ y.d = b)) {y : Mq} {L : List Mq} (hr : msgsTo W A (lk W a b) = y :: L) :
    y = x.m ∧ upd (msgsTo W A) (lk W a b) L = msgsTo W (A.take i ++ A.drop (i + 1)) := by
  have e := recv_agree hA ht hx h1 h2 hn
  have e1 := e (lk W a b)
  rw [if_pos rfl, hr] at e1
  injection e1 with e2 e3
  refine ⟨e2, ?_⟩
  funext k
  by_cases hk : k = lk W a b
  · subst hk; rw [upd_same, e3]
  · rw [upd_ne _ _ hk, e k, if_neg hk]

end Go.Proofs.Ytakhmommcgfoaaa
