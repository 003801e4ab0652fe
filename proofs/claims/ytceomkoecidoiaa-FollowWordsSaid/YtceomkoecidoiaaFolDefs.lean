/-
  Cores as trees: plain laws. A node list that may be is a tree written out in preorder.
-/
import Derived.Test.YtceomkoecidoiaaHeap
namespace Go.Proofs.Ytceomkoecidoiaa
open Go.RowKit

/-- how many kids a kind has -/
def kidsOf (k : Int) : Nat := if k = 3 ∨ k = 4 then 2 else if k = 5 then 1 else 0

/-- how many nodes 'm' trees take -/
def szGo : Nat → List (Int × Int) → Option Nat
  | 0, _ => some 0
  | _ + 1, [] => none
  | m + 1, x :: r => (szGo (m + kidsOf x.1) r).map (· + 1)

/-- a tree of a core: each node keeps its place, whatever its kind -/
inductive Tr where
  | eps (p : Int)
  | leaf (p : Int)
  | cat (p : Int) (a b : Tr)
  | alt (p : Int) (a b : Tr)
  | loop (p : Int) (a : Tr)

/-- the nodes, in preorder -/
def Tr.flat : Tr → List (Int × Int)
  | .eps p => [(1, p)]
  | .leaf p => [(2, p)]
  | .cat p a b => (3, p) :: (a.flat ++ b.flat)
  | .alt p a b => (4, p) :: (a.flat ++ b.flat)
  | .loop p a => (5, p) :: a.flat

theorem Tr.pos (t : Tr) : 0 < t.flat.length := by cases t <;> simp [Tr.flat]

/-- the places of the leaves, in order -/
def Tr.leaves : Tr → List Int
  | .eps _ => []
  | .leaf p => [p]
  | .cat _ a b => a.leaves ++ b.leaves
  | .alt _ a b => a.leaves ++ b.leaves
  | .loop _ a => a.leaves

def Tr.null : Tr → Bool
  | .eps _ => true
  | .leaf _ => false
  | .cat _ a b => a.null && b.null
  | .alt _ a b => a.null || b.null
  | .loop _ a => a.null

def Tr.first : Tr → Nat → Bool
  | .eps _, _ => false
  | .leaf p, i => decide (p = i)
  | .cat _ a b, i => a.first i || (a.null && b.first i)
  | .alt _ a b, i => a.first i || b.first i
  | .loop _ a, i => a.first i

def Tr.last : Tr → Nat → Bool
  | .eps _, _ => false
  | .leaf p, i => decide (p = i)
  | .cat _ a b, i => b.last i || (b.null && a.last i)
  | .alt _ a b, i => a.last i || b.last i
  | .loop _ a, i => a.last i

def Tr.next : Tr → Nat → Nat → Bool
  | .eps _, _, _ => false
  | .leaf _, _, _ => false
  | .cat _ a b, i, j => a.next i j || b.next i j || (a.last i && b.first j)
  | .alt _ a b, i, j => a.next i j || b.next i j
  | .loop _ a, i, j => a.next i j || (a.last i && a.first j)

theorem szGo_flat (t : Tr) : ∀ (m : Nat) (r : List (Int × Int)), szGo (m + 1) (t.flat ++ r) = (szGo m r).map (· + t.flat.length) := by
  induction t with
  | eps p => intro m r; simp [Tr.flat, szGo, kidsOf]
  | leaf p => intro m r; simp [Tr.flat, szGo, kidsOf]
  | cat p a b iha ihb =>
    intro m r
    simp only [Tr.flat, List.cons_append, szGo, List.append_assoc, show kidsOf 3 = 2 from rfl]
    rw [show m + 2 = m + 1 + 1 from rfl, iha (m + 1), ihb m]
    cases szGo m r with
    | none => rfl
    | some x => simp; omega
  | alt p a b iha ihb =>
    intro m r
    simp only [Tr.flat, List.cons_append, szGo, List.append_assoc, show kidsOf 4 = 2 from rfl]
    rw [show m + 2 = m + 1 + 1 from rfl, iha (m + 1), ihb m]
    cases szGo m r with
    | none => rfl
    | some x => simp; omega
  | loop p a iha =>
    intro m r
    simp only [Tr.flat, List.cons_append, szGo, show kidsOf 5 = 1 from rfl]
    rw [iha m]
    cases szGo m r with
    | none => rfl
    | some x => simp; omega

/-- the size of the tree at the head -/
theorem sz_flat (t : Tr) (r : List (Int × Int)) : szGo 1 (t.flat ++ r) = some t.flat.length := by
  rw [show (1 : Nat) = 0 + 1 from rfl, szGo_flat]
  simp [szGo]

theorem szGo_le : ∀ (l : List (Int × Int)) (m n : Nat), szGo m l = some n → n ≤ l.length ∧ m ≤ n := by
  intro l
  induction l with
  | nil =>
    intro m n h
    cases m with
    | zero => simp [szGo] at h; omega
    | succ m => simp [szGo] at h
  | cons x l ih =>
    intro m n h
    cases m with
    | zero => simp [szGo] at h; simp; omega
    | succ m =>
      simp only [szGo, Option.map_eq_some_iff] at h
      obtain ⟨k, hk, rfl⟩ := h
      have := ih _ _ hk
      simp; omega

/-- what 'm' trees take is 'm' trees -/
theorem parse : ∀ (n : Nat) (l : List (Int × Int)) (m : Nat), szGo m l = some n → (∀ x ∈ l.take n, 1 ≤ x.1 ∧ x.1 ≤ 5) → ∃ ts : List Tr, ts.length = m ∧ l = ts.flatMap Tr.flat ++ l.drop n := by
  intro n
  induction n with
  | zero =>
    intro l m h _
    have := szGo_le l m 0 h
    obtain rfl : m = 0 := by omega
    exact ⟨[], rfl, by simp⟩
  | succ n ih =>
    intro l m h hk
    cases m with
    | zero => simp [szGo] at h
    | succ m =>
      cases l with
      | nil => simp [szGo] at h
      | cons x l =>
        simp only [szGo, Option.map_eq_some_iff] at h
        obtain ⟨n', hn', he⟩ := h
        obtain rfl : n' = n := by omega
        obtain ⟨ts, hl, hts⟩ := ih l (m + kidsOf x.1) hn' (fun y hy => hk y (by simp [hy]))
        have hx := hk x (by simp)
        obtain ⟨k, p⟩ := x
        simp only at hx hl hn'
        have h5 : k = 1 ∨ k = 2 ∨ k = 3 ∨ k = 4 ∨ k = 5 := by omega
        rcases h5 with rfl | rfl | rfl | rfl | rfl
        · refine ⟨.eps p :: ts, by simp [kidsOf] at hl; simp [hl], ?_⟩
          simp only [List.flatMap_cons, Tr.flat, List.cons_append, List.nil_append, List.drop_succ_cons]
          rw [← hts]
        · refine ⟨.leaf p :: ts, by simp [kidsOf] at hl; simp [hl], ?_⟩
          simp only [List.flatMap_cons, Tr.flat, List.cons_append, List.nil_append, List.drop_succ_cons]
          rw [← hts]
        · match ts, hl with
          | a :: b :: ts, hl =>
            refine ⟨.cat p a b :: ts, by simp [kidsOf] at hl; simp; omega, ?_⟩
            simp only [List.flatMap_cons, Tr.flat, List.cons_append, List.append_assoc, List.drop_succ_cons] at hts ⊢
            rw [← hts]
          | [a], hl => simp [kidsOf] at hl
          | [], hl => simp [kidsOf] at hl
        · match ts, hl with
          | a :: b :: ts, hl =>
            refine ⟨.alt p a b :: ts, by simp [kidsOf] at hl; simp; omega, ?_⟩
            simp only [List.flatMap_cons, Tr.flat, List.cons_append, List.append_assoc, List.drop_succ_cons] at hts ⊢
            rw [← hts]
          | [a], hl => simp [kidsOf] at hl
          | [], hl => simp [kidsOf] at hl
        · match ts, hl with
          | a :: ts, hl =>
            refine ⟨.loop p a :: ts, by simp [kidsOf] at hl; simp; omega, ?_⟩
            simp only [List.flatMap_cons, Tr.flat, List.cons_append, List.append_assoc, List.drop_succ_cons] at hts ⊢
            rw [← hts]
          | [], hl => simp [kidsOf] at hl

/-- a node list that is one tree -/
theorem parse_one {l : List (Int × Int)} (h : szGo 1 l = some l.length) (hk : ∀ x ∈ l, 1 ≤ x.1 ∧ x.1 ≤ 5) : ∃ t : Tr, l = t.flat := by
  obtain ⟨ts, hl, hts⟩ := parse l.length l 1 h (fun x hx => hk x (by simpa using hx))
  match ts, hl with
  | [t], _ => exact ⟨t, by simpa using hts⟩

end Go.Proofs.Ytceomkoecidoiaa
