/-
  Sums and differences, as they are told; values and empty results in blocks.
-/
import Derived.Test.YtmlcpedbpjghhaaCmpBox
import Derived.Test.YtmlcpedbpjghhaaCmpW14
namespace Go.Proofs.Ytmlcpedbpjghhaa
open Go.RowKit

theorem beq_yes {a : Int} (h : a = 0) : (a == 0) = true := by simpa using h
theorem beq_no {a : Int} (h : a ≠ 0) : (a == 0) = false := by simpa using h
theorem check_num_bounds {n : Int} {u : Nat} {s : ByteArray} (h : checkN 1 n u s = 0) : -4611686018427387904 ≤ n ∧ n ≤ 4611686018427387904 := by
  unfold checkN at h
  rw [if_neg (by omega), if_pos rfl] at h
  by_cases hn : n < -4611686018427387904 ∨ 4611686018427387904 < n
  · rw [if_pos hn] at h; omega
  · omega
/-- two values have a sum -/
def sumB (k n : Int) (u : Nat) (s : ByteArray) (k' n' : Int) (u' : Nat) (s' : ByteArray) : Bool := (checkN k n u s == 0) && (checkN k' n' u' s' == 0) && numB k && numB k'
theorem sumB_yes {k n : Int} {u : Nat} {s : ByteArray} {k' n' : Int} {u' : Nat} {s' : ByteArray} (h : sumB k n u s k' n' u' s' = true) : checkN k n u s = 0 ∧ checkN k' n' u' s' = 0 ∧ numB k = true ∧ numB k' = true := by
  unfold sumB at h
  simp only [Bool.and_eq_true, beq_iff_eq] at h
  exact ⟨h.1.1.1, h.1.1.2, h.1.2, h.2⟩
theorem num_cases {k : Int} (h : numB k = true) : k = 1 ∨ k = 3 := by
  unfold numB at h
  simpa using h
/-- an empty value lies behind -/
def Four (w : World) (p : Nat) (k n : Int) (u : Nat) (s : ByteArray) (k' n' : Int) (u' : Nat) (s' : ByteArray) : Prop := Three w p k n u s k' n' u' s' ∧ Box w (p + 1 + 1 + 1) 0 0 0 ⟨#[]⟩
theorem Four.later {w W w1 : World} {p B : Nat} {k n : Int} {u : Nat} {s : ByteArray} {k' n' : Int} {u' : Nat} {s' : ByteArray} (h : Four w p k n u s k' n' u' s') (hb : Below B W w1) (hW : W.heap = w.heap) (hp : p + 4 ≤ B) : Four w1 p k n u s k' n' u' s' :=
  ⟨h.1.later hb hW (by omega), h.2.move ((hb.block _ (by omega)).trans (by rw [hW]))⟩
theorem Four.rest {w : World} {p : Nat} {k n : Int} {u : Nat} {s : ByteArray} {k' n' : Int} {u' : Nat} {s' : ByteArray} (h : Four w p k n u s k' n' u' s') : w.cell? ⟨p + 1 + 1 + 1, 0, none⟩ = some (.int .u8 0) ∧ w.cell? ⟨p + 1 + 1 + 1, 1, none⟩ = some (.int .i64 0) ∧ w.cell? ⟨p + 1 + 1 + 1, 2, none⟩ = some (.int .u64 0) ∧ w.cell? ⟨p + 1 + 1 + 1, 3, none⟩ = some (.string ⟨#[]⟩) :=
  ⟨h.2.1, h.2.2.1, h.2.2.2.1, h.2.2.2.2⟩
theorem three_of (w : World) (T T' T'' : TypeId) (k n : Int) (u : Nat) (s : ByteArray) (k' n' : Int) (u' : Nat) (s' : ByteArray) {w3 : World}
    (hw : w3 = (((w.alloc (.cells #[.int .u8 k, .int .i64 n, .int .u64 u, .string s] T)).alloc (.cells #[.int .u8 k', .int .i64 n', .int .u64 u', .string s'] T')).alloc (.cells #[.int .u8 0, .int .i64 0, .int .u64 0, .string ⟨#[]⟩] T''))) :
    Three w3 w.heap.size k n u s k' n' u' s' ∧ w3.heap.size = w.heap.size + 3 ∧ Below w.heap.size w w3 :=
  have h := box_three w T T' T'' k n u s k' n' u' s' hw
  ⟨⟨h.1, h.2.1, h.2.2.1⟩, h.2.2.2⟩
theorem four_of (w : World) (T T' T'' T4 : TypeId) (k n : Int) (u : Nat) (s : ByteArray) (k' n' : Int) (u' : Nat) (s' : ByteArray) {w4 : World}
    (hw : w4 = ((((w.alloc (.cells #[.int .u8 k, .int .i64 n, .int .u64 u, .string s] T)).alloc (.cells #[.int .u8 k', .int .i64 n', .int .u64 u', .string s'] T')).alloc (.cells #[.int .u8 0, .int .i64 0, .int .u64 0, .string ⟨#[]⟩] T'')).alloc (.cells #[.int .u8 0, .int .i64 0, .int .u64 0, .string ⟨#[]⟩] T4))) :
    Four w4 w.heap.size k n u s k' n' u' s' ∧ w4.heap.size = w.heap.size + 4 ∧ Below w.heap.size w w4 := by
  subst hw
  obtain ⟨h1, h2, h3⟩ := three_of w T T' T'' k n u s k' n' u' s' rfl
  refine ⟨⟨h1.later (one_box _ _) rfl (by simp), ?_⟩, by simp, h3.trans ((one_box _ _).mono (by simp; omega))⟩
  have := box_new (((w.alloc (.cells #[.int .u8 k, .int .i64 n, .int .u64 u, .string s] T)).alloc (.cells #[.int .u8 k', .int .i64 n', .int .u64 u', .string s'] T')).alloc (.cells #[.int .u8 0, .int .i64 0, .int .u64 0, .string ⟨#[]⟩] T'')) T4 0 0 0 ⟨#[]⟩
  simpa using this
theorem places (a : Nat) : a < a + 1 + 1 ∧ a < a + 2 ∧ a < a + 1 + 1 + 1 ∧ a < a + 3 ∧ a + 1 < a + 1 + 1 + 1 ∧ a + 1 < a + 3 ∧ a + 1 + 1 < a + 3 := by omega
/-- a sum and a difference, as they are told -/
def noneV : Value := .tuple #[V 0 0 0 ⟨#[]⟩, .bool false]
def realV (a b : Nat) : Value := .tuple #[V 3 0 (cleanN (sumN a b)) ⟨#[]⟩, .bool true]
def plusV (k n : Int) (u : Nat) (s : ByteArray) (k' n' : Int) (u' : Nat) (s' : ByteArray) : Value :=
  if sumB k n u s k' n' u' s' = true then (if k = 1 ∧ k' = 1 then wsumV n n' else realV (dblV k n u) (dblV k' n' u')) else noneV
def minusV (k n : Int) (u : Nat) (s : ByteArray) (k' n' : Int) (u' : Nat) (s' : ByteArray) : Value :=
  if sumB k n u s k' n' u' s' = true then (if k = 1 ∧ k' = 1 then wsumV n (-n') else realV (dblV k n u) (negN (dblV k' n' u'))) else noneV
theorem negN_lt' {u : Nat} (hu : u < 18446744073709551616) : negN u < 18446744073709551616 := by
  rw [← neg_turn hu]; exact cleanN_lt (turnN_lt hu)
end Go.Proofs.Ytmlcpedbpjghhaa
