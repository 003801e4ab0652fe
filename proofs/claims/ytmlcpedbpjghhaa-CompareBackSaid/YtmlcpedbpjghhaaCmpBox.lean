/-
  Holds: what is told; values and empty results in blocks.
-/
import Derived.Test.YtmlcpedbpjghhaaCmpW10
namespace Go.Proofs.Ytmlcpedbpjghhaa
open Go.RowKit

def numB (k : Int) : Bool := (k == 1 || k == 3)
theorem numeric_v (k : Int) (w : World) : Calls Try.prog 26 #[.int .u8 k] w fun e w' => e = .returned (.bool (numB k)) ∧ w = w' := numeric_ok k w
theorem rnumber_v (k : Int) (w : World) : Calls Try.prog 30 #[.int .u8 k] w fun e w' => e = .returned (.bool (numB k)) ∧ w = w' := rnumber_ok k w
/-- whether a test of two values holds -/
def holdsB (op k n : Int) (u : Nat) (s : ByteArray) (k' n' : Int) (u' : Nat) (s' : ByteArray) : Bool :=
  if checkN k n u s ≠ 0 ∨ checkN k' n' u' s' ≠ 0 then false
  else if both k k' = false then (op == 2)
  else if k = 2 ∧ op ≠ 1 ∧ op ≠ 2 then false
  else if ordB k n u k' n' u' = false then (op == 2)
  else saysB op (ordI k n u s k' n' u' s')
theorem check_kind {k n : Int} {u : Nat} {s : ByteArray} (h : checkN k n u s = 0) : 1 ≤ k ∧ k ≤ 4 := by
  unfold checkN at h
  by_cases hk : k < 1 ∨ 4 < k
  · rw [if_pos hk] at h; omega
  · omega
theorem bne_yes {a : Int} (h : a ≠ 0) : (a != 0) = true := by simpa using h
theorem bne_no {a : Int} (h : a = 0) : (a != 0) = false := by simpa using h
theorem both_cases {k k' : Int} (hb : both k k' = true) : k = k' ∨ (k = 1 ∧ k' = 3) ∨ (k = 3 ∧ k' = 1) := by
  unfold both at hb
  simp at hb
  omega
theorem not_both {k k' : Int} (hb : both k k' = false) : (k == k') = false ∧ (k != k') = true ∧ (numB k && numB k') = false := by
  unfold both at hb
  simp only [Bool.or_eq_false_iff] at hb
  refine ⟨hb.1, ?_, by unfold numB; exact hb.2⟩
  have := hb.1
  simpa using this
theorem num_vals : numB 1 = true ∧ numB 3 = true := ⟨rfl, rfl⟩

/-- a value lies in a block -/
def Box (w : World) (p : Nat) (k n : Int) (u : Nat) (s : ByteArray) : Prop :=
  w.cell? ⟨p, 0, none⟩ = some (.int .u8 k) ∧ w.cell? ⟨p, 1, none⟩ = some (.int .i64 n) ∧ w.cell? ⟨p, 2, none⟩ = some (.int .u64 u) ∧ w.cell? ⟨p, 3, none⟩ = some (.string s)
theorem Box.later {w w1 : World} {p B : Nat} {k n : Int} {u : Nat} {s : ByteArray} (h : Box w p k n u s) (hb : Below B w w1) (hp : p < B) : Box w1 p k n u s :=
  ⟨(hb.cell (p := ⟨p, 0, none⟩) hp).trans h.1, (hb.cell (p := ⟨p, 1, none⟩) hp).trans h.2.1, (hb.cell (p := ⟨p, 2, none⟩) hp).trans h.2.2.1, (hb.cell (p := ⟨p, 3, none⟩) hp).trans h.2.2.2⟩
theorem box_new (w : World) (T : TypeId) (k n : Int) (u : Nat) (s : ByteArray) : Box (w.alloc (.cells #[.int .u8 k, .int .i64 n, .int .u64 u, .string s] T)) w.heap.size k n u s := by
  refine ⟨?_, ?_, ?_, ?_⟩ <;> go_simp
theorem box_two (w : World) (T T' : TypeId) (k n : Int) (u : Nat) (s : ByteArray) (k' n' : Int) (u' : Nat) (s' : ByteArray) :
    Box ((w.alloc (.cells #[.int .u8 k, .int .i64 n, .int .u64 u, .string s] T)).alloc (.cells #[.int .u8 k', .int .i64 n', .int .u64 u', .string s'] T')) w.heap.size k n u s ∧
    Box ((w.alloc (.cells #[.int .u8 k, .int .i64 n, .int .u64 u, .string s] T)).alloc (.cells #[.int .u8 k', .int .i64 n', .int .u64 u', .string s'] T')) (w.heap.size + 1) k' n' u' s' :=
  ⟨(box_new w T k n u s).later (one_box _ _) (by simp), by simpa using box_new (w.alloc (.cells #[.int .u8 k, .int .i64 n, .int .u64 u, .string s] T)) T' k' n' u' s'⟩
theorem three_boxes (w : World) (o p q : Obj) : Below w.heap.size w (((w.alloc o).alloc p).alloc q) := (((Below.refl _ _).alloc (Nat.le_refl _) _).alloc (by simp) _).alloc (by simp; omega) _
/-- an empty result lies in a block -/
def Hole (w : World) (p : Nat) : Prop :=
  Box w p 0 0 0 ⟨#[]⟩ ∧ w.frozen? ⟨p, 0, none⟩ = false ∧ w.frozen? ⟨p, 1, none⟩ = false ∧ w.frozen? ⟨p, 2, none⟩ = false ∧ w.frozen? ⟨p, 3, none⟩ = false
theorem Hole.later {w w1 : World} {p B : Nat} (h : Hole w p) (hb : Below B w w1) (hp : p < B) : Hole w1 p :=
  ⟨h.1.later hb hp, (hb.frozen (p := ⟨p, 0, none⟩) hp).trans h.2.1, (hb.frozen (p := ⟨p, 1, none⟩) hp).trans h.2.2.1, (hb.frozen (p := ⟨p, 2, none⟩) hp).trans h.2.2.2.1, (hb.frozen (p := ⟨p, 3, none⟩) hp).trans h.2.2.2.2⟩
theorem hole_new (w : World) (T : TypeId) : Hole (w.alloc (.cells #[.int .u8 0, .int .i64 0, .int .u64 0, .string ⟨#[]⟩] T)) w.heap.size := by
  refine ⟨box_new w T 0 0 0 ⟨#[]⟩, ?_, ?_, ?_, ?_⟩ <;> go_simp
theorem box_three (w : World) (T T' T'' : TypeId) (k n : Int) (u : Nat) (s : ByteArray) (k' n' : Int) (u' : Nat) (s' : ByteArray) {w3 : World}
    (hw : w3 = (((w.alloc (.cells #[.int .u8 k, .int .i64 n, .int .u64 u, .string s] T)).alloc (.cells #[.int .u8 k', .int .i64 n', .int .u64 u', .string s'] T')).alloc (.cells #[.int .u8 0, .int .i64 0, .int .u64 0, .string ⟨#[]⟩] T''))) :
    Box w3 w.heap.size k n u s ∧ Box w3 (w.heap.size + 1) k' n' u' s' ∧ Hole w3 (w.heap.size + 1 + 1) ∧ w3.heap.size = w.heap.size + 3 ∧ Below w.heap.size w w3 := by
  subst hw
  obtain ⟨h1, h2⟩ := box_two w T T' k n u s k' n' u' s'
  exact ⟨h1.later (one_box _ _) (by simp; omega), h2.later (one_box _ _) (by simp), by simpa using hole_new ((w.alloc (.cells #[.int .u8 k, .int .i64 n, .int .u64 u, .string s] T)).alloc (.cells #[.int .u8 k', .int .i64 n', .int .u64 u', .string s'] T')) T'', by simp, three_boxes _ _ _ _⟩
/-- two values and an empty result lie in blocks behind one another -/
def Three (w : World) (p : Nat) (k n : Int) (u : Nat) (s : ByteArray) (k' n' : Int) (u' : Nat) (s' : ByteArray) : Prop := Box w p k n u s ∧ Box w (p + 1) k' n' u' s' ∧ Hole w (p + 1 + 1)
theorem Box.move {w w1 : World} {p : Nat} {k n : Int} {u : Nat} {s : ByteArray} (h : Box w p k n u s) (e : w1.heap[p]? = w.heap[p]?) : Box w1 p k n u s :=
  ⟨(World.cell?_of_block (a := ⟨p, 0, none⟩) e).trans h.1, (World.cell?_of_block (a := ⟨p, 1, none⟩) e).trans h.2.1, (World.cell?_of_block (a := ⟨p, 2, none⟩) e).trans h.2.2.1, (World.cell?_of_block (a := ⟨p, 3, none⟩) e).trans h.2.2.2⟩
theorem Hole.move {w w1 : World} {p : Nat} (h : Hole w p) (e : w1.heap[p]? = w.heap[p]?) : Hole w1 p :=
  ⟨h.1.move e, (World.frozen?_of_block (a := ⟨p, 0, none⟩) e).trans h.2.1, (World.frozen?_of_block (a := ⟨p, 1, none⟩) e).trans h.2.2.1, (World.frozen?_of_block (a := ⟨p, 2, none⟩) e).trans h.2.2.2.1, (World.frozen?_of_block (a := ⟨p, 3, none⟩) e).trans h.2.2.2.2⟩
theorem Three.later {w W w1 : World} {p B : Nat} {k n : Int} {u : Nat} {s : ByteArray} {k' n' : Int} {u' : Nat} {s' : ByteArray} (h : Three w p k n u s k' n' u' s') (hb : Below B W w1) (hW : W.heap = w.heap) (hp : p + 3 ≤ B) : Three w1 p k n u s k' n' u' s' := by
  have e : ∀ i, i < B → w1.heap[i]? = w.heap[i]? := fun i hi => (hb.block i hi).trans (by rw [hW])
  exact ⟨h.1.move (e _ (by omega)), h.2.1.move (e _ (by omega)), h.2.2.move (e _ (by omega))⟩
theorem Three.cells {w : World} {p : Nat} {k n : Int} {u : Nat} {s : ByteArray} {k' n' : Int} {u' : Nat} {s' : ByteArray} (h : Three w p k n u s k' n' u' s') : w.cell? ⟨p, 0, none⟩ = some (.int .u8 k) ∧ w.cell? ⟨p, 1, none⟩ = some (.int .i64 n) ∧ w.cell? ⟨p, 2, none⟩ = some (.int .u64 u) ∧ w.cell? ⟨p, 3, none⟩ = some (.string s) ∧ w.cell? ⟨p + 1, 0, none⟩ = some (.int .u8 k') ∧ w.cell? ⟨p + 1, 1, none⟩ = some (.int .i64 n') ∧ w.cell? ⟨p + 1, 2, none⟩ = some (.int .u64 u') ∧ w.cell? ⟨p + 1, 3, none⟩ = some (.string s') ∧ w.cell? ⟨p + 1 + 1, 0, none⟩ = some (.int .u8 0) ∧ w.cell? ⟨p + 1 + 1, 1, none⟩ = some (.int .i64 0) ∧ w.cell? ⟨p + 1 + 1, 2, none⟩ = some (.int .u64 0) ∧ w.cell? ⟨p + 1 + 1, 3, none⟩ = some (.string ⟨#[]⟩) ∧ w.frozen? ⟨p + 1 + 1, 0, none⟩ = false ∧ w.frozen? ⟨p + 1 + 1, 1, none⟩ = false ∧ w.frozen? ⟨p + 1 + 1, 2, none⟩ = false ∧ w.frozen? ⟨p + 1 + 1, 3, none⟩ = false :=
  ⟨h.1.1, h.1.2.1, h.1.2.2.1, h.1.2.2.2, h.2.1.1, h.2.1.2.1, h.2.1.2.2.1, h.2.1.2.2.2, h.2.2.1.1, h.2.2.1.2.1, h.2.2.1.2.2.1, h.2.2.1.2.2.2, h.2.2.2.1, h.2.2.2.2.1, h.2.2.2.2.2.1, h.2.2.2.2.2.2⟩
theorem below_next {B C : Nat} {w a b c : World} (h : Below B w a) (k : Below C b c) (e : b.os = a.os ∧ b.tape = a.tape ∧ b.output = a.output ∧ b.heap = a.heap) (hC : B ≤ C) : Below B w c :=
  ⟨k.os.trans (e.1.trans h.os), k.tape.trans (e.2.1.trans h.tape), k.output.trans (e.2.2.1.trans h.output), by have h1 := h.size; have h2 := k.size; rw [e.2.2.2] at h2; omega, fun i hi => (k.block i (by omega)).trans ((by rw [e.2.2.2] : b.heap[i]? = a.heap[i]?).trans (h.block i hi))⟩
end Go.Proofs.Ytmlcpedbpjghhaa
