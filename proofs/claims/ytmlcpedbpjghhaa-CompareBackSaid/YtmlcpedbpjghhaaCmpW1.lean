/-
  Small functions on values, walked.
-/
import Derived.Test.YtmlcpedbpjghhaaRows
import Derived.Deep.QuietTactic
import Derived.BigQuiet
import Derived.StillTailTactics
import Derived.Deep.RegionWith
import Derived.Deep.RegionHeld3
import Derived.Deep.LoopGhost
import Derived.Deep.DeepCutAuto
import Derived.Lib.Hide
import Derived.Laws.Unary
import Derived.Laws.StructEq
import Derived.Below
import Derived.Outline
namespace Go.Proofs.Ytmlcpedbpjghhaa
open Go.RowKit

/-- a value of both sides -/
def V (k : Int) (n : Int) (u : Nat) (s : ByteArray) : Value := .agg #[.int .u8 k, .int .i64 n, .int .u64 u, .string s]
theorem retI {k : IntKind} {a b : Int} (h : a = b) : Ending.returned (.int k a) = .returned (.int k b) := by rw [h]
theorem retB {a b : Bool} (h : a = b) : Ending.returned (.bool a) = .returned (.bool b) := by rw [h]

theorem one_box (w : World) (o : Obj) : Below w.heap.size w (w.alloc o) := (Below.refl _ _).alloc (Nat.le_refl _) _

theorem small_ok (k n : Int) (u : Nat) (s : ByteArray) (hs : s.size ≤ 140737488355328) (w : World) : Calls Try.prog 8 #[V k n u s] w fun e w' => e = .returned (.int .i64 (max 0 ((s.size : Int) - 100))) ∧ Below w.heap.size w w' := by
  unfold V
  go_enter Try.func8, Try.ntmps8
  go_wp2
  all_goals go_ret
  all_goals exact ⟨retI (by omega), one_box _ _⟩
theorem numeric_ok (k : Int) (w : World) : Calls Try.prog 26 #[.int .u8 k] w fun e w' => e = .returned (.bool (k == 1 || k == 3)) ∧ w = w' := by
  go_enter Try.func26, Try.ntmps26
  go_wp2
  all_goals go_ret
  all_goals exact ⟨retB (by simp_all), rfl⟩
theorem rnumber_ok (k : Int) (w : World) : Calls Try.prog 30 #[.int .u8 k] w fun e w' => e = .returned (.bool (k == 1 || k == 3)) ∧ w = w' := by
  go_enter Try.func30, Try.ntmps30
  go_wp2
  all_goals go_ret
  all_goals exact ⟨retB (by simp_all), rfl⟩

theorem mk_num (n : Int) (w : World) : (Instr.makeInterface 64 (.int .i64 n)).run Try.prog w = .ok (.iface 64 (.int .i64 n)) w := by kernel_rfl
theorem mk_flag (n : Int) (w : World) : (Instr.makeInterface 65 (.int .i64 n)).run Try.prog w = .ok (.iface 65 (.int .i64 n)) w := by kernel_rfl
theorem mk_double (n : Int) (w : World) : (Instr.makeInterface 66 (.int .u64 n)).run Try.prog w = .ok (.iface 66 (.int .u64 n)) w := by kernel_rfl
theorem mk_words (s : ByteArray) (w : World) : (Instr.makeInterface 67 (.string s)).run Try.prog w = .ok (.iface 67 (.string s)) w := by kernel_rfl

/-- what a value holds -/
theorem core_num (n : Int) (u : Nat) (s : ByteArray) (w : World) : Calls Try.prog 42 #[V 1 n u s] w fun e w' => e = .returned (.iface 64 (.int .i64 n)) ∧ Below w.heap.size w w' := by
  have h := mk_num n
  unfold V
  go_enter Try.func42, Try.ntmps42
  go_wp2
  go_ret
  exact ⟨rfl, one_box _ _⟩
theorem core_flag (n : Int) (u : Nat) (s : ByteArray) (w : World) : Calls Try.prog 42 #[V 2 n u s] w fun e w' => e = .returned (.iface 65 (.int .i64 n)) ∧ Below w.heap.size w w' := by
  have h := mk_flag n
  unfold V
  go_enter Try.func42, Try.ntmps42
  go_wp2
  go_ret
  exact ⟨rfl, one_box _ _⟩
theorem core_double (n : Int) (u : Nat) (s : ByteArray) (w : World) : Calls Try.prog 42 #[V 3 n u s] w fun e w' => e = .returned (.iface 66 (.int .u64 u)) ∧ Below w.heap.size w w' := by
  have h := mk_double u
  unfold V
  go_enter Try.func42, Try.ntmps42
  go_wp2
  go_ret
  exact ⟨rfl, one_box _ _⟩
theorem core_words (n : Int) (u : Nat) (s : ByteArray) (w : World) : Calls Try.prog 42 #[V 4 n u s] w fun e w' => e = .returned (.iface 67 (.string s)) ∧ Below w.heap.size w w' := by
  have h := mk_words s
  unfold V
  go_enter Try.func42, Try.ntmps42
  go_wp2
  go_ret
  exact ⟨rfl, one_box _ _⟩
theorem core_none (k n : Int) (u : Nat) (s : ByteArray) (hk : k < 1 ∨ 4 < k) (w : World) : Calls Try.prog 42 #[V k n u s] w fun e w' => e = .returned .nilIface ∧ Below w.heap.size w w' := by
  have h1 : (k == 1) = false := by simp; omega
  have h2 : (k == 2) = false := by simp; omega
  have h3 : (k == 3) = false := by simp; omega
  have h4 : (k == 4) = false := by simp; omega
  clear hk
  unfold V
  go_enter Try.func42, Try.ntmps42
  go_wp2
  go_ret
  exact ⟨rfl, one_box _ _⟩

theorem build_num (n : Int) (w : World) : (Instr.build 28 #[(0, .int .u8 1), (1, .int .i64 n)]).run Try.prog w = .ok (.agg #[.int .u8 1, .int .i64 n, .int .u64 0, .string ⟨#[]⟩]) w := by kernel_rfl
theorem build_flag (n : Int) (w : World) : (Instr.build 28 #[(0, .int .u8 2), (1, .int .i64 n)]).run Try.prog w = .ok (.agg #[.int .u8 2, .int .i64 n, .int .u64 0, .string ⟨#[]⟩]) w := by kernel_rfl
theorem build_double (n : Int) (w : World) : (Instr.build 28 #[(0, .int .u8 3), (2, .int .u64 n)]).run Try.prog w = .ok (.agg #[.int .u8 3, .int .i64 0, .int .u64 n, .string ⟨#[]⟩]) w := by kernel_rfl
theorem build_words (s : ByteArray) (w : World) : (Instr.build 28 #[(0, .int .u8 4), (3, .string s)]).run Try.prog w = .ok (.agg #[.int .u8 4, .int .i64 0, .int .u64 0, .string s]) w := by kernel_rfl
theorem whole_num (n : Int) (w : World) : Calls Try.prog 107 #[.int .i64 n] w fun e w' => e = .returned (V 1 n 0 ⟨#[]⟩) ∧ Below w.heap.size w w' := by
  have h := build_num n
  go_enter Try.func107, Try.ntmps107
  go_wp2
  exact bodyPost_ret (v := V 1 n 0 ⟨#[]⟩) (by simp [results, Try.results107, go_sem, V]) rfl ⟨rfl, one_box _ _⟩
theorem whole_flag (n : Int) (w : World) : Calls Try.prog 108 #[.int .i64 n] w fun e w' => e = .returned (V 2 n 0 ⟨#[]⟩) ∧ Below w.heap.size w w' := by
  have h := build_flag n
  go_enter Try.func108, Try.ntmps108
  go_wp2
  exact bodyPost_ret (v := V 2 n 0 ⟨#[]⟩) (by simp [results, Try.results108, go_sem, V]) rfl ⟨rfl, one_box _ _⟩
theorem whole_double (u : Nat) (w : World) : Calls Try.prog 109 #[.int .u64 u] w fun e w' => e = .returned (V 3 0 u ⟨#[]⟩) ∧ Below w.heap.size w w' := by
  have h := build_double u
  go_enter Try.func109, Try.ntmps109
  go_wp2
  exact bodyPost_ret (v := V 3 0 u ⟨#[]⟩) (by simp [results, Try.results109, go_sem, V]) rfl ⟨rfl, one_box _ _⟩
theorem whole_words (s : ByteArray) (w : World) : Calls Try.prog 110 #[.string s] w fun e w' => e = .returned (V 4 0 0 s) ∧ Below w.heap.size w w' := by
  have h := build_words s
  go_enter Try.func110, Try.ntmps110
  go_wp2
  exact bodyPost_ret (v := V 4 0 0 s) (by simp [results, Try.results110, go_sem, V]) rfl ⟨rfl, one_box _ _⟩

/-- what a test says of an order -/
def saysB (op : Int) (n : Int) : Bool :=
  if op = 1 then decide (n = 0) else if op = 2 then decide (n ≠ 0) else if op = 3 then decide (n < 0) else if op = 4 then decide (n ≤ 0) else if op = 5 then decide (0 < n) else if op = 6 then decide (0 ≤ n) else false
theorem says_ok (op n : Int) (w : World) : Calls Try.prog 28 #[.int .u8 op, .int .i64 n] w fun e w' => e = .returned (.bool (saysB op n)) ∧ w = w' := by
  go_enter Try.func28, Try.ntmps28
  go_wp2
  all_goals go_ret
  all_goals refine ⟨retB ?_, rfl⟩
  all_goals unfold saysB
  all_goals first | (simp_all; done) | (simp_all; omega) | (simp_all; rw [Bool.eq_iff_iff]; simp; done) | (simp_all; rw [Bool.eq_iff_iff]; simp; omega)

theorem build_int (n : Int) (w : World) : (Instr.build 24 #[(0, .int .u8 1), (1, .int .i64 n)]).run Try.prog w = .ok (.agg #[.int .u8 1, .int .i64 n, .int .u64 0, .string ⟨#[]⟩]) w := by kernel_rfl
theorem build_flag0 (w : World) : (Instr.build 28 #[(0, .int .u8 2)]).run Try.prog w = .ok (.agg #[.int .u8 2, .int .i64 0, .int .u64 0, .string ⟨#[]⟩]) w := by kernel_rfl
def clip (n : Int) : Int := max (-4611686018427387904) (min n 4611686018427387904)
theorem vOfInt_ok (n : Int) (w : World) : Calls Try.prog 21 #[.int .i64 n] w fun e w' => e = .returned (V 1 (clip n) 0 ⟨#[]⟩) ∧ Below w.heap.size w w' := by
  have h := fun n => build_num n
  go_enter Try.func21, Try.ntmps21
  go_wp2
  · have hc : clip n = 4611686018427387904 := by unfold clip; omega
    exact bodyPost_ret (v := V 1 (clip n) 0 ⟨#[]⟩) (by simp [results, Try.results21, go_sem, V, hc]) rfl ⟨rfl, one_box _ _⟩
  · have hc : clip n = n := by unfold clip; omega
    exact bodyPost_ret (v := V 1 (clip n) 0 ⟨#[]⟩) (by simp [results, Try.results21, go_sem, V, hc]) rfl ⟨rfl, one_box _ _⟩
  · have hc : clip n = -4611686018427387904 := by unfold clip; omega
    exact bodyPost_ret (v := V 1 (clip n) 0 ⟨#[]⟩) (by simp [results, Try.results21, go_sem, V, hc]) rfl ⟨rfl, one_box _ _⟩
theorem two_boxes (w : World) (o p : Obj) : Below w.heap.size w ((w.alloc o).alloc p) := ((Below.refl _ _).alloc (Nat.le_refl _) _).alloc (by simp) _
theorem vOfFlag_ok (b : Bool) (w : World) : Calls Try.prog 22 #[.bool b] w fun e w' => e = .returned (V 2 (if b then 1 else 0) 0 ⟨#[]⟩) ∧ Below w.heap.size w w' := by
  have h := build_flag0
  cases b
  · go_enter Try.func22, Try.ntmps22
    go_wp2
    all_goals exact bodyPost_ret (v := V 2 0 0 ⟨#[]⟩) (by simp [results, Try.results22, go_sem, V]) rfl ⟨rfl, two_boxes _ _ _⟩
  · go_enter Try.func22, Try.ntmps22
    go_wp2
    all_goals exact bodyPost_ret (v := V 2 1 0 ⟨#[]⟩) (by simp [results, Try.results22, go_sem, V]) rfl ⟨rfl, two_boxes _ _ _⟩
theorem vOfText_ok (s : ByteArray) (hs : (s.size : Int) ≤ 24) (w : World) : Calls Try.prog 23 #[.string s] w fun e w' => e = .returned (V 4 0 0 s) ∧ Below w.heap.size w w' := by
  have h := build_words s
  go_enter Try.func23, Try.ntmps23
  go_wp2
  all_goals exact bodyPost_ret (v := V 4 0 0 s) (by simp [results, Try.results23, go_sem, V]) rfl ⟨rfl, one_box _ _⟩
theorem build_rint (n : Int) (w : World) : (Instr.build 24 #[(0, .int .u8 1), (1, .int .i64 n), (2, .int .u64 0), (3, .string ⟨#[]⟩)]).run Try.prog w = .ok (.agg #[.int .u8 1, .int .i64 n, .int .u64 0, .string ⟨#[]⟩]) w := by kernel_rfl
theorem rOfInt_ok (n : Int) (w : World) : Calls Try.prog 39 #[.int .i64 n] w fun e w' => e = .returned (V 1 (clip n) 0 ⟨#[]⟩) ∧ Below w.heap.size w w' := by
  have h := fun n => build_rint n
  go_enter Try.func39, Try.ntmps39
  go_wp2
  · have hc : clip n = n := by unfold clip; omega
    exact bodyPost_ret (v := V 1 (clip n) 0 ⟨#[]⟩) (by simp [results, Try.results39, go_sem, V, hc]) rfl ⟨rfl, one_box _ _⟩
  · have hc : clip n = -4611686018427387904 := by unfold clip; omega
    exact bodyPost_ret (v := V 1 (clip n) 0 ⟨#[]⟩) (by simp [results, Try.results39, go_sem, V, hc]) rfl ⟨rfl, one_box _ _⟩
  · have hc : clip n = 4611686018427387904 := by unfold clip; omega
    exact bodyPost_ret (v := V 1 (clip n) 0 ⟨#[]⟩) (by simp [results, Try.results39, go_sem, V, hc]) rfl ⟨rfl, one_box _ _⟩
end Go.Proofs.Ytmlcpedbpjghhaa
