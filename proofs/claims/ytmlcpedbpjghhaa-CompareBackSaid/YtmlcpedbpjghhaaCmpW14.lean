/-
  Sums: the parts, walked.
-/
import Derived.Test.YtmlcpedbpjghhaaCmpW5
import Derived.Test.YtmlcpedbpjghhaaRealKeyLaw
import Derived.Test.YtmlcpedbpjghhaaRealW5
import Derived.Test.YtmlcpedbpjghhaaRealW10
import Derived.Test.YtmlcpedbpjghhaaRealW9
namespace Go.Proofs.Ytmlcpedbpjghhaa
open Go.RowKit

/-- a number as a double -/
def dblV (k n : Int) (u : Nat) : Nat := if k = 1 then ofIntN n else u
theorem dblV_lt (k n : Int) {u : Nat} (hu : u < 18446744073709551616) : dblV k n u < 18446744073709551616 := by
  unfold dblV
  split
  · unfold ofIntN
    have h := rne_le (n.natAbs * unit)
    have := wd_lt (decide (n < 0)) (r := rne (n.natAbs * unit)) (by omega)
    omega
  · exact hu
theorem cdouble_ok (k n : Int) (u : Nat) (s : ByteArray) (w : World) : Calls Try.prog 35 #[V k n u s] w fun e w' => e = .returned (.int .u64 (dblV k n u)) ∧ Below w.heap.size w w' := by
  unfold V
  by_cases hk : k = 1
  · have H : Hid (dblV k n u = ofIntN n) := Lib.hid (by unfold dblV; rw [if_pos hk])
    subst hk
    go_enter Try.func35, Try.ntmps35
    go_wp2_with (go_at_call 54; refine (ofInt_ok _ _).mono ?_; rintro e w' ⟨rfl, rfl⟩)
    go_ret
    exact ⟨retI (by rw [H.out]), one_box _ _⟩
  · have H : Hid (dblV k n u = u) := Lib.hid (by unfold dblV; rw [if_neg hk])
    have h1 : (k == 1) = false := by simpa using hk
    clear hk
    go_enter Try.func35, Try.ntmps35
    go_wp2
    go_ret
    exact ⟨retI (by rw [H.out]), one_box _ _⟩
theorem rbits_ok (k n : Int) (hn : -9223372036854775808 ≤ n ∧ n ≤ 9223372036854775807) (u : Nat) (s : ByteArray) (w : World) : Calls Try.prog 38 #[V k n u s] w fun e w' => e = .returned (.int .u64 (dblV k n u)) ∧ Below w.heap.size w w' := by
  unfold V
  by_cases hk : k = 1
  · have H : Hid (dblV k n u = ofIntN n) := Lib.hid (by unfold dblV; rw [if_pos hk])
    subst hk
    go_enter Try.func38, Try.ntmps38
    go_wp2_with (go_at_call 61; refine (refOfInt_ok _ hn _).mono ?_; rintro e w' ⟨rfl, rfl⟩)
    go_ret
    exact ⟨retI (by rw [H.out]), one_box _ _⟩
  · have H : Hid (dblV k n u = u) := Lib.hid (by unfold dblV; rw [if_neg hk])
    have h1 : (k == 1) = false := by simpa using hk
    clear hk
    go_enter Try.func38, Try.ntmps38
    go_wp2
    go_ret
    exact ⟨retI (by rw [H.out]), one_box _ _⟩
theorem build_real (n : Int) (w : World) : (Instr.build 24 #[(0, .int .u8 3), (1, .int .i64 0), (2, .int .u64 n), (3, .string ⟨#[]⟩)]).run Try.prog w = .ok (.agg #[.int .u8 3, .int .i64 0, .int .u64 n, .string ⟨#[]⟩]) w := by kernel_rfl
theorem vOfReal_ok (u : Nat) (w : World) : Calls Try.prog 20 #[.int .u64 u] w fun e w' => e = .returned (V 3 0 (cleanN u) ⟨#[]⟩) ∧ Below w.heap.size w w' := by
  have h := fun n => build_double n
  go_enter Try.func20, Try.ntmps20
  go_wp2_with (go_at_call 43; refine (clean_ok u _).mono ?_; rintro e w' ⟨rfl, rfl⟩)
  exact bodyPost_ret (v := V 3 0 (cleanN u) ⟨#[]⟩) (by simp [results, Try.results20, go_sem, V]) rfl ⟨rfl, one_box _ _⟩
theorem rOfReal_ok (u : Nat) (hu : u < 18446744073709551616) (w : World) : Calls Try.prog 36 #[.int .u64 u] w fun e w' => e = .returned (V 3 0 (cleanN u) ⟨#[]⟩) ∧ Below w.heap.size w w' := by
  have h := fun n => build_real n
  go_enter Try.func36, Try.ntmps36
  go_wp2_with (go_at_call 48; refine (refClean_ok u hu _).mono ?_; rintro e w' ⟨rfl, rfl⟩)
  exact bodyPost_ret (v := V 3 0 (cleanN u) ⟨#[]⟩) (by simp [results, Try.results36, go_sem, V]) rfl ⟨rfl, one_box _ _⟩
theorem build_void (w : World) : (Instr.build 28 #[]).run Try.prog w = .ok (.agg #[.int .u8 0, .int .i64 0, .int .u64 0, .string ⟨#[]⟩]) w := by kernel_rfl
theorem build_none (w : World) : (Instr.build 24 #[]).run Try.prog w = .ok (.agg #[.int .u8 0, .int .i64 0, .int .u64 0, .string ⟨#[]⟩]) w := by kernel_rfl

theorem four_cells {B : Nat} {w w1 : World} (h : Below B w w1) {p : Nat} (hp : B ≤ p) (a b c d : Value) : Below B w ((((w1.setCell ⟨p, 0, none⟩ a).setCell ⟨p, 1, none⟩ b).setCell ⟨p, 2, none⟩ c).setCell ⟨p, 3, none⟩ d) :=
  (((h.setCell hp _).setCell hp _).setCell hp _).setCell hp _
/-- a whole number's sum may be -/
def wholeOk (a b : Int) : Bool := decide (-4611686018427387904 ≤ a + b) && decide (a + b ≤ 4611686018427387904)
theorem wsum_yes (a b : Int) (ha : -4611686018427387904 ≤ a ∧ a ≤ 4611686018427387904) (hb : -4611686018427387904 ≤ b ∧ b ≤ 4611686018427387904) (h : wholeOk a b = true) (w : World) : Calls Try.prog 33 #[.int .i64 a, .int .i64 b] w fun e w' => e = .returned (.tuple #[V 1 (a + b) 0 ⟨#[]⟩, .bool true]) ∧ Below w.heap.size w w' := by
  unfold wholeOk at h
  simp only [Bool.and_eq_true, decide_eq_true_eq] at h
  obtain ⟨h1, h2⟩ := h
  obtain ⟨a1, a2⟩ := ha
  obtain ⟨b1, b2⟩ := hb
  have hc : clip (a + b) = a + b := by unfold clip; omega
  have H := Lib.hid hc
  clear hc
  have HC := Lib.hid fun n w => vOfInt_ok n w
  by_cases hb : 0 ≤ b
  · have g1 : a ≤ 4611686018427387904 - b := by omega
    go_enter Try.func33, Try.ntmps33
    go_wp2_with (go_at_call 21; refine (HC.out _ _).mono ?_; rw [H.out]; unfold V; rintro e w1 ⟨rfl, hb1⟩; obtain ⟨hc1, hf1⟩ := bcell hb1; have hz1 : w.heap.size < w1.heap.size := (by have := hb1.size; simp at this; omega))
    exact bodyPost_ret (v := .tuple #[V 1 (a + b) 0 ⟨#[]⟩, .bool true]) (by simp [results, Try.results33, go_sem, V, hc1]) rfl ⟨rfl, four_cells ((one_box _ _).trans (hb1.mono (by simp))) (Nat.le_refl _) _ _ _ _⟩
  · have g0 : b < 0 := by omega
    have g1 : ¬ a < -4611686018427387904 - b := by omega
    go_enter Try.func33, Try.ntmps33
    go_wp2_with (go_at_call 21; refine (HC.out _ _).mono ?_; rw [H.out]; unfold V; rintro e w1 ⟨rfl, hb1⟩; obtain ⟨hc1, hf1⟩ := bcell hb1; have hz1 : w.heap.size < w1.heap.size := (by have := hb1.size; simp at this; omega))
    exact bodyPost_ret (v := .tuple #[V 1 (a + b) 0 ⟨#[]⟩, .bool true]) (by simp [results, Try.results33, go_sem, V, hc1]) rfl ⟨rfl, four_cells ((one_box _ _).trans (hb1.mono (by simp))) (Nat.le_refl _) _ _ _ _⟩
theorem wsum_no (a b : Int) (ha : -4611686018427387904 ≤ a ∧ a ≤ 4611686018427387904) (hb : -4611686018427387904 ≤ b ∧ b ≤ 4611686018427387904) (h : wholeOk a b = false) (w : World) : Calls Try.prog 33 #[.int .i64 a, .int .i64 b] w fun e w' => e = .returned (.tuple #[V 0 0 0 ⟨#[]⟩, .bool false]) ∧ Below w.heap.size w w' := by
  unfold wholeOk at h
  simp only [Bool.and_eq_false_iff, decide_eq_false_iff_not] at h
  obtain ⟨a1, a2⟩ := ha
  obtain ⟨b1, b2⟩ := hb
  have hv := fun w => build_void w
  by_cases hb : 0 ≤ b
  · have g1 : 4611686018427387904 - b < a := by omega
    clear h
    go_enter Try.func33, Try.ntmps33
    go_wp2
    exact bodyPost_ret (v := .tuple #[V 0 0 0 ⟨#[]⟩, .bool false]) (by simp [results, Try.results33, go_sem, V]) rfl ⟨rfl, one_box _ _⟩
  · have g0 : b < 0 := by omega
    have g1 : a < -4611686018427387904 - b := by omega
    clear h
    go_enter Try.func33, Try.ntmps33
    go_wp2
    exact bodyPost_ret (v := .tuple #[V 0 0 0 ⟨#[]⟩, .bool false]) (by simp [results, Try.results33, go_sem, V]) rfl ⟨rfl, one_box _ _⟩
/-- the sum of whole numbers, as it is told -/
def wsumV (a b : Int) : Value := .tuple #[V (if wholeOk a b then 1 else 0) (if wholeOk a b then a + b else 0) 0 ⟨#[]⟩, .bool (wholeOk a b)]
theorem wsum_ok (a b : Int) (ha : -4611686018427387904 ≤ a ∧ a ≤ 4611686018427387904) (hb : -4611686018427387904 ≤ b ∧ b ≤ 4611686018427387904) (w : World) : Calls Try.prog 33 #[.int .i64 a, .int .i64 b] w fun e w' => e = .returned (wsumV a b) ∧ Below w.heap.size w w' := by
  unfold wsumV
  cases h : wholeOk a b
  · exact wsum_no a b ha hb h w
  · exact wsum_yes a b ha hb h w

end Go.Proofs.Ytmlcpedbpjghhaa
