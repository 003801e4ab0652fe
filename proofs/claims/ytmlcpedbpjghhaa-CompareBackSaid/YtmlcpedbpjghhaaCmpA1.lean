/-
  What every right program makes of some values: the calls, one by one.
-/
import Derived.Test.YtmlcpedbpjghhaaCmpA0
namespace Go.Proofs.Ytmlcpedbpjghhaa
open Go.RowKit

theorem same_real (u : Nat) (h : cleanN u = u) (w : World) : Calls Try.prog 20 #[.int .u64 u] w fun e w' => e = .returned (V 3 0 u ⟨#[]⟩) ∧ Below w.heap.size w w' := by
  have := vOfReal_ok u w
  rw [h] at this
  exact this
theorem same_int (n : Int) (h : clip n = n) (w : World) : Calls Try.prog 21 #[.int .i64 n] w fun e w' => e = .returned (V 1 n 0 ⟨#[]⟩) ∧ Below w.heap.size w w' := by
  have := vOfInt_ok n w
  rw [h] at this
  exact this
theorem hold_at (op k n : Int) (u : Nat) (s : ByteArray) (k' n' : Int) (u' : Nat) (s' : ByteArray) {b : Bool} (h : holdsB op k n u s k' n' u' s' = b) (w : World) : Calls Try.prog 10 #[.int .u8 op, V k n u s, V k' n' u' s'] w fun e w' => e = .returned (.bool b) ∧ Below w.heap.size w w' := by
  have := holds_ok op k n u s k' n' u' s' w
  rw [h] at this
  exact this
theorem aw_nan (w : World) : Calls Try.prog 20 #[.int .u64 9221120237041090560] w fun e w' => e = .returned (.agg #[.int .u8 3, .int .i64 0, .int .u64 9221120237041090560, .string ⟨#[]⟩]) ∧ Below w.heap.size w w' :=
  same_real 9221120237041090560 (by decide +kernel) w
theorem aw_half (w : World) : Calls Try.prog 20 #[.int .u64 4602678819172646912] w fun e w' => e = .returned (.agg #[.int .u8 3, .int .i64 0, .int .u64 4602678819172646912, .string ⟨#[]⟩]) ∧ Below w.heap.size w w' :=
  same_real 4602678819172646912 (by decide +kernel) w
theorem aw_d53 (w : World) : Calls Try.prog 20 #[.int .u64 4845873199050653696] w fun e w' => e = .returned (.agg #[.int .u8 3, .int .i64 0, .int .u64 4845873199050653696, .string ⟨#[]⟩]) ∧ Below w.heap.size w w' :=
  same_real 4845873199050653696 (by decide +kernel) w
theorem aw_zero (w : World) : Calls Try.prog 20 #[.int .u64 0] w fun e w' => e = .returned (.agg #[.int .u8 3, .int .i64 0, .int .u64 0, .string ⟨#[]⟩]) ∧ Below w.heap.size w w' :=
  same_real 0 (by decide +kernel) w
theorem aw_top (w : World) : Calls Try.prog 20 #[.int .u64 9223372036854775808] w fun e w' => e = .returned (.agg #[.int .u8 3, .int .i64 0, .int .u64 9223372036854775808, .string ⟨#[]⟩]) ∧ Below w.heap.size w w' :=
  same_real 9223372036854775808 (by decide +kernel) w
theorem aw_x15 (w : World) : Calls Try.prog 20 #[.int .u64 4609434218613702656] w fun e w' => e = .returned (.agg #[.int .u8 3, .int .i64 0, .int .u64 4609434218613702656, .string ⟨#[]⟩]) ∧ Below w.heap.size w w' :=
  same_real 4609434218613702656 (by decide +kernel) w
theorem aw_i1 (w : World) : Calls Try.prog 21 #[.int .i64 1] w fun e w' => e = .returned (.agg #[.int .u8 1, .int .i64 1, .int .u64 0, .string ⟨#[]⟩]) ∧ Below w.heap.size w w' :=
  same_int 1 (by decide) w
theorem aw_i3 (w : World) : Calls Try.prog 21 #[.int .i64 3] w fun e w' => e = .returned (.agg #[.int .u8 1, .int .i64 3, .int .u64 0, .string ⟨#[]⟩]) ∧ Below w.heap.size w w' :=
  same_int 3 (by decide) w
theorem aw_imax (w : World) : Calls Try.prog 21 #[.int .i64 4611686018427387904] w fun e w' => e = .returned (.agg #[.int .u8 1, .int .i64 4611686018427387904, .int .u64 0, .string ⟨#[]⟩]) ∧ Below w.heap.size w w' :=
  same_int 4611686018427387904 (by decide) w
theorem aw_ibig (w : World) : Calls Try.prog 21 #[.int .i64 9007199254740993] w fun e w' => e = .returned (.agg #[.int .u8 1, .int .i64 9007199254740993, .int .u64 0, .string ⟨#[]⟩]) ∧ Below w.heap.size w w' :=
  same_int 9007199254740993 (by decide) w
theorem aw_im2 (w : World) : Calls Try.prog 21 #[.int .i64 (-2)] w fun e w' => e = .returned (.agg #[.int .u8 1, .int .i64 (-2), .int .u64 0, .string ⟨#[]⟩]) ∧ Below w.heap.size w w' :=
  same_int (-2) (by decide) w
theorem aw_ff (w : World) : Calls Try.prog 22 #[.bool false] w fun e w' => e = .returned (.agg #[.int .u8 2, .int .i64 0, .int .u64 0, .string ⟨#[]⟩]) ∧ Below w.heap.size w w' :=
  vOfFlag_ok false w
theorem aw_ft (w : World) : Calls Try.prog 22 #[.bool true] w fun e w' => e = .returned (.agg #[.int .u8 2, .int .i64 1, .int .u64 0, .string ⟨#[]⟩]) ∧ Below w.heap.size w w' :=
  vOfFlag_ok true w
theorem aw_ta (w : World) : Calls Try.prog 23 #[.string ⟨#[97]⟩] w fun e w' => e = .returned (.agg #[.int .u8 4, .int .i64 0, .int .u64 0, .string ⟨#[97]⟩]) ∧ Below w.heap.size w w' :=
  vOfText_ok ⟨#[97]⟩ (by decide) w
theorem aw_tab (w : World) : Calls Try.prog 23 #[.string ⟨#[97, 98]⟩] w fun e w' => e = .returned (.agg #[.int .u8 4, .int .i64 0, .int .u64 0, .string ⟨#[97, 98]⟩]) ∧ Below w.heap.size w w' :=
  vOfText_ok ⟨#[97, 98]⟩ (by decide) w
theorem aw_h1 (w : World) : Calls Try.prog 10 #[.int .u8 5, .agg #[.int .u8 1, .int .i64 9007199254740993, .int .u64 0, .string ⟨#[]⟩], .agg #[.int .u8 3, .int .i64 0, .int .u64 4845873199050653696, .string ⟨#[]⟩]] w fun e w' => e = .returned (.bool true) ∧ Below w.heap.size w w' :=
  hold_at 5 1 9007199254740993 0 ⟨#[]⟩ 3 0 4845873199050653696 ⟨#[]⟩ (by decide +kernel) w
theorem aw_h2 (w : World) : Calls Try.prog 10 #[.int .u8 2, .agg #[.int .u8 3, .int .i64 0, .int .u64 9221120237041090560, .string ⟨#[]⟩], .agg #[.int .u8 3, .int .i64 0, .int .u64 9221120237041090560, .string ⟨#[]⟩]] w fun e w' => e = .returned (.bool true) ∧ Below w.heap.size w w' :=
  hold_at 2 3 0 9221120237041090560 ⟨#[]⟩ 3 0 9221120237041090560 ⟨#[]⟩ (by decide +kernel) w
theorem aw_h3 (w : World) : Calls Try.prog 10 #[.int .u8 1, .agg #[.int .u8 3, .int .i64 0, .int .u64 9221120237041090560, .string ⟨#[]⟩], .agg #[.int .u8 3, .int .i64 0, .int .u64 9221120237041090560, .string ⟨#[]⟩]] w fun e w' => e = .returned (.bool false) ∧ Below w.heap.size w w' :=
  hold_at 1 3 0 9221120237041090560 ⟨#[]⟩ 3 0 9221120237041090560 ⟨#[]⟩ (by decide +kernel) w
theorem aw_h4 (w : World) : Calls Try.prog 10 #[.int .u8 1, .agg #[.int .u8 3, .int .i64 0, .int .u64 0, .string ⟨#[]⟩], .agg #[.int .u8 3, .int .i64 0, .int .u64 9223372036854775808, .string ⟨#[]⟩]] w fun e w' => e = .returned (.bool true) ∧ Below w.heap.size w w' :=
  hold_at 1 3 0 0 ⟨#[]⟩ 3 0 9223372036854775808 ⟨#[]⟩ (by decide +kernel) w
theorem aw_h5 (w : World) : Calls Try.prog 10 #[.int .u8 3, .agg #[.int .u8 2, .int .i64 0, .int .u64 0, .string ⟨#[]⟩], .agg #[.int .u8 2, .int .i64 1, .int .u64 0, .string ⟨#[]⟩]] w fun e w' => e = .returned (.bool false) ∧ Below w.heap.size w w' :=
  hold_at 3 2 0 0 ⟨#[]⟩ 2 1 0 ⟨#[]⟩ (by decide +kernel) w
theorem aw_h6 (w : World) : Calls Try.prog 10 #[.int .u8 2, .agg #[.int .u8 4, .int .i64 0, .int .u64 0, .string ⟨#[97]⟩], .agg #[.int .u8 1, .int .i64 1, .int .u64 0, .string ⟨#[]⟩]] w fun e w' => e = .returned (.bool true) ∧ Below w.heap.size w w' :=
  hold_at 2 4 0 0 ⟨#[97]⟩ 1 1 0 ⟨#[]⟩ (by decide +kernel) w
theorem aw_h7 (w : World) : Calls Try.prog 10 #[.int .u8 4, .agg #[.int .u8 4, .int .i64 0, .int .u64 0, .string ⟨#[97]⟩], .agg #[.int .u8 4, .int .i64 0, .int .u64 0, .string ⟨#[97, 98]⟩]] w fun e w' => e = .returned (.bool true) ∧ Below w.heap.size w w' :=
  hold_at 4 4 0 0 ⟨#[97]⟩ 4 0 0 ⟨#[97, 98]⟩ (by decide +kernel) w
theorem aw_sum : plusV 1 1 0 ⟨#[]⟩ 3 0 4602678819172646912 ⟨#[]⟩ = .tuple #[V 3 0 4609434218613702656 ⟨#[]⟩, .bool true] := by
  unfold plusV realV
  rw [if_pos (show sumB 1 1 0 ⟨#[]⟩ 3 0 4602678819172646912 ⟨#[]⟩ = true by decide +kernel), if_neg (by omega), show cleanN (sumN (dblV 1 1 0) (dblV 3 0 4602678819172646912)) = 4609434218613702656 by decide +kernel]
theorem aw_dif : minusV 1 1 0 ⟨#[]⟩ 1 3 0 ⟨#[]⟩ = .tuple #[V 1 (-2) 0 ⟨#[]⟩, .bool true] := by
  unfold minusV wsumV
  rw [if_pos (show sumB 1 1 0 ⟨#[]⟩ 1 3 0 ⟨#[]⟩ = true by decide +kernel), if_pos ⟨rfl, rfl⟩, show wholeOk 1 (-3) = true by decide]
  rfl
theorem aw_far : plusV 1 4611686018427387904 0 ⟨#[]⟩ 1 1 0 ⟨#[]⟩ = .tuple #[V 0 0 0 ⟨#[]⟩, .bool false] := by
  unfold plusV wsumV
  rw [if_pos (show sumB 1 4611686018427387904 0 ⟨#[]⟩ 1 1 0 ⟨#[]⟩ = true by decide +kernel), if_pos ⟨rfl, rfl⟩, show wholeOk 4611686018427387904 1 = false by decide]
  rfl
theorem aw_p1 (w : World) : Calls Try.prog 12 #[.agg #[.int .u8 1, .int .i64 1, .int .u64 0, .string ⟨#[]⟩], .agg #[.int .u8 3, .int .i64 0, .int .u64 4602678819172646912, .string ⟨#[]⟩]] w fun e w' => e = .returned (.tuple #[.agg #[.int .u8 3, .int .i64 0, .int .u64 4609434218613702656, .string ⟨#[]⟩], .bool true]) ∧ Below w.heap.size w w' :=
  (plus_ok 1 1 0 ⟨#[]⟩ 3 0 4602678819172646912 ⟨#[]⟩ (by omega) (by omega) w).mono fun _ _ h => ⟨h.1.trans (by rw [aw_sum]; rfl), h.2⟩
theorem aw_m1 (w : World) : Calls Try.prog 14 #[.agg #[.int .u8 1, .int .i64 1, .int .u64 0, .string ⟨#[]⟩], .agg #[.int .u8 1, .int .i64 3, .int .u64 0, .string ⟨#[]⟩]] w fun e w' => e = .returned (.tuple #[.agg #[.int .u8 1, .int .i64 (-2), .int .u64 0, .string ⟨#[]⟩], .bool true]) ∧ Below w.heap.size w w' :=
  (minus_ok 1 1 0 ⟨#[]⟩ 1 3 0 ⟨#[]⟩ (by omega) (by omega) w).mono fun _ _ h => ⟨h.1.trans (by rw [aw_dif]; rfl), h.2⟩
theorem aw_p2 (w : World) : Calls Try.prog 12 #[.agg #[.int .u8 1, .int .i64 4611686018427387904, .int .u64 0, .string ⟨#[]⟩], .agg #[.int .u8 1, .int .i64 1, .int .u64 0, .string ⟨#[]⟩]] w fun e w' => e = .returned (.tuple #[.agg #[.int .u8 0, .int .i64 0, .int .u64 0, .string ⟨#[]⟩], .bool false]) ∧ Below w.heap.size w w' :=
  (plus_ok 1 4611686018427387904 0 ⟨#[]⟩ 1 1 0 ⟨#[]⟩ (by omega) (by omega) w).mono fun _ _ h => ⟨h.1.trans (by rw [aw_far]; rfl), h.2⟩
theorem fit_1 (w : World) : Calls Try.prog 18 #[.int .u8 3, .int .u8 1, .int .u8 3] w fun e w' => e = .returned (.bool true) ∧ w = w' := fits_lt 1 3 w
theorem fit_2 (w : World) : Calls Try.prog 18 #[.int .u8 3, .int .u8 2, .int .u8 2] w fun e w' => e = .returned (.bool false) ∧ w = w' := fits_lt 2 2 w
theorem sum_1 (w : World) : Calls Try.prog 16 #[.int .u8 1, .int .u8 3] w fun e w' => e = .returned (.int .u8 3) ∧ w = w' := sum_kinds 1 3 w
/-- a value of the call's own, kept -/
def Aw (w W : World) (p : Nat) (k n : Int) (u : Nat) (s : ByteArray) : Prop := Below w.heap.size w W ∧ Box W p k n u s ∧ p < W.heap.size ∧ w.heap.size ≤ W.heap.size
theorem Aw.next {w b W : World} {p : Nat} {k n : Int} {u : Nat} {s : ByteArray} (h : Aw w b p k n u s) (hb : Below b.heap.size b W) : Aw w W p k n u s :=
  ⟨h.1.trans (hb.mono h.2.2.2), h.2.1.later hb h.2.2.1, Nat.lt_of_lt_of_le h.2.2.1 hb.size, Nat.le_trans h.2.2.2 hb.size⟩
theorem Aw.alloc {w b : World} {p : Nat} {k n : Int} {u : Nat} {s : ByteArray} (h : Aw w b p k n u s) (o : Obj) : Aw w (b.alloc o) p k n u s := h.next (one_box _ _)
theorem Aw.draw {w b : World} {p : Nat} {k n : Int} {u : Nat} {s : ByteArray} (h : Aw w b p k n u s) (m : Nat) : Aw w (b.drewN m) p k n u s := ⟨below_drewN2 h.1 m, h.2⟩
theorem Aw.draw1 {w b : World} {p : Nat} {k n : Int} {u : Nat} {s : ByteArray} (h : Aw w b p k n u s) : Aw w b.drew p k n u s := ⟨⟨h.1.os, h.1.tape, h.1.output, h.1.size, h.1.block⟩, h.2⟩
theorem Aw.cells {w W : World} {p : Nat} {k n : Int} {u : Nat} {s : ByteArray} (h : Aw w W p k n u s) : W.cell? ⟨p, 0, none⟩ = some (.int .u8 k) ∧ W.cell? ⟨p, 1, none⟩ = some (.int .i64 n) ∧ W.cell? ⟨p, 2, none⟩ = some (.int .u64 u) ∧ W.cell? ⟨p, 3, none⟩ = some (.string s) := h.2.1
end Go.Proofs.Ytmlcpedbpjghhaa
