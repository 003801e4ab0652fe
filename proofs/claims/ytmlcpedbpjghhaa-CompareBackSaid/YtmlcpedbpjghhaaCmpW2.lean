/-
  Check of the program, walked.
-/
import Derived.Test.YtmlcpedbpjghhaaCmpW1
import Derived.Test.YtmlcpedbpjghhaaRealW4
namespace Go.Proofs.Ytmlcpedbpjghhaa
open Go.RowKit

theorem as_num (n : Int) (w : World) : (Instr.typeAssert (.iface 64 (.int .i64 n)) 62 64 true).run Try.prog w = .ok (.tuple #[.int .i64 n, .bool true]) w := by kernel_rfl
theorem as_flag (n : Int) (w : World) : (Instr.typeAssert (.iface 65 (.int .i64 n)) 62 65 true).run Try.prog w = .ok (.tuple #[.int .i64 n, .bool true]) w := by kernel_rfl
theorem as_flag_num (n : Int) (w : World) : (Instr.typeAssert (.iface 65 (.int .i64 n)) 62 64 true).run Try.prog w = .ok (.tuple #[.int .i64 0, .bool false]) w := by kernel_rfl
theorem as_double (n : Int) (w : World) : (Instr.typeAssert (.iface 66 (.int .u64 n)) 62 66 true).run Try.prog w = .ok (.tuple #[.int .u64 n, .bool true]) w := by kernel_rfl
theorem as_double_num (n : Int) (w : World) : (Instr.typeAssert (.iface 66 (.int .u64 n)) 62 64 true).run Try.prog w = .ok (.tuple #[.int .i64 0, .bool false]) w := by kernel_rfl
theorem as_double_flag (n : Int) (w : World) : (Instr.typeAssert (.iface 66 (.int .u64 n)) 62 65 true).run Try.prog w = .ok (.tuple #[.int .i64 0, .bool false]) w := by kernel_rfl
theorem as_words (s : ByteArray) (w : World) : (Instr.typeAssert (.iface 67 (.string s)) 62 67 true).run Try.prog w = .ok (.tuple #[.string s, .bool true]) w := by kernel_rfl
theorem as_words_num (s : ByteArray) (w : World) : (Instr.typeAssert (.iface 67 (.string s)) 62 64 true).run Try.prog w = .ok (.tuple #[.int .i64 0, .bool false]) w := by kernel_rfl
theorem as_words_flag (s : ByteArray) (w : World) : (Instr.typeAssert (.iface 67 (.string s)) 62 65 true).run Try.prog w = .ok (.tuple #[.int .i64 0, .bool false]) w := by kernel_rfl
theorem as_words_double (s : ByteArray) (w : World) : (Instr.typeAssert (.iface 67 (.string s)) 62 66 true).run Try.prog w = .ok (.tuple #[.int .u64 0, .bool false]) w := by kernel_rfl
theorem as_nil_num (w : World) : (Instr.typeAssert .nilIface 62 64 true).run Try.prog w = .ok (.tuple #[.int .i64 0, .bool false]) w := by kernel_rfl
theorem as_nil_flag (w : World) : (Instr.typeAssert .nilIface 62 65 true).run Try.prog w = .ok (.tuple #[.int .i64 0, .bool false]) w := by kernel_rfl
theorem as_nil_double (w : World) : (Instr.typeAssert .nilIface 62 66 true).run Try.prog w = .ok (.tuple #[.int .u64 0, .bool false]) w := by kernel_rfl
theorem as_nil_words (w : World) : (Instr.typeAssert .nilIface 62 67 true).run Try.prog w = .ok (.tuple #[.string ⟨#[]⟩, .bool false]) w := by kernel_rfl

theorem bcell {W w1 : World} (hb : Below W.heap.size W w1) : (∀ b o, b < W.heap.size → w1.cell? ⟨b, o, none⟩ = W.cell? ⟨b, o, none⟩) ∧ (∀ b o, b < W.heap.size → w1.frozen? ⟨b, o, none⟩ = W.frozen? ⟨b, o, none⟩) :=
  ⟨fun b o h => hb.cell (p := ⟨b, o, none⟩) h, fun b o h => hb.frozen (p := ⟨b, o, none⟩) h⟩

theorem below_drew' {B : Nat} {a w : World} (h : Below B a.drew w) : Below B a w := ⟨h.os, h.tape, h.output, h.size, h.block⟩
theorem check_none (k n : Int) (u : Nat) (s : ByteArray) (hk : k < 1 ∨ 4 < k) (w : World) : Calls Try.prog 17 #[V k n u s] w fun e w' => e = .returned (.int .i64 11) ∧ Below w.heap.size w w' := by
  have h1 := as_nil_num
  have h2 := as_nil_flag
  have h3 := as_nil_double
  have h4 := as_nil_words
  have HC := fun w => core_none k n u s hk w
  have HC' := Lib.hid HC
  clear HC hk
  unfold V at *
  go_enter Try.func17, Try.ntmps17
  go_wp2_with (go_at_call 42; refine (HC'.out _).mono ?_; rintro e w1 ⟨rfl, hb⟩)
  go_ret
  exact ⟨rfl, (one_box _ _).trans (hb.mono (by simp))⟩
theorem eq_V (k n u k' n' u' : Int) (s s' : ByteArray) (w : World) : (binOp .neq 28 (.agg #[.int .u8 k, .int .i64 n, .int .u64 u, .string s]) (.agg #[.int .u8 k', .int .i64 n', .int .u64 u', .string s'])).run Try.prog w = .ok (.bool (!(k == k' && n == n' && u == u' && s.toList == s'.toList))) w := by
  simp only [binOp]
  simp [Op.equal, Op.maxDepth, run_equalIn_struct (P := Try.prog) w 9999 28 _ _ (by rfl) (by kernel_rfl), go_sem]
  by_cases h1 : k = k' <;> by_cases h2 : n = n' <;> by_cases h3 : u = u' <;> by_cases h4 : s.toList = s'.toList <;> simp [h1, h2, h3, h4]
theorem call_num (n : Int) (w : World) : (callMethod (.iface 64 (.int .i64 n)) "telltale/value.whole" #[]).run Try.prog w = .ok (.enter 107 #[.int .i64 n]) w := by kernel_rfl
theorem call_flag (n : Int) (w : World) : (callMethod (.iface 65 (.int .i64 n)) "telltale/value.whole" #[]).run Try.prog w = .ok (.enter 108 #[.int .i64 n]) w := by kernel_rfl
theorem call_double (n : Int) (w : World) : (callMethod (.iface 66 (.int .u64 n)) "telltale/value.whole" #[]).run Try.prog w = .ok (.enter 109 #[.int .u64 n]) w := by kernel_rfl
theorem call_words (s : ByteArray) (w : World) : (callMethod (.iface 67 (.string s)) "telltale/value.whole" #[]).run Try.prog w = .ok (.enter 110 #[.string s]) w := by kernel_rfl
/-- an error's number of a value, or 0 -/
def checkN (k n : Int) (u : Nat) (s : ByteArray) : Int :=
  if k < 1 ∨ 4 < k then 11
  else if k = 1 then (if n < -4611686018427387904 ∨ 4611686018427387904 < n then 8 else if u = 0 ∧ s.toList.isEmpty = true then 0 else 2)
  else if k = 2 then (if n ≠ 0 ∧ n ≠ 1 then 8 else if u = 0 ∧ s.toList.isEmpty = true then 0 else 2)
  else if k = 3 then (if cleanN u ≠ u then 4 else if n = 0 ∧ s.toList.isEmpty = true then 0 else 2)
  else (if (24 : Int) < s.size then 5 else if n = 0 ∧ u = 0 then 0 else 2)

theorem arg_yes {u : Nat} {l : List UInt8} (h : (!(0 : Int) == (u : Int)) = true ∨ (!l.isEmpty) = true) : (2 : Int) = if u = 0 ∧ l.isEmpty = true then 0 else 2 := by
  rw [if_neg]
  rintro ⟨h1, h2⟩
  subst h1
  rw [h2] at h
  rcases h with h | h <;> cases h
theorem arg_no {u : Nat} {l : List UInt8} (h : (!(0 : Int) == (u : Int)) = false ∧ (!l.isEmpty) = false) : (0 : Int) = if u = 0 ∧ l.isEmpty = true then 0 else 2 := by
  have h1 := h.1
  have h2 := h.2
  simp at h1
  rw [if_pos ⟨by omega, by simpa using h2⟩]
theorem check_num (n : Int) (u : Nat) (s : ByteArray) (w : World) : Calls Try.prog 17 #[V 1 n u s] w fun e w' => e = .returned (.int .i64 (checkN 1 n u s)) ∧ Below w.heap.size w w' := by
  have h1 := as_num n
  have HC := fun w => core_num n u s w
  have HC' := Lib.hid HC
  clear HC
  unfold V at *
  by_cases r1 : n < -4611686018427387904
  · have hk : checkN 1 n u s = 8 := by unfold checkN; rw [if_neg (by omega), if_pos rfl, if_pos (.inl r1)]
    have Hk := Lib.hid hk
    clear hk
    go_enter Try.func17, Try.ntmps17
    go_wp2_with (go_at_call 42; refine (HC'.out _).mono ?_; rintro e w1 ⟨rfl, hb⟩)
    go_ret
    exact ⟨retI Hk.out.symm, (one_box _ _).trans (hb.mono (by simp))⟩
  · by_cases r2 : 4611686018427387904 < n
    · have hk : checkN 1 n u s = 8 := by unfold checkN; rw [if_neg (by omega), if_pos rfl, if_pos (.inr r2)]
      have Hk := Lib.hid hk
      clear hk
      go_enter Try.func17, Try.ntmps17
      go_wp2_with (go_at_call 42; refine (HC'.out _).mono ?_; rintro e w1 ⟨rfl, hb⟩)
      go_ret
      exact ⟨retI Hk.out.symm, (one_box _ _).trans (hb.mono (by simp))⟩
    · have hk : checkN 1 n u s = if u = 0 ∧ s.toList.isEmpty = true then 0 else 2 := by unfold checkN; rw [if_neg (by omega), if_pos rfl, if_neg (by omega)]
      have Hk := Lib.hid hk
      clear hk
      go_enter Try.func17, Try.ntmps17
      go_upto_region 21 with (go_at_call 42; refine (HC'.out _).mono ?_; rintro e w1 ⟨rfl, hb⟩)
      have hb1 : Below w.heap.size w w1 := (one_box _ _).trans (hb.mono (by simp))
      obtain ⟨hc, hf⟩ := bcell hb
      have hz : w.heap.size < w1.heap.size := by have := hb.size; simp at this; omega
      clear hb
      have heq := fun k n u k' n' u' s s' w => eq_V k n u k' n' u' s s' w
      have hm := call_num n
      go_region_held3 (fun w' => w'.cell? ⟨w.heap.size, 0, none⟩ = some (.int .u8 1) ∧ w'.cell? ⟨w.heap.size, 1, none⟩ = some (.int .i64 n) ∧ w'.cell? ⟨w.heap.size, 2, none⟩ = some (.int .u64 u) ∧ w'.cell? ⟨w.heap.size, 3, none⟩ = some (.string s)) (first | go_keep | exact ⟨(hc2 _ _ (by simpa using hz)).trans (by go_simp), (hc2 _ _ (by simpa using hz)).trans (by go_simp), (hc2 _ _ (by simpa using hz)).trans (by go_simp), (hc2 _ _ (by simpa using hz)).trans (by go_simp)⟩) (first | (go_at_call 107; refine (whole_num n _).mono ?_; unfold V; rintro e w2 ⟨rfl, hb2⟩; obtain ⟨hc2, hf2⟩ := bcell hb2))
      have hb3 : Below w.heap.size w w2 := hb1.trans (below_drew' (hb2.mono (by simp; omega)))
      clear hc hf hc2 hf2 heq hm hb2
      go_wp2
      all_goals go_ret
      all_goals refine ⟨retI ?_, hb3⟩
      all_goals rw [Hk.out]
      · exact arg_yes (by assumption)
      · exact arg_no (by assumption)
end Go.Proofs.Ytmlcpedbpjghhaa
