/-
  Check of the program, walked: the other kinds.
-/
import Derived.Test.YtmlcpedbpjghhaaCmpW2
namespace Go.Proofs.Ytmlcpedbpjghhaa
open Go.RowKit

theorem sum_yes {n : Int} {l : List UInt8} (h : (!(0 : Int) == n) = true ∨ (!l.isEmpty) = true) : (2 : Int) = if n = 0 ∧ l.isEmpty = true then 0 else 2 := by
  rw [if_neg]
  rintro ⟨h1, h2⟩
  subst h1
  rw [h2] at h
  rcases h with h | h <;> cases h
theorem sum_no {n : Int} {l : List UInt8} (h : (!(0 : Int) == n) = false ∧ (!l.isEmpty) = false) : (0 : Int) = if n = 0 ∧ l.isEmpty = true then 0 else 2 := by
  have h1 := h.1
  have h2 := h.2
  simp at h1
  rw [if_pos ⟨by omega, by simpa using h2⟩]
theorem wrd_yes {n : Int} {u : Nat} (h : (!(0 : Int) == n) = true ∨ (!(0 : Int) == (u : Int)) = true) : (2 : Int) = if n = 0 ∧ u = 0 then 0 else 2 := by
  rw [if_neg]
  rintro ⟨h1, h2⟩
  subst h1 h2
  rcases h with h | h <;> cases h
theorem wrd_no {n : Int} {u : Nat} (h : (!(0 : Int) == n) = false ∧ (!(0 : Int) == (u : Int)) = false) : (0 : Int) = if n = 0 ∧ u = 0 then 0 else 2 := by
  have h1 := h.1
  have h2 := h.2
  simp at h1 h2
  rw [if_pos ⟨by omega, by omega⟩]
theorem check_flag (n : Int) (u : Nat) (s : ByteArray) (w : World) : Calls Try.prog 17 #[V 2 n u s] w fun e w' => e = .returned (.int .i64 (checkN 2 n u s)) ∧ Below w.heap.size w w' := by
  have a0 := as_flag_num n
  have a1 := as_flag n
  have HC := fun w => core_flag n u s w
  have HC' := Lib.hid HC
  clear HC
  unfold V at *
  by_cases r1 : n ≠ 0 ∧ n ≠ 1
  · have hk : checkN 2 n u s = 8 := by unfold checkN; rw [if_neg (by omega), if_neg (by omega), if_pos rfl, if_pos r1]
    have t1 : (n != 0) = true := by simpa using r1.1
    have t2 : (n != 1) = true := by simpa using r1.2
    have Hk := Lib.hid hk
    clear hk r1
    go_enter Try.func17, Try.ntmps17
    go_wp2_with (go_at_call 42; refine (HC'.out _).mono ?_; rintro e w1 ⟨rfl, hb⟩)
    go_ret
    exact ⟨retI Hk.out.symm, (one_box _ _).trans (hb.mono (by simp))⟩
  · have hk : checkN 2 n u s = if u = 0 ∧ s.toList.isEmpty = true then 0 else 2 := by unfold checkN; rw [if_neg (by omega), if_neg (by omega), if_pos rfl, if_neg r1]
    have Hk := Lib.hid hk
    clear hk
    have t1 : ((n != 0) && (n != 1)) = false := by
      cases h1 : (n != 0) <;> cases h2 : (n != 1) <;> simp_all
    obtain rfl | rfl : n = 0 ∨ n = 1 := by omega
    · clear t1 r1
      go_enter Try.func17, Try.ntmps17
      go_upto_region 21 with (go_at_call 42; refine (HC'.out _).mono ?_; rintro e w1 ⟨rfl, hb⟩)
      have hb1 : Below w.heap.size w w1 := (one_box _ _).trans (hb.mono (by simp))
      obtain ⟨hc, hf⟩ := bcell hb
      have hz : w.heap.size < w1.heap.size := by have := hb.size; simp at this; omega
      clear hb
      have heq := fun k n u k' n' u' s s' w => eq_V k n u k' n' u' s s' w
      have hm := call_flag 0
      go_region_held3 (fun w' => w'.cell? ⟨w.heap.size, 0, none⟩ = some (.int .u8 2) ∧ w'.cell? ⟨w.heap.size, 1, none⟩ = some (.int .i64 0) ∧ w'.cell? ⟨w.heap.size, 2, none⟩ = some (.int .u64 u) ∧ w'.cell? ⟨w.heap.size, 3, none⟩ = some (.string s)) (first | go_keep | exact ⟨(hc2 _ _ (by simpa using hz)).trans (by go_simp), (hc2 _ _ (by simpa using hz)).trans (by go_simp), (hc2 _ _ (by simpa using hz)).trans (by go_simp), (hc2 _ _ (by simpa using hz)).trans (by go_simp)⟩) (first | (go_at_call 108; refine (whole_flag 0 _).mono ?_; unfold V; rintro e w2 ⟨rfl, hb2⟩; obtain ⟨hc2, hf2⟩ := bcell hb2))
      have hb3 : Below w.heap.size w w2 := hb1.trans (below_drew' (hb2.mono (by simp; omega)))
      clear hc hf hc2 hf2 heq hm hb2
      go_wp2
      all_goals go_ret
      all_goals refine ⟨retI ?_, hb3⟩
      all_goals rw [Hk.out]
      · exact arg_yes (by assumption)
      · exact arg_no (by assumption)
    · clear t1 r1
      go_enter Try.func17, Try.ntmps17
      go_upto_region 21 with (go_at_call 42; refine (HC'.out _).mono ?_; rintro e w1 ⟨rfl, hb⟩)
      have hb1 : Below w.heap.size w w1 := (one_box _ _).trans (hb.mono (by simp))
      obtain ⟨hc, hf⟩ := bcell hb
      have hz : w.heap.size < w1.heap.size := by have := hb.size; simp at this; omega
      clear hb
      have heq := fun k n u k' n' u' s s' w => eq_V k n u k' n' u' s s' w
      have hm := call_flag 1
      go_region_held3 (fun w' => w'.cell? ⟨w.heap.size, 0, none⟩ = some (.int .u8 2) ∧ w'.cell? ⟨w.heap.size, 1, none⟩ = some (.int .i64 1) ∧ w'.cell? ⟨w.heap.size, 2, none⟩ = some (.int .u64 u) ∧ w'.cell? ⟨w.heap.size, 3, none⟩ = some (.string s)) (first | go_keep | exact ⟨(hc2 _ _ (by simpa using hz)).trans (by go_simp), (hc2 _ _ (by simpa using hz)).trans (by go_simp), (hc2 _ _ (by simpa using hz)).trans (by go_simp), (hc2 _ _ (by simpa using hz)).trans (by go_simp)⟩) (first | (go_at_call 108; refine (whole_flag 1 _).mono ?_; unfold V; rintro e w2 ⟨rfl, hb2⟩; obtain ⟨hc2, hf2⟩ := bcell hb2))
      have hb3 : Below w.heap.size w w2 := hb1.trans (below_drew' (hb2.mono (by simp; omega)))
      clear hc hf hc2 hf2 heq hm hb2
      go_wp2
      all_goals go_ret
      all_goals refine ⟨retI ?_, hb3⟩
      all_goals rw [Hk.out]
      · exact arg_yes (by assumption)
      · exact arg_no (by assumption)
theorem check_double (n : Int) (u : Nat) (s : ByteArray) (w : World) : Calls Try.prog 17 #[V 3 n u s] w fun e w' => e = .returned (.int .i64 (checkN 3 n u s)) ∧ Below w.heap.size w w' := by
  have a0 := as_double_num u
  have a1 := as_double_flag u
  have a2 := as_double u
  have HC := fun w => core_double n u s w
  have HC' := Lib.hid HC
  clear HC
  unfold V at *
  by_cases r1 : cleanN u = u
  · have hk : checkN 3 n u s = if n = 0 ∧ s.toList.isEmpty = true then 0 else 2 := by unfold checkN; rw [if_neg (by omega), if_neg (by omega), if_neg (by omega), if_pos rfl, if_neg (fun h => h r1)]
    have Hk := Lib.hid hk
    have t1 : (((cleanN u : Nat) : Int) != (u : Int)) = false := by rw [r1]; simp
    clear hk r1
    go_enter Try.func17, Try.ntmps17
    go_upto_region 21 with (first | (go_at_call 42; refine (HC'.out _).mono ?_; rintro e w1 ⟨rfl, hb⟩) | (go_at_call 43; refine (clean_ok u _).mono ?_; rintro e w' ⟨rfl, rfl⟩))
    have hb1 : Below w.heap.size w w1 := (one_box _ _).trans (hb.mono (by simp))
    obtain ⟨hc, hf⟩ := bcell hb
    have hz : w.heap.size < w1.heap.size := by have := hb.size; simp at this; omega
    clear hb
    have heq := fun k n u k' n' u' s s' w => eq_V k n u k' n' u' s s' w
    have hm := call_double u
    go_region_held3 (fun w' => w'.cell? ⟨w.heap.size, 0, none⟩ = some (.int .u8 3) ∧ w'.cell? ⟨w.heap.size, 1, none⟩ = some (.int .i64 n) ∧ w'.cell? ⟨w.heap.size, 2, none⟩ = some (.int .u64 u) ∧ w'.cell? ⟨w.heap.size, 3, none⟩ = some (.string s)) (first | go_keep | exact ⟨(hc2 _ _ (by simpa using hz)).trans (by go_simp), (hc2 _ _ (by simpa using hz)).trans (by go_simp), (hc2 _ _ (by simpa using hz)).trans (by go_simp), (hc2 _ _ (by simpa using hz)).trans (by go_simp)⟩) (first | (go_at_call 109; refine (whole_double u _).mono ?_; unfold V; rintro e w2 ⟨rfl, hb2⟩; obtain ⟨hc2, hf2⟩ := bcell hb2))
    have hb3 : Below w.heap.size w w2 := hb1.trans (below_drew' (hb2.mono (by simp; omega)))
    clear hc hf hc2 hf2 heq hm hb2
    go_wp2
    all_goals go_ret
    all_goals refine ⟨retI ?_, hb3⟩
    all_goals rw [Hk.out]
    · exact sum_yes (by assumption)
    · exact sum_no (by assumption)
  · have hk : checkN 3 n u s = 4 := by unfold checkN; rw [if_neg (by omega), if_neg (by omega), if_neg (by omega), if_pos rfl, if_pos r1]
    have t1 : (((cleanN u : Nat) : Int) != (u : Int)) = true := by simp; omega
    have Hk := Lib.hid hk
    clear hk r1
    go_enter Try.func17, Try.ntmps17
    go_wp2_with (first | (go_at_call 42; refine (HC'.out _).mono ?_; rintro e w1 ⟨rfl, hb⟩) | (go_at_call 43; refine (clean_ok u _).mono ?_; rintro e w' ⟨rfl, rfl⟩))
    go_ret
    exact ⟨retI Hk.out.symm, (one_box _ _).trans (hb.mono (by simp))⟩
theorem check_words (n : Int) (u : Nat) (s : ByteArray) (w : World) : Calls Try.prog 17 #[V 4 n u s] w fun e w' => e = .returned (.int .i64 (checkN 4 n u s)) ∧ Below w.heap.size w w' := by
  have a0 := as_words_num s
  have a1 := as_words_flag s
  have a2 := as_words_double s
  have a3 := as_words s
  have HC := fun w => core_words n u s w
  have HC' := Lib.hid HC
  clear HC
  unfold V at *
  by_cases r1 : (24 : Int) < s.size
  · have hk : checkN 4 n u s = 5 := by unfold checkN; rw [if_neg (by omega), if_neg (by omega), if_neg (by omega), if_neg (by omega), if_pos r1]
    have Hk := Lib.hid hk
    clear hk
    go_enter Try.func17, Try.ntmps17
    go_wp2_with (go_at_call 42; refine (HC'.out _).mono ?_; rintro e w1 ⟨rfl, hb⟩)
    go_ret
    exact ⟨retI Hk.out.symm, (one_box _ _).trans (hb.mono (by simp))⟩
  · have hk : checkN 4 n u s = if n = 0 ∧ u = 0 then 0 else 2 := by unfold checkN; rw [if_neg (by omega), if_neg (by omega), if_neg (by omega), if_neg (by omega), if_neg r1]
    have Hk := Lib.hid hk
    clear hk
    go_enter Try.func17, Try.ntmps17
    go_upto_region 21 with (go_at_call 42; refine (HC'.out _).mono ?_; rintro e w1 ⟨rfl, hb⟩)
    have hb1 : Below w.heap.size w w1 := (one_box _ _).trans (hb.mono (by simp))
    obtain ⟨hc, hf⟩ := bcell hb
    have hz : w.heap.size < w1.heap.size := by have := hb.size; simp at this; omega
    clear hb
    have heq := fun k n u k' n' u' s s' w => eq_V k n u k' n' u' s s' w
    have hm := call_words s
    go_region_held3 (fun w' => w'.cell? ⟨w.heap.size, 0, none⟩ = some (.int .u8 4) ∧ w'.cell? ⟨w.heap.size, 1, none⟩ = some (.int .i64 n) ∧ w'.cell? ⟨w.heap.size, 2, none⟩ = some (.int .u64 u) ∧ w'.cell? ⟨w.heap.size, 3, none⟩ = some (.string s)) (first | go_keep | exact ⟨(hc2 _ _ (by simpa using hz)).trans (by go_simp), (hc2 _ _ (by simpa using hz)).trans (by go_simp), (hc2 _ _ (by simpa using hz)).trans (by go_simp), (hc2 _ _ (by simpa using hz)).trans (by go_simp)⟩) (first | (go_at_call 110; refine (whole_words s _).mono ?_; unfold V; rintro e w2 ⟨rfl, hb2⟩; obtain ⟨hc2, hf2⟩ := bcell hb2))
    have hb3 : Below w.heap.size w w2 := hb1.trans (below_drew' (hb2.mono (by simp; omega)))
    clear hc hf hc2 hf2 heq hm hb2
    go_wp2
    all_goals go_ret
    all_goals refine ⟨retI ?_, hb3⟩
    all_goals rw [Hk.out]
    · exact wrd_yes (by assumption)
    · exact wrd_no (by assumption)
end Go.Proofs.Ytmlcpedbpjghhaa
