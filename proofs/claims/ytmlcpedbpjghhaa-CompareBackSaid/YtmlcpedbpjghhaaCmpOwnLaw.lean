/-
  The laws of layer 5 without the document, on plain functions.
-/
import Derived.Test.YtmlcpedbpjghhaaCmpOrdLaw
namespace Go.Proofs.Ytmlcpedbpjghhaa

theorem says_eq (i : Int) : saysB 1 (-i) = saysB 1 i ∧ saysB 5 (-i) = saysB 3 i ∧ saysB 6 (-i) = saysB 4 i ∧ saysB 2 i = !saysB 1 i := by
  unfold saysB
  simp
theorem nan_of {k : Int} {u : Nat} (hz : k ≠ 3 → u = 0) (h : nanK k u = false) : isNan u = false := by
  by_cases hk : k = 3
  · unfold nanK at h; rw [hk] at h; simpa using h
  · rw [hz hk]; exact nan_zero
theorem nan_if {k : Int} {u : Nat} (h : nanK k u = true) : isNan u = true := by
  unfold nanK at h
  simp at h
  exact h.2
/-- what CompareOne asks -/
theorem one_law {k n : Int} {u : Nat} {s : ByteArray} {k' n' : Int} {u' : Nat} {s' : ByteArray} (h : checkN k n u s = 0) (h' : checkN k' n' u' s' = 0) :
    holdsB 1 k' n' u' s' k n u s = holdsB 1 k n u s k' n' u' s' ∧ holdsB 5 k' n' u' s' k n u s = holdsB 3 k n u s k' n' u' s' ∧ holdsB 6 k' n' u' s' k n u s = holdsB 4 k n u s k' n' u' s' ∧ holdsB 2 k n u s k' n' u' s' = !holdsB 1 k n u s k' n' u' s' ∧
    ((fitsB k k' = false ∨ isNan u = true ∨ isNan u' = true) → holdsB 3 k n u s k' n' u' s' = false ∧ holdsB 4 k n u s k' n' u' s' = false ∧ holdsB 5 k n u s k' n' u' s' = false ∧ holdsB 6 k n u s k' n' u' s' = false ∧
      holdsB 1 k n u s k' n' u' s' = ((k == k' && n == n' && ((u : Int) == (u' : Int)) && s.toList == s'.toList) && k == 2)) ∧
    (fitsB k k' = true → isNan u = false → isNan u' = false → ∃ i : Int, ∀ op, holdsB op k n u s k' n' u' s' = saysB op i) := by
  have f := check_facts h
  have f' := check_facts h'
  rcases kin_of h h' with ⟨hb, hf⟩ | ⟨rfl, rfl⟩ | ⟨hk, hk', hn⟩ | ⟨hk, hk', hn, hn'⟩ | ⟨rfl, rfl⟩
  · have hs : both k' k = false := by rw [both_swap]; exact hb
    have he : (k == k') = false := by unfold both at hb; simp only [Bool.or_eq_false_iff] at hb; exact hb.1
    simp only [hold_apart h h' hb, hold_apart h' h hs, hf, he]
    exact ⟨by decide, by decide, by decide, by decide, fun _ => ⟨by decide, by decide, by decide, by decide, by simp⟩, fun e => by cases e⟩
  · have e1 : holdsB 1 2 n u s 2 n' u' s' = decide (n = n') := by rw [hold_flags h h', if_pos rfl]
    have e2 : holdsB 2 2 n u s 2 n' u' s' = decide (n ≠ n') := by rw [hold_flags h h', if_neg (by omega), if_pos rfl]
    have e3 : ∀ op : Int, op ≠ 1 → op ≠ 2 → holdsB op 2 n u s 2 n' u' s' = false := fun op a b => by rw [hold_flags h h', if_neg a, if_neg b]
    have r1 : holdsB 1 2 n' u' s' 2 n u s = decide (n' = n) := by rw [hold_flags h' h, if_pos rfl]
    have r3 : ∀ op : Int, op ≠ 1 → op ≠ 2 → holdsB op 2 n' u' s' 2 n u s = false := fun op a b => by rw [hold_flags h' h, if_neg a, if_neg b]
    have hf : fitsB 2 2 = false := by decide
    rw [e1, e2, e3 3 (by omega) (by omega), e3 4 (by omega) (by omega), e3 5 (by omega) (by omega), e3 6 (by omega) (by omega), r1, r3 5 (by omega) (by omega), r3 6 (by omega) (by omega)]
    refine ⟨?_, rfl, rfl, ?_, fun _ => ⟨rfl, rfl, rfl, rfl, ?_⟩, fun e => by rw [hf] at e; cases e⟩
    · rw [decide_eq_decide]; omega
    · rw [← decide_not]
    · rw [f.2.2.1 (by omega), f'.2.2.1 (by omega), f.2.2.2.1 (by omega), f'.2.2.2.1 (by omega)]
      rw [Bool.eq_iff_iff]; simp
  · have k2 : (k == 2) = false := by have := num_cases hk; simp; omega
    simp only [hold_nan h h' hk hk' hn, hold_nan h' h hk' hk hn.symm, k2, Bool.and_false]
    refine ⟨by decide, by decide, by decide, by decide, fun _ => ⟨by decide, by decide, by decide, by decide, by decide⟩, fun _ e1 e2 => ?_⟩
    rcases hn with e | e
    · rw [nan_if e] at e1; cases e1
    · rw [nan_if e] at e2; cases e2
  · have hf : fitsB k k' = true := by unfold fitsB; rw [hk, hk']; rfl
    simp only [hold_nums h h' hk hk' hn hn', hold_nums h' h hk' hk hn' hn, cmpI_neg (numK k n u)]
    obtain ⟨e1, e2, e3, e4⟩ := says_eq (cmpI (numK k n u) (numK k' n' u'))
    refine ⟨e1, e2, e3, e4, fun e => ?_, fun _ _ _ => ⟨_, fun _ => rfl⟩⟩
    rw [hf, nan_of f.2.2.1 hn, nan_of f'.2.2.1 hn'] at e
    simp at e
  · have hz := f.2.2.1 (by omega)
    have hz' := f'.2.2.1 (by omega)
    simp only [hold_texts h h', hold_texts h' h, cmpT_neg s.toList]
    obtain ⟨e1, e2, e3, e4⟩ := says_eq (cmpT s.toList s'.toList)
    refine ⟨e1, e2, e3, e4, fun e => ?_, fun _ _ _ => ⟨_, fun _ => rfl⟩⟩
    have hf : fitsB 4 4 = true := by decide
    rw [hz, hz', nan_zero, hf] at e
    simp at e

theorem says_lt {i : Int} : saysB 3 i = true ↔ i < 0 := by unfold saysB; simp
theorem says_le {i : Int} : saysB 4 i = true ↔ i ≤ 0 := by unfold saysB; simp
theorem says_is {i : Int} : saysB 1 i = true ↔ i = 0 := by unfold saysB; simp
theorem cmpI_lt {a b : Int} : cmpI a b < 0 ↔ a < b := by
  unfold cmpI; split
  · omega
  · split <;> omega
theorem cmpI_le {a b : Int} : cmpI a b ≤ 0 ↔ a ≤ b := by
  unfold cmpI; split
  · omega
  · split <;> omega
theorem cmpI_is {a b : Int} : cmpI a b = 0 ↔ a = b := by
  unfold cmpI; split
  · omega
  · split <;> omega
theorem cmpT_lt {a b : List UInt8} : cmpT a b < 0 ↔ Op.bytesLess a b = true := by
  rcases cmpT_cases a b with ⟨h1, h2⟩ | ⟨h1, h2⟩ | ⟨h1, h2⟩
  · simp [h1, h2]
  · rw [h1, h2, bl_irrefl]; simp
  · rw [h1, bl_asymm h2]; simp
theorem cmpT_is {a b : List UInt8} : cmpT a b = 0 ↔ a = b := by
  rcases cmpT_cases a b with ⟨h1, h2⟩ | ⟨h1, h2⟩ | ⟨h1, h2⟩
  · rw [h1]; constructor
    · omega
    · rintro rfl; rw [bl_irrefl] at h2; cases h2
  · rw [h1]; simp [h2]
  · rw [h1]; constructor
    · omega
    · rintro rfl; rw [bl_irrefl] at h2; cases h2
/-- two values of which a test holds that asks for an order -/
theorem hold_inv {op k n : Int} {u : Nat} {s : ByteArray} {k' n' : Int} {u' : Nat} {s' : ByteArray} (hop : op = 1 ∨ op = 3 ∨ op = 4) (hh : holdsB op k n u s k' n' u' s' = true) :
    checkN k n u s = 0 ∧ checkN k' n' u' s' = 0 ∧ ((numB k = true ∧ numB k' = true ∧ nanK k u = false ∧ nanK k' u' = false ∧ saysB op (cmpI (numK k n u) (numK k' n' u')) = true) ∨ (k = 4 ∧ k' = 4 ∧ saysB op (cmpT s.toList s'.toList) = true) ∨ (k = 2 ∧ k' = 2 ∧ op = 1 ∧ n = n')) := by
  have o2 : (op == 2) = false := by simp; omega
  have hc : checkN k n u s = 0 ∧ checkN k' n' u' s' = 0 := by
    by_cases e : checkN k n u s ≠ 0 ∨ checkN k' n' u' s' ≠ 0
    · unfold holdsB at hh; rw [if_pos e] at hh; cases hh
    · omega
  obtain ⟨h, h'⟩ := hc
  refine ⟨h, h', ?_⟩
  rcases kin_of h h' with ⟨hb, hf⟩ | ⟨rfl, rfl⟩ | ⟨hk, hk', hn⟩ | ⟨hk, hk', hn, hn'⟩ | ⟨rfl, rfl⟩
  · rw [hold_apart h h' hb, o2] at hh; cases hh
  · rw [hold_flags h h'] at hh
    by_cases e : op = 1
    · rw [if_pos e] at hh
      exact .inr (.inr ⟨rfl, rfl, e, by simpa using hh⟩)
    · rw [if_neg e, if_neg (by omega)] at hh; cases hh
  · rw [hold_nan h h' hk hk' hn, o2] at hh; cases hh
  · rw [hold_nums h h' hk hk' hn hn'] at hh
    exact .inl ⟨hk, hk', hn, hn', hh⟩
  · rw [hold_texts h h'] at hh
    exact .inr (.inl ⟨rfl, rfl, hh⟩)
theorem num_four {k : Int} (h : numB k = true) : k ≠ 4 ∧ k ≠ 2 := by have := num_cases h; omega
/-- what CompareChain asks -/
theorem chain_law {k n : Int} {u : Nat} {s : ByteArray} {k' n' : Int} {u' : Nat} {s' : ByteArray} {l m : Int} {v : Nat} {t : ByteArray} :
    (holdsB 3 k n u s k' n' u' s' = true → holdsB 4 k' n' u' s' l m v t = true → holdsB 3 k n u s l m v t = true) ∧
    (holdsB 4 k n u s k' n' u' s' = true → holdsB 3 k' n' u' s' l m v t = true → holdsB 3 k n u s l m v t = true) ∧
    (holdsB 1 k n u s k' n' u' s' = true → holdsB 1 k' n' u' s' l m v t = true → holdsB 1 k n u s l m v t = true) := by
  refine ⟨fun h1 h2 => ?_, fun h1 h2 => ?_, fun h1 h2 => ?_⟩
  · obtain ⟨c1, c2, a⟩ := hold_inv (.inr (.inl rfl)) h1
    obtain ⟨_, c3, b⟩ := hold_inv (.inr (.inr rfl)) h2
    rcases a with ⟨a1, a2, a3, a4, a5⟩ | ⟨a1, a2, a3⟩ | ⟨_, _, a3, _⟩
    · rcases b with ⟨b1, b2, b3, b4, b5⟩ | ⟨b1, b2, b3⟩ | ⟨b1, _, _⟩
      · rw [hold_nums c1 c3 a1 b2 a3 b4, says_lt, cmpI_lt]
        rw [says_lt, cmpI_lt] at a5
        rw [says_le, cmpI_le] at b5
        omega
      · exact absurd b1 (num_four a2).1
      · exact absurd b1 (num_four a2).2
    · rcases b with ⟨b1, b2, b3, b4, b5⟩ | ⟨b1, b2, b3⟩ | ⟨b1, _, b3, _⟩
      · exact absurd a2 (num_four b1).1
      · subst a1 a2 b2
        rw [hold_texts c1 c3, says_lt, cmpT_lt]
        rw [says_lt, cmpT_lt] at a3
        rw [says_le] at b3
        rcases Int.lt_or_eq_of_le b3 with e | e
        · exact bl_trans a3 (cmpT_lt.1 e)
        · rw [← cmpT_is.1 e]; exact a3
      · omega
    · omega
  · obtain ⟨c1, c2, a⟩ := hold_inv (.inr (.inr rfl)) h1
    obtain ⟨_, c3, b⟩ := hold_inv (.inr (.inl rfl)) h2
    rcases a with ⟨a1, a2, a3, a4, a5⟩ | ⟨a1, a2, a3⟩ | ⟨_, _, a3, _⟩
    · rcases b with ⟨b1, b2, b3, b4, b5⟩ | ⟨b1, b2, b3⟩ | ⟨b1, _, _⟩
      · rw [hold_nums c1 c3 a1 b2 a3 b4, says_lt, cmpI_lt]
        rw [says_le, cmpI_le] at a5
        rw [says_lt, cmpI_lt] at b5
        omega
      · exact absurd b1 (num_four a2).1
      · exact absurd b1 (num_four a2).2
    · rcases b with ⟨b1, b2, b3, b4, b5⟩ | ⟨b1, b2, b3⟩ | ⟨b1, _, b3, _⟩
      · exact absurd a2 (num_four b1).1
      · subst a1 a2 b2
        rw [hold_texts c1 c3, says_lt, cmpT_lt]
        rw [says_le] at a3
        rw [says_lt, cmpT_lt] at b3
        rcases Int.lt_or_eq_of_le a3 with e | e
        · exact bl_trans (cmpT_lt.1 e) b3
        · rw [cmpT_is.1 e]; exact b3
      · omega
    · omega
  · obtain ⟨c1, c2, a⟩ := hold_inv (.inl rfl) h1
    obtain ⟨_, c3, b⟩ := hold_inv (.inl rfl) h2
    rcases a with ⟨a1, a2, a3, a4, a5⟩ | ⟨a1, a2, a3⟩ | ⟨a1, a2, _, a4⟩
    · rcases b with ⟨b1, b2, b3, b4, b5⟩ | ⟨b1, b2, b3⟩ | ⟨b1, _, _⟩
      · rw [hold_nums c1 c3 a1 b2 a3 b4, says_is, cmpI_is]
        rw [says_is, cmpI_is] at a5 b5
        omega
      · exact absurd b1 (num_four a2).1
      · exact absurd b1 (num_four a2).2
    · rcases b with ⟨b1, b2, b3, b4, b5⟩ | ⟨b1, b2, b3⟩ | ⟨b1, _, _, _⟩
      · exact absurd a2 (num_four b1).1
      · subst a1 a2 b2
        rw [hold_texts c1 c3, says_is, cmpT_is]
        rw [says_is, cmpT_is] at a3 b3
        rw [a3, b3]
      · omega
    · rcases b with ⟨b1, b2, b3, b4, b5⟩ | ⟨b1, b2, b3⟩ | ⟨b1, b2, _, b4⟩
      · exact absurd a2 (num_four b1).2
      · omega
      · subst a1 a2 b2
        rw [hold_flags c1 c3, if_pos rfl]
        simp; omega

theorem text_nil {s : ByteArray} (h : s.toList = []) : s = ⟨#[]⟩ := by
  rw [ByteArray.toList_eq] at h
  have h2 : s.data = #[] := by simpa using h
  cases s
  simp only at h2
  rw [h2]
theorem sumB_swap (k n : Int) (u : Nat) (s : ByteArray) (k' n' : Int) (u' : Nat) (s' : ByteArray) : sumB k' n' u' s' k n u s = sumB k n u s k' n' u' s' := by
  unfold sumB
  cases (checkN k n u s == 0) <;> cases (checkN k' n' u' s' == 0) <;> cases numB k <;> cases numB k' <;> rfl
theorem wsum_swap (a b : Int) : wsumV b a = wsumV a b := by
  have h : wholeOk b a = wholeOk a b := by unfold wholeOk; rw [Int.add_comm]
  unfold wsumV
  rw [h, Int.add_comm]
theorem plus_swap {k n : Int} {u : Nat} {s : ByteArray} {k' n' : Int} {u' : Nat} {s' : ByteArray} (hu : u < 18446744073709551616) (hu' : u' < 18446744073709551616) : plusV k' n' u' s' k n u s = plusV k n u s k' n' u' s' := by
  unfold plusV
  rw [sumB_swap, wsum_swap]
  unfold realV
  rw [sum_swap (dblV_lt k n hu) (dblV_lt k' n' hu')]
  congr 1
  by_cases h : k = 1 ∧ k' = 1
  · rw [if_pos h, if_pos h.symm]
  · rw [if_neg h, if_neg (fun e => h e.symm)]
theorem sumK_real {k k' : Int} (h : numB k = true) (h' : numB k' = true) (hn : ¬ (k = 1 ∧ k' = 1)) : sumK k k' = 3 := by
  unfold sumK
  rw [if_pos ⟨h, h'⟩]
  have := num_cases h
  have := num_cases h'
  omega
theorem check_whole {n : Int} (h : -4611686018427387904 ≤ n ∧ n ≤ 4611686018427387904) : checkN 1 n 0 ⟨#[]⟩ = 0 := by
  unfold checkN
  rw [if_neg (by omega), if_pos rfl, if_neg (by omega), if_pos ⟨rfl, by decide +kernel⟩]
theorem check_double' (u : Nat) : checkN 3 0 (cleanN u) ⟨#[]⟩ = 0 := by
  have hi : cleanN (cleanN u) = cleanN u := clean_clean u
  unfold checkN
  rw [if_neg (by omega), if_neg (by omega), if_neg (by omega), if_pos rfl, if_neg (fun h' => h' hi), if_pos ⟨rfl, by decide +kernel⟩]
theorem minus_back {n n' : Int} {u' : Nat} {s' : ByteArray} (hn : -4611686018427387904 ≤ n ∧ n ≤ 4611686018427387904) (h' : checkN 1 n' u' s' = 0) (hs : -4611686018427387904 ≤ n + n' ∧ n + n' ≤ 4611686018427387904) : minusV 1 (n + n') 0 ⟨#[]⟩ 1 n' u' s' = .tuple #[V 1 n 0 ⟨#[]⟩, .bool true] := by
  have hw : wholeOk (n + n') (-n') = true := by unfold wholeOk; rw [decide_eq_true (by omega), decide_eq_true (by omega)]; rfl
  have e : n + n' + -n' = n := by omega
  unfold minusV sumB
  rw [check_whole hs, h', if_pos (by rfl), if_pos ⟨rfl, rfl⟩]
  unfold wsumV
  rw [hw, if_pos rfl, if_pos rfl, e]
theorem plus_back {n n' : Int} {u' : Nat} {s' : ByteArray} (hn : -4611686018427387904 ≤ n ∧ n ≤ 4611686018427387904) (h' : checkN 1 n' u' s' = 0) (hs : -4611686018427387904 ≤ n + -n' ∧ n + -n' ≤ 4611686018427387904) : plusV 1 (n + -n') 0 ⟨#[]⟩ 1 n' u' s' = .tuple #[V 1 n 0 ⟨#[]⟩, .bool true] := by
  have hw : wholeOk (n + -n') n' = true := by unfold wholeOk; rw [decide_eq_true (by omega), decide_eq_true (by omega)]; rfl
  have e : n + -n' + n' = n := by omega
  unfold plusV sumB
  rw [check_whole hs, h', if_pos (by rfl), if_pos ⟨rfl, rfl⟩]
  unfold wsumV
  rw [hw, if_pos rfl, if_pos rfl, e]
theorem whole_bounds {a b : Int} (h : wholeOk a b = true) : -4611686018427387904 ≤ a + b ∧ a + b ≤ 4611686018427387904 := by
  unfold wholeOk at h
  simpa using h
theorem wsum_of {a b : Int} : (wholeOk a b = true → wsumV a b = .tuple #[V 1 (a + b) 0 ⟨#[]⟩, .bool true]) ∧ (wholeOk a b = false → wsumV a b = .tuple #[V 0 0 0 ⟨#[]⟩, .bool false]) := by
  unfold wsumV
  exact ⟨fun h => by rw [h]; rfl, fun h => by rw [h]; rfl⟩
end Go.Proofs.Ytmlcpedbpjghhaa
