/-
  How values stand: plain laws.
-/
import Derived.Test.YtmlcpedbpjghhaaCmpA0
import Derived.Test.YtmlcpedbpjghhaaRealSumsLaw
namespace Go.Proofs.Ytmlcpedbpjghhaa

theorem bl_asymm : ∀ {a b : List UInt8}, Op.bytesLess a b = true → Op.bytesLess b a = false
  | [], [], h => by simp [Op.bytesLess] at h
  | [], _ :: _, _ => by simp [Op.bytesLess]
  | _ :: _, [], h => by simp [Op.bytesLess] at h
  | x :: a, y :: b, h => by
    have ih := @bl_asymm a b
    simp only [Op.bytesLess, Bool.or_eq_true, Bool.and_eq_true, decide_eq_true_eq, beq_iff_eq, Bool.or_eq_false_iff, decide_eq_false_iff_not, Bool.and_eq_false_iff, UInt8.lt_iff_toNat_lt] at h ⊢
    rcases h with h | ⟨rfl, h⟩
    · refine ⟨by omega, .inl ?_⟩
      rw [beq_eq_false_iff_ne]
      rintro rfl
      omega
    · exact ⟨by omega, .inr (ih h)⟩
theorem bl_total : ∀ {a b : List UInt8}, Op.bytesLess a b = false → Op.bytesLess b a = false → a = b
  | [], [], _, _ => rfl
  | [], _ :: _, h, _ => by simp [Op.bytesLess] at h
  | _ :: _, [], _, h => by simp [Op.bytesLess] at h
  | x :: a, y :: b, h, h' => by
    have ih := @bl_total a b
    simp only [Op.bytesLess, Bool.or_eq_false_iff, decide_eq_false_iff_not, Bool.and_eq_false_iff, beq_eq_false_iff_ne, UInt8.lt_iff_toNat_lt] at h h'
    have e : x = y := by
      rw [← UInt8.toNat_inj]; omega
    subst e
    rcases h.2 with h2 | h2
    · exact absurd rfl h2
    · rcases h'.2 with h3 | h3
      · exact absurd rfl h3
      · rw [ih h2 h3]
theorem bl_trans : ∀ {a b c : List UInt8}, Op.bytesLess a b = true → Op.bytesLess b c = true → Op.bytesLess a c = true
  | [], _, [], _, h => by simp [Op.bytesLess] at h
  | [], _, _ :: _, _, _ => by simp [Op.bytesLess]
  | _ :: _, [], _, h, _ => by simp [Op.bytesLess] at h
  | _ :: _, _ :: _, [], _, h => by simp [Op.bytesLess] at h
  | x :: a, y :: b, z :: c, h, h' => by
    have ih := @bl_trans a b c
    simp only [Op.bytesLess, Bool.or_eq_true, Bool.and_eq_true, decide_eq_true_eq, beq_iff_eq, UInt8.lt_iff_toNat_lt] at h h' ⊢
    rcases h with h | ⟨rfl, h⟩
    · rcases h' with h' | ⟨rfl, h'⟩
      · exact .inl (by omega)
      · exact .inl h
    · rcases h' with h' | ⟨rfl, h'⟩
      · exact .inl h'
      · exact .inr ⟨rfl, ih h h'⟩
theorem cmpT_cases (a b : List UInt8) : (cmpT a b = -1 ∧ Op.bytesLess a b = true) ∨ (cmpT a b = 0 ∧ a = b) ∨ (cmpT a b = 1 ∧ Op.bytesLess b a = true) := by
  unfold cmpT
  cases h : Op.bytesLess a b
  · by_cases e : a = b
    · exact .inr (.inl ⟨by rw [if_neg (by simp), if_pos (by simpa using e)], e⟩)
    · refine .inr (.inr ⟨by rw [if_neg (by simp), if_neg (by simpa using e)], ?_⟩)
      cases h' : Op.bytesLess b a
      · exact absurd (bl_total h h') e
      · rfl
  · exact .inl ⟨by rw [if_pos rfl], rfl⟩
theorem bl_irrefl (a : List UInt8) : Op.bytesLess a a = false := by
  cases h : Op.bytesLess a a
  · rfl
  · have := bl_asymm h; rw [h] at this; cases this
theorem cmpT_neg (a b : List UInt8) : cmpT b a = -cmpT a b := by
  rcases cmpT_cases a b with ⟨h1, h2⟩ | ⟨h1, h2⟩ | ⟨h1, h2⟩ <;> rcases cmpT_cases b a with ⟨h3, h4⟩ | ⟨h3, h4⟩ | ⟨h3, h4⟩ <;> try omega
  · rw [bl_asymm h2] at h4; cases h4
  · rw [h4, bl_irrefl] at h2; cases h2
  · rw [h2, bl_irrefl] at h4; cases h4
  · rw [h2, bl_irrefl] at h4; cases h4
  · rw [h4, bl_irrefl] at h2; cases h2
  · rw [bl_asymm h2] at h4; cases h4
theorem cmpI_neg (a b : Int) : cmpI b a = -cmpI a b := by
  unfold cmpI; split <;> split <;> (try split) <;> (try split) <;> omega

/-- a number's place, in least units -/
def numK (k n : Int) (u : Nat) : Int := if k = 3 then key u else n * (unit : Int)
def nanK (k : Int) (u : Nat) : Bool := (k == 3) && isNan u
theorem cmpI_unit (a b : Int) : cmpI (a * (unit : Int)) (b * (unit : Int)) = cmpI a b := by
  have hp : (0 : Int) < unit := by exact_mod_cast unit_pos
  unfold cmpI
  rcases Int.lt_trichotomy a b with h | h | h
  · rw [if_pos (Int.mul_lt_mul_of_pos_right h hp), if_pos h]
  · subst h; simp
  · have h' := Int.mul_lt_mul_of_pos_right h hp
    rw [if_neg (by omega), if_neg (by omega), if_neg (by omega), if_neg (by omega)]
theorem dbl_key {a b : Nat} (ha : isNan a = false) (hb : isNan b = false) : dblI a b = cmpI (key a) (key b) ∧ dblB a b = true := by
  unfold dblI dblB equalB lessB cmpI
  rw [ha, hb]
  simp only [Bool.not_false, Bool.true_and, decide_eq_true_eq, Bool.or_eq_true]
  refine ⟨?_, ?_⟩
  · split <;> split <;> (try split) <;> (try split) <;> omega
  · omega
theorem dbl_nan {a b : Nat} (h : isNan a = true ∨ isNan b = true) : dblB a b = false := by
  unfold dblB equalB lessB
  rcases h with h | h <;> simp [h]
theorem vers_key {n : Int} {u : Nat} (hn : -4611686018427387904 ≤ n ∧ n ≤ 4611686018427387904) (hu : isNan u = false) : versN n u = cmpI (n * (unit : Int)) (key u) ∧ mayN n u = true := by
  have hm : mayN n u = true := by unfold mayN; rw [hu, decide_eq_true (by omega), decide_eq_true (by omega)]; rfl
  refine ⟨?_, hm⟩
  unfold versN
  rw [hm, if_pos rfl]

theorem check_facts {k n : Int} {u : Nat} {s : ByteArray} (h : checkN k n u s = 0) : 1 ≤ k ∧ k ≤ 4 ∧ (k ≠ 3 → u = 0) ∧ (k ≠ 4 → s.toList = []) ∧ (k = 1 → -4611686018427387904 ≤ n ∧ n ≤ 4611686018427387904) ∧ (k = 3 → n = 0 ∧ cleanN u = u) ∧ (k = 4 → n = 0) := by
  unfold checkN at h
  by_cases h0 : k < 1 ∨ 4 < k
  · rw [if_pos h0] at h; omega
  rw [if_neg h0] at h
  by_cases h1 : k = 1
  · rw [if_pos h1] at h
    by_cases h2 : n < -4611686018427387904 ∨ 4611686018427387904 < n
    · rw [if_pos h2] at h; omega
    rw [if_neg h2] at h
    by_cases h3 : u = 0 ∧ s.toList.isEmpty = true
    · exact ⟨by omega, by omega, fun _ => h3.1, fun _ => by simpa using h3.2, fun _ => by omega, fun _ => by omega, fun _ => by omega⟩
    · rw [if_neg h3] at h; omega
  rw [if_neg h1] at h
  by_cases h2 : k = 2
  · rw [if_pos h2] at h
    by_cases h3 : n ≠ 0 ∧ n ≠ 1
    · rw [if_pos h3] at h; omega
    rw [if_neg h3] at h
    by_cases h4 : u = 0 ∧ s.toList.isEmpty = true
    · exact ⟨by omega, by omega, fun _ => h4.1, fun _ => by simpa using h4.2, fun _ => by omega, fun _ => by omega, fun _ => by omega⟩
    · rw [if_neg h4] at h; omega
  rw [if_neg h2] at h
  by_cases h3 : k = 3
  · rw [if_pos h3] at h
    by_cases h4 : cleanN u ≠ u
    · rw [if_pos h4] at h; omega
    rw [if_neg h4] at h
    by_cases h5 : n = 0 ∧ s.toList.isEmpty = true
    · exact ⟨by omega, by omega, fun h => absurd h3 h, fun _ => by simpa using h5.2, fun _ => by omega, fun _ => ⟨h5.1, Classical.not_not.1 h4⟩, fun _ => by omega⟩
    · rw [if_neg h5] at h; omega
  rw [if_neg h3] at h
  by_cases h4 : (24 : Int) < s.size
  · rw [if_pos h4] at h; omega
  rw [if_neg h4] at h
  by_cases h5 : n = 0 ∧ u = 0
  · exact ⟨by omega, by omega, fun _ => h5.2, fun _ => by omega, fun _ => by omega, fun _ => by omega, fun _ => h5.1⟩
  · rw [if_neg h5] at h; omega

theorem nan_zero : isNan 0 = false := by decide
/-- numbers that may be -/
theorem num_ord {k n : Int} {u : Nat} {s : ByteArray} {k' n' : Int} {u' : Nat} {s' : ByteArray} (h : checkN k n u s = 0) (h' : checkN k' n' u' s' = 0) (hk : numB k = true) (hk' : numB k' = true) :
    both k k' = true ∧ ordB k n u k' n' u' = (!nanK k u && !nanK k' u') ∧ (nanK k u = false → nanK k' u' = false → ordI k n u s k' n' u' s' = cmpI (numK k n u) (numK k' n' u')) := by
  have f := check_facts h
  have f' := check_facts h'
  have hb : both k k' = true := by
    unfold both
    unfold numB at hk hk'
    rw [hk, hk']; simp
  refine ⟨hb, ?_⟩
  unfold ordB ordI nanK numK
  rcases num_cases hk with rfl | rfl <;> rcases num_cases hk' with rfl | rfl
  · simp [cmpI_unit]
  · simp only [show ((1 : Int) = 3) = False by simp, if_true, if_false]
    refine ⟨?_, ?_⟩
    · cases hn : isNan u'
      · rw [(vers_key (f.2.2.2.2.1 rfl) hn).2]; simp
      · unfold mayN; rw [hn]; simp
    · intro _ hn
      have hn' : isNan u' = false := by simpa using hn
      exact (vers_key (f.2.2.2.2.1 rfl) hn').1
  · simp only [show ((1 : Int) = 3) = False by simp, if_true, if_false]
    refine ⟨?_, ?_⟩
    · cases hn : isNan u
      · rw [(vers_key (f'.2.2.2.2.1 rfl) hn).2]; simp
      · unfold mayN; rw [hn]; simp
    · intro hn _
      have hn' : isNan u = false := by simpa using hn
      rw [(vers_key (f'.2.2.2.2.1 rfl) hn').1, cmpI_neg (key u)]
      omega
  · simp only [if_true]
    refine ⟨?_, ?_⟩
    · cases hn : isNan u <;> cases hn' : isNan u'
      · rw [(dbl_key hn hn').2]; simp
      · rw [dbl_nan (.inr hn')]; simp
      · rw [dbl_nan (.inl hn)]; simp
      · rw [dbl_nan (.inl hn)]; simp
    · intro hn hn'
      exact (dbl_key (by simpa using hn) (by simpa using hn')).1

theorem hold_ok {op k n : Int} {u : Nat} {s : ByteArray} {k' n' : Int} {u' : Nat} {s' : ByteArray} (h : checkN k n u s = 0) (h' : checkN k' n' u' s' = 0) :
    holdsB op k n u s k' n' u' s' = if both k k' = false then (op == 2) else if k = 2 ∧ op ≠ 1 ∧ op ≠ 2 then false else if ordB k n u k' n' u' = false then (op == 2) else saysB op (ordI k n u s k' n' u' s') := by
  unfold holdsB
  rw [if_neg (by omega)]
/-- the kinds of a pair -/
inductive Kin (k n : Int) (u : Nat) (s : ByteArray) (k' n' : Int) (u' : Nat) (s' : ByteArray) : Prop where
  | apart (h : both k k' = false) (f : fitsB k k' = false)
  | flags (h : k = 2) (h' : k' = 2)
  | nan (h : numB k = true) (h' : numB k' = true) (hn : nanK k u = true ∨ nanK k' u' = true)
  | nums (h : numB k = true) (h' : numB k' = true) (hn : nanK k u = false) (hn' : nanK k' u' = false)
  | texts (h : k = 4) (h' : k' = 4)
theorem kin_of {k n : Int} {u : Nat} {s : ByteArray} {k' n' : Int} {u' : Nat} {s' : ByteArray} (h : checkN k n u s = 0) (h' : checkN k' n' u' s' = 0) : Kin k n u s k' n' u' s' := by
  have f := check_facts h
  have f' := check_facts h'
  cases hk : numB k <;> cases hk' : numB k'
  · by_cases e : k = k'
    · have : k = 2 ∨ k = 4 := by unfold numB at hk; simp at hk; omega
      rcases this with rfl | rfl
      · exact .flags rfl e.symm
      · exact .texts rfl e.symm
    · refine .apart ?_ ?_
      · unfold both; unfold numB at hk; rw [hk]; simpa using e
      · unfold fitsB; rw [hk]; simp; omega
  · refine .apart ?_ ?_
    · unfold both; unfold numB at hk hk'; rw [hk]; simp at hk hk'; simp; omega
    · unfold fitsB numB; unfold numB at hk hk'; rw [hk]; simp at hk hk'; simp; omega
  · refine .apart ?_ ?_
    · unfold both; unfold numB at hk hk'; rw [hk']; simp at hk hk'; simp; omega
    · unfold fitsB numB; unfold numB at hk hk'; rw [hk']; simp at hk hk'; simp; omega
  · cases hn : nanK k u
    · cases hn' : nanK k' u'
      · exact .nums hk hk' hn hn'
      · exact .nan hk hk' (.inr hn')
    · exact .nan hk hk' (.inl hn)
theorem both_swap (k k' : Int) : both k' k = both k k' := by
  unfold both
  rw [Bool.and_comm]
  congr 1
  rw [Bool.eq_iff_iff]; simp; omega
/-- what a test tells, by the kinds -/
theorem hold_apart {op k n : Int} {u : Nat} {s : ByteArray} {k' n' : Int} {u' : Nat} {s' : ByteArray} (h : checkN k n u s = 0) (h' : checkN k' n' u' s' = 0) (hb : both k k' = false) : holdsB op k n u s k' n' u' s' = (op == 2) := by
  rw [hold_ok h h', hb, if_pos rfl]
theorem hold_flags {op n : Int} {u : Nat} {s : ByteArray} {n' : Int} {u' : Nat} {s' : ByteArray} (h : checkN 2 n u s = 0) (h' : checkN 2 n' u' s' = 0) : holdsB op 2 n u s 2 n' u' s' = if op = 1 then decide (n = n') else if op = 2 then decide (n ≠ n') else false := by
  have hob : ordB 2 n u 2 n' u' = true := rfl
  rw [hold_ok h h', if_neg (by decide)]
  by_cases h1 : op = 1
  · subst h1
    rw [if_neg (by omega), hob, if_neg (by simp), if_pos rfl]
    show saysB 1 (cmpI n n') = _
    unfold saysB cmpI
    rw [if_pos rfl, decide_eq_decide]
    split
    · omega
    · split <;> omega
  · by_cases h2 : op = 2
    · subst h2
      rw [if_neg (by omega), hob, if_neg (by simp), if_neg (by omega), if_pos rfl]
      show saysB 2 (cmpI n n') = _
      unfold saysB cmpI
      rw [if_neg (by omega), if_pos rfl, decide_eq_decide]
      split
      · omega
      · split <;> omega
    · rw [if_pos ⟨rfl, h1, h2⟩, if_neg h1, if_neg h2]
theorem hold_nan {op k n : Int} {u : Nat} {s : ByteArray} {k' n' : Int} {u' : Nat} {s' : ByteArray} (h : checkN k n u s = 0) (h' : checkN k' n' u' s' = 0) (hk : numB k = true) (hk' : numB k' = true) (hn : nanK k u = true ∨ nanK k' u' = true) : holdsB op k n u s k' n' u' s' = (op == 2) := by
  obtain ⟨hb, ho, _⟩ := num_ord h h' hk hk'
  have hk2 : k ≠ 2 := by have := num_cases hk; omega
  rw [hold_ok h h', hb, if_neg (by simp), if_neg (fun x => hk2 x.1), ho, if_pos (by rcases hn with e | e <;> simp [e])]
theorem hold_nums {op k n : Int} {u : Nat} {s : ByteArray} {k' n' : Int} {u' : Nat} {s' : ByteArray} (h : checkN k n u s = 0) (h' : checkN k' n' u' s' = 0) (hk : numB k = true) (hk' : numB k' = true) (hn : nanK k u = false) (hn' : nanK k' u' = false) : holdsB op k n u s k' n' u' s' = saysB op (cmpI (numK k n u) (numK k' n' u')) := by
  obtain ⟨hb, ho, hi⟩ := num_ord h h' hk hk'
  have hk2 : k ≠ 2 := by have := num_cases hk; omega
  rw [hold_ok h h', hb, if_neg (by simp), if_neg (fun x => hk2 x.1), ho, hn, hn', if_neg (by decide), hi hn hn']
theorem hold_texts {op n : Int} {u : Nat} {s : ByteArray} {n' : Int} {u' : Nat} {s' : ByteArray} (h : checkN 4 n u s = 0) (h' : checkN 4 n' u' s' = 0) : holdsB op 4 n u s 4 n' u' s' = saysB op (cmpT s.toList s'.toList) := by
  have hob : ordB 4 n u 4 n' u' = true := rfl
  rw [hold_ok h h', if_neg (by decide), if_neg (by omega), hob, if_neg (by simp)]
  rfl
end Go.Proofs.Ytmlcpedbpjghhaa
