/-
  Holds of both sides, walked: any test of any values.
-/
import Derived.Test.YtmlcpedbpjghhaaCmpH1
import Derived.Test.YtmlcpedbpjghhaaCmpH2
import Derived.Test.YtmlcpedbpjghhaaCmpH3
import Derived.Test.YtmlcpedbpjghhaaCmpH4
import Derived.Test.YtmlcpedbpjghhaaCmpH5
namespace Go.Proofs.Ytmlcpedbpjghhaa
open Go.RowKit

theorem ordB_flag (n : Int) (u : Nat) (n' : Int) (u' : Nat) : ordB 2 n u 2 n' u' = true := rfl
theorem holds_ok (op k n : Int) (u : Nat) (s : ByteArray) (k' n' : Int) (u' : Nat) (s' : ByteArray) (w : World) : Calls Try.prog 10 #[.int .u8 op, V k n u s, V k' n' u' s'] w fun e w' => e = .returned (.bool (holdsB op k n u s k' n' u' s')) ∧ Below w.heap.size w w' := by
  unfold holdsB
  by_cases h : checkN k n u s = 0
  · by_cases h' : checkN k' n' u' s' = 0
    · rw [if_neg (by omega)]
      cases hb : both k k'
      · rw [if_pos rfl]
        exact holds_ne op k n u s k' n' u' s' h h' hb w
      · rw [if_neg (by simp)]
        by_cases hf : k = 2 ∧ op ≠ 1 ∧ op ≠ 2
        · rw [if_pos hf]
          obtain ⟨rfl, h1, h2⟩ := hf
          rcases both_cases hb with hk | ⟨hk, _⟩ | ⟨hk, _⟩
          · exact holds_flag op 2 n u s k' n' u' s' h h' rfl hk.symm h1 h2 w
          · omega
          · omega
        · rw [if_neg hf]
          cases ho : ordB k n u k' n' u'
          · rw [if_pos rfl]
            rcases both_cases hb with hk | ⟨rfl, rfl⟩ | ⟨rfl, rfl⟩
            · by_cases h2 : k = 2
              · subst hk h2; rw [ordB_flag] at ho; cases ho
              · exact holds_un_s op k n u s k' n' u' s' h h' hk.symm h2 ho w
            · exact holds_un_a op 1 n u s 3 n' u' s' h h' rfl rfl ho w
            · exact holds_un_b op 3 n u s 1 n' u' s' h h' rfl rfl ho w
          · rw [if_neg (by simp)]
            rcases both_cases hb with hk | ⟨rfl, rfl⟩ | ⟨rfl, rfl⟩
            · by_cases h2 : k = 2
              · by_cases h1 : op = 1
                · exact holds_is_f1 op k n u s k' n' u' s' h h' h2 (by omega) h1 ho w
                · exact holds_is_f2 op k n u s k' n' u' s' h h' h2 (by omega) (Classical.byContradiction fun h3 => hf ⟨h2, h1, h3⟩) ho w
              · exact holds_is_s op k n u s k' n' u' s' h h' hk.symm h2 ho w
            · exact holds_is_a op 1 n u s 3 n' u' s' h h' rfl rfl ho w
            · exact holds_is_b op 3 n u s 1 n' u' s' h h' rfl rfl ho w
    · rw [if_pos (.inr h')]
      exact holds_bad2 op k n u s k' n' u' s' h h' w
  · rw [if_pos (.inl h)]
    exact holds_bad1 op k n u s k' n' u' s' h w

theorem says_out {op n : Int} (h : op < 1 ∨ 6 < op) : saysB op n = false := by
  unfold saysB
  rw [if_neg (by omega), if_neg (by omega), if_neg (by omega), if_neg (by omega), if_neg (by omega), if_neg (by omega)]
theorem holdsB_out {op k n : Int} {u : Nat} {s : ByteArray} {k' n' : Int} {u' : Nat} {s' : ByteArray} (h : op < 1 ∨ 6 < op) : holdsB op k n u s k' n' u' s' = false := by
  have h2 : (op == 2) = false := by simp; omega
  unfold holdsB
  rw [says_out h, h2]
  simp
set_option maxRecDepth 100000 in
set_option maxHeartbeats 1000000 in
theorem rholds_out (op k n : Int) (u : Nat) (s : ByteArray) (k' n' : Int) (u' : Nat) (s' : ByteArray) (h : op < 1 ∨ 6 < op) (w : World) : Calls Try.prog 11 #[.int .u8 op, V k n u s, V k' n' u' s'] w fun e w' => e = .returned (.bool false) ∧ Below w.heap.size w w' := by
  unfold V
  by_cases h1 : op < 1
  · clear h
    go_enter Try.func11, Try.ntmps11
    go_wp2
    go_ret
    exact ⟨rfl, two_boxes _ _ _⟩
  · have h2 : 6 < op := by omega
    clear h
    go_enter Try.func11, Try.ntmps11
    go_wp2
    go_ret
    exact ⟨rfl, two_boxes _ _ _⟩
theorem rholds_ok (op k n : Int) (u : Nat) (s : ByteArray) (k' n' : Int) (u' : Nat) (s' : ByteArray) (hu : u < 18446744073709551616) (hu' : u' < 18446744073709551616) (w : World) : Calls Try.prog 11 #[.int .u8 op, V k n u s, V k' n' u' s'] w fun e w' => e = .returned (.bool (holdsB op k n u s k' n' u' s')) ∧ Below w.heap.size w w' := by
  by_cases hop : op < 1 ∨ 6 < op
  · rw [holdsB_out hop]
    exact rholds_out op k n u s k' n' u' s' hop w
  have o1 : 1 ≤ op := by omega
  have o2 : op ≤ 6 := by omega
  unfold holdsB
  by_cases h : checkN k n u s = 0
  · by_cases h' : checkN k' n' u' s' = 0
    · rw [if_neg (by omega)]
      cases hb : both k k'
      · rw [if_pos rfl]
        exact rholds_ne op k n u s k' n' u' s' h h' hb hu hu' o1 o2 w
      · rw [if_neg (by simp)]
        by_cases hf : k = 2 ∧ op ≠ 1 ∧ op ≠ 2
        · rw [if_pos hf]
          obtain ⟨rfl, h1, h2⟩ := hf
          rcases both_cases hb with hk | ⟨hk, _⟩ | ⟨hk, _⟩
          · exact rholds_flag op 2 n u s k' n' u' s' h h' rfl hk.symm (by omega) hu hu' o1 o2 w
          · omega
          · omega
        · rw [if_neg hf]
          cases ho : ordB k n u k' n' u'
          · rw [if_pos rfl]
            rcases both_cases hb with hk | ⟨rfl, rfl⟩ | ⟨rfl, rfl⟩
            · by_cases h2 : k = 2
              · subst hk h2; rw [ordB_flag] at ho; cases ho
              · exact rholds_un_s op k n u s k' n' u' s' h h' hk.symm h2 ho hu hu' o1 o2 w
            · exact rholds_un_a op 1 n u s 3 n' u' s' h h' rfl rfl ho hu hu' o1 o2 w
            · exact rholds_un_b op 3 n u s 1 n' u' s' h h' rfl rfl ho hu hu' o1 o2 w
          · rw [if_neg (by simp)]
            rcases both_cases hb with hk | ⟨rfl, rfl⟩ | ⟨rfl, rfl⟩
            · by_cases h2 : k = 2
              · exact rholds_is_f1 op k n u s k' n' u' s' h h' h2 (by omega) (Classical.byContradiction fun h3 => hf ⟨h2, by omega, by omega⟩) ho hu hu' o1 o2 w
              · exact rholds_is_s op k n u s k' n' u' s' h h' hk.symm h2 ho hu hu' o1 o2 w
            · exact rholds_is_a op 1 n u s 3 n' u' s' h h' rfl rfl ho hu hu' o1 o2 w
            · exact rholds_is_b op 3 n u s 1 n' u' s' h h' rfl rfl ho hu hu' o1 o2 w
    · rw [if_pos (.inr h')]
      exact rholds_bad2 op k n u s k' n' u' s' h h' hu hu' o1 o2 w
  · rw [if_pos (.inl h)]
    exact rholds_bad1 op k n u s k' n' u' s' h hu hu' o1 o2 w
end Go.Proofs.Ytmlcpedbpjghhaa
