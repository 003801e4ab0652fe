/-
  Check of the document at doubles, walked; any value.
-/
import Derived.Test.YtmlcpedbpjghhaaCmpW4
namespace Go.Proofs.Ytmlcpedbpjghhaa
open Go.RowKit

set_option maxHeartbeats 1000000 in
theorem rCheck_double (n : Int) (u : Nat) (hu : u < 18446744073709551616) (s : ByteArray) (w : World) : Calls Try.prog 29 #[V 3 n u s] w fun e w' => e = .returned (.int .i64 (checkN 3 n u s)) ∧ Below w.heap.size w w' := by
  unfold V
  by_cases r1 : cleanN u = u
  · have hk : checkN 3 n u s = if n = 0 ∧ s.toList.isEmpty = true then 0 else 2 := by unfold checkN; rw [if_neg (by omega), if_neg (by omega), if_neg (by omega), if_pos rfl, if_neg (fun h => h r1)]
    have Hk := Lib.hid hk
    have t1 : (((cleanN u : Nat) : Int) != (u : Int)) = false := by rw [r1]; simp
    clear hk r1
    go_enter Try.func29, Try.ntmps29
    go_wp2
    go_quiet ((go_at_call 48; exact Calls.quiet_of_same ((refClean_ok u hu _).mono fun _ _ h => ⟨h.1, h.2.symm⟩)))
    go_wp2
    all_goals go_ret
    all_goals refine ⟨retI ?_, below_drewN2 (one_box _ _) _⟩
    all_goals rw [Hk.out]
    all_goals clear Hk
    all_goals (split <;> simp_all)
  · have hk : checkN 3 n u s = 4 := by unfold checkN; rw [if_neg (by omega), if_neg (by omega), if_neg (by omega), if_pos rfl, if_pos r1]
    have t1 : (((cleanN u : Nat) : Int) != (u : Int)) = true := by simp; omega
    have Hk := Lib.hid hk
    clear hk r1
    go_enter Try.func29, Try.ntmps29
    go_wp2
    go_quiet ((go_at_call 48; exact Calls.quiet_of_same ((refClean_ok u hu _).mono fun _ _ h => ⟨h.1, h.2.symm⟩)))
    go_wp2
    go_ret
    exact ⟨retI Hk.out.symm, below_drewN2 (one_box _ _) _⟩
theorem rCheck_ok (k n : Int) (u : Nat) (hu : u < 18446744073709551616) (s : ByteArray) (w : World) : Calls Try.prog 29 #[V k n u s] w fun e w' => e = .returned (.int .i64 (checkN k n u s)) ∧ Below w.heap.size w w' := by
  by_cases hk : k < 1 ∨ 4 < k
  · refine (rCheck_none k n u s hk w).mono fun e w' h => ⟨by rw [h.1]; exact retI (by unfold checkN; rw [if_pos hk]), h.2⟩
  · rcases (show k = 1 ∨ k = 2 ∨ k = 3 ∨ k = 4 by omega) with rfl | rfl | rfl | rfl
    · exact rCheck_num n u s w
    · exact rCheck_flag n u s w
    · exact rCheck_double n u hu s w
    · exact rCheck_words n u s w
end Go.Proofs.Ytmlcpedbpjghhaa
