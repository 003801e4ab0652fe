/-
  The document's Least, walked.
-/
import Derived.Test.YtakhmommcgfoaaaMeR3
namespace Go.Proofs.Ytakhmommcgfoaaa
open Go.RowKit

/-- the least moment of parcels -/
def lsA (A : List Pq) : Int × Bool := (A.map fun x => x.m.t).foldl lstep (0, false)
theorem lsA_snoc (A : List Pq) (x : Pq) : lsA (A ++ [x]) = lstep (lsA A) x.m.t := by simp [lsA]

set_option maxRecDepth 100000 in
set_option maxHeartbeats 1000000 in
theorem refLeast_ok {w : World} {B : Nat} {v : Value} {A : List Pq} (ho : w.ownsRow B 79 9 v A.length (A.flatMap encP)) (hA : A.length ≤ 4096) (W c : Int) :
    Calls Try.prog 17 #[rmV W c v] w fun e w' => e = .returned (.tuple #[.int .i64 (lsA A).1, .bool (lsA A).2]) ∧ Fr (fun _ => False) w w' := by
  obtain ⟨sp, cp, rfl, _⟩ := owns_view ho
  have HO := hid ho
  clear ho
  unfold rmV
  go_enter Try.func17, Try.ntmps17
  go_upto_region 1 with fail
  generalize hw1 : World.alloc w _ = w1
  have G1 : w1.heap[w.heap.size]? = some (.cells #[.int .i64 W, .int .i64 c, .slice sp A.length cp] 32 (0, 0)) := by rw [← hw1]; exact heap_new w _
  have F1 : Fr (fun _ => False) w w1 := by rw [← hw1]; exact (Fr.refl _ w).alloc _
  generalize hy : w.heap.size = y at *
  have HG1 := hid G1
  have HF1 := hid F1
  clear hw1 G1 F1
  go_wp2_with fail
  go_loopw [4, 5, 6] (fun l s i wr => ∃ j : Nat, j ≤ A.length ∧ i = .int .i64 j ∧ l = .int .i64 (lsA (A.take j)).1 ∧ s = .bool (lsA (A.take j)).2 ∧ wr = w1) (fun _ _ i _ => A.length - (intOf i).toNat)
  case atStart => exact ⟨0, Nat.zero_le _, rfl, rfl, rfl, rfl⟩
  case round =>
    obtain ⟨j, hj, rfl, rfl, rfl, rfl⟩ := hrel
    have c2 := cell_of HG1.out 2 (v := .slice sp A.length cp) rfl
    by_cases hjl : j < A.length
    · obtain ⟨x, hxj⟩ : ∃ x, A[j]? = some x := ⟨A[j], by simp [hjl]⟩
      obtain ⟨gp, rfl, hgw⟩ : ∃ gp, sp = some ⟨gp, 0, none⟩ ∧ gp < w.heap.size := by
        rcases owns_form HO.out with ⟨_, hz⟩ | ⟨gp, cp, e, _, _, _, hgw⟩
        · omega
        · injection e with e1 e2 e3; exact ⟨gp, e1, hgw⟩
      have hpa : ParAt wr gp (j * 9) x := fun i v hv' => HF1.out.cell (owns_range encP_len HO.out hxj i v hv') (fun e => e)
      have x1 : wr.cell? ⟨gp, j * 9 + 2 + 2, none⟩ = some (.int .i64 x.m.t) := hpa.msg.cells.2.2.1
      have hjb : (j : Int) < (A.length : Int) := by omega
      have hst : lsA (A.take (j + 1)) = lstep (lsA (A.take j)) x.m.t := by rw [take_snoc A j x hxj, lsA_snoc]
      clear hpa hxj
      generalize hs1 : lsA (A.take j) = s1 at *
      obtain ⟨a1, b1⟩ := s1
      have HST := hid hst
      clear hst hs1
      rcases b1 with _ | _
      · have HE := hid (show lsA (A.take (j + 1)) = (x.m.t, true) by rw [HST.out]; simp [lstep])
        go_wp2_with fail
        go_roundw
        case rel => exact ⟨j + 1, by omega, by go_num, by rw [HE.out], by rw [HE.out], trivial⟩
        case measure => simp [intOf]; omega
      · by_cases hlt : x.m.t < a1
        · have HE := hid (show lsA (A.take (j + 1)) = (x.m.t, true) by rw [HST.out]; simp [lstep, hlt])
          have hd : decide (x.m.t < a1) = true := by simpa using hlt
          go_wp2_with fail
          go_roundw
          case rel => exact ⟨j + 1, by omega, by go_num, by rw [HE.out], by rw [HE.out], trivial⟩
          case measure => simp [intOf]; omega
        · have HE := hid (show lsA (A.take (j + 1)) = (a1, true) by rw [HST.out]; simp [lstep, hlt])
          have hd : decide (x.m.t < a1) = false := by simpa using hlt
          go_wp2_with fail
          go_roundw
          case rel => exact ⟨j + 1, by omega, by go_num, by rw [HE.out], by rw [HE.out], trivial⟩
          case measure => simp [intOf]; omega
    · obtain rfl : j = A.length := by omega
      rw [List.take_length]
      go_wp2_with fail
      go_ret2
      exact ⟨rfl, HF1.out⟩

end Go.Proofs.Ytakhmommcgfoaaa
