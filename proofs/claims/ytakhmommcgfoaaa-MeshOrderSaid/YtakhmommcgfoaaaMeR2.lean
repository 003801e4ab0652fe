/-
  The document's mesh: Len, walked.
-/
import Derived.Test.YtakhmommcgfoaaaMeR1
namespace Go.Proofs.Ytakhmommcgfoaaa
open Go.RowKit

/-- of the parcels A those from a to b -/
def cntA (a b : Int) (A : List Pq) : Nat := (A.filter fun x => x.f == a && x.d == b).length
theorem cntA_snoc (a b : Int) (A : List Pq) (x : Pq) : cntA a b (A ++ [x]) = cntA a b A + if x.f = a ∧ x.d = b then 1 else 0 := by
  unfold cntA
  rw [List.filter_append, List.length_append]
  by_cases h : x.f = a ∧ x.d = b
  · simp [h]
  · rw [if_neg h]
    have : (x.f == a && x.d == b) = false := by
      rw [Bool.and_eq_false_iff]
      by_cases h1 : x.f = a
      · right; simp; exact fun h2 => h ⟨h1, h2⟩
      · left; simpa using h1
    simp [this]
theorem cntA_le (a b : Int) (A : List Pq) : cntA a b A ≤ A.length := List.length_filter_le _ _

set_option maxRecDepth 100000 in
set_option maxHeartbeats 1000000 in
theorem refLen_ok {w : World} {B : Nat} {v : Value} {A : List Pq} (ho : w.ownsRow B 79 9 v A.length (A.flatMap encP)) (hA : A.length ≤ 4096) (W c a b : Int) :
    Calls Try.prog 19 #[rmV W c v, .int .i64 a, .int .i64 b] w fun e w' => e = .returned (.int .i64 (cntA a b A)) ∧ Fr (fun _ => False) w w' := by
  obtain ⟨sp, cp, rfl, _⟩ := owns_view ho
  have HO := hid ho
  clear ho
  unfold rmV
  go_enter Try.func19, Try.ntmps19
  go_upto_region 1 with fail
  generalize hw1 : World.alloc w _ = w1
  have G1 : w1.heap[w.heap.size]? = some (.cells #[.int .i64 W, .int .i64 c, .slice sp A.length cp] 32 (0, 0)) := by rw [← hw1]; exact heap_new w _
  have F1 : Fr (fun _ => False) w w1 := by rw [← hw1]; exact (Fr.refl _ w).alloc _
  generalize hy : w.heap.size = y at *
  have HG1 := hid G1
  have HF1 := hid F1
  clear hw1 G1 F1
  go_wp2_with fail
  go_loopw [7, 8] (fun n i wr => ∃ j : Nat, j ≤ A.length ∧ i = .int .i64 j ∧ n = .int .i64 (cntA a b (A.take j)) ∧ wr = w1) (fun _ i _ => A.length - (intOf i).toNat)
  case atStart => exact ⟨0, Nat.zero_le _, rfl, rfl, rfl⟩
  case round =>
    obtain ⟨j, hj, rfl, rfl, rfl⟩ := hrel
    have c2 := cell_of HG1.out 2 (v := .slice sp A.length cp) rfl
    by_cases hjl : j < A.length
    · obtain ⟨x, hxj⟩ : ∃ x, A[j]? = some x := ⟨A[j], by simp [hjl]⟩
      obtain ⟨gp, rfl, hgw⟩ : ∃ gp, sp = some ⟨gp, 0, none⟩ ∧ gp < w.heap.size := by
        rcases owns_form HO.out with ⟨_, hz⟩ | ⟨gp, cp, e, _, _, _, hgw⟩
        · omega
        · injection e with e1 e2 e3; exact ⟨gp, e1, hgw⟩
      have hpa : ParAt wr gp (j * 9) x := fun i v hv' => HF1.out.cell (owns_range encP_len HO.out hxj i v hv') (fun e => e)
      have x0 := hpa.c0
      have x1 := hpa.c1
      have hsn : cntA a b (A.take (j + 1)) = cntA a b (A.take j) + if x.f = a ∧ x.d = b then 1 else 0 := by rw [take_snoc A j x hxj, cntA_snoc]
      have hle := cntA_le a b (A.take j)
      have htl : (A.take j).length ≤ A.length := by rw [List.length_take]; omega
      have hjb : (j : Int) < (A.length : Int) := by omega
      have HSN := hid hsn
      clear hpa hsn hxj
      by_cases e1 : x.f = a
      · by_cases e2 : x.d = b
        · have t1 : (x.f == a) = true := by simpa using e1
          have t2 : (x.d == b) = true := by simpa using e2
          have hz := hid (show cntA a b (A.take (j + 1)) = cntA a b (A.take j) + 1 by rw [HSN.out, if_pos ⟨e1, e2⟩])
          clear e1 e2
          generalize cntA a b (A.take j) = k at *
          go_wp2_with fail
          go_roundw
          case rel => exact ⟨j + 1, by omega, by go_num, by rw [hz.out]; go_num, trivial⟩
          case measure => simp [intOf]; omega
        · have t1 : (x.f == a) = true := by simpa using e1
          have t2 : (x.d == b) = false := by simpa using e2
          have hz := hid (show cntA a b (A.take (j + 1)) = cntA a b (A.take j) by rw [HSN.out, if_neg (fun h => e2 h.2)]; omega)
          clear e1 e2
          go_wp2_with fail
          go_roundw
          case rel => exact ⟨j + 1, by omega, by go_num, by rw [hz.out], trivial⟩
          case measure => simp [intOf]; omega
      · have t1 : (x.f == a) = false := by simpa using e1
        have hz := hid (show cntA a b (A.take (j + 1)) = cntA a b (A.take j) by rw [HSN.out, if_neg (fun h => e1 h.1)]; omega)
        clear e1
        go_wp2_with fail
        go_roundw
        case rel => exact ⟨j + 1, by omega, by go_num, by rw [hz.out], trivial⟩
        case measure => simp [intOf]; omega
    · obtain rfl : j = A.length := by omega
      rw [List.take_length]
      go_wp2_with fail
      go_ret
      exact ⟨rfl, HF1.out⟩

end Go.Proofs.Ytakhmommcgfoaaa
