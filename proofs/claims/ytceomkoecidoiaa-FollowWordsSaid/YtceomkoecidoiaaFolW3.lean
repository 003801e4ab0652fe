/-
  tie, walked.
-/
import Derived.Test.YtceomkoecidoiaaFolW2
namespace Go.Proofs.Ytceomkoecidoiaa
open Go.RowKit

/-- a row of sets as bits -/
def rowU (P : Nat) (f : Nat → Nat → Bool) : Array Value := ((List.range P).map fun i => Value.int .u32 (msk (f i) 32)).toArray

theorem rowU_get (P : Nat) (f : Nat → Nat → Bool) (i : Nat) (h : i < P) : (rowU P f)[i]? = some (.int .u32 (msk (f i) 32)) := by
  simp [rowU, h]

theorem rowU_set (P : Nat) (f f' : Nat → Nat → Bool) (k : Nat) (h : ∀ i, i ≠ k → f' i = f i) : (rowU P f).setIfInBounds k (.int .u32 (msk (f' k) 32)) = rowU P f' := by
  apply Array.ext'
  simp only [rowU, List.setIfInBounds_toArray]
  apply List.ext_getElem?
  intro i
  rw [List.getElem?_set]
  by_cases hi : k = i
  · subst hi
    by_cases hp : k < P
    · simp [hp]
    · simp [hp]
  · simp only [if_neg hi]
    simp only [List.getElem?_map]
    by_cases hp : i < P
    · simp [hp, h i (fun e => hi e.symm)]
    · simp [hp]

theorem rowU_congr {P : Nat} {f f' : Nat → Nat → Bool} (h : ∀ i, i < P → f i = f' i) : rowU P f = rowU P f' := by
  simp only [rowU]
  congr 1
  refine List.map_congr_left fun i hi => ?_
  rw [h i (by simpa using hi)]

theorem msk_u32 (f : Nat → Bool) : msk f 32 < 4294967296 := msk_lt f 32

theorem or_fact (f g : Nat → Bool) : Go.bits BinOp.or IntKind.u32 ((msk f 32 : Nat) : Int) ((msk g 32 : Nat) : Int) = ((msk (fun i => f i || g i) 32 : Nat) : Int) := by
  rw [u32_or_nat _ _ (msk_u32 f) (msk_u32 g), msk_or]

/-- what is tied ahead of place k -/
def tied (f : Nat → Nat → Bool) (l fi : Nat → Bool) (k : Nat) : Nat → Nat → Bool := fun i j => f i j || (decide (i < k) && l i && fi j)

theorem tied_step (f : Nat → Nat → Bool) (l fi : Nat → Bool) (k P : Nat) (h : l k = true) :
    (rowU P (tied f l fi k)).setIfInBounds k (.int .u32 (msk (fun i => tied f l fi k k i || fi i) 32)) = rowU P (tied f l fi (k + 1)) := by
  rw [← rowU_set P (tied f l fi k) (tied f l fi (k + 1)) k (fun i hi => ?_)]
  · congr 4
    funext j
    simp [tied, h]
  · funext j
    have : (i < k + 1) ↔ (i < k) := by omega
    simp [tied, this]
theorem tied_same (f : Nat → Nat → Bool) (l fi : Nat → Bool) (k : Nat) (h : l k = false) : tied f l fi (k + 1) = tied f l fi k := by
  funext i j
  by_cases hi : i = k
  · subst hi; simp [tied, h]
  · have : (i < k + 1) ↔ (i < k) := by omega
    simp [tied, this]
theorem tied_all (f : Nat → Nat → Bool) (l fi : Nat → Bool) (P : Nat) : rowU P (tied f l fi P) = rowU P (fun i j => f i j || (l i && fi j)) :=
  rowU_congr fun i hi => by funext j; simp [tied, hi]

set_option maxHeartbeats 1000000 in
theorem tie_ok {w : World} {bb g P c : Nat} {nv : Value} {at_ : Int} {f : Nat → Nat → Bool} (l fi : Nat → Bool) (hP : P ≤ 32) (hbb : w.heap[bb]? = some (.cells #[nv, .int .i64 at_, .slice (some ⟨g, 0, none⟩) P c] 73 (0, 0)))
    (hg : w.heap[g]? = some (.cells (rowU P f) 27 (0, 0))) (hne : g ≠ bb) :
    Calls Try.prog 35 #[.pointer (some ⟨bb, 0, none⟩), .int .u32 (msk l 32), .int .u32 (msk fi 32)] w fun e w' => e = .returned (.tuple #[]) ∧
      w'.heap[g]? = some (.cells (rowU P (fun i j => f i j || (l i && fi j))) 27 (0, 0)) ∧ Fr (fun k => k = g) w w' := by
  have c2 := cell_of hbb 2 (v := .slice (some ⟨g, 0, none⟩) P c) rfl
  have HBB := hid hbb
  have HG := hid hg
  clear hbb hg
  go_enter Try.func35, Try.ntmps35
  go_wp2_with fail
  clear c2
  go_loopw [12] (fun i wr => ∃ k : Nat, k ≤ P ∧ i = .int .i64 k ∧ wr.heap[g]? = some (.cells (rowU P (tied f l fi k)) 27 (0, 0)) ∧ Fr (fun k => k = g) w wr) (fun i _ => P - (intOf i).toNat)
  case atStart => exact ⟨0, Nat.zero_le _, rfl, by rw [HG.out]; congr 3; funext i j; simp [tied], Fr.refl _ _⟩
  case round =>
    obtain ⟨k, hk, rfl, hrow, hF⟩ := hrel
    by_cases hkP : k < P
    · have c2 := cell_of (hF.heap HBB.out (fun e => hne e.symm)) 2 (v := .slice (some ⟨g, 0, none⟩) P c) rfl
      have c3 := cell_of hrow k (rowU_get P _ k hkP)
      have f3 := free_of hrow k
      have ho := or_fact (tied f l fi k k) fi
      have ht := testBit_msk l 32 k
      have hk32 : k < 32 := by omega
      have HROW := hid hrow
      have HF := hid hF
      clear hrow hF
      cases hlk : l k with
      | true =>
        rw [hlk] at ht
        have ht2 : (msk l 32).testBit k = true := by rw [ht]; simp; omega
        clear ht
        go_wp2_with (go_at_call 14; refine (has_in (msk l 32) k (msk_u32 l) hk32 _).mono ?_; rintro e w' ⟨rfl, rfl⟩)
        go_roundw
        case rel =>
          refine ⟨k + 1, by omega, by go_num, ?_, HF.out.setCell (fun _ => rfl) _⟩
          rw [heap_set HROW.out, tied_step f l fi k P hlk]
        case measure => simp [intOf]; omega
      | false =>
        rw [hlk] at ht
        have ht2 : (msk l 32).testBit k = false := by rw [ht]; simp
        clear ht
        go_wp2_with (go_at_call 14; refine (has_in (msk l 32) k (msk_u32 l) hk32 _).mono ?_; rintro e w' ⟨rfl, rfl⟩)
        go_roundw
        case rel => exact ⟨k + 1, by omega, by go_num, by rw [tied_same f l fi k hlk]; exact HROW.out, HF.out⟩
        case measure => simp [intOf]; omega
    · obtain rfl : k = P := by omega
      rw [tied_all] at hrow
      have HROW := hid hrow
      have HF := hid hF
      clear hrow hF
      go_wp2_with fail
      go_end0
      exact ⟨rfl, HROW.out, HF.out⟩

end Go.Proofs.Ytceomkoecidoiaa
