/-
  errors.is and errors.Is at a number, over an error that is wrapped several times, walked.
-/
import Derived.Test.YtjhjojoaghohjaaDoorFltIs0
namespace Go.Proofs.YtjhjojoaghohjaaDoor
open Go.RowKit Go.Extern.Stop Go.Stop Go.Extern

theorem fUnwrap_ok (b : Nat) (e a : Int) (w : World) (hF : Flt w b e a) : Calls Tryd.prog 19 #[.pointer (some ⟨b, 0, none⟩)] w fun ev w' => ev = .returned (.iface 27 (.int .i64 e)) ∧ w = w' := by
  have m := mkI_Errno
  have h0 := hF.1
  go_enter Tryd.func19, Tryd.ntmps19
  go_wp2
  go_ret
  exact ⟨rfl, rfl⟩
set_option maxRecDepth 100000 in
set_option maxHeartbeats 4000000 in
theorem is_Errno (d : Nat) (e f : Int) (w : World) : Calls Tryd.prog 21 #[wrapE d (.iface 27 (.int .i64 e)), .iface 27 (.int .i64 f), .bool true] w fun ev w' => ev = .returned (.bool (e == f)) ∧ Below w.heap.size w w' := by
  have q1 := eq_outer
  have q2 := eq_Errno e f
  have na := fun v x w => noIs 30 (by simp) v x w
  have hu := hasUn_outer
  have mU := methodOuter
  have nb := fun v x w => noIs 27 (by simp) v x w
  have nc := fun v x w => noUn 27 (by simp) v x w
  have nd := fun v x w => noUns 27 (by simp) v x w
  generalize hB : (e == f) = B at *
  clear hB
  go_enter Tryd.func21, Tryd.ntmps21
  go_wp2
  go_loopg [0] d (fun j x wr => x = wrapE j (.iface 27 (.int .i64 e)) ∧ Below w.heap.size w wr)
  case atStart => exact ⟨rfl, Below.refl _ _⟩
  case round =>
    obtain ⟨rfl, hA⟩ := hrel
    cases gk with
    | zero =>
      unfold wrapE
      cases B
      all_goals go_wp2
      all_goals go_ret
      all_goals exact ⟨rfl, hA⟩
    | succ k =>
      cases k with
      | zero =>
        simp only [wrapE]
        go_wp2_with (go_at_call 49; refine (oUnwrap_ok _ _).mono ?_; rintro e w9 ⟨rfl, hb9⟩; replace hA := hA.trans (hb9.mono hA.size))
        go_roundg 0
        case rel => exact ⟨rfl, hA⟩
        case measure => omega
      | succ k =>
        simp only [wrapE]
        go_wp2_with (go_at_call 49; refine (oUnwrap_ok _ _).mono ?_; rintro e w9 ⟨rfl, hb9⟩; replace hA := hA.trans (hb9.mono hA.size))
        go_roundg (k + 1)
        case rel => exact ⟨rfl, hA⟩
        case measure => omega
/-- what errors.is goes through, from behind -/
def seqP (e : Int) (p : Addr) : Nat → Value
  | 0 => .iface 27 (.int .i64 e)
  | d + 1 => wrapE d (.iface 48 (.pointer (some p)))
set_option maxRecDepth 100000 in
set_option maxHeartbeats 4000000 in
theorem is_pF (d b : Nat) (e a f : Int) (w : World) (hF : Flt w b e a) : Calls Tryd.prog 21 #[wrapE d (.iface 48 (.pointer (some ⟨b, 0, none⟩))), .iface 27 (.int .i64 f), .bool true] w fun ev w' => ev = .returned (.bool (e == f)) ∧ Below w.heap.size w w' := by
  have q1 := eq_outer
  have q2 := eq_Errno e f
  have q3 := eq_pF
  have na := fun v x w => noIs 30 (by simp) v x w
  have hu := hasUn_outer
  have mU := methodOuter
  have nb := fun v x w => noIs 27 (by simp) v x w
  have nc := fun v x w => noUn 27 (by simp) v x w
  have nd := fun v x w => noUns 27 (by simp) v x w
  have ne := fun v x w => noIs 48 (by simp) v x w
  have hp := hasUn_pF
  have mP := methodPtr
  generalize hB : (e == f) = B at *
  clear hB
  go_enter Tryd.func21, Tryd.ntmps21
  go_wp2
  go_loopg [0] (d + 1) (fun j x wr => x = seqP e ⟨b, 0, none⟩ j ∧ Below w.heap.size w wr ∧ Flt wr b e a)
  case atStart => exact ⟨rfl, Below.refl _ _, hF⟩
  case round =>
    obtain ⟨rfl, hA, hG⟩ := hrel
    have h0 := hG.1
    cases gk with
    | zero =>
      unfold seqP
      cases B
      all_goals go_wp2
      all_goals go_ret
      all_goals exact ⟨rfl, hA⟩
    | succ j =>
      cases j with
      | zero =>
        simp only [seqP, wrapE]
        go_wp2_with (go_at_call 19; refine (fUnwrap_ok _ _ _ _ hG).mono ?_; rintro e w9 ⟨rfl, rfl⟩)
        go_roundg 0
        case rel => exact ⟨rfl, hA, hG⟩
        case measure => omega
      | succ k =>
        cases k with
        | zero =>
          simp only [seqP, wrapE]
          go_wp2_with (go_at_call 49; refine (oUnwrap_ok _ _).mono ?_; rintro e w9 ⟨rfl, hb9⟩; replace hA := hA.trans (hb9.mono hA.size); replace hG := hG.next hb9)
          go_roundg 1
          case rel => exact ⟨rfl, hA, hG⟩
          case measure => omega
        | succ k =>
          simp only [seqP, wrapE]
          go_wp2_with (go_at_call 49; refine (oUnwrap_ok _ _).mono ?_; rintro e w9 ⟨rfl, hb9⟩; replace hA := hA.trans (hb9.mono hA.size); replace hG := hG.next hb9)
          go_roundg (k + 2)
          case rel => exact ⟨rfl, hA, hG⟩
          case measure => omega
end Go.Proofs.YtjhjojoaghohjaaDoor
