/-
  errors.as over an error that is wrapped several times, walked.
-/
import Derived.Test.YtjhjojoaghohjaaDoorFltAs1
import Derived.Below
import Derived.Outline
import Derived.Lib.Hide
import Derived.Deep.LoopGhost
namespace Go.Proofs.YtjhjojoaghohjaaDoor
open Go.RowKit Go.Extern.Stop Go.Stop Go.Extern

theorem one_box (w : World) (o : Obj) : Below w.heap.size w (w.alloc o) := (Below.refl _ _).alloc (Nat.le_refl _) _
/-- an error, wrapped so often -/
def wrapE : Nat → Value → Value
  | 0, v => v
  | d + 1, v => .iface 30 (.agg #[wrapE d v])
theorem oUnwrap_ok (v : Value) (w : World) : Calls Tryd.prog 49 #[.agg #[v]] w fun e w' => e = .returned v ∧ Below w.heap.size w w' := by
  go_enter Tryd.func49, Tryd.ntmps49
  go_wp2
  go_ret
  exact ⟨rfl, one_box _ _⟩
/-- what errors.as goes by: the target's Value in a block, its own variable, the target itself -/
structure AsAt (w W : World) (b : Nat) (pp : Nat) (p ta : Addr) (old : Value) : Prop where
  below : Below w.heap.size w W
  c0 : W.cell? ⟨b, 0, none⟩ = some (hd pp)
  c1 : W.cell? ⟨b, 1, none⟩ = some (.pointer (some p))
  c2 : W.cell? ⟨b, 2, none⟩ = some (.int .u64 150)
  cp : W.cell? p = some (.pointer (some ta))
  ct : W.cell? ta = some old
  ft : W.frozen? ta = false
theorem block_lt {w : World} {a : Addr} {v : Value} (h : w.cell? a = some v) : a.block < w.heap.size := World.block_lt_of_cell? _ _ h
theorem AsAt.next {w W W' : World} {b pp : Nat} {p ta : Addr} {old : Value} (h : AsAt w W b pp p ta old) (hb : Below W.heap.size W W') : AsAt w W' b pp p ta old :=
  ⟨h.below.trans (hb.mono h.below.size), (hb.cell (block_lt h.c0)).trans h.c0, (hb.cell (block_lt h.c1)).trans h.c1, (hb.cell (block_lt h.c2)).trans h.c2, (hb.cell (block_lt h.cp)).trans h.cp, (hb.cell (block_lt h.ct)).trans h.ct, (hb.frozen (block_lt h.ct)).trans h.ft⟩
theorem AsAt.alloc {w W : World} {b pp : Nat} {p ta : Addr} {old : Value} (h : AsAt w W b pp p ta old) (o : Obj) : AsAt w (W.alloc o) b pp p ta old := h.next (one_box _ _)
set_option maxRecDepth 100000 in
set_option maxHeartbeats 4000000 in
theorem asF_hit (d : Nat) (e : Addr) (p ta : Addr) (old : Value) (tgt : Value) (w : World) (hp : w.cell? p = some (.pointer (some ta))) (ht : w.cell? ta = some old) (hf : w.frozen? ta = false) :
    Calls Tryd.prog 28 #[wrapE d (.iface 48 (.pointer (some e))), tgt, .agg #[hd 71, .pointer (some p), .int .u64 150], .iface 62 (.agg #[hd 48])] w fun ev w' => ev = .returned (.bool true) ∧ ∃ v1, Below w.heap.size w v1 ∧ v1.cell? ta = some old ∧ v1.frozen? ta = false ∧ w' = v1.setCell ta (.pointer (some e)) := by
  have h20 := @run_callFunc_extern Tryd.prog 20 _ ReflectliteType.typeOf Tryd.func20 (by kernel_rfl) (by kernel_rfl) (by kernel_rfl) (by kernel_rfl)
  have h52 := @run_callFunc_extern Tryd.prog 52 _ (ReflectliteType.relation "AssignableTo" ReflectliteType.assignableTo) Tryd.func52 (by kernel_rfl) (by kernel_rfl) (by kernel_rfl) (by kernel_rfl)
  have h29 := @run_callFunc_extern Tryd.prog 29 _ (ReflectliteValue.method (ReflectliteValue.valueError "reflectlite.Value.Elem" 0) ReflectliteValue.elem) Tryd.func29 (by kernel_rfl) (by kernel_rfl) (by kernel_rfl) (by kernel_rfl)
  have h30 := @run_callFunc_extern Tryd.prog 30 _ ReflectliteValue.set Tryd.func30 (by kernel_rfl) (by kernel_rfl) (by kernel_rfl) (by kernel_rfl)
  have h25 := @run_callFunc_extern Tryd.prog 25 _ (fun args => ReflectliteValue.unpack (args.getD 0 (.tuple #[]))) Tryd.func25 (by kernel_rfl) (by kernel_rfl) (by kernel_rfl) (by kernel_rfl)
  have t1 := typeOf_pF
  have t2 := typeOf_outer
  have mA := methodAssignableTo
  have mU := methodOuter
  have g1 := asg_pF_pF
  have g2 := asg_outer_pF
  have na := fun v x w => noAs 30 (by simp) v x w
  have hu := hasUn_outer
  have vP := valueOf_pF
  unfold hd
  go_enter Tryd.func28, Tryd.ntmps28
  go_wp2
  go_loopg [0] d (fun j x wr => x = wrapE j (.iface 48 (.pointer (some e))) ∧ AsAt w wr w.heap.size 71 p ta old)
  case atStart => exact ⟨rfl, one_box _ _, by go_simp; rfl, by go_simp, by go_simp, (World.cell?_alloc_lt _ _ p (block_lt hp)).trans hp, (World.cell?_alloc_lt _ _ ta (block_lt ht)).trans ht, (World.frozen?_alloc_old _ _ ta (Nat.ne_of_lt (block_lt ht))).trans hf⟩
  case round =>
    obtain ⟨rfl, hA⟩ := hrel
    have c0 := hA.c0
    have c1 := hA.c1
    have c2 := hA.c2
    unfold hd at c0
    cases gk with
    | zero =>
      unfold wrapE
      have el := elemV_F p ta wr hA.cp
      have st := set_F ta ⟨wr.heap.size, 0, none⟩ e old (wr.alloc (.cells #[.pointer (some e)] 48)) (by go_simp) (hA.alloc _).ct (hA.alloc _).ft
      go_wp2
      go_ret
      exact ⟨rfl, _, hA.below.trans ((one_box _ _).mono hA.below.size), (hA.alloc _).ct, (hA.alloc _).ft, rfl⟩
    | succ k =>
      cases k with
      | zero =>
        simp only [wrapE]
        go_wp2_with (go_at_call 49; refine (oUnwrap_ok _ _).mono ?_; rintro e w9 ⟨rfl, hb9⟩; replace hA := hA.next hb9)
        go_roundg 0
        case rel => exact ⟨rfl, hA⟩
        case measure => omega
      | succ k =>
        simp only [wrapE]
        go_wp2_with (go_at_call 49; refine (oUnwrap_ok _ _).mono ?_; rintro e w9 ⟨rfl, hb9⟩; replace hA := hA.next hb9)
        go_roundg (k + 1)
        case rel => exact ⟨rfl, hA⟩
        case measure => omega
set_option maxRecDepth 100000 in
set_option maxHeartbeats 4000000 in
theorem asF_errno (d : Nat) (e : Int) (p ta : Addr) (old : Value) (tgt : Value) (w : World) (hp : w.cell? p = some (.pointer (some ta))) (ht : w.cell? ta = some old) (hf : w.frozen? ta = false) :
    Calls Tryd.prog 28 #[wrapE d (.iface 27 (.int .i64 e)), tgt, .agg #[hd 71, .pointer (some p), .int .u64 150], .iface 62 (.agg #[hd 48])] w fun ev w' => ev = .returned (.bool false) ∧ Below w.heap.size w w' := by
  have h20 := @run_callFunc_extern Tryd.prog 20 _ ReflectliteType.typeOf Tryd.func20 (by kernel_rfl) (by kernel_rfl) (by kernel_rfl) (by kernel_rfl)
  have h52 := @run_callFunc_extern Tryd.prog 52 _ (ReflectliteType.relation "AssignableTo" ReflectliteType.assignableTo) Tryd.func52 (by kernel_rfl) (by kernel_rfl) (by kernel_rfl) (by kernel_rfl)
  have h29 := @run_callFunc_extern Tryd.prog 29 _ (ReflectliteValue.method (ReflectliteValue.valueError "reflectlite.Value.Elem" 0) ReflectliteValue.elem) Tryd.func29 (by kernel_rfl) (by kernel_rfl) (by kernel_rfl) (by kernel_rfl)
  have h30 := @run_callFunc_extern Tryd.prog 30 _ ReflectliteValue.set Tryd.func30 (by kernel_rfl) (by kernel_rfl) (by kernel_rfl) (by kernel_rfl)
  have h25 := @run_callFunc_extern Tryd.prog 25 _ (fun args => ReflectliteValue.unpack (args.getD 0 (.tuple #[]))) Tryd.func25 (by kernel_rfl) (by kernel_rfl) (by kernel_rfl) (by kernel_rfl)
  have t1 := typeOf_Errno
  have t2 := typeOf_outer
  have mA := methodAssignableTo
  have mU := methodOuter
  have g1 := asg_Errno_pF
  have g2 := asg_outer_pF
  have na := fun v x w => noAs 30 (by simp) v x w
  have hu := hasUn_outer
  have nb := fun v x w => noAs 27 (by simp) v x w
  have nc := fun v x w => noUn 27 (by simp) v x w
  have nd := fun v x w => noUns 27 (by simp) v x w
  unfold hd
  go_enter Tryd.func28, Tryd.ntmps28
  go_wp2
  go_loopg [0] d (fun j x wr => x = wrapE j (.iface 27 (.int .i64 e)) ∧ AsAt w wr w.heap.size 71 p ta old)
  case atStart => exact ⟨rfl, one_box _ _, by go_simp; rfl, by go_simp, by go_simp, (World.cell?_alloc_lt _ _ p (block_lt hp)).trans hp, (World.cell?_alloc_lt _ _ ta (block_lt ht)).trans ht, (World.frozen?_alloc_old _ _ ta (Nat.ne_of_lt (block_lt ht))).trans hf⟩
  case round =>
    obtain ⟨rfl, hA⟩ := hrel
    have c0 := hA.c0
    have c1 := hA.c1
    have c2 := hA.c2
    unfold hd at c0
    cases gk with
    | zero =>
      unfold wrapE
      go_wp2
      go_ret
      exact ⟨rfl, hA.below⟩
    | succ k =>
      cases k with
      | zero =>
        simp only [wrapE]
        go_wp2_with (go_at_call 49; refine (oUnwrap_ok _ _).mono ?_; rintro e w9 ⟨rfl, hb9⟩; replace hA := hA.next hb9)
        go_roundg 0
        case rel => exact ⟨rfl, hA⟩
        case measure => omega
      | succ k =>
        simp only [wrapE]
        go_wp2_with (go_at_call 49; refine (oUnwrap_ok _ _).mono ?_; rintro e w9 ⟨rfl, hb9⟩; replace hA := hA.next hb9)
        go_roundg (k + 1)
        case rel => exact ⟨rfl, hA⟩
        case measure => omega
set_option maxRecDepth 100000 in
set_option maxHeartbeats 4000000 in
theorem asF_odd (d : Nat) (e : Addr) (p ta : Addr) (old : Value) (tgt : Value) (w : World) (hp : w.cell? p = some (.pointer (some ta))) (ht : w.cell? ta = some old) (hf : w.frozen? ta = false) :
    Calls Tryd.prog 28 #[wrapE d (.iface 51 (.pointer (some e))), tgt, .agg #[hd 71, .pointer (some p), .int .u64 150], .iface 62 (.agg #[hd 48])] w fun ev w' => ev = .returned (.bool false) ∧ Below w.heap.size w w' := by
  have h20 := @run_callFunc_extern Tryd.prog 20 _ ReflectliteType.typeOf Tryd.func20 (by kernel_rfl) (by kernel_rfl) (by kernel_rfl) (by kernel_rfl)
  have h52 := @run_callFunc_extern Tryd.prog 52 _ (ReflectliteType.relation "AssignableTo" ReflectliteType.assignableTo) Tryd.func52 (by kernel_rfl) (by kernel_rfl) (by kernel_rfl) (by kernel_rfl)
  have h29 := @run_callFunc_extern Tryd.prog 29 _ (ReflectliteValue.method (ReflectliteValue.valueError "reflectlite.Value.Elem" 0) ReflectliteValue.elem) Tryd.func29 (by kernel_rfl) (by kernel_rfl) (by kernel_rfl) (by kernel_rfl)
  have h30 := @run_callFunc_extern Tryd.prog 30 _ ReflectliteValue.set Tryd.func30 (by kernel_rfl) (by kernel_rfl) (by kernel_rfl) (by kernel_rfl)
  have h25 := @run_callFunc_extern Tryd.prog 25 _ (fun args => ReflectliteValue.unpack (args.getD 0 (.tuple #[]))) Tryd.func25 (by kernel_rfl) (by kernel_rfl) (by kernel_rfl) (by kernel_rfl)
  have t1 := typeOf_pES
  have t2 := typeOf_outer
  have mA := methodAssignableTo
  have mU := methodOuter
  have g1 := asg_pES_pF
  have g2 := asg_outer_pF
  have na := fun v x w => noAs 30 (by simp) v x w
  have hu := hasUn_outer
  have nb := fun v x w => noAs 51 (by simp) v x w
  have nc := fun v x w => noUn 51 (by simp) v x w
  have nd := fun v x w => noUns 51 (by simp) v x w
  unfold hd
  go_enter Tryd.func28, Tryd.ntmps28
  go_wp2
  go_loopg [0] d (fun j x wr => x = wrapE j (.iface 51 (.pointer (some e))) ∧ AsAt w wr w.heap.size 71 p ta old)
  case atStart => exact ⟨rfl, one_box _ _, by go_simp; rfl, by go_simp, by go_simp, (World.cell?_alloc_lt _ _ p (block_lt hp)).trans hp, (World.cell?_alloc_lt _ _ ta (block_lt ht)).trans ht, (World.frozen?_alloc_old _ _ ta (Nat.ne_of_lt (block_lt ht))).trans hf⟩
  case round =>
    obtain ⟨rfl, hA⟩ := hrel
    have c0 := hA.c0
    have c1 := hA.c1
    have c2 := hA.c2
    unfold hd at c0
    cases gk with
    | zero =>
      unfold wrapE
      go_wp2
      go_ret
      exact ⟨rfl, hA.below⟩
    | succ k =>
      cases k with
      | zero =>
        simp only [wrapE]
        go_wp2_with (go_at_call 49; refine (oUnwrap_ok _ _).mono ?_; rintro e w9 ⟨rfl, hb9⟩; replace hA := hA.next hb9)
        go_roundg 0
        case rel => exact ⟨rfl, hA⟩
        case measure => omega
      | succ k =>
        simp only [wrapE]
        go_wp2_with (go_at_call 49; refine (oUnwrap_ok _ _).mono ?_; rintro e w9 ⟨rfl, hb9⟩; replace hA := hA.next hb9)
        go_roundg (k + 1)
        case rel => exact ⟨rfl, hA⟩
        case measure => omega
set_option maxRecDepth 100000 in
set_option maxHeartbeats 4000000 in
theorem asE_hit (d : Nat) (e : Int) (p ta : Addr) (old : Value) (tgt : Value) (w : World) (hp : w.cell? p = some (.pointer (some ta))) (ht : w.cell? ta = some old) (hf : w.frozen? ta = false) :
    Calls Tryd.prog 28 #[wrapE d (.iface 27 (.int .i64 e)), tgt, .agg #[hd 60, .pointer (some p), .int .u64 150], .iface 62 (.agg #[hd 27])] w fun ev w' => ev = .returned (.bool true) ∧ ∃ v1, Below w.heap.size w v1 ∧ v1.cell? ta = some old ∧ v1.frozen? ta = false ∧ w' = v1.setCell ta (.int .i64 e) := by
  have h20 := @run_callFunc_extern Tryd.prog 20 _ ReflectliteType.typeOf Tryd.func20 (by kernel_rfl) (by kernel_rfl) (by kernel_rfl) (by kernel_rfl)
  have h52 := @run_callFunc_extern Tryd.prog 52 _ (ReflectliteType.relation "AssignableTo" ReflectliteType.assignableTo) Tryd.func52 (by kernel_rfl) (by kernel_rfl) (by kernel_rfl) (by kernel_rfl)
  have h29 := @run_callFunc_extern Tryd.prog 29 _ (ReflectliteValue.method (ReflectliteValue.valueError "reflectlite.Value.Elem" 0) ReflectliteValue.elem) Tryd.func29 (by kernel_rfl) (by kernel_rfl) (by kernel_rfl) (by kernel_rfl)
  have h30 := @run_callFunc_extern Tryd.prog 30 _ ReflectliteValue.set Tryd.func30 (by kernel_rfl) (by kernel_rfl) (by kernel_rfl) (by kernel_rfl)
  have h25 := @run_callFunc_extern Tryd.prog 25 _ (fun args => ReflectliteValue.unpack (args.getD 0 (.tuple #[]))) Tryd.func25 (by kernel_rfl) (by kernel_rfl) (by kernel_rfl) (by kernel_rfl)
  have t1 := typeOf_Errno
  have t2 := typeOf_outer
  have mA := methodAssignableTo
  have mU := methodOuter
  have g1 := asg_Errno_E
  have g2 := asg_outer_E
  have na := fun v x w => noAs 30 (by simp) v x w
  have hu := hasUn_outer
  have vP := valueOf_Errno
  unfold hd
  go_enter Tryd.func28, Tryd.ntmps28
  go_wp2
  go_loopg [0] d (fun j x wr => x = wrapE j (.iface 27 (.int .i64 e)) ∧ AsAt w wr w.heap.size 60 p ta old)
  case atStart => exact ⟨rfl, one_box _ _, by go_simp; rfl, by go_simp, by go_simp, (World.cell?_alloc_lt _ _ p (block_lt hp)).trans hp, (World.cell?_alloc_lt _ _ ta (block_lt ht)).trans ht, (World.frozen?_alloc_old _ _ ta (Nat.ne_of_lt (block_lt ht))).trans hf⟩
  case round =>
    obtain ⟨rfl, hA⟩ := hrel
    have c0 := hA.c0
    have c1 := hA.c1
    have c2 := hA.c2
    unfold hd at c0
    cases gk with
    | zero =>
      unfold wrapE
      have el := elemV_E p ta wr hA.cp
      have st := set_E ta ⟨wr.heap.size, 0, none⟩ e old (wr.alloc (.cells #[.int .i64 e] 27)) (by go_simp) (hA.alloc _).ct (hA.alloc _).ft
      go_wp2
      go_ret
      exact ⟨rfl, _, hA.below.trans ((one_box _ _).mono hA.below.size), (hA.alloc _).ct, (hA.alloc _).ft, rfl⟩
    | succ k =>
      cases k with
      | zero =>
        simp only [wrapE]
        go_wp2_with (go_at_call 49; refine (oUnwrap_ok _ _).mono ?_; rintro e w9 ⟨rfl, hb9⟩; replace hA := hA.next hb9)
        go_roundg 0
        case rel => exact ⟨rfl, hA⟩
        case measure => omega
      | succ k =>
        simp only [wrapE]
        go_wp2_with (go_at_call 49; refine (oUnwrap_ok _ _).mono ?_; rintro e w9 ⟨rfl, hb9⟩; replace hA := hA.next hb9)
        go_roundg (k + 1)
        case rel => exact ⟨rfl, hA⟩
        case measure => omega
set_option maxRecDepth 100000 in
set_option maxHeartbeats 4000000 in
theorem asE_odd (d : Nat) (e : Addr) (p ta : Addr) (old : Value) (tgt : Value) (w : World) (hp : w.cell? p = some (.pointer (some ta))) (ht : w.cell? ta = some old) (hf : w.frozen? ta = false) :
    Calls Tryd.prog 28 #[wrapE d (.iface 51 (.pointer (some e))), tgt, .agg #[hd 60, .pointer (some p), .int .u64 150], .iface 62 (.agg #[hd 27])] w fun ev w' => ev = .returned (.bool false) ∧ Below w.heap.size w w' := by
  have h20 := @run_callFunc_extern Tryd.prog 20 _ ReflectliteType.typeOf Tryd.func20 (by kernel_rfl) (by kernel_rfl) (by kernel_rfl) (by kernel_rfl)
  have h52 := @run_callFunc_extern Tryd.prog 52 _ (ReflectliteType.relation "AssignableTo" ReflectliteType.assignableTo) Tryd.func52 (by kernel_rfl) (by kernel_rfl) (by kernel_rfl) (by kernel_rfl)
  have h29 := @run_callFunc_extern Tryd.prog 29 _ (ReflectliteValue.method (ReflectliteValue.valueError "reflectlite.Value.Elem" 0) ReflectliteValue.elem) Tryd.func29 (by kernel_rfl) (by kernel_rfl) (by kernel_rfl) (by kernel_rfl)
  have h30 := @run_callFunc_extern Tryd.prog 30 _ ReflectliteValue.set Tryd.func30 (by kernel_rfl) (by kernel_rfl) (by kernel_rfl) (by kernel_rfl)
  have h25 := @run_callFunc_extern Tryd.prog 25 _ (fun args => ReflectliteValue.unpack (args.getD 0 (.tuple #[]))) Tryd.func25 (by kernel_rfl) (by kernel_rfl) (by kernel_rfl) (by kernel_rfl)
  have t1 := typeOf_pES
  have t2 := typeOf_outer
  have mA := methodAssignableTo
  have mU := methodOuter
  have g1 := asg_pES_E
  have g2 := asg_outer_E
  have na := fun v x w => noAs 30 (by simp) v x w
  have hu := hasUn_outer
  have nb := fun v x w => noAs 51 (by simp) v x w
  have nc := fun v x w => noUn 51 (by simp) v x w
  have nd := fun v x w => noUns 51 (by simp) v x w
  unfold hd
  go_enter Tryd.func28, Tryd.ntmps28
  go_wp2
  go_loopg [0] d (fun j x wr => x = wrapE j (.iface 51 (.pointer (some e))) ∧ AsAt w wr w.heap.size 60 p ta old)
  case atStart => exact ⟨rfl, one_box _ _, by go_simp; rfl, by go_simp, by go_simp, (World.cell?_alloc_lt _ _ p (block_lt hp)).trans hp, (World.cell?_alloc_lt _ _ ta (block_lt ht)).trans ht, (World.frozen?_alloc_old _ _ ta (Nat.ne_of_lt (block_lt ht))).trans hf⟩
  case round =>
    obtain ⟨rfl, hA⟩ := hrel
    have c0 := hA.c0
    have c1 := hA.c1
    have c2 := hA.c2
    unfold hd at c0
    cases gk with
    | zero =>
      unfold wrapE
      go_wp2
      go_ret
      exact ⟨rfl, hA.below⟩
    | succ k =>
      cases k with
      | zero =>
        simp only [wrapE]
        go_wp2_with (go_at_call 49; refine (oUnwrap_ok _ _).mono ?_; rintro e w9 ⟨rfl, hb9⟩; replace hA := hA.next hb9)
        go_roundg 0
        case rel => exact ⟨rfl, hA⟩
        case measure => omega
      | succ k =>
        simp only [wrapE]
        go_wp2_with (go_at_call 49; refine (oUnwrap_ok _ _).mono ?_; rintro e w9 ⟨rfl, hb9⟩; replace hA := hA.next hb9)
        go_roundg (k + 1)
        case rel => exact ⟨rfl, hA⟩
        case measure => omega
end Go.Proofs.YtjhjojoaghohjaaDoor
