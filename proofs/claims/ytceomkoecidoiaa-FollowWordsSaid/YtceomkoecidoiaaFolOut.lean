/-
  What both Builds tell of any core.
-/
import Derived.Test.YtceomkoecidoiaaFolWords
namespace Go.Proofs.Ytceomkoecidoiaa
open Go.RowKit

structure Outcome (N : List (Int × Int)) (P : Nat) (nb : Bool) (f l : Nat → Bool) (P' : Nat) (T : Nat → Nat → Bool) (en : Int) : Prop where
  build : ∀ (w : World) (ok : Nat → Prop) (nv : Value) (pa : Option Addr) (pc : Nat) (wi : Int) (bv : ByteArray) (mm : Int), NodesAt w ok nv N → Calls Try.prog 8 #[coreV nv pa P pc wi bv mm] w fun e w' =>
    (∃ v, e = .returned (.tuple #[foV nb (msk f 32) (msk l 32) v, .int .i64 en]) ∧ U32V w' v P' T) ∧ Fr (fun _ => False) w w'
  ref : ∀ (w : World) (ok : Nat → Prop) (nv : Value) (pa : Option Addr) (pc : Nat) (wi : Int) (bv : ByteArray) (mm : Int), NodesAt w ok nv N → Calls Try.prog 10 #[coreV nv pa P pc wi bv mm] w fun e w' =>
    (∃ v, e = .returned (.tuple #[setsV nb f l v, .int .i64 en]) ∧ RowsV w' v P' T) ∧ Fr (fun _ => False) w w'
  le : P' ≤ 24

theorem outcome (N : List (Int × Int)) (P : Nat) (hl : N.length ≤ 250) : ∃ nb f l P' T en, Outcome N P nb f l P' T en := by
  by_cases h : Ok17 N P
  · obtain ⟨t, hNt, hP, hlv⟩ := ok17_tree h
    refine ⟨t.null, t.first, t.last, P, t.next, 0, fun w ok nv pa pc wi bv mm hB => ?_, fun w ok nv pa pc wi bv mm hB => ?_, hP⟩
    · refine (build_yes hB hl h t hNt hP hlv).mono ?_
      rintro e w' ⟨g, rfl, hg, hG, hF⟩
      exact ⟨⟨_, rfl, _, _, rfl, fun _ => ⟨g, 0, rfl, lt_of_block hG.blk, fun i hi => by rw [Nat.zero_add]; exact cell_of hG.blk i (rowU_get _ _ _ hi)⟩⟩, hF⟩
    · refine (refBuild_yes hB hl h t hNt hP hlv).mono ?_
      rintro e w' ⟨g, rfl, hg, hG, hF⟩
      exact ⟨⟨_, rfl, _, _, rfl, fun _ => ⟨g, rfl, hG⟩⟩, hF⟩
  · refine ⟨false, fun _ => false, fun _ => false, 0, fun _ _ => false, 2, fun w ok nv pa pc wi bv mm hB => ?_, fun w ok nv pa pc wi bv mm hB => ?_, by omega⟩
    · refine (build_no hB hl h).mono ?_
      rintro e w' ⟨rfl, hF⟩
      rw [msk_none]
      exact ⟨⟨_, rfl, _, _, rfl, fun h => by omega⟩, hF⟩
    · refine (refBuild_no hB hl h).mono ?_
      rintro e w' ⟨rfl, hF⟩
      exact ⟨⟨_, rfl, _, _, rfl, fun h => by omega⟩, hF⟩

end Go.Proofs.Ytceomkoecidoiaa
