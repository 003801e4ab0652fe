/-
  The texts of a number and of a fault, and errors.New, walked.
-/
import Derived.Test.YtjhjojoaghohjaaDoorFltAs2
import Derived.Laws.BytesArg
namespace Go.Proofs.YtjhjojoaghohjaaDoor
open Go.RowKit Go.Extern.Stop Go.Stop Go.Extern

theorem mkI_pES (p : Addr) (w : World) : (Instr.makeInterface 51 (.pointer (some p))).run Tryd.prog w = .ok (.iface 51 (.pointer (some p))) w := by kernel_rfl
theorem build_ES (s : ByteArray) (w : World) : (Instr.build 53 #[(0, .string s)]).run Tryd.prog w = .ok (.agg #[.string s]) w := by kernel_rfl
theorem eNew_ok (s : ByteArray) (w : World) : Calls Tryd.prog 8 #[.string s] w fun ev w' => ev = .returned (.iface 51 (.pointer (some ⟨w.heap.size, 0, none⟩))) ∧ w' = w.alloc (.cells #[.string s] 53) := by
  have m := mkI_pES
  have b := build_ES
  go_enter Tryd.func8, Tryd.ntmps8
  go_wp2
  go_ret
  exact ⟨rfl, rfl⟩
set_option maxHeartbeats 1000000 in
theorem eText3 (w : World) : Calls Tryd.prog 24 #[.int .i64 3] w fun ev w' => ev = .returned (.string ⟨#[101, 114, 114, 111, 114, 32, 51]⟩) ∧ Below w.heap.size w w' := by
  go_enter Tryd.func24, Tryd.ntmps24
  go_wp2
  obtain ⟨W, hW⟩ : ∃ W, W = w.alloc (.cells #[.int .u8 0, .int .u8 0, .int .u8 0, .int .u8 0, .int .u8 0, .int .u8 0, .int .u8 0, .int .u8 0, .int .u8 0, .int .u8 0, .int .u8 0, .int .u8 0, .int .u8 0, .int .u8 0, .int .u8 0, .int .u8 0, .int .u8 0, .int .u8 0, .int .u8 0, .int .u8 0] 82) := ⟨_, rfl⟩
  rw [← hW]
  have hA : Below w.heap.size w W := by subst hW; exact one_box _ _
  have c0 : W.cell? ⟨w.heap.size, 19, none⟩ = some (.int .u8 0) := by subst hW; go_simp
  have f0 : W.frozen? ⟨w.heap.size, 19, none⟩ = false := by subst hW; go_simp
  have hz : w.heap.size < W.heap.size := by subst hW; simp
  clear hW
  obtain ⟨p, hp⟩ : ∃ p, p = w.heap.size := ⟨_, rfl⟩
  rw [← hp] at hA c0 f0 hz ⊢
  have HP := Lib.hid hp
  clear hp
  go_loopg [3, 5] 1 (fun j x i wr => x = .int .i64 (j * 3) ∧ i = .int .i64 (19 + j) ∧ Below p w wr ∧ (j = 1 ∧ wr = W ∨ j = 0 ∧ wr = W.setCell ⟨p, 19, none⟩ (.int .u8 51)))
  case atStart => exact ⟨rfl, rfl, hA, Or.inl ⟨rfl, rfl⟩⟩
  case round =>
    obtain ⟨rfl, rfl, hB, (⟨rfl, rfl⟩ | ⟨rfl, rfl⟩)⟩ := hrel
    · go_wp2
      go_roundg 0
      case rel => exact ⟨rfl, rfl, hB.setCell (Nat.le_refl _) _, Or.inr ⟨rfl, rfl⟩⟩
      case measure => omega
    · have c1 : (W.setCell ⟨p, 19, none⟩ (.int .u8 51)).cell? ⟨p, 19, none⟩ = some (.int .u8 51) := by go_simp
      have cv : (convert 83 9 (.slice (some ⟨p, 19, none⟩) 1 1)).run Tryd.prog (W.setCell ⟨p, 19, none⟩ (.int .u8 51)) = .ok (.string ⟨#[51]⟩) (W.setCell ⟨p, 19, none⟩ (.int .u8 51)) :=
        run_convert_bytes_arg _ 83 5 (by kernel_rfl) (by kernel_rfl) p 19 1 1 [51] rfl (fun i hi => (Nat.lt_one_iff.1 hi).symm ▸ c1) 9 (by kernel_rfl)
      go_wp2
      go_ret
      exact ⟨rfl, HP.out ▸ hB⟩
theorem fText3 (b : Nat) (w : World) (h : w.cell? ⟨b, 0, none⟩ = some (.int .i64 3)) : Calls Tryd.prog 18 #[.pointer (some ⟨b, 0, none⟩)] w fun ev w' => ev = .returned (.string ⟨#[97, 116, 32, 97, 32, 112, 108, 97, 99, 101, 58, 32, 101, 114, 114, 111, 114, 32, 51]⟩) ∧ Below w.heap.size w w' := by
  go_enter Tryd.func18, Tryd.ntmps18
  go_wp2_with (go_at_call 24; refine (eText3 _).mono ?_; rintro ev w1 ⟨rfl, hb⟩)
  go_ret
  exact ⟨rfl, hb⟩
theorem fText_nil (w : World) : Calls Tryd.prog 18 #[.pointer none] w fun ev w' => ev = .returned (.string ⟨#[]⟩) ∧ w = w' := by
  go_enter Tryd.func18, Tryd.ntmps18
  go_wp2
  go_ret
  exact ⟨rfl, rfl⟩
theorem fUnwrap_nil (w : World) : Calls Tryd.prog 19 #[.pointer none] w fun ev w' => ev = .returned .nilIface ∧ w = w' := by
  go_enter Tryd.func19, Tryd.ntmps19
  go_wp2
  go_ret
  exact ⟨rfl, rfl⟩
end Go.Proofs.YtjhjojoaghohjaaDoor
