/-
  The document's Same and Least, walked.
-/
import Derived.Test.YtakhmommcgfoaaaMeV6
namespace Go.Proofs.Ytakhmommcgfoaaa
open Go.RowKit

set_option maxRecDepth 100000 in
set_option maxHeartbeats 1000000 in
theorem resame_ok {w : World} {F G : Nat → Prop} {t s q : Int} {y : ByteArray} {a a' : Option Addr} {n c n' c' : Nat} {V : List Vl} (h : Va w F a n V) (h2 : Va w G a' n' V) :
    Calls Try.prog 29 #[evV t s q y a n c, evV t s q y a' n' c'] w fun e w' => e = .returned (.bool true) ∧ Fr (fun _ => False) w w' := by
  obtain ⟨rfl, hl, h3⟩ := h
  obtain ⟨rfl, _, h4⟩ := h2
  have H3 := hid h3
  have H4 := hid h4
  clear h3 h4
  unfold evV
  go_enter Try.func29, Try.ntmps29
  go_upto_region 1 with fail
  generalize hw1 : World.alloc (World.alloc w _) _ = w1
  obtain ⟨E1, E2, F1⟩ := two_evs hw1
  clear hw1
  generalize hp : w.heap.size = p at *
  have HF := hid F1
  obtain ⟨a0, a1, a2, a3, a4⟩ := E1
  obtain ⟨b0, b1, b2, b3, b4⟩ := E2
  clear F1
  go_wp2_with fail
  go_loopw [5] (fun i wr => ∃ j : Nat, j ≤ V.length ∧ i = .int .i64 j ∧ ∃ m, wr = w1.drewN m) (fun i _ => V.length - (intOf i).toNat)
  case atStart => exact ⟨0, Nat.zero_le _, rfl, 0, rfl⟩
  case round =>
    obtain ⟨j, hj, rfl, m, rfl⟩ := hrel
    by_cases hjn : j < V.length
    · obtain ⟨x, hx⟩ : ∃ x, V[j]? = some x := ⟨V[j], by simp [hjn]⟩
      obtain ⟨b, o, rfl, _, hr⟩ := H3.out.resolve_left (fun e => by subst e; simp at hx)
      obtain ⟨b', o', rfl, _, hr'⟩ := H4.out.resolve_left (fun e => by subst e; simp at hx)
      obtain ⟨c0, c1, c2, c3⟩ := cells_of_val (fun i v hv => HF.out.cell (hr j x hx i v hv) (fun e => e) : w1.rangeAt b (o + j * 4) (encV x))
      obtain ⟨d0, d1, d2, d3⟩ := cells_of_val (fun i v hv => HF.out.cell (hr' j x hx i v hv) (fun e => e) : w1.rangeAt b' (o' + j * 4) (encV x))
      clear hx hr hr'
      have hjb : (j : Int) < (V.length : Int) := by omega
      go_wp2_with fail
      go_quiet (fail)
      go_wp2_with fail
      go_roundw
      case rel => exact ⟨j + 1, by omega, by go_num, _, rfl⟩
      case measure => simp [intOf]; omega
    · obtain rfl : j = V.length := by omega
      go_wp2_with fail
      go_ret
      exact ⟨rfl, HF.out.drewN _⟩

set_option maxRecDepth 100000 in
set_option maxHeartbeats 1000000 in
theorem rsame_ok {w : World} {F G : Nat → Prop} {x y : Mq} (h : Al w F G x y) :
    Calls Try.prog 11 #[msgV x, msgV y] w fun e w' => e = .returned (.bool true) ∧ Fr (fun _ => False) w w' := by
  obtain ⟨p, k, t, s, q, u, a, n, c⟩ := x
  obtain ⟨p', k', t', s', q', u', a', n', c'⟩ := y
  obtain ⟨h1, h2, h3, h4, h5, h6, V, h7, h8⟩ := h
  dsimp only at h1 h2 h3 h4 h5 h6 h7 h8
  subst h1 h2 h3 h4 h5 h6
  have U := hid (fun w' (hf : Fr (fun _ => False) w w') => resame_ok (t := t) (s := s) (q := q) (y := u) (c := c) (c' := c') (h7.no hf) (h8.no hf))
  clear h7 h8
  unfold evV at U
  unfold msgV encM
  go_enter Try.func11, Try.ntmps11
  go_upto_region 1 with fail
  generalize hw1 : World.alloc (World.alloc w _) _ = w1
  obtain ⟨E1, E2, F1⟩ := two_msgs (x := ⟨p, k, t, s, q, u, a, n, c⟩) (y := ⟨p, k, t, s, q, u, a', n', c'⟩) hw1
  clear hw1
  obtain ⟨a0, a1, a2, a3, a4, a5, a6⟩ := E1.cells
  obtain ⟨b0, b1, b2, b3, b4, b5, b6⟩ := E2.cells
  dsimp only at a0 a1 a2 a3 a4 a5 a6 b0 b1 b2 b3 b4 b5 b6
  generalize hp : w.heap.size = r at *
  have HF := hid F1
  clear E1 E2 F1
  go_wp2_with (go_at_call 29; refine (U.out _ (by first | exact HF.out | exact HF.out.drewN _)).mono ?_; rintro e w' ⟨rfl, hf⟩; have HG := hid hf; clear hf)
  go_ret
  exact ⟨rfl, HF.out.trans' HG.out⟩

end Go.Proofs.Ytakhmommcgfoaaa
