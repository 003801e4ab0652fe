/-
  Over of parcels, walked: 0 or 1; 0 where there are few parcels, each with few values.
-/
import Derived.Test.YtakhmommcgfoaaaMeO1
namespace Go.Proofs.Ytakhmommcgfoaaa
open Go.RowKit

set_option maxRecDepth 100000 in
set_option maxHeartbeats 2000000 in
theorem lover_ok {w : World} {B : Nat} {s : Option Addr} {n c : Nat} {P : List Pq} (h : Pr w B s n P) (hB : B ≤ w.heap.size) :
    Calls Try.prog 8 #[.slice s n c] w fun e w' => ∃ z : Int, e = .returned (.int .i64 z) ∧ (z = 0 ∨ z = 1) ∧ (z = 0 → P.length ≤ 8 ∧ ∀ x ∈ P, x.m.n ≤ 12) ∧ Fr (fun _ => False) w w' := by
  obtain ⟨rfl, h2, h4⟩ := h
  have H4 := hid h4
  clear h4
  by_cases q0 : 8 < P.length
  · have d0 : decide ((8 : Int) < (P.length : Int)) = true := by simp; omega
    go_enter Try.func8, Try.ntmps8
    go_wp2_with fail
    go_ret
    exact ⟨1, rfl, .inr rfl, fun h => by omega, Fr.refl _ _⟩
  have d0 : decide ((8 : Int) < (P.length : Int)) = false := by simp; omega
  go_enter Try.func8, Try.ntmps8
  go_wp2_with fail
  go_loopw [3] (fun i wr => ∃ k : Nat, k ≤ P.length ∧ i = .int .i64 k ∧ (∀ x ∈ P.take k, x.m.n ≤ 12) ∧ Fr (fun _ => False) w wr) (fun i _ => P.length - (intOf i).toNat)
  case atStart => exact ⟨0, Nat.zero_le _, rfl, by simp, Fr.refl _ _⟩
  case round =>
    obtain ⟨k, hk, rfl, hal, hf⟩ := hrel
    have HF := hid hf
    have HA := hid hal
    clear hf hal
    by_cases hkl : k < P.length
    · obtain ⟨x, hx⟩ : ∃ x, P[k]? = some x := ⟨P[k], by simp [hkl]⟩
      obtain ⟨b, o, rfl, hbB, hr⟩ := H4.out.resolve_left (fun e => by subst e; simp at hx)
      obtain ⟨hpa, hks, hys, V, hV⟩ := hr k x hx
      have hpw : ParAt wr b (o + k * 9) x := fun j u hu => HF.out.cell (hpa j u hu) (fun e => e)
      obtain ⟨m0, m1, m2, m3, m4, m5, m6⟩ := hpw.msg.cells
      have HX := hid hx
      have HV := hid hV
      clear hx hr hpa hV hpw m0
      have hjb : (k : Int) < (P.length : Int) := by omega
      have m1' : wr.cell? ⟨b, o + k * 9 + 2 + 1, none⟩ = some (.string x.m.k) := m1
      have m2' : wr.cell? ⟨b, o + k * 9 + 2 + 2, none⟩ = some (.int .i64 x.m.t) := m2
      have m3' : wr.cell? ⟨b, o + k * 9 + 2 + 2 + 1, none⟩ = some (.int .i64 x.m.s) := m3
      have m4' : wr.cell? ⟨b, o + k * 9 + 2 + 2 + 2, none⟩ = some (.int .i64 x.m.q) := m4
      have m5' : wr.cell? ⟨b, o + k * 9 + 2 + 2 + 3, none⟩ = some (.string x.m.y) := m5
      have m6' : wr.cell? ⟨b, o + k * 9 + 2 + 2 + 4, none⟩ = some (.slice x.m.a x.m.n x.m.c) := m6
      by_cases q1 : 60 < x.m.k.size
      · have d1 : decide ((60 : Int) < (x.m.k.size : Int)) = true := by simp; omega
        go_wp2_with fail
        go_ret
        exact ⟨1, rfl, .inr rfl, fun h => by omega, HF.out⟩
      · have d1 : decide ((60 : Int) < (x.m.k.size : Int)) = false := by simp; omega
        have U := hid (fun (w1 : World) (hf : Fr (fun _ => False) wr w1) g (hE : EvAt w1 g x.m.t x.m.s x.m.q x.m.y x.m.a x.m.n x.m.c) => eover_ok hE hys (HV.out.below ((HF.out.trans' hf).below hB (fun _ _ e => e))))
        go_wp2_with (go_at_call 25; go_must (refine (U.out _ ((Fr.refl _ wr).alloc _) _ (EvAt.of (heap_new wr _))).mono ?_); rintro e w' ⟨z, rfl, hz, hn, hf'⟩; have HF3 := hid hf'; have HZ := hid hz; have HN := hid hn; clear hf' hz hn)
        · go_ret
          exact ⟨1, rfl, .inr rfl, fun h => by omega, (HF.out.alloc _).trans' HF3.out⟩
        · go_roundw
          case rel =>
            refine ⟨k + 1, by omega, by go_num, fun y hy => ?_, (HF.out.alloc _).trans' HF3.out⟩
            rw [take_snoc P k x HX.out] at hy
            rcases List.mem_append.1 hy with hy | hy
            · exact HA.out y hy
            · rw [List.mem_singleton.1 hy]
              exact HN.out (by have := HZ.out; omega)
          case measure => simp [intOf]; omega
    · obtain rfl : k = P.length := by omega
      have HA' := HA.out
      rw [List.take_length] at HA'
      have HB := hid HA'
      clear HA'
      go_wp2_with fail
      go_ret
      exact ⟨0, rfl, .inl rfl, fun _ => ⟨by omega, HB.out⟩, HF.out⟩

end Go.Proofs.Ytakhmommcgfoaaa
