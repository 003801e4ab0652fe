/-
  Places and their tests in memory; Small, Over and Own of layer 11, walked: they end.
-/
import Derived.Test.YtceomkoecidoiaaFolW1
import Derived.Test.YtceomkoecidoiaaWords
namespace Go.Proofs.Ytceomkoecidoiaa
open Go.RowKit

structure TestC (w : World) (g o : Nat) : Prop where
  out : ∃ (k op : Int) (va na : ByteArray) (vk vn vb : Int) (vt : ByteArray), w.cell? ⟨g, o, none⟩ = some (.int .u8 k) ∧ w.cell? ⟨g, o + 1, none⟩ = some (.int .u8 op) ∧ w.cell? ⟨g, o + 2, none⟩ = some (.string va) ∧ w.cell? ⟨g, o + 3, none⟩ = some (.string na) ∧
    w.cell? ⟨g, o + 4, none⟩ = some (.int .u8 vk) ∧ w.cell? ⟨g, o + 5, none⟩ = some (.int .i64 vn) ∧ w.cell? ⟨g, o + 6, none⟩ = some (.int .u64 vb) ∧ w.cell? ⟨g, o + 7, none⟩ = some (.string vt)
theorem TestC.fr {w w' : World} {g o : Nat} (h : TestC w g o) (hF : Fr (fun _ => False) w w') : TestC w' g o := by
  obtain ⟨k, op, va, na, vk, vn, vb, vt, h0, h1, h2, h3, h4, h5, h6, h7⟩ := h.out
  exact ⟨k, op, va, na, vk, vn, vb, vt, hF.cell h0 (fun e => e), hF.cell h1 (fun e => e), hF.cell h2 (fun e => e), hF.cell h3 (fun e => e), hF.cell h4 (fun e => e), hF.cell h5 (fun e => e), hF.cell h6 (fun e => e), hF.cell h7 (fun e => e)⟩
def TestV (w : World) (tv : Value) (n : Nat) : Prop := ∃ ta tc, tv = .slice ta n tc ∧ (0 < n → ∃ g o, ta = some ⟨g, o, none⟩ ∧ g < w.heap.size ∧ ∀ j, j < n → TestC w g (o + j * 8))
theorem TestV.fr {w w' : World} {tv : Value} {n : Nat} (h : TestV w tv n) (hF : Fr (fun _ => False) w w') : TestV w' tv n := by
  obtain ⟨ta, tc, hv, hp⟩ := h
  refine ⟨ta, tc, hv, fun h0 => ?_⟩
  obtain ⟨g, o, ha, hg, hc⟩ := hp h0
  exact ⟨g, o, ha, Nat.lt_of_lt_of_le hg hF.size, fun j hj => (hc j hj).fr hF⟩
def PlacesV (w : World) (pv : Value) (L : List Nat) : Prop := ∃ pa pc, pv = .slice pa L.length pc ∧ (0 < L.length → ∃ g o, pa = some ⟨g, o, none⟩ ∧ g < w.heap.size ∧ ∀ i n, L[i]? = some n → ∃ (ng : Bool) (va ty : ByteArray) (tv : Value),
  w.cell? ⟨g, o + i * 4, none⟩ = some (.bool ng) ∧ w.cell? ⟨g, o + i * 4 + 1, none⟩ = some (.string va) ∧ w.cell? ⟨g, o + i * 4 + 2, none⟩ = some (.string ty) ∧ w.cell? ⟨g, o + i * 4 + 3, none⟩ = some tv ∧ TestV w tv n)
theorem PlacesV.fr {w w' : World} {pv : Value} {L : List Nat} (h : PlacesV w pv L) (hF : Fr (fun _ => False) w w') : PlacesV w' pv L := by
  obtain ⟨pa, pc, hv, hp⟩ := h
  refine ⟨pa, pc, hv, fun h0 => ?_⟩
  obtain ⟨g, o, ha, hg, hc⟩ := hp h0
  refine ⟨g, o, ha, Nat.lt_of_lt_of_le hg hF.size, fun i n hi => ?_⟩
  obtain ⟨ng, va, ty, tv, h0, h1, h2, h3, h4⟩ := hc i n hi
  exact ⟨ng, va, ty, tv, hF.cell h0 (fun e => e), hF.cell h1 (fun e => e), hF.cell h2 (fun e => e), hF.cell h3 (fun e => e), h4.fr hF⟩

theorem small_any (k n b : Int) (t : ByteArray) (w : World) : Calls Try.prog 31 #[.agg #[.int .u8 k, .int .i64 n, .int .u64 b, .string t]] w fun e w' => (∃ z : Int, e = .returned (.int .i64 z)) ∧ Fr (fun _ => False) w w' := by
  go_enter Try.func31, Try.ntmps31
  go_wp2_with fail
  all_goals (go_ret; exact ⟨⟨_, rfl⟩, (Fr.refl _ w).alloc _⟩)

set_option maxRecDepth 100000 in
set_option maxHeartbeats 2000000 in
theorem over11_ok {w : World} {tv : Value} {n : Nat} (h : TestV w tv n) :
    Calls Try.prog 18 #[tv] w fun e w' => (∃ z : Int, e = .returned (.int .i64 z) ∧ (z = 0 ∨ z = 1) ∧ (z = 0 → n ≤ 40)) ∧ Fr (fun _ => False) w w' := by
  have hv := h
  obtain ⟨ta, tc, rfl, _⟩ := hv
  have H := hid h
  clear h
  go_enter Try.func18, Try.ntmps18
  by_cases h40 : 40 < n
  · have h40' : (40 : Int) < n := by omega
    go_wp2_with fail
    go_ret
    exact ⟨⟨1, rfl, .inr rfl, fun h => by omega⟩, Fr.refl _ _⟩
  have h40' : ¬ (40 : Int) < n := by omega
  go_wp2_with fail
  go_loopw [3] (fun i wr => ∃ j : Nat, j ≤ n ∧ i = .int .i64 j ∧ Fr (fun _ => False) w wr) (fun i _ => n - (intOf i).toNat)
  case atStart => exact ⟨0, Nat.zero_le _, rfl, Fr.refl _ _⟩
  case round =>
    obtain ⟨j, hj, rfl, hF⟩ := hrel
    have HF := hid hF
    clear hF
    by_cases hjn : j < n
    · obtain ⟨ta', tc', hv, hp⟩ := H.out.fr HF.out
      simp only [Value.slice.injEq, true_and] at hv
      obtain ⟨rfl, rfl⟩ := hv
      obtain ⟨g, o, rfl, _, hc⟩ := hp (by omega)
      obtain ⟨k, op, va, na, vk, vn, vb, vt, c0, c1, c2, c3, c4, c5, c6, c7⟩ := (hc j hjn).out
      clear hp hc
      have hjn' : (j : Int) < n := by omega
      have hj0 : (0 : Int) ≤ j := by omega
      by_cases q1 : 40 < va.size
      · have q1' : (40 : Int) < va.size := by omega
        go_wp2_with fail
        go_ret
        exact ⟨⟨1, rfl, .inr rfl, fun h => by omega⟩, HF.out⟩
      have q1' : ¬ (40 : Int) < va.size := by omega
      by_cases q2 : 40 < na.size
      · have q2' : (40 : Int) < na.size := by omega
        go_wp2_with fail
        go_ret
        exact ⟨⟨1, rfl, .inr rfl, fun h => by omega⟩, HF.out⟩
      have q2' : ¬ (40 : Int) < na.size := by omega
      go_wp2_with fail
      refine (small_any vk vn vb vt wr).mono ?_
      rintro e w2 ⟨⟨z, rfl⟩, hF2⟩
      by_cases q3 : 0 < z
      · go_wp2_with fail
        go_ret
        exact ⟨⟨1, rfl, .inr rfl, fun h => by omega⟩, HF.out.trans' hF2⟩
      · go_wp2_with fail
        exact ⟨⟨j + 1, by omega, rfl, HF.out.trans' hF2⟩, by simp [intOf]; omega⟩
    · obtain rfl : j = n := by omega
      go_wp2_with fail
      go_ret
      exact ⟨⟨0, rfl, .inl rfl, fun _ => by omega⟩, HF.out⟩

end Go.Proofs.Ytceomkoecidoiaa
