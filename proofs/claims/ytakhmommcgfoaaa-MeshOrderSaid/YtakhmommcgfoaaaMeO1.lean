/-
  Over, walked: 0 or 1; 0 where there are few parcels, each with few values.
-/
import Derived.Test.YtakhmommcgfoaaaMeR4
namespace Go.Proofs.Ytakhmommcgfoaaa
open Go.RowKit

/-- values that came in -/
def Vr (w : World) (B : Nat) (a : Option Addr) (n : Nat) (V : List Vl) : Prop :=
  n = V.length ∧ V.length ≤ 9223372036854775807 ∧ (∀ v ∈ V, v.s.size ≤ 9223372036854775807) ∧ (V = [] ∨ ∃ b o, a = some ⟨b, o, none⟩ ∧ b < B ∧ ∀ (i : Nat) (v : Vl), V[i]? = some v → w.rangeAt b (o + i * 4) (encV v))
theorem Vr.below {w w' : World} {B : Nat} {a : Option Addr} {n : Nat} {V : List Vl} (h : Vr w B a n V) (hb : Below B w w') : Vr w' B a n V := by
  obtain ⟨h1, h2, h3, h4⟩ := h
  refine ⟨h1, h2, h3, h4.imp (fun e => e) ?_⟩
  rintro ⟨b, o, e, hlt, hr⟩
  exact ⟨b, o, e, hlt, fun i v hi j c hc => (hb.cell (p := ⟨b, o + i * 4 + j, none⟩) hlt).trans (hr i v hi j c hc)⟩
theorem Vr.few {w : World} {B : Nat} {a : Option Addr} {n : Nat} {V : List Vl} (h : Vr w B a n V) (hn : n ≤ 12) : Va w (fun i => B ≤ i) a n V := by
  obtain ⟨h1, h2, h3, h4⟩ := h
  refine ⟨h1, by omega, h4.imp (fun e => e) ?_⟩
  rintro ⟨b, o, e, hlt, hr⟩
  exact ⟨b, o, e, by omega, hr⟩
/-- parcels that came in -/
def Pr (w : World) (B : Nat) (s : Option Addr) (n : Nat) (P : List Pq) : Prop :=
  n = P.length ∧ P.length ≤ 9223372036854775807 ∧ (P = [] ∨ ∃ b o, s = some ⟨b, o, none⟩ ∧ b < B ∧ ∀ (i : Nat) (x : Pq), P[i]? = some x → ParAt w b (o + i * 9) x ∧ x.m.k.size ≤ 9223372036854775807 ∧ x.m.y.size ≤ 9223372036854775807 ∧ ∃ V, Vr w B x.m.a x.m.n V)
theorem Pr.below {w w' : World} {B : Nat} {s : Option Addr} {n : Nat} {P : List Pq} (h : Pr w B s n P) (hb : Below B w w') : Pr w' B s n P := by
  obtain ⟨h1, h2, h4⟩ := h
  refine ⟨h1, h2, h4.imp (fun e => e) ?_⟩
  rintro ⟨b, o, e, hlt, hr⟩
  refine ⟨b, o, e, hlt, fun i x hi => ⟨fun j c hc => (hb.cell (p := ⟨b, o + i * 9 + j, none⟩) hlt).trans ((hr i x hi).1 j c hc), (hr i x hi).2.1, (hr i x hi).2.2.1, ?_⟩⟩
  obtain ⟨V, hV⟩ := (hr i x hi).2.2.2
  exact ⟨V, hV.below hb⟩
theorem Pr.few {w : World} {B : Nat} {s : Option Addr} {n : Nat} {P : List Pq} (h : Pr w B s n P) (hn : P.length ≤ 8) (hm : ∀ x ∈ P, x.m.n ≤ 12) : Pa w (fun i => B ≤ i) s n P := by
  obtain ⟨h1, h2, h4⟩ := h
  refine ⟨h1, hn, h4.imp (fun e => e) ?_⟩
  rintro ⟨b, o, e, hlt, hr⟩
  refine ⟨b, o, e, by omega, fun i x hi => ⟨(hr i x hi).1, ?_⟩⟩
  obtain ⟨V, hV⟩ := (hr i x hi).2.2.2
  exact ⟨V, hV.few (hm x (List.mem_of_getElem? hi))⟩

theorem small_ok (x : Vl) (hs : x.s.size ≤ 9223372036854775807) (w : World) : Calls Try.prog 38 #[valV x] w fun e w' => ∃ z : Int, e = .returned (.int .i64 z) ∧ Fr (fun _ => False) w w' := by
  unfold valV encV
  go_enter Try.func38, Try.ntmps38
  go_wp2
  all_goals go_ret
  all_goals exact ⟨⟨_, rfl⟩, (Fr.refl _ w).alloc _⟩

set_option maxRecDepth 100000 in
set_option maxHeartbeats 2000000 in
theorem eover_ok {w : World} {B g : Nat} {t s q : Int} {y : ByteArray} {a : Option Addr} {n c : Nat} {V : List Vl} (hE : EvAt w g t s q y a n c) (hy : y.size ≤ 9223372036854775807) (h : Vr w B a n V) :
    Calls Try.prog 25 #[.slice (some ⟨g, 0, none⟩) 1 1, .int .i64 1] w fun e w' => ∃ z : Int, e = .returned (.int .i64 z) ∧ (z = 0 ∨ z = 1) ∧ (z = 0 → n ≤ 12) ∧ Fr (fun _ => False) w w' := by
  obtain ⟨rfl, h2, h3, h4⟩ := h
  have H3 := hid h3
  have H4 := hid h4
  have HE := hid hE
  clear h3 h4 hE
  go_enter Try.func25, Try.ntmps25
  go_wp2_with fail
  go_loopw [5] (fun i wr => (i = .int .i64 0 ∨ (i = .int .i64 1 ∧ V.length ≤ 12)) ∧ Fr (fun _ => False) w wr) (fun i _ => 1 - (intOf i).toNat)
  case atStart => exact ⟨.inl rfl, Fr.refl _ _⟩
  case round =>
    obtain ⟨hi, hf⟩ := hrel
    have HF := hid hf
    clear hf
    rcases hi with rfl | ⟨rfl, hl⟩
    · obtain ⟨e0, e1, e2, e3, e4⟩ := HE.out.no HF.out
      by_cases q1 : 40 < y.size
      · have d1 : decide ((40 : Int) < (y.size : Int)) = true := by simp; omega
        go_wp2_with fail
        go_ret
        exact ⟨1, rfl, .inr rfl, fun h => by omega, HF.out⟩
      · have d1 : decide ((40 : Int) < (y.size : Int)) = false := by simp; omega
        by_cases q2 : 12 < V.length
        · have d2 : decide ((12 : Int) < (V.length : Int)) = true := by simp; omega
          go_wp2_with fail
          go_ret
          exact ⟨1, rfl, .inr rfl, fun h => by omega, HF.out⟩
        · have d2 : decide ((12 : Int) < (V.length : Int)) = false := by simp; omega
          go_wp2_with fail
          go_loopw [6] (fun i w2 => ∃ k : Nat, k ≤ V.length ∧ i = .int .i64 k ∧ Fr (fun _ => False) w w2) (fun i _ => V.length - (intOf i).toNat)
          case atStart => exact ⟨0, Nat.zero_le _, rfl, HF.out⟩
          case round =>
            obtain ⟨k, hk, rfl, hf⟩ := hrel
            have HF2 := hid hf
            clear hf e0 e1 e2 e3 e4
            obtain ⟨e0, e1, e2, e3, e4⟩ := HE.out.no HF2.out
            by_cases hkl : k < V.length
            · obtain ⟨x, hx⟩ : ∃ x, V[k]? = some x := ⟨V[k], by simp [hkl]⟩
              obtain ⟨b, o, rfl, hbB, hr⟩ := H4.out.resolve_left (fun e => by subst e; simp at hx)
              obtain ⟨a0, a1, a2, a3⟩ := cells_of_val (fun j v hv => HF2.out.cell (hr k x hx j v hv) (fun e => e) : wr.rangeAt b (o + k * 4) (encV x))
              have S1 := hid (fun w => small_ok x (H3.out x (List.mem_of_getElem? hx)) w)
              unfold valV encV at S1
              clear hx hr
              have hjb : (k : Int) < (V.length : Int) := by omega
              go_wp2_with (go_at_call 38; refine (S1.out _).mono ?_; rintro e w' ⟨z, rfl, hf'⟩; have HF3 := hid hf'; clear hf')
              · go_ret
                exact ⟨1, rfl, .inr rfl, fun h => by omega, HF2.out.trans' HF3.out⟩
              · go_roundw
                case rel => exact ⟨k + 1, by omega, by go_num, HF2.out.trans' HF3.out⟩
                case measure => simp [intOf]; omega
            · obtain rfl : k = V.length := by omega
              go_wp2_with fail
              go_roundw
              case rel => exact ⟨.inr ⟨by go_num, by omega⟩, HF2.out⟩
              case measure => simp [intOf]
    · go_wp2_with fail
      go_ret
      exact ⟨0, rfl, .inl rfl, fun _ => hl, HF.out⟩

end Go.Proofs.Ytakhmommcgfoaaa
