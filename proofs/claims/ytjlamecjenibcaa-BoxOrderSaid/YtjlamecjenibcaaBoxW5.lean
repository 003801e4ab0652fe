/-
  The box's Push, Watch, Fork.
-/
import Derived.Test.YtjlamecjenibcaaBoxW4
namespace Go.Proofs.Ytjlamecjenibcaa
open Go.RowKit

theorem box_push {w w1 : World} {B b : Nat} {g cap most h : Nat} {zs L : List Int} {wv : Value} (y : Int)
    (x : BoxI w B b (.slice (some ⟨g, 0, none⟩) zs.length cap) most h zs L wv) (hl : L.length < zs.length)
    (hh : w1.heap = ((w.setCell ⟨g, (((h : Int) + (L.length : Int)) % (zs.length : Int)).toNat, none⟩ (.int .i64 y)).setCell ⟨b, 3, none⟩ (.int .i64 ((L.length : Int) + 1))).heap)
    (ho : w1.os = w.os) (ht : w1.tape = w.tape) (hp : w1.output = w.output) :
    BoxI w1 B b (.slice (some ⟨g, 0, none⟩) zs.length cap) most h (zs.set ((h + L.length) % zs.length) y) (L ++ [y]) wv ∧ Fr (fun k => k = b ∨ k = g) w w1 := by
  have hr := x.ring.push hl y
  have hgb : g ≠ b := fun e => x.ne (by rw [← e]; rfl)
  rw [toNat_mod] at hh
  have hs := (x.own.stored ((h + L.length) % zs.length) (.int .i64 y)).1
  have hfr : Fr (fun k => k = b ∨ k = g) w w1 := by
    have := ((Fr.refl (fun k => k = b ∨ k = g) w).setCell (p := ⟨g, (h + L.length) % zs.length, none⟩) (fun _ => .inr rfl) (.int .i64 y)).setCell (p := ⟨b, 3, none⟩) (fun _ => .inl rfl) (.int .i64 ((L.length : Int) + 1))
    exact ⟨ho, ht, hp, by rw [hh]; exact this.size, by rw [hh]; exact this.block⟩
  refine ⟨⟨x.base, ?_, ?_, x.ne, x.m1, by simpa using x.le, hr⟩, hfr⟩
  · rw [hh, heap_set (heap_set_ne x.blk (fun e => hgb e.symm) _) _]
    simp
  · rw [encI_map, setI] at hs
    have h2 := Go.ownsRow_setCell_other hs (a := ⟨b, 3, none⟩) (by simp [Value.ownBlock, hgb]) (.int .i64 ((L.length : Int) + 1))
    unfold World.ownsRow at h2 ⊢
    rw [hh, encI_map]
    simpa using h2

theorem push_turn {σ : Type} (W : Watch 51 Try.prog 22 σ) {w w1 : World} {B b : Nat} {g cap most h : Nat} {zs L : List Int} (y : Int) (s : σ)
    (x : BoxI w B b (.slice (some ⟨g, 0, none⟩) zs.length cap) most h zs L W.wv) (hl : L.length < zs.length) (hQ : W.Q s w) (hfb : ¬ W.foot b) (hfr : ∀ k, (Value.slice (some ⟨g, 0, none⟩) zs.length cap).ownBlock = some k → ¬ W.foot k)
    (hh : w1.heap = ((w.setCell ⟨g, (((h : Int) + (L.length : Int)) % (zs.length : Int)).toNat, none⟩ (.int .i64 y)).setCell ⟨b, 3, none⟩ (.int .i64 ((L.length : Int) + 1))).heap)
    (ho : w1.os = w.os) (ht : w1.tape = w.tape) (hp : w1.output = w.output) :
    Calls Try.prog 22 #[.pointer (some ⟨b, 0, none⟩)] w1 fun e w' => e = .returned (.tuple #[]) ∧ Hid ((∃ zs', BoxI w' B b (.slice (some ⟨g, 0, none⟩) zs.length cap) most h zs' (L ++ [y]) W.wv) ∧ W.Q (W.next s (L.length + 1)) w' ∧
      Fr (fun k => k = b ∨ (Value.slice (some ⟨g, 0, none⟩) zs.length cap).ownBlock = some k ∨ W.foot k) w w') := by
  obtain ⟨hB, hF⟩ := box_push y x hl hh ho ht hp
  have hg : ¬ W.foot g := hfr g rfl
  have hc := hB.cnt
  have hm := hB.m1
  refine (W.turns w1 b (L ++ [y]).length _ _ _ s hB.blk (by omega) (W.kept s w w1 _ hQ hF ?_)).mono ?_
  · rintro k hk (rfl | rfl)
    · exact hfb hk
    · exact hg hk
  · rintro e w' ⟨rfl, hq', hf'⟩
    refine ⟨rfl, ⟨_, hB.fr hf' hfb (fun k hk => hfr k hk)⟩, by simpa using hq', ?_⟩
    refine hF.trans hf' (fun k hk => ?_) (fun k _ hk => .inr (.inr hk))
    rcases hk with rfl | rfl
    · exact .inl rfl
    · exact .inr (.inl rfl)

theorem push_nil (y : Int) (w : World) :
    Calls Try.prog 10 #[.pointer none, .int .i64 y] w fun e w' => e = .returned (.int .i64 1) ∧ w = w' := by
  go_enter Try.func10, Try.ntmps10
  go_wp2
  go_ret
  exact ⟨rfl, rfl⟩

theorem push_full {w : World} {B b : Nat} {rv : Value} {most h : Nat} {zs L : List Int} {wv : Value} (y : Int) (x : BoxI w B b rv most h zs L wv) (hf : L.length = most) :
    Calls Try.prog 10 #[.pointer (some ⟨b, 0, none⟩), .int .i64 y] w fun e w' => e = .returned (.int .i64 7) ∧ ∃ m, w' = w.drewN m := by
  have h3 := x.c3
  have h0 := x.c0
  rw [hf] at h3
  clear x hf
  go_enter Try.func10, Try.ntmps10
  go_wp2
  go_quiet (fail)
  go_wp2
  go_ret
  exact ⟨rfl, _, rfl⟩

theorem push_facts {w : World} {B b : Nat} {rv : Value} {most h : Nat} {zs L : List Int} {wv : Value} (x : BoxI w B b rv most h zs L wv) (hl : L.length < zs.length) :
    ∃ g cap z, rv = .slice (some ⟨g, 0, none⟩) zs.length cap ∧ g ≠ b ∧ zs.length ≤ cap ∧ cap ≤ maxLen ∧ h < zs.length ∧
      w.cell? ⟨g, (((h : Int) + (L.length : Int)) % (zs.length : Int)).toNat, none⟩ = some (.int .i64 z) ∧ w.frozen? ⟨g, (((h : Int) + (L.length : Int)) % (zs.length : Int)).toNat, none⟩ = false ∧
      (0 : Int) ≤ ((h : Int) + (L.length : Int)) % (zs.length : Int) ∧ ((h : Int) + (L.length : Int)) % (zs.length : Int) < zs.length := by
  have ho := x.own
  have hle := x.le
  have hlt := x.ring.lt (by omega)
  rcases x.form with ⟨_, rfl⟩ | ⟨g, cap, rfl, hcap, hcm, _, _, hgb⟩
  · simp at hl
  have hml : (h + L.length) % zs.length < zs.length := Nat.mod_lt _ (by omega)
  obtain ⟨z, hz⟩ : ∃ z, zs[(h + L.length) % zs.length]? = some z := ⟨_, List.getElem?_eq_getElem hml⟩
  refine ⟨g, cap, z, rfl, hgb, hcap, hcm, hlt, ?_, ho.frozenAt _, Int.emod_nonneg _ (by omega), Int.emod_lt_of_pos _ (by omega)⟩
  rw [toNat_mod, ho.cellAt ((h + L.length) % zs.length) (by omega)]; exact encI_get zs _ z hz

theorem push_room {σ : Type} (W : Watch 51 Try.prog 22 σ) {w : World} {B b : Nat} {rv : Value} {most h : Nat} {zs L : List Int} (y : Int) (s : σ)
    (x : BoxI w B b rv most h zs L W.wv) (hl : L.length < zs.length) (hQ : W.Q s w) (hfb : ¬ W.foot b) (hfr : ∀ k, rv.ownBlock = some k → ¬ W.foot k) :
    Calls Try.prog 10 #[.pointer (some ⟨b, 0, none⟩), .int .i64 y] w fun e w' => e = .returned (.int .i64 0) ∧
      (∃ zs', BoxI w' B b rv most h zs' (L ++ [y]) W.wv) ∧ W.Q (W.next s (L.length + 1)) w' ∧ Fr (fun k => k = b ∨ rv.ownBlock = some k ∨ W.foot k) w w' := by
  have h3 := x.c3
  have h2 := x.c2
  have h1 := x.c1
  have h0 := x.c0
  have hm := x.m1
  have hc := x.cnt
  have hle := x.le
  have hf3 := x.fz 3
  obtain ⟨g, cap, z, rfl, hgb, hcap, hcm, hlt, hcell, hcf, i1, i2⟩ := push_facts x hl
  have hgb2 : ∀ i j, (⟨g, i, none⟩ : Addr) ≠ ⟨b, j, none⟩ := fun i j e => hgb (by injection e)
  have X := hid x
  have HQ := hid hQ
  clear x hQ
  have hne : ((L.length : Int) == most) = false := by simp; omega
  have hne2 : ((L.length : Int) == zs.length) = false := by simp; omega
  go_enter Try.func10, Try.ntmps10
  go_wp2
  go_quiet (fail)
  go_wp2
  go_quiet (fail)
  go_wp2
  go_region_held3 (fun w' => w'.cell? ⟨b, 1, none⟩ = some (.slice (some ⟨g, 0, none⟩) zs.length cap) ∧ w'.cell? ⟨b, 2, none⟩ = some (.int .i64 h) ∧ w'.cell? ⟨b, 3, none⟩ = some (.int .i64 L.length)) (first | go_keep)
    (first | (go_at_call 21; refine (at_walk b h zs.length cap L.length (some ⟨g, 0, none⟩) _ (by assumption) (by assumption) (by omega) (by omega) hlt (by omega) (by omega)).mono ?_; rintro e w' ⟨rfl, m, rfl⟩))
  go_wp2_with (go_at_call 22; refine (push_turn W y s X.out hl HQ.out hfb hfr (by rfl) (by rfl) (by rfl) (by rfl)).mono ?_; rintro e w' ⟨rfl, hfin⟩)
  go_ret
  exact ⟨rfl, hfin.out⟩

theorem push_grow {σ : Type} (W : Watch 51 Try.prog 22 σ) {w : World} {B b : Nat} {rv : Value} {most h : Nat} {zs L : List Int} (y : Int) (s : σ)
    (x : BoxI w B b rv most h zs L W.wv) (hl : L.length = zs.length) (hlm : L.length < most) (hBs : B ≤ w.heap.size) (hQ : W.Q s w) (hfb : ¬ W.foot b) :
    Calls Try.prog 10 #[.pointer (some ⟨b, 0, none⟩), .int .i64 y] w fun e w' => e = .returned (.int .i64 0) ∧
      (∃ rv' h' zs', BoxI w' B b rv' most h' zs' (L ++ [y]) W.wv ∧ ∀ k, rv'.ownBlock = some k → w.heap.size ≤ k) ∧ W.Q (W.next s (L.length + 1)) w' ∧ Fr (fun k => k = b ∨ W.foot k) w w' := by
  have h3 := x.c3
  have h1 := x.c1
  have h0 := x.c0
  have hm := x.m1
  have hc := x.cnt
  obtain ⟨ao, n, cap, rfl, hn⟩ : ∃ ao n cap, rv = .slice ao n cap ∧ n = L.length := by
    rcases x.form with ⟨rfl, rfl⟩ | ⟨g, cap, rfl, _⟩
    · exact ⟨_, _, _, rfl, by simpa using hl.symm⟩
    · exact ⟨_, _, _, rfl, hl.symm⟩
  subst hn
  have X := hid x
  have HQ := hid hQ
  have HL := hid hl
  clear x hQ hl
  have hne : ((L.length : Int) == most) = false := by simp; omega
  go_enter Try.func10, Try.ntmps10
  go_wp2
  go_quiet (fail)
  go_wp2
  go_quiet (fail)
  go_wp2_with (go_at_call 23; refine (grow_ok (X.out.fr (S := fun _ => False) ((Fr.refl _ w).drewN _) (fun e => e) (fun _ _ e => e)) HL.out hlm (by exact hBs)).mono ?_; rintro e w1 ⟨rfl, hg⟩; have HG := hid hg; clear hg)
  obtain ⟨rv2, h', zs2, x2, hl2, hF2, hfresh⟩ := HG.out
  clear HG h0 h1 h3
  have g3 := x2.c3
  have g2 := x2.c2
  have g1 := x2.c1
  have hle := x2.le
  have hf3 := x2.fz 3
  obtain ⟨g, cap2, z, rfl, hgb, hcap2, hcm2, hlt, hcell, hcf, i1, i2⟩ := push_facts x2 hl2
  have hgb2 : ∀ i j, (⟨g, i, none⟩ : Addr) ≠ ⟨b, j, none⟩ := fun i j e => hgb (by injection e)
  have hQ2 := W.kept s w w1 _ HQ.out (((Fr.refl (fun k => k = b) w).drewN _).trans' hF2) (fun k hk e => hfb (by rw [← e]; exact hk))
  have hfr : ∀ k, (Value.slice (some ⟨g, 0, none⟩) zs2.length cap2).ownBlock = some k → ¬ W.foot k := fun k hk hf => by
    have h1 := hfresh k hk
    have h2 := W.lt s w k HQ.out hf
    have h3 := hF2.size
    simp only [World.heap_drewN] at h1
    omega
  have HQ2 := hid hQ2
  have X2 := hid x2
  have HF := hid hF2
  have HFR := hid hfr
  have HFS := hid hfresh
  clear hQ2 x2 hF2 hfr hfresh
  go_region_held3 (fun w' => w'.cell? ⟨b, 1, none⟩ = some (.slice (some ⟨g, 0, none⟩) zs2.length cap2) ∧ w'.cell? ⟨b, 2, none⟩ = some (.int .i64 h') ∧ w'.cell? ⟨b, 3, none⟩ = some (.int .i64 L.length)) (first | go_keep)
    (first | (go_at_call 21; refine (at_walk b h' zs2.length cap2 L.length (some ⟨g, 0, none⟩) _ (by assumption) (by assumption) (by omega) (by omega) hlt (by omega) (by omega)).mono ?_; rintro e w' ⟨rfl, m, rfl⟩))
  go_wp2_with (go_at_call 22; refine (push_turn W y s X2.out hl2 HQ2.out hfb HFR.out (by rfl) (by rfl) (by rfl) (by rfl)).mono ?_; rintro e w' ⟨rfl, hfin⟩)
  go_ret
  obtain ⟨⟨zs3, hb3⟩, hq3, hf3⟩ := hfin.out
  refine ⟨rfl, ⟨_, _, _, hb3, fun k hk => by simpa using HFS.out k hk⟩, hq3, ?_⟩
  refine ((Fr.refl (fun k => k = b) w).drewN _).trans' HF.out |>.trans hf3 (fun k hk => .inl hk) (fun k hk hs => ?_)
  rcases hs with h | h | h
  · exact .inl h
  · have := HFS.out k h
    simp only [World.heap_drewN] at this
    omega
  · exact .inr h

end Go.Proofs.Ytjlamecjenibcaa
