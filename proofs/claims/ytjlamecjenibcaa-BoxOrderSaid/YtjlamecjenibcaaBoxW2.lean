/-
  The box's Pop, walked.
-/
import Derived.Test.YtjlamecjenibcaaBoxW1
namespace Go.Proofs.Ytjlamecjenibcaa
open Go.RowKit

theorem setI (zs : List Int) (i : Nat) (z : Int) : (zs.map (Value.int .i64)).set i (.int .i64 z) = (zs.set i z).map (Value.int .i64) := by
  rw [List.map_set]

/-- what Pop's three stores make of a box -/
theorem box_pop {w w1 : World} {B b : Nat} {g cap most h : Nat} {zs L : List Int} {y : Int} {wv : Value}
    (x : BoxI w B b (.slice (some ⟨g, 0, none⟩) zs.length cap) most h zs (y :: L) wv)
    (hh : w1.heap = (((w.setCell ⟨g, h, none⟩ (.int .i64 0)).setCell ⟨b, 2, none⟩ (.int .i64 (((h : Int) + 1) % (zs.length : Int)))).setCell ⟨b, 3, none⟩ (.int .i64 L.length)).heap)
    (ho : w1.os = w.os) (ht : w1.tape = w.tape) (hp : w1.output = w.output) :
    BoxI w1 B b (.slice (some ⟨g, 0, none⟩) zs.length cap) most ((h + 1) % zs.length) (zs.set h 0) L wv ∧ Fr (fun k => k = b ∨ k = g) w w1 := by
  obtain ⟨hlt, hat, hr⟩ := x.ring.pop 0
  have hgb : g ≠ b := fun e => x.ne (by rw [← e]; rfl)
  have hs := (x.own.stored h (.int .i64 0)).1
  have hfr : Fr (fun k => k = b ∨ k = g) w w1 := by
    have := (((Fr.refl (fun k => k = b ∨ k = g) w).setCell (p := ⟨g, h, none⟩) (fun _ => .inr rfl) (.int .i64 0)).setCell (p := ⟨b, 2, none⟩) (fun _ => .inl rfl) (.int .i64 (((h : Int) + 1) % (zs.length : Int)))).setCell (p := ⟨b, 3, none⟩) (fun _ => .inl rfl) (.int .i64 L.length)
    exact ⟨ho, ht, hp, by rw [hh]; exact this.size, by rw [hh]; exact this.block⟩
  refine ⟨⟨x.base, ?_, ?_, x.ne, x.m1, by simpa using x.le, hr⟩, hfr⟩
  · rw [hh, heap_set (heap_set (heap_set_ne x.blk (fun e => hgb e.symm) _) _) _]
    simp
  · rw [encI_map, setI] at hs
    have h2 := Go.ownsRow_setCell_other (Go.ownsRow_setCell_other hs (a := ⟨b, 2, none⟩) (by simp [Value.ownBlock, hgb]) (.int .i64 (((h : Int) + 1) % (zs.length : Int)))) (a := ⟨b, 3, none⟩) (by simp [Value.ownBlock, hgb]) (.int .i64 L.length)
    unfold World.ownsRow at h2 ⊢
    rw [hh, encI_map]
    simpa using h2

/-- Pop's last call but the return: who watches is told -/
theorem pop_turn {σ : Type} (W : Watch 51 Try.prog 22 σ) {w w1 : World} {B b : Nat} {g cap most h : Nat} {zs L : List Int} {y : Int} (s : σ)
    (x : BoxI w B b (.slice (some ⟨g, 0, none⟩) zs.length cap) most h zs (y :: L) W.wv) (hQ : W.Q s w) (hfb : ¬ W.foot b) (hfr : ∀ k, (Value.slice (some ⟨g, 0, none⟩) zs.length cap).ownBlock = some k → ¬ W.foot k)
    (hh : w1.heap = (((w.setCell ⟨g, h, none⟩ (.int .i64 0)).setCell ⟨b, 2, none⟩ (.int .i64 (((h : Int) + 1) % (zs.length : Int)))).setCell ⟨b, 3, none⟩ (.int .i64 L.length)).heap)
    (ho : w1.os = w.os) (ht : w1.tape = w.tape) (hp : w1.output = w.output) :
    Calls Try.prog 22 #[.pointer (some ⟨b, 0, none⟩)] w1 fun e w' => e = .returned (.tuple #[]) ∧ Hid ((∃ h' zs', BoxI w' B b (.slice (some ⟨g, 0, none⟩) zs.length cap) most h' zs' L W.wv) ∧ W.Q (W.next s L.length) w' ∧
      Fr (fun k => k = b ∨ (Value.slice (some ⟨g, 0, none⟩) zs.length cap).ownBlock = some k ∨ W.foot k) w w') := by
  obtain ⟨hB, hF⟩ := box_pop x hh ho ht hp
  have hg : ¬ W.foot g := hfr g rfl
  have hc := hB.cnt
  have hm := hB.m1
  refine (W.turns w1 b L.length _ _ _ s hB.blk (by omega) (W.kept s w w1 _ hQ hF ?_)).mono ?_
  · rintro k hk (rfl | rfl)
    · exact hfb hk
    · exact hg hk
  · rintro e w' ⟨rfl, hq', hf'⟩
    refine ⟨rfl, ⟨_, _, hB.fr hf' hfb (fun k hk => hfr k hk)⟩, hq', ?_⟩
    refine hF.trans hf' (fun k hk => ?_) (fun k _ hk => .inr (.inr hk))
    rcases hk with rfl | rfl
    · exact .inl rfl
    · exact .inr (.inl rfl)

theorem pop_none {w : World} {B b : Nat} {rv : Value} {most h : Nat} {zs : List Int} {wv : Value} (x : BoxI w B b rv most h zs [] wv) :
    Calls Try.prog 8 #[.pointer (some ⟨b, 0, none⟩)] w fun e w' => e = .returned (.tuple #[.int .i64 0, .int .i64 16]) ∧ w = w' := by
  have h3 := x.c3
  clear x
  go_enter Try.func8, Try.ntmps8
  go_wp2
  go_ret2
  exact ⟨rfl, rfl⟩

theorem pop_some {σ : Type} (W : Watch 51 Try.prog 22 σ) {w : World} {B b : Nat} {rv : Value} {most h : Nat} {zs L : List Int} {y : Int} (s : σ)
    (x : BoxI w B b rv most h zs (y :: L) W.wv) (hQ : W.Q s w) (hfb : ¬ W.foot b) (hfr : ∀ k, rv.ownBlock = some k → ¬ W.foot k) :
    Calls Try.prog 8 #[.pointer (some ⟨b, 0, none⟩)] w fun e w' => e = .returned (.tuple #[.int .i64 y, .int .i64 0]) ∧
      (∃ h' zs', BoxI w' B b rv most h' zs' L W.wv) ∧ W.Q (W.next s L.length) w' ∧ Fr (fun k => k = b ∨ rv.ownBlock = some k ∨ W.foot k) w w' := by
  have h3 := x.c3
  have h2 := x.c2
  have h1 := x.c1
  have hm := x.m1
  have hc := x.cnt
  have hle := x.le
  have hfz := x.fz
  obtain ⟨hlt, hat, _⟩ := x.ring.pop 0
  have ho := x.own
  rcases x.form with ⟨_, rfl⟩ | ⟨g, cap, rfl, hcap, hcm, _, _, hgb⟩
  · simp at hlt
  have hcell : w.cell? ⟨g, h, none⟩ = some (.int .i64 y) := by
    rw [ho.cellAt h (by omega)]; exact encI_get zs h y hat
  have hcf : w.frozen? ⟨g, h, none⟩ = false := ho.frozenAt h
  simp only [List.length_cons] at h3 hc
  have X := hid x
  have HQ := hid hQ
  clear x hQ ho hat
  have hb : ((L.length + 1 : Nat) : Int) = (L.length : Int) + 1 := by omega
  rw [hb] at h3
  have hL : (L.length : Int) + 1 ≤ 4096 := by omega
  have hne : ((L.length : Int) + 1 == 0) = false := by simp; omega
  clear hb
  have hf2 := hfz 2
  have hf3 := hfz 3
  clear hfz
  have hgb2 : (⟨g, h, none⟩ : Addr) ≠ ⟨b, 2, none⟩ := fun e => hgb (by injection e)
  have e1 : ∀ v, (w.setCell ⟨g, h, none⟩ v).cell? ⟨b, 1, none⟩ = some (.slice (some ⟨g, 0, none⟩) zs.length cap) := fun v => by
    rw [World.cell?_setCell_other _ _ _ _ (fun e => hgb (by injection e))]; exact h1
  have e2 : ∀ v, (w.setCell ⟨g, h, none⟩ v).cell? ⟨b, 2, none⟩ = some (.int .i64 h) := fun v => by
    rw [World.cell?_setCell_other _ _ _ _ (fun e => hgb (by injection e))]; exact h2
  go_enter Try.func8, Try.ntmps8
  go_wp2
  go_quiet (fail)
  go_wp2
  go_region
  all_goals
    go_wp2_with (first
      | (go_at_call 21; refine (at_walk b h zs.length cap 1 (some ⟨g, 0, none⟩) _ (by exact e1 _) (by exact e2 _) (by omega) (by omega) hlt (by omega) (by omega)).mono ?_; rintro e w' ⟨rfl, m, rfl⟩)
      | (go_at_call 22; refine (pop_turn W s X.out HQ.out hfb hfr (by rfl) (by rfl) (by rfl) (by rfl)).mono ?_; rintro e w' ⟨rfl, hfin⟩))
    go_ret2
    exact ⟨rfl, hfin.out⟩

end Go.Proofs.Ytjlamecjenibcaa
