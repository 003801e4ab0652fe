/-
  The box's List, walked.
-/
import Derived.Test.YtjlamecjenibcaaBoxW2
import Derived.Deep.RegionHeld3
import Derived.Deep.AppendLies
import Derived.Deep.LoopGhost
namespace Go.Proofs.Ytjlamecjenibcaa
open Go.RowKit

theorem info_int : (Try.prog.info? 3).map (fun i => (i.zero, i.size, i.bytes)) = some (some (.int .i64 0), 1, 8) := by kernel_rfl

theorem below_drewN {B : Nat} {a w : World} (h : Below B a w) (n : Nat) : Below B a (w.drewN n) := ⟨h.os, h.tape, h.output, h.size, h.block⟩

theorem toNat_mod (h k n : Nat) : (((h : Int) + (k : Int)) % (n : Int)).toNat = (h + k) % n := by
  rw [← Int.natCast_add, ← Int.natCast_emod, Int.toNat_natCast]

theorem take_snoc {α : Type} (L : List α) (k : Nat) (y : α) (h : L[k]? = some y) : L.take (k + 1) = L.take k ++ [y] := by
  rw [List.take_add_one, h]; rfl

set_option maxRecDepth 100000 in
theorem list_ok {w : World} {B b : Nat} {rv : Value} {most h : Nat} {zs L : List Int} {wv : Value} (x : BoxI w B b rv most h zs L wv) :
    Calls Try.prog 16 #[.pointer (some ⟨b, 0, none⟩)] w fun e w' => ∃ v, e = .returned v ∧ w'.ownsRow w.heap.size 3 1 v L.length (L.map (Value.int .i64)) ∧ Below w.heap.size w w' := by
  obtain ⟨i0, hi0, hz0, hz1, hz2⟩ := info_parts info_int
  have h2 := x.c2
  have h1 := x.c1
  have hm := x.m1
  have hc := x.cnt
  have hle := x.le
  have hr := x.ring.len
  have hlt := x.ring.lt
  have hbs := lt_of_block x.blk
  have X := hid x
  clear x
  have HR := hid h1
  have H2 := hid h2
  clear h1 h2
  go_enter Try.func16, Try.ntmps16
  go_wp2_with (go_at_call 13; refine (len_ok X.out).mono ?_; rintro e w' ⟨rfl, rfl⟩)
  go_loopw [3, 7] (fun v i wr => ∃ k : Nat, k ≤ L.length ∧ i = .int .i64 k ∧ wr.ownsRow w.heap.size 3 1 v k ((L.take k).map (Value.int .i64)) ∧ Below w.heap.size w wr) (fun _ i _ => L.length - (intOf i).toNat)
  case atStart => exact ⟨0, Nat.zero_le _, rfl, by simpa using World.ownsRow_nil _ _ _ _, Below.refl _ _⟩
  case round =>
    obtain ⟨k, hk, rfl, hown, hb⟩ := hrel
    by_cases hkl : k < L.length
    · obtain ⟨y, hy⟩ : ∃ y, L[k]? = some y := ⟨L[k], by simp [hkl]⟩
      rcases X.out.form with ⟨rfl, hz⟩ | ⟨g, cap, rfl, hcap, hcm, _, hgs, hgb⟩
      · rw [hz] at hr; simp only [List.length_nil] at hr; omega
      have hlt' := hlt (by omega)
      have hat := X.out.ring.at_ k hkl
      rw [hy] at hat
      have hml : (h + k) % zs.length < zs.length := Nat.mod_lt _ (by omega)
      have hcell : w.cell? ⟨g, (h + k) % zs.length, none⟩ = some (.int .i64 y) := by
        rw [X.out.own.cellAt ((h + k) % zs.length) (by omega)]; exact encI_get zs _ y hat
      have c1 : wr.cell? ⟨b, 1, none⟩ = some (.slice (some ⟨g, 0, none⟩) zs.length cap) := (hb.cell hbs).trans HR.out
      have c2 : wr.cell? ⟨b, 2, none⟩ = some (.int .i64 h) := (hb.cell hbs).trans H2.out
      have c3 : wr.cell? ⟨g, (((h : Int) + (k : Int)) % (zs.length : Int)).toNat, none⟩ = some (.int .i64 y) := by rw [toNat_mod]; exact (hb.cell hgs).trans hcell
      have HY := hid hy
      have HAT := hid hat
      clear hat hy hcell
      have hbz := hb.size
      have ab : u3.ownBlock ≠ some b := fun e => by have := (hown.lt _ e).1; omega
      have ag : u3.ownBlock ≠ some g := fun e => by have := (hown.lt _ e).1; omega
      have i1 : (0 : Int) ≤ ((h : Int) + k) % (zs.length : Int) := Int.emod_nonneg _ (by omega)
      have i2 : ((h : Int) + k) % (zs.length : Int) < zs.length := Int.emod_lt_of_pos _ (by omega)
      go_wp2
      go_region_held3 (fun w' => w'.cell? ⟨b, 1, none⟩ = some (.slice (some ⟨g, 0, none⟩) zs.length cap) ∧ w'.cell? ⟨b, 2, none⟩ = some (.int .i64 h) ∧ w'.cell? ⟨g, (((h : Int) + (k : Int)) % (zs.length : Int)).toNat, none⟩ = some (.int .i64 y))
        (first
          | go_keep
          | (go_split_ands; exact ⟨hgrow.cell (by assumption) (Ne.symm ab), hgrow.cell (by assumption) (Ne.symm ab), hgrow.cell (by assumption) (Ne.symm ag)⟩))
        (first
          | (go_at_call 21; refine (at_walk b h zs.length cap k (some ⟨g, 0, none⟩) _ (by assumption) (by assumption) (by omega) (by omega) hlt' (by omega) (by omega)).mono ?_; rintro e w' ⟨rfl, m, rfl⟩)
          | (refine step_append_lies _ (by rfl) _ _ _ (by rfl) w.heap.size 3 i0 _ 1 8 Try.underlying29 hi0 hz0 hz1 hz2 rfl (by omega) u3 k _ (by rfl) (by exact hown.alloc _) ⟨wr.heap.size, 0, none⟩ 1 1 [.int .i64 y] (by rfl) (by rfl) (World.news_of_block (cs := #[.int .i64 y]) (t := 3) (fr := (0, 0)) (by exact heap_new wr _)) (by simp [Value.oneCell']) (by omega) (by unfold maxLen; omega) (by omega) (by simp; omega) (wr.heap.size + 1) (by simp) ?_; intro gg cp w1 hown1 hgrow hat' hlt2))
      have R1 := hid (show w1.ownsRow w.heap.size 3 1 (.slice (some ⟨gg, 0, none⟩) (k + 1) cp) (k + 1) ((L.take (k + 1)).map (Value.int .i64)) by rw [take_snoc L k y HY.out, List.map_append]; exact hown1)
      have R2 := hid (show Below w.heap.size w w1 from (((below_drewN hb (1 + m)).alloc (by simp; omega) _).grown hgrow (by simp; omega) (fun q e => (hown.lt q e).1)))
      clear hown1 hgrow hown hb c1 c2 c3 hat' ab ag
      go_wp2
      go_roundw
      case rel => exact ⟨k + 1, by omega, by go_num, R1.out, R2.out⟩
      case measure => simp [intOf]; omega
    · obtain rfl : k = L.length := by omega
      rw [List.take_length] at hown
      have R1 := hid hown
      have R2 := hid hb
      clear hown hb
      go_wp2
      go_ret
      exact ⟨_, rfl, R1.out, R2.out⟩

end Go.Proofs.Ytjlamecjenibcaa
