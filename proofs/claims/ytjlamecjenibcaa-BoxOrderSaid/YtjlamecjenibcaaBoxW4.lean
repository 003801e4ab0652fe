/-
  The box's grow, Clone.
-/
import Derived.Test.YtjlamecjenibcaaBoxW3
import Derived.WalkSpells
import Derived.Laws.CopyOwn
namespace Go.Proofs.Ytjlamecjenibcaa
open Go.RowKit

theorem eql_nil_slice_no (a : Addr) (n c : Nat) (w : World) : (binOp .eql 29 (.slice (some a) n c) (.slice none 0 0)).run Try.prog w = .ok (.bool false) w := by kernel_rfl
theorem eql_nil_slice_yes (w : World) : (binOp .eql 29 (.slice none 0 0) (.slice none 0 0)).run Try.prog w = .ok (.bool true) w := by kernel_rfl

theorem clone_nil (w : World) : Calls Try.prog 24 #[.slice none 0 0] w fun e w' => e = .returned (.slice none 0 0) ∧ w = w' := by
  have hq := eql_nil_slice_yes
  go_enter Try.func24, Try.ntmps24
  go_wp2
  go_ret
  exact ⟨rfl, rfl⟩

theorem clone_some (g cap B : Nat) (zs : List Int) (w : World) (ho : w.ownsRow B 3 1 (.slice (some ⟨g, 0, none⟩) zs.length cap) zs.length (zs.map (Value.int .i64))) (hn : zs.length ≤ 4096) :
    Calls Try.prog 24 #[.slice (some ⟨g, 0, none⟩) zs.length cap] w fun e w' => ∃ v, e = .returned v ∧ w'.ownsRow w.heap.size 3 1 v zs.length (zs.map (Value.int .i64)) ∧ Below w.heap.size w w' := by
  obtain ⟨i0, hi0, hz0, hz1, hz2⟩ := info_parts info_int
  have hq := eql_nil_slice_no ⟨g, 0, none⟩ zs.length cap
  go_enter Try.func24, Try.ntmps24
  go_wp2_with (at_builtin; refine wpList_append_own _ rfl _ _ 29 rfl w.heap.size 3 i0 (.int .i64 0) 1 8 Try.underlying29 hi0 hz0 hz1 hz2 rfl (by decide) _ 0 [] rfl (by exact World.ownsRow_made w #[] 0 (Nat.le_refl _) (by decide) rfl) ⟨g, 0, none⟩ zs.length cap (zs.map (Value.int .i64)) rfl (by simp) ?c1 (ints_oneCell _ _) ?c3 ?c4 ?c5 ?_)
  case c1 => exact fun j u hu => (Go.World.ownsRow.cells (ho.alloc _) rfl j u hu)
  case c3 => unfold maxLen; omega
  case c4 => omega
  case c5 => simp
  intro v' w1 hown hgrow _
  have R1 := hid hown
  have R2 := hid (((Below.refl w.heap.size w).alloc (Nat.le_refl _) _).grown hgrow (by simp) (fun k hk => by simp [Value.ownBlock] at hk; omega))
  clear hown hgrow
  go_wp2
  go_ret
  refine ⟨_, rfl, ?_, R2.out⟩
  simpa using R1.out

theorem made_ints (N : Nat) : (madeCells #[Value.int .i64 0] N).toList = List.replicate N (Value.int .i64 0) := toList_madeCells_one _ _

/-- what grow's two stores make of a box -/
theorem box_grown {w w2 w3 : World} {B b : Nat} {rv : Value} {most h N : Nat} {zs L : List Int} {wv : Value} (x : BoxI w B b rv most h zs L wv)
    (hB : B ≤ w.heap.size) (hb : Below w.heap.size w w2) (hN : L.length ≤ N) (hN2 : N ≤ most)
    (hg : w2.heap[w.heap.size]? = some (.cells (splice (List.replicate N (Value.int .i64 0)) 0 (L.map (Value.int .i64))).toArray 3))
    (hh : w3.heap = ((w2.setCell ⟨b, 1, none⟩ (.slice (some ⟨w.heap.size, 0, none⟩) N N)).setCell ⟨b, 2, none⟩ (.int .i64 0)).heap)
    (ho : w3.os = w2.os) (ht : w3.tape = w2.tape) (hp : w3.output = w2.output) :
    BoxI w3 B b (.slice (some ⟨w.heap.size, 0, none⟩) N N) most 0 (L ++ List.replicate (N - L.length) 0) L wv ∧ Fr (fun k => k = b) w w3 := by
  have hbs := lt_of_block x.blk
  have hm := x.m1
  have hblk : w2.heap[b]? = _ := (hb.block b hbs).trans x.blk
  have hsp : splice (List.replicate N (Value.int .i64 0)) 0 (L.map (Value.int .i64)) = (L ++ List.replicate (N - L.length) 0).map (Value.int .i64) := by
    simp [splice]
  refine ⟨⟨x.base, ?_, ?_, ?_, x.m1, by simp; omega, Ring.fresh _ _⟩, ?_⟩
  · rw [hh, heap_set (heap_set hblk _) _]
    simp
  · have hg3 : w3.heap[w.heap.size]? = some (.cells ((L ++ List.replicate (N - L.length) 0).map (Value.int .i64)).toArray 3) := by
      rw [hh, heap_set_ne (heap_set_ne hg (by simp; omega) _) (by simp; omega) _, hsp]
    refine ⟨by simp [encI_map], .inr ⟨w.heap.size, N, _, ?_, hB, hg3, by simp; omega, by unfold maxLen; omega, by simp; omega, ?_⟩⟩
    · congr 1
      simp; omega
    · rw [encI_map]
      simp
      rw [List.take_of_length_le (by simp)]
  · simp [Value.ownBlock]; omega
  · have h1 : Fr (fun k => k = b) w w2 := ⟨hb.os, hb.tape, hb.output, hb.size, fun i hi _ => hb.block i hi⟩
    have := (h1.setCell (p := ⟨b, 1, none⟩) (fun _ => rfl) (.slice (some ⟨w.heap.size, 0, none⟩) N N)).setCell (p := ⟨b, 2, none⟩) (fun _ => rfl) (.int .i64 0)
    exact ⟨ho.trans hb.os, ht.trans hb.tape, hp.trans hb.output, by rw [hh]; exact this.size, by rw [hh]; exact this.block⟩

theorem owns_view {w : World} {base : Nat} {e : TypeId} {v : Value} {n : Nat} {xs : List Value} (h : w.ownsRow base e 1 v n xs) :
    ∃ sp c, v = .slice sp n c ∧ (0 < n → ∃ ad, sp = some ad ∧ ∀ (j : Nat) (u : Value), xs[j]? = some u → w.cell? (ad.add j) = some u) := by
  rcases owns_form h with ⟨rfl, rfl⟩ | ⟨g, cap, rfl, _⟩
  · exact ⟨_, _, rfl, fun h => by omega⟩
  · exact ⟨_, _, rfl, fun _ => ⟨_, rfl, fun j u hu => h.cells rfl j u hu⟩⟩

theorem info_int' : (Try.prog.info? 3).map (fun i => (i.zero, i.size, i.bytes)) = some (some (.int .i64 0), 1, 8) := info_int

theorem make_ints (N : Nat) (z : Int) (hz : z = N) (hN : N ≤ 4096) (w : World) : (Instr.makeSlice 29 (.int .i64 z) (.int .i64 z)).run Try.prog w = .ok (.slice (some ⟨w.heap.size, 0, none⟩) N N) (w.alloc (.cells (madeCells #[.int .i64 0] N) 3)) := by
  subst hz
  exact run_make_row' 29 3 (.int .i64 0) 8 Try.underlying29 info_int rfl .i64 .i64 N (by omega) (by omega) w

theorem cellsz_int : (Try.prog.info? 3).map (fun x => x.size) = some 1 := by kernel_rfl

theorem grow_below {w w1 : World} {o : Obj} (hb : Below (w.alloc o).drew.heap.size (w.alloc o).drew w1) : Below w.heap.size w w1 :=
  (((Below.refl w.heap.size w).alloc (Nat.le_refl _) o).drew).trans (hb.mono (by simp))

theorem grow_row {w w1 : World} {M : Array Value} {l : List Value} (hb : Below (w.alloc (.cells M 3)).drew.heap.size (w.alloc (.cells M 3)).drew w1) (hM : M.toList = l) :
    w1.heap[w.heap.size]? = some (.cells l.toArray 3) := by
  subst hM
  exact (hb.block _ (by simp)).trans (heap_new w _)

theorem copy_n (l : List Int) (N : Nat) (h : l.length ≤ N) : (l.map (Value.int .i64)).length = l.length.min N := by
  rw [List.length_map]; show _ = min _ _; omega
theorem copy_fit (l : List Int) (N : Nat) (h : l.length ≤ N) : 0 + (l.map (Value.int .i64)).length ≤ (List.replicate N (Value.int .i64 0)).length := by simp; omega
theorem copy_src {l : List Int} {a : Addr} {sp : Option Addr} {w : World} (h : 0 < l.length → ∃ ad, sp = some ad ∧ ∀ (j : Nat) (u : Value), (l.map (Value.int .i64))[j]? = some u → w.cell? (ad.add j) = some u) :
    0 < (l.map (Value.int .i64)).length → some a = some a ∧ ∃ ad, sp = some ad ∧ ∀ (j : Nat) (u : Value), (l.map (Value.int .i64))[j]? = some u → w.cell? (ad.add j) = some u :=
  fun hp => ⟨rfl, h (by simpa using hp)⟩

theorem grow_f {w w2 : World} {B b : Nat} {rv : Value} {most h : Nat} {zs L : List Int} {wv : Value} (hb : Below w.heap.size w w2) (hbs : b < w.heap.size) (i : Nat) (x : BoxI w B b rv most h zs L wv) : w2.frozen? ⟨b, i, none⟩ = false :=
  (hb.frozen (p := ⟨b, i, none⟩) hbs).trans (x.fz i)

theorem grow_d {w w2 : World} {B b : Nat} {rv : Value} {most h : Nat} {zs L : List Int} {wv : Value} (hb : Below w.heap.size w w2) (x : BoxI w B b rv most h zs L wv) :
    w2.cell? ⟨b, 1, none⟩ = some rv ∧ w2.cell? ⟨b, 2, none⟩ = some (.int .i64 h) :=
  ⟨(hb.cell (p := ⟨b, 1, none⟩) (lt_of_block x.blk)).trans x.c1, (hb.cell (p := ⟨b, 2, none⟩) (lt_of_block x.blk)).trans x.c2⟩

theorem grow_ok {w : World} {B b : Nat} {rv : Value} {most h : Nat} {zs L : List Int} {wv : Value} (x : BoxI w B b rv most h zs L wv) (hf : L.length = zs.length) (hl : L.length < most) (hBs : B ≤ w.heap.size) :
    Calls Try.prog 23 #[.pointer (some ⟨b, 0, none⟩)] w fun e w' => e = .returned (.tuple #[]) ∧
      ∃ rv' h' zs', BoxI w' B b rv' most h' zs' L wv ∧ L.length < zs'.length ∧ Fr (fun k => k = b) w w' ∧ (∀ k, rv'.ownBlock = some k → w.heap.size ≤ k) := by
  obtain ⟨i0, hi0, hz0, hz1, hz2⟩ := info_parts info_int
  have h1 := x.c1
  have h0 := x.c0
  have hm := x.m1
  have hle := x.le
  have hbs := lt_of_block x.blk
  obtain ⟨ao, n, cap, rfl, hn⟩ : ∃ ao n cap, rv = .slice ao n cap ∧ n = zs.length := by
    rcases x.form with ⟨rfl, rfl⟩ | ⟨g, cap, rfl, _⟩
    · exact ⟨_, _, _, rfl, rfl⟩
    · exact ⟨_, _, _, rfl, rfl⟩
  have X := hid x
  clear x
  have hnm : n < most := by omega
  have HN := hid hn
  have hLn : L.length ≤ n := by omega
  have hnL : n ≤ L.length := by omega
  clear hn hf
  go_enter Try.func23, Try.ntmps23
  have hwr : IntKind.i64.wrap (2 * (n : Int)) = 2 * (n : Int) := IntWalk.i64_in _ (by omega)
  go_wp2
  rcases (show (2 * n ≤ 4 ∧ 4 < most) ∨ (2 * n ≤ 4 ∧ most ≤ 4) ∨ (4 < 2 * n ∧ 2 * n < most) ∨ (4 < 2 * n ∧ most ≤ 2 * n) from by omega) with ⟨k1, k2⟩ | ⟨k1, k2⟩ | ⟨k1, k2⟩ | ⟨k1, k2⟩
  · have q1 : ¬ (4 : Int) < 2 * (n : Int) := by omega
    have q2 : (4 : Int) < (most : Int) := by omega
    have hmk := make_ints (4) (4) (by omega) (by omega)
    obtain ⟨M, hM⟩ : ∃ M, M = madeCells #[Value.int .i64 0] (4) := ⟨_, rfl⟩
    have hML : M.toList = List.replicate (4) (Value.int .i64 0) := by rw [hM]; exact made_ints _
    rw [← hM] at hmk
    have HML := hid hML
    clear hM hML
    go_region_held3 (fun w' => w'.cell? ⟨b, 0, none⟩ = some (.int .i64 most) ∧ w'.cell? ⟨b, 1, none⟩ = some (.slice ao n cap)) (go_keep) (first | fail)
    go_wp2_with (first
      | (go_at_call 16; refine (list_ok (X.out.fr (S := fun _ => False) (((Fr.refl _ w).alloc _).drew) (fun e => e) (fun _ _ e => e))).mono ?_; rintro e w1 ⟨v, rfl, hown, hbl⟩; obtain ⟨sp, sCap, rfl, hcs⟩ := owns_view hown; have HB := hid hbl; have HC := hid hcs; clear hown hbl hcs)
      | (with_reducible refine wpList_copy_splice rfl (.tmp 16) (.tmp 18) 29 29 rfl 3 Try.underlying29 cellsz_int (some ⟨w.heap.size, 0, none⟩) sp (4) (4) L.length sCap rfl rfl w.heap.size 0 (List.replicate (4) (Value.int .i64 0)) 3 (grow_row HB.out HML.out) (L.map (Value.int .i64)) (copy_n L _ (by omega)) (copy_src HC.out) (copy_fit L _ (by omega)) (ints_oneCell _ _) w.heap.size w (grow_below HB.out) (Nat.le_refl _) ?_; intro w2 hg2 hb2; have f1 := grow_f hb2 hbs 1 X.out; have f2 := grow_f hb2 hbs 2 X.out; obtain ⟨d1, d2⟩ := grow_d hb2 X.out; have HB2 := hid hb2; clear hb2))
    go_end0
    refine ⟨rfl, ?_⟩
    obtain ⟨gB, gF⟩ := box_grown (N := 4) X.out hBs HB2.out (by omega) (by omega) hg2.out rfl rfl rfl rfl
    refine ⟨_, _, _, gB, by simp; omega, gF, fun k hk => ?_⟩
    simp [Value.ownBlock] at hk
    omega
  · have q1 : ¬ (4 : Int) < 2 * (n : Int) := by omega
    have q2 : ¬ (4 : Int) < (most : Int) := by omega
    have hmk := make_ints (most) (most) (by omega) (by omega)
    obtain ⟨M, hM⟩ : ∃ M, M = madeCells #[Value.int .i64 0] (most) := ⟨_, rfl⟩
    have hML : M.toList = List.replicate (most) (Value.int .i64 0) := by rw [hM]; exact made_ints _
    rw [← hM] at hmk
    have HML := hid hML
    clear hM hML
    go_region_held3 (fun w' => w'.cell? ⟨b, 0, none⟩ = some (.int .i64 most) ∧ w'.cell? ⟨b, 1, none⟩ = some (.slice ao n cap)) (go_keep) (first | fail)
    go_wp2_with (first
      | (go_at_call 16; refine (list_ok (X.out.fr (S := fun _ => False) (((Fr.refl _ w).alloc _).drew) (fun e => e) (fun _ _ e => e))).mono ?_; rintro e w1 ⟨v, rfl, hown, hbl⟩; obtain ⟨sp, sCap, rfl, hcs⟩ := owns_view hown; have HB := hid hbl; have HC := hid hcs; clear hown hbl hcs)
      | (with_reducible refine wpList_copy_splice rfl (.tmp 16) (.tmp 18) 29 29 rfl 3 Try.underlying29 cellsz_int (some ⟨w.heap.size, 0, none⟩) sp (most) (most) L.length sCap rfl rfl w.heap.size 0 (List.replicate (most) (Value.int .i64 0)) 3 (grow_row HB.out HML.out) (L.map (Value.int .i64)) (copy_n L _ (by omega)) (copy_src HC.out) (copy_fit L _ (by omega)) (ints_oneCell _ _) w.heap.size w (grow_below HB.out) (Nat.le_refl _) ?_; intro w2 hg2 hb2; have f1 := grow_f hb2 hbs 1 X.out; have f2 := grow_f hb2 hbs 2 X.out; obtain ⟨d1, d2⟩ := grow_d hb2 X.out; have HB2 := hid hb2; clear hb2))
    go_end0
    refine ⟨rfl, ?_⟩
    obtain ⟨gB, gF⟩ := box_grown (N := most) X.out hBs HB2.out (by omega) (by omega) hg2.out rfl rfl rfl rfl
    refine ⟨_, _, _, gB, by simp; omega, gF, fun k hk => ?_⟩
    simp [Value.ownBlock] at hk
    omega
  · have q1 : (4 : Int) < 2 * (n : Int) := by omega
    have q2 : 2 * (n : Int) < (most : Int) := by omega
    have hmk := make_ints (2 * n) (2 * (n : Int)) (by omega) (by omega)
    obtain ⟨M, hM⟩ : ∃ M, M = madeCells #[Value.int .i64 0] (2 * n) := ⟨_, rfl⟩
    have hML : M.toList = List.replicate (2 * n) (Value.int .i64 0) := by rw [hM]; exact made_ints _
    rw [← hM] at hmk
    have HML := hid hML
    clear hM hML
    go_region_held3 (fun w' => w'.cell? ⟨b, 0, none⟩ = some (.int .i64 most) ∧ w'.cell? ⟨b, 1, none⟩ = some (.slice ao n cap)) (go_keep) (first | fail)
    go_wp2_with (first
      | (go_at_call 16; refine (list_ok (X.out.fr (S := fun _ => False) (((Fr.refl _ w).alloc _).drew) (fun e => e) (fun _ _ e => e))).mono ?_; rintro e w1 ⟨v, rfl, hown, hbl⟩; obtain ⟨sp, sCap, rfl, hcs⟩ := owns_view hown; have HB := hid hbl; have HC := hid hcs; clear hown hbl hcs)
      | (with_reducible refine wpList_copy_splice rfl (.tmp 16) (.tmp 18) 29 29 rfl 3 Try.underlying29 cellsz_int (some ⟨w.heap.size, 0, none⟩) sp (2 * n) (2 * n) L.length sCap rfl rfl w.heap.size 0 (List.replicate (2 * n) (Value.int .i64 0)) 3 (grow_row HB.out HML.out) (L.map (Value.int .i64)) (copy_n L _ (by omega)) (copy_src HC.out) (copy_fit L _ (by omega)) (ints_oneCell _ _) w.heap.size w (grow_below HB.out) (Nat.le_refl _) ?_; intro w2 hg2 hb2; have f1 := grow_f hb2 hbs 1 X.out; have f2 := grow_f hb2 hbs 2 X.out; obtain ⟨d1, d2⟩ := grow_d hb2 X.out; have HB2 := hid hb2; clear hb2))
    go_end0
    refine ⟨rfl, ?_⟩
    obtain ⟨gB, gF⟩ := box_grown (N := 2 * n) X.out hBs HB2.out (by omega) (by omega) hg2.out rfl rfl rfl rfl
    refine ⟨_, _, _, gB, by simp; omega, gF, fun k hk => ?_⟩
    simp [Value.ownBlock] at hk
    omega
  · have q1 : (4 : Int) < 2 * (n : Int) := by omega
    have q2 : ¬ 2 * (n : Int) < (most : Int) := by omega
    have hmk := make_ints (most) (most) (by omega) (by omega)
    obtain ⟨M, hM⟩ : ∃ M, M = madeCells #[Value.int .i64 0] (most) := ⟨_, rfl⟩
    have hML : M.toList = List.replicate (most) (Value.int .i64 0) := by rw [hM]; exact made_ints _
    rw [← hM] at hmk
    have HML := hid hML
    clear hM hML
    go_region_held3 (fun w' => w'.cell? ⟨b, 0, none⟩ = some (.int .i64 most) ∧ w'.cell? ⟨b, 1, none⟩ = some (.slice ao n cap)) (go_keep) (first | fail)
    go_wp2_with (first
      | (go_at_call 16; refine (list_ok (X.out.fr (S := fun _ => False) (((Fr.refl _ w).alloc _).drew) (fun e => e) (fun _ _ e => e))).mono ?_; rintro e w1 ⟨v, rfl, hown, hbl⟩; obtain ⟨sp, sCap, rfl, hcs⟩ := owns_view hown; have HB := hid hbl; have HC := hid hcs; clear hown hbl hcs)
      | (with_reducible refine wpList_copy_splice rfl (.tmp 16) (.tmp 18) 29 29 rfl 3 Try.underlying29 cellsz_int (some ⟨w.heap.size, 0, none⟩) sp (most) (most) L.length sCap rfl rfl w.heap.size 0 (List.replicate (most) (Value.int .i64 0)) 3 (grow_row HB.out HML.out) (L.map (Value.int .i64)) (copy_n L _ (by omega)) (copy_src HC.out) (copy_fit L _ (by omega)) (ints_oneCell _ _) w.heap.size w (grow_below HB.out) (Nat.le_refl _) ?_; intro w2 hg2 hb2; have f1 := grow_f hb2 hbs 1 X.out; have f2 := grow_f hb2 hbs 2 X.out; obtain ⟨d1, d2⟩ := grow_d hb2 X.out; have HB2 := hid hb2; clear hb2))
    go_end0
    refine ⟨rfl, ?_⟩
    obtain ⟨gB, gF⟩ := box_grown (N := most) X.out hBs HB2.out (by omega) (by omega) hg2.out rfl rfl rfl rfl
    refine ⟨_, _, _, gB, by simp; omega, gF, fun k hk => ?_⟩
    simp [Value.ownBlock] at hk
    omega

end Go.Proofs.Ytjlamecjenibcaa
