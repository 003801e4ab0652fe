/-
  The box of messages: grow, walked; rows of wide elements made, copied.
-/
import Derived.Test.YtakhmommcgfoaaaMeB3
namespace Go.Proofs.Ytakhmommcgfoaaa
open Go.RowKit
attribute [local go_sem ↓] run_ldM run_stM

theorem run_copy_wide {P : Program} (w : World) (dT sT ty elem : TypeId) (sz g o dLen dCap : Nat) (a : Addr) (sLen sCap : Nat) (cur : Array Value) (t : TypeId) (cs : List Value)
    (hu : P.underlying dT = some (.slice elem)) (hs : (P.info? elem).map (·.size) = some sz)
    (hg : w.heap[g]? = some (.cells cur t (0, 0))) (hn : cs.length = Nat.min sLen dLen * sz)
    (hsrc : ∀ j v, cs[j]? = some v → w.cell? (a.add j) = some v) (hfit : o + cs.length ≤ cur.size) (h1 : ∀ v ∈ cs, v.oneCell' = true) :
    (Builtin.copy_ #[dT, sT] ty #[.slice (some ⟨g, o, none⟩) dLen dCap, .slice (some a) sLen sCap]).run P w =
      .ok (goInt (Nat.min sLen dLen)) (w.setRow g (cur.toList.take o ++ cs ++ cur.toList.drop (o + cs.length)).toArray) := by
  have hl := run_loadCells_list (P := P) w a cs hsrc
  have hst := run_storeCells_at P g o t cs 0 cur w hg (by simpa using hfit) h1
  cases hq : P.info? elem with
  | none => simp [hq] at hs
  | some i =>
    have hi : i.size = sz := by simpa [hq] using hs
    simp [Builtin.copy_, run_underlying hu, Builtin.lenOf, Builtin.firstCells, sizeOf, typeInfo, hq, hi, ← hn, hl, hst]
theorem run_copy_wide_none {P : Program} (w : World) (dT sT ty elem : TypeId) (sz : Nat) (d a : Option Addr) (dLen dCap sLen sCap : Nat) (hu : P.underlying dT = some (.slice elem)) (hs : (P.info? elem).map (·.size) = some sz) (hn : Nat.min sLen dLen = 0) :
    (Builtin.copy_ #[dT, sT] ty #[.slice d dLen dCap, .slice a sLen sCap]).run P w = .ok (goInt 0) w := by
  cases hq : P.info? elem with
  | none => simp [hq] at hs
  | some i =>
    have hl : ∀ (x : Addr), (loadCells x 0).run P w = .ok #[] w := fun x => by simpa using run_loadCells_list (P := P) w x [] (by simp)
    cases d <;> cases a <;> simp [Builtin.copy_, run_underlying hu, Builtin.lenOf, Builtin.firstCells, sizeOf, typeInfo, hq, hn, storeCells, hl]
theorem wpList_copy_wide {P : Program} {w : World} {ops : Array Oper} {rest : List Oper} {o : Oper} {a : Act} {Q : Exit → Act → World → Prop} (hgd : o.guard = none) (d s : Operand) (dT sT : TypeId)
    (ho : o.op = .call { callee := .builtin .copy, args := #[d, s], argTypes := #[dT, sT] }) (elem : TypeId) (sz : Nat) (hsz0 : 0 < sz) (hu : P.underlying dT = some (.slice elem)) (hsz : (P.info? elem).map (·.size) = some sz)
    (dp sp : Option Addr) (dLen dCap sLen sCap : Nat) (hd : a.eval d = .slice dp dLen dCap) (hs : a.eval s = .slice sp sLen sCap)
    (g off : Nat) (cur : List Value) (t : TypeId) (hg : w.heap[g]? = some (.cells cur.toArray t (0, 0))) (cs : List Value) (hn : cs.length = Nat.min sLen dLen * sz)
    (hpos : 0 < cs.length → dp = some ⟨g, off, none⟩ ∧ ∃ ad, sp = some ad ∧ ∀ j v, cs[j]? = some v → w.cell? (ad.add j) = some v)
    (hfit : off + cs.length ≤ cur.length) (h1 : ∀ v ∈ cs, v.oneCell' = true) (B : Nat) (w0 : World) (hb : Below B w0 w) (hBg : B ≤ g)
    (h : ∀ w' n, Hid (w'.heap[g]? = some (.cells (splice cur off cs).toArray t (0, 0))) → Below B w0 w' → wpList P ops Q rest (a.put o.dst (goInt n)) w') :
    wpList P ops Q (o :: rest) a w := by
  by_cases h0 : cs.length = 0
  · obtain rfl : cs = [] := List.eq_nil_of_length_eq_zero h0
    have hm : Nat.min sLen dLen = 0 := by
      rcases Nat.eq_zero_or_pos (Nat.min sLen dLen) with h | h
      · exact h
      · have := Nat.mul_pos h hsz0; simp at hn; omega
    refine wpList_plain hgd fun K hK => ?_
    have hrun := run_copy_wide_none (P := P) w dT sT o.type elem sz dp sp dLen dCap sLen sCap hu hsz hm
    unfold Oper.wp
    simp [execOp, ho, resolve, invoke, builtin, hd, hs, hrun, Result.andThen]
    exact hK _ _ (h w 0 (show _ = _ by simpa [splice] using hg) hb)
  · obtain ⟨rfl, ad, rfl, hsrc⟩ := hpos (by omega)
    refine wpList_plain hgd fun K hK => ?_
    have hrun := run_copy_wide (P := P) w dT sT o.type elem sz g off dLen dCap ad sLen sCap cur.toArray t cs hu hsz hg hn hsrc (by simpa using hfit) h1
    unfold Oper.wp
    simp [execOp, ho, resolve, invoke, builtin, hd, hs, hrun, Result.andThen]
    exact hK _ _ (h _ _ (show _ = _ by simpa [splice] using setRow_heap w g _ _ t _ hg) (below_setRow hb hBg _))

theorem made_msgs (N : Nat) : (madeCells (encM noM).toArray (N * 7)).toList = (List.replicate N noM).flatMap encM := by
  apply List.ext_getElem?
  intro r
  by_cases hr : r < N * 7
  · have hdm := Nat.div_add_mod' r 7
    have hmod := Nat.mod_lt r (show 0 < 7 by omega)
    have e2 : ((List.replicate N noM).flatMap encM)[r]? = ((List.replicate N noM)[r / 7]?).bind fun y => (encM y)[r % 7]? := by
      rw [← flat_get encM_len _ _ _ hmod, hdm]
    have hd : r / 7 < N := by omega
    rw [e2, List.getElem?_replicate, if_pos hd]
    simp only [madeCells, Array.getElem?_toList, Array.getElem?_map, Array.getElem?_range, hr, if_true, Option.map_some, Option.bind_some, encM_size]
    rw [List.getElem?_eq_getElem (by rw [encM_len]; exact hmod)]
    congr 1
    rw [getElem!_pos _ _ (by rw [encM_size]; exact hmod)]
    rfl
  · rw [List.getElem?_eq_none (by simp [madeCells]; omega), List.getElem?_eq_none (by rw [flat_len encM_len, List.length_replicate]; omega)]

theorem make_msgs (N : Nat) (z : Int) (hz : z = N) (hN : N ≤ 4096) (w : World) : (Instr.makeSlice 91 (.int .i64 z) (.int .i64 z)).run Try.prog w = .ok (.slice (some ⟨w.heap.size, 0, none⟩) N N) (w.alloc (.cells (madeCells (encM noM).toArray (N * 7)) 40)) := by
  subst hz
  obtain ⟨i0, hi0, hz0, hz1, hz2⟩ := info_parts info_msg
  have hr := run_make (P := Try.prog) w 91 40 i0 _ Try.underlying91 hi0 hz0 .i64 .i64 (N : Int) (N : Int) (by omega) (Int.le_refl _) (by rw [hz2]; omega) (by omega)
  rw [hz1, Int.toNat_natCast] at hr
  exact hr

/-- what grow's two stores make of a box -/
theorem box_grown {w w2 w3 : World} {B b : Nat} {rv : Value} {most h N : Nat} {zs L : List Mq} (x : BoxM w B b rv most h zs L)
    (hB : B ≤ w.heap.size) (hb : Below w.heap.size w w2) (hN : L.length ≤ N) (hN2 : N ≤ most)
    (hg : w2.heap[w.heap.size]? = some (.cells (splice ((List.replicate N noM).flatMap encM) 0 (L.flatMap encM)).toArray 40))
    (hh : w3.heap = ((w2.setCell ⟨b, 1, none⟩ (.slice (some ⟨w.heap.size, 0, none⟩) N N)).setCell ⟨b, 2, none⟩ (.int .i64 0)).heap)
    (ho : w3.os = w2.os) (ht : w3.tape = w2.tape) (hp : w3.output = w2.output) :
    BoxM w3 B b (.slice (some ⟨w.heap.size, 0, none⟩) N N) most 0 (L ++ List.replicate (N - L.length) noM) L ∧ Fr (fun k => k = b) w w3 := by
  have hbs := lt_of_block x.blk
  have hm := x.m1
  have hblk : w2.heap[b]? = _ := (hb.block b hbs).trans x.blk
  have hrep : List.replicate N noM = List.replicate L.length noM ++ List.replicate (N - L.length) noM := by
    rw [List.replicate_append_replicate]; congr 1; omega
  have hsp : splice ((List.replicate N noM).flatMap encM) 0 (L.flatMap encM) = (L ++ List.replicate (N - L.length) noM).flatMap encM := by
    rw [hrep, List.flatMap_append, List.flatMap_append]
    simp only [splice, List.take_zero, List.nil_append, Nat.zero_add]
    rw [List.drop_left' (by rw [flat_len encM_len, flat_len encM_len, List.length_replicate])]
  have hlen : (L ++ List.replicate (N - L.length) noM).length = N := by simp; omega
  have hfl : ((L ++ List.replicate (N - L.length) noM).flatMap encM).length = N * 7 := by rw [flat_len encM_len, hlen]
  refine ⟨⟨x.base, ?_, ?_, ?_, x.m1, by rw [hlen]; exact hN2, Ring.fresh _ _⟩, ?_⟩
  · rw [hh, heap_set (heap_set hblk _) _]
    simp
  · have hg3 : w3.heap[w.heap.size]? = some (.cells ((L ++ List.replicate (N - L.length) noM).flatMap encM).toArray 40) := by
      rw [hh, heap_set_ne (heap_set_ne hg (by simp; omega) _) (by simp; omega) _, hsp]
    rw [hlen]
    refine ⟨hfl, .inr ⟨w.heap.size, N, _, rfl, hB, hg3, Nat.le_refl _, by unfold maxLen; omega, by simpa using hfl, ?_⟩⟩
    rw [List.take_of_length_le (by rw [hfl]; exact Nat.le_refl _)]
  · simp [Value.ownBlock]; omega
  · have h1 : Fr (fun k => k = b) w w2 := ⟨hb.os, hb.tape, hb.output, hb.size, fun i hi _ => hb.block i hi⟩
    have := (h1.setCell (p := ⟨b, 1, none⟩) (fun _ => rfl) (.slice (some ⟨w.heap.size, 0, none⟩) N N)).setCell (p := ⟨b, 2, none⟩) (fun _ => rfl) (.int .i64 0)
    exact ⟨ho.trans hb.os, ht.trans hb.tape, hp.trans hb.output, by rw [hh]; exact this.size, by rw [hh]; exact this.block⟩

theorem owns_view {w : World} {base : Nat} {e : TypeId} {sz : Nat} {v : Value} {n : Nat} {xs : List Value} (h : w.ownsRow base e sz v n xs) :
    ∃ sp c, v = .slice sp n c ∧ (0 < n → ∃ ad, sp = some ad ∧ ∀ (j : Nat) (u : Value), xs[j]? = some u → w.cell? (ad.add j) = some u) := by
  rcases owns_form h with ⟨rfl, rfl⟩ | ⟨g, cap, rfl, _⟩
  · exact ⟨_, _, rfl, fun h => by omega⟩
  · exact ⟨_, _, rfl, fun _ => ⟨_, rfl, fun j u hu => h.cells rfl j u hu⟩⟩

theorem cellsz_msg : (Try.prog.info? 40).map (fun x => x.size) = some 7 := by kernel_rfl
theorem grow_below {w w1 : World} {o : Obj} (hb : Below (w.alloc o).drew.heap.size (w.alloc o).drew w1) : Below w.heap.size w w1 :=
  (((Below.refl w.heap.size w).alloc (Nat.le_refl _) o).drew).trans (hb.mono (by simp))
theorem grow_row {w w1 : World} {M : Array Value} {l : List Value} (hb : Below (w.alloc (.cells M 40)).drew.heap.size (w.alloc (.cells M 40)).drew w1) (hM : M.toList = l) :
    w1.heap[w.heap.size]? = some (.cells l.toArray 40) := by
  subst hM
  exact (hb.block _ (by simp)).trans (heap_new w _)
theorem copy_n (l : List Mq) (N : Nat) (h : l.length ≤ N) : (l.flatMap encM).length = l.length.min N * 7 := by
  rw [flat_len encM_len, show l.length.min N = l.length from Nat.min_eq_left h]
theorem copy_fit (l : List Mq) (N : Nat) (h : l.length ≤ N) : 0 + (l.flatMap encM).length ≤ ((List.replicate N noM).flatMap encM).length := by
  rw [flat_len encM_len, flat_len encM_len, List.length_replicate]; omega
theorem copy_src {l : List Mq} {a : Addr} {sp : Option Addr} {w : World} (h : 0 < l.length → ∃ ad, sp = some ad ∧ ∀ (j : Nat) (u : Value), (l.flatMap encM)[j]? = some u → w.cell? (ad.add j) = some u) :
    0 < (l.flatMap encM).length → some a = some a ∧ ∃ ad, sp = some ad ∧ ∀ (j : Nat) (u : Value), (l.flatMap encM)[j]? = some u → w.cell? (ad.add j) = some u :=
  fun hp => ⟨rfl, h (by rw [flat_len encM_len] at hp; omega)⟩
theorem grow_f {w w2 : World} {B b : Nat} {rv : Value} {most h : Nat} {zs L : List Mq} (hb : Below w.heap.size w w2) (hbs : b < w.heap.size) (i : Nat) (x : BoxM w B b rv most h zs L) : w2.frozen? ⟨b, i, none⟩ = false :=
  (hb.frozen (p := ⟨b, i, none⟩) hbs).trans (x.fz i)
theorem grow_d {w w2 : World} {B b : Nat} {rv : Value} {most h : Nat} {zs L : List Mq} (hb : Below w.heap.size w w2) (x : BoxM w B b rv most h zs L) :
    w2.cell? ⟨b, 1, none⟩ = some rv ∧ w2.cell? ⟨b, 2, none⟩ = some (.int .i64 h) :=
  ⟨(hb.cell (p := ⟨b, 1, none⟩) (lt_of_block x.blk)).trans x.c1, (hb.cell (p := ⟨b, 2, none⟩) (lt_of_block x.blk)).trans x.c2⟩

theorem grow_ok {w : World} {B b : Nat} {rv : Value} {most h : Nat} {zs L : List Mq} (x : BoxM w B b rv most h zs L) (hf : L.length = zs.length) (hl : L.length < most) (hBs : B ≤ w.heap.size) :
    Calls Try.prog 41 #[.pointer (some ⟨b, 0, none⟩)] w fun e w' => e = .returned (.tuple #[]) ∧
      ∃ rv' h' zs', BoxM w' B b rv' most h' zs' L ∧ L.length < zs'.length ∧ Fr (fun k => k = b) w w' ∧ (∀ k, rv'.ownBlock = some k → w.heap.size ≤ k) := by
  have h1 := x.c1
  have h0 := x.c0
  have hm := x.m1
  have hle := x.le
  have hbs := lt_of_block x.blk
  obtain ⟨ao, n, cap, rfl, hn⟩ : ∃ ao n cap, rv = .slice ao n cap ∧ n = zs.length := by
    rcases x.form with ⟨rfl, rfl⟩ | ⟨g, cap, rfl, _⟩
    · exact ⟨_, _, _, rfl, rfl⟩
    · exact ⟨_, _, _, rfl, rfl⟩
  have X := hid x
  clear x
  have hnm : n < most := by omega
  have HN := hid hn
  have hLn : L.length ≤ n := by omega
  have hnL : n ≤ L.length := by omega
  clear hn hf
  go_enter Try.func41, Try.ntmps41
  have hwr : IntKind.i64.wrap (2 * (n : Int)) = 2 * (n : Int) := IntWalk.i64_in _ (by omega)
  go_wp2
  rcases (show (2 * n ≤ 4 ∧ 4 < most) ∨ (2 * n ≤ 4 ∧ most ≤ 4) ∨ (4 < 2 * n ∧ 2 * n < most) ∨ (4 < 2 * n ∧ most ≤ 2 * n) from by omega) with ⟨k1, k2⟩ | ⟨k1, k2⟩ | ⟨k1, k2⟩ | ⟨k1, k2⟩
  · have q1 : ¬ (4 : Int) < 2 * (n : Int) := by omega
    have q2 : (4 : Int) < (most : Int) := by omega
    have hmk := make_msgs (4) (4) (by omega) (by omega)
    obtain ⟨M, hM⟩ : ∃ M, M = madeCells (encM noM).toArray ((4) * 7) := ⟨_, rfl⟩
    have hML : M.toList = (List.replicate (4) noM).flatMap encM := by rw [hM]; exact made_msgs _
    rw [← hM] at hmk
    have HML := hid hML
    clear hM hML
    go_region_held3 (fun w' => w'.cell? ⟨b, 0, none⟩ = some (.int .i64 most) ∧ w'.cell? ⟨b, 1, none⟩ = some (.slice ao n cap)) (go_keep) (first | fail)
    go_wp2_with (first
      | (go_at_call 34; refine (list_ok (X.out.fr (S := fun _ => False) (((Fr.refl _ w).alloc _).drew) (fun e => e) (fun _ _ e => e))).mono ?_; rintro e w1 ⟨v, rfl, hown, hbl⟩; obtain ⟨sp, sCap, rfl, hcs⟩ := owns_view hown; have HB := hid hbl; have HC := hid hcs; clear hown hbl hcs)
      | (with_reducible refine wpList_copy_wide rfl (.tmp 16) (.tmp 18) 91 91 rfl 40 7 (by omega) Try.underlying91 cellsz_msg (some ⟨w.heap.size, 0, none⟩) sp (4) (4) L.length sCap rfl rfl w.heap.size 0 ((List.replicate (4) noM).flatMap encM) 40 (grow_row HB.out HML.out) (L.flatMap encM) (copy_n L _ (by omega)) (copy_src HC.out) (copy_fit L _ (by omega)) (flat_one _) w.heap.size w (grow_below HB.out) (Nat.le_refl _) ?_; intro w2 n2 hg2 hb2; have f1 := grow_f hb2 hbs 1 X.out; have f2 := grow_f hb2 hbs 2 X.out; obtain ⟨d1, d2⟩ := grow_d hb2 X.out; have HB2 := hid hb2; clear hb2))
    go_end0
    refine ⟨rfl, ?_⟩
    obtain ⟨gB, gF⟩ := box_grown (N := 4) X.out hBs HB2.out (by omega) (by omega) hg2.out rfl rfl rfl rfl
    refine ⟨_, _, _, gB, by simp; omega, gF, fun k hk => ?_⟩
    simp [Value.ownBlock] at hk
    omega
  · have q1 : ¬ (4 : Int) < 2 * (n : Int) := by omega
    have q2 : ¬ (4 : Int) < (most : Int) := by omega
    have hmk := make_msgs (most) (most) (by omega) (by omega)
    obtain ⟨M, hM⟩ : ∃ M, M = madeCells (encM noM).toArray ((most) * 7) := ⟨_, rfl⟩
    have hML : M.toList = (List.replicate (most) noM).flatMap encM := by rw [hM]; exact made_msgs _
    rw [← hM] at hmk
    have HML := hid hML
    clear hM hML
    go_region_held3 (fun w' => w'.cell? ⟨b, 0, none⟩ = some (.int .i64 most) ∧ w'.cell? ⟨b, 1, none⟩ = some (.slice ao n cap)) (go_keep) (first | fail)
    go_wp2_with (first
      | (go_at_call 34; refine (list_ok (X.out.fr (S := fun _ => False) (((Fr.refl _ w).alloc _).drew) (fun e => e) (fun _ _ e => e))).mono ?_; rintro e w1 ⟨v, rfl, hown, hbl⟩; obtain ⟨sp, sCap, rfl, hcs⟩ := owns_view hown; have HB := hid hbl; have HC := hid hcs; clear hown hbl hcs)
      | (with_reducible refine wpList_copy_wide rfl (.tmp 16) (.tmp 18) 91 91 rfl 40 7 (by omega) Try.underlying91 cellsz_msg (some ⟨w.heap.size, 0, none⟩) sp (most) (most) L.length sCap rfl rfl w.heap.size 0 ((List.replicate (most) noM).flatMap encM) 40 (grow_row HB.out HML.out) (L.flatMap encM) (copy_n L _ (by omega)) (copy_src HC.out) (copy_fit L _ (by omega)) (flat_one _) w.heap.size w (grow_below HB.out) (Nat.le_refl _) ?_; intro w2 n2 hg2 hb2; have f1 := grow_f hb2 hbs 1 X.out; have f2 := grow_f hb2 hbs 2 X.out; obtain ⟨d1, d2⟩ := grow_d hb2 X.out; have HB2 := hid hb2; clear hb2))
    go_end0
    refine ⟨rfl, ?_⟩
    obtain ⟨gB, gF⟩ := box_grown (N := most) X.out hBs HB2.out (by omega) (by omega) hg2.out rfl rfl rfl rfl
    refine ⟨_, _, _, gB, by simp; omega, gF, fun k hk => ?_⟩
    simp [Value.ownBlock] at hk
    omega
  · have q1 : (4 : Int) < 2 * (n : Int) := by omega
    have q2 : 2 * (n : Int) < (most : Int) := by omega
    have hmk := make_msgs (2 * n) (2 * (n : Int)) (by omega) (by omega)
    obtain ⟨M, hM⟩ : ∃ M, M = madeCells (encM noM).toArray ((2 * n) * 7) := ⟨_, rfl⟩
    have hML : M.toList = (List.replicate (2 * n) noM).flatMap encM := by rw [hM]; exact made_msgs _
    rw [← hM] at hmk
    have HML := hid hML
    clear hM hML
    go_region_held3 (fun w' => w'.cell? ⟨b, 0, none⟩ = some (.int .i64 most) ∧ w'.cell? ⟨b, 1, none⟩ = some (.slice ao n cap)) (go_keep) (first | fail)
    go_wp2_with (first
      | (go_at_call 34; refine (list_ok (X.out.fr (S := fun _ => False) (((Fr.refl _ w).alloc _).drew) (fun e => e) (fun _ _ e => e))).mono ?_; rintro e w1 ⟨v, rfl, hown, hbl⟩; obtain ⟨sp, sCap, rfl, hcs⟩ := owns_view hown; have HB := hid hbl; have HC := hid hcs; clear hown hbl hcs)
      | (with_reducible refine wpList_copy_wide rfl (.tmp 16) (.tmp 18) 91 91 rfl 40 7 (by omega) Try.underlying91 cellsz_msg (some ⟨w.heap.size, 0, none⟩) sp (2 * n) (2 * n) L.length sCap rfl rfl w.heap.size 0 ((List.replicate (2 * n) noM).flatMap encM) 40 (grow_row HB.out HML.out) (L.flatMap encM) (copy_n L _ (by omega)) (copy_src HC.out) (copy_fit L _ (by omega)) (flat_one _) w.heap.size w (grow_below HB.out) (Nat.le_refl _) ?_; intro w2 n2 hg2 hb2; have f1 := grow_f hb2 hbs 1 X.out; have f2 := grow_f hb2 hbs 2 X.out; obtain ⟨d1, d2⟩ := grow_d hb2 X.out; have HB2 := hid hb2; clear hb2))
    go_end0
    refine ⟨rfl, ?_⟩
    obtain ⟨gB, gF⟩ := box_grown (N := 2 * n) X.out hBs HB2.out (by omega) (by omega) hg2.out rfl rfl rfl rfl
    refine ⟨_, _, _, gB, by simp; omega, gF, fun k hk => ?_⟩
    simp [Value.ownBlock] at hk
    omega
  · have q1 : (4 : Int) < 2 * (n : Int) := by omega
    have q2 : ¬ 2 * (n : Int) < (most : Int) := by omega
    have hmk := make_msgs (most) (most) (by omega) (by omega)
    obtain ⟨M, hM⟩ : ∃ M, M = madeCells (encM noM).toArray ((most) * 7) := ⟨_, rfl⟩
    have hML : M.toList = (List.replicate (most) noM).flatMap encM := by rw [hM]; exact made_msgs _
    rw [← hM] at hmk
    have HML := hid hML
    clear hM hML
    go_region_held3 (fun w' => w'.cell? ⟨b, 0, none⟩ = some (.int .i64 most) ∧ w'.cell? ⟨b, 1, none⟩ = some (.slice ao n cap)) (go_keep) (first | fail)
    go_wp2_with (first
      | (go_at_call 34; refine (list_ok (X.out.fr (S := fun _ => False) (((Fr.refl _ w).alloc _).drew) (fun e => e) (fun _ _ e => e))).mono ?_; rintro e w1 ⟨v, rfl, hown, hbl⟩; obtain ⟨sp, sCap, rfl, hcs⟩ := owns_view hown; have HB := hid hbl; have HC := hid hcs; clear hown hbl hcs)
      | (with_reducible refine wpList_copy_wide rfl (.tmp 16) (.tmp 18) 91 91 rfl 40 7 (by omega) Try.underlying91 cellsz_msg (some ⟨w.heap.size, 0, none⟩) sp (most) (most) L.length sCap rfl rfl w.heap.size 0 ((List.replicate (most) noM).flatMap encM) 40 (grow_row HB.out HML.out) (L.flatMap encM) (copy_n L _ (by omega)) (copy_src HC.out) (copy_fit L _ (by omega)) (flat_one _) w.heap.size w (grow_below HB.out) (Nat.le_refl _) ?_; intro w2 n2 hg2 hb2; have f1 := grow_f hb2 hbs 1 X.out; have f2 := grow_f hb2 hbs 2 X.out; obtain ⟨d1, d2⟩ := grow_d hb2 X.out; have HB2 := hid hb2; clear hb2))
    go_end0
    refine ⟨rfl, ?_⟩
    obtain ⟨gB, gF⟩ := box_grown (N := most) X.out hBs HB2.out (by omega) (by omega) hg2.out rfl rfl rfl rfl
    refine ⟨_, _, _, gB, by simp; omega, gF, fun k hk => ?_⟩
    simp [Value.ownBlock] at hk
    omega

end Go.Proofs.Ytakhmommcgfoaaa
