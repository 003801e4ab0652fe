/-
  BoxOrder, walked. No conditions.
-/
import Derived.Test.YtjlamecjenibcaaBoxOrd1
import Derived.Test.YtjlamecjenibcaaWords
import Derived.Test.YtjlamecjenibcaaBoxDoes
import Derived.Deep.DeepCutAuto
namespace Go.Proofs.Ytjlamecjenibcaa
open Go.RowKit

set_option maxHeartbeats 1000000 in
theorem order_bad (most : Int) (ao : Option Addr) (n cap : Nat) (w : World) (hn : n ≤ 9223372036854775807) (h : most < 1 ∨ 16 < most ∨ 60 < n) :
    Calls Try.prog 4 #[.int .i64 most, .slice ao n cap] w fun e w' => e = .returned (.bool true) ∧ Below w.heap.size w w' := by
  by_cases h1 : most < 1
  · go_enter Try.func4, Try.ntmps4
    go_wp2_with fail
    refine (awake_ok w).mono ?_
    rintro e w' ⟨rfl, hb⟩
    have HB := hid hb
    clear hb
    go_wp2_with fail
    go_ret
    exact ⟨rfl, HB.out⟩
  · by_cases h2 : 16 < most
    · go_enter Try.func4, Try.ntmps4
      go_wp2_with fail
      refine (awake_ok w).mono ?_
      rintro e w' ⟨rfl, hb⟩
      have HB := hid hb
      clear hb
      go_wp2_with fail
      go_ret
      exact ⟨rfl, HB.out⟩
    · have h3 : (60 : Int) < n := by omega
      go_enter Try.func4, Try.ntmps4
      go_wp2_with fail
      refine (awake_ok w).mono ?_
      rintro e w' ⟨rfl, hb⟩
      have HB := hid hb
      clear hb
      go_wp2_with fail
      go_ret
      exact ⟨rfl, HB.out⟩

theorem rowI_one (L : List Int) : ∀ u ∈ rowI L, u.oneCell' = true := by
  intro u hu
  simp only [rowI, List.mem_map] at hu
  obtain ⟨x, _, rfl⟩ := hu
  rfl

theorem add_plain' (g o n : Nat) : (⟨g, o, none⟩ : Addr).add n = ⟨g, o + n, none⟩ := by
  unfold Addr.add
  split
  · simp_all
  · rfl

theorem IntsAt.reads {w : World} {ok : Nat → Prop} {A : Option Addr} {n c : Nat} {L : List Int} (h : IntsAt w ok (.slice A n c) L) : Reads w w.heap.size 1 A L.length (rowI L) := by
  obtain ⟨ao, c', hv, _, _, hp⟩ := h
  simp only [Value.slice.injEq] at hv
  obtain ⟨rfl, rfl, rfl⟩ := hv
  refine ⟨by simp [rowI], fun h0 => ?_⟩
  obtain ⟨g, o, rfl, _, hl, hc⟩ := hp (by first | exact h0 | (intro e; simp [e] at h0))
  refine ⟨_, rfl, hl, fun j u hu => ?_⟩
  rw [add_plain']
  simp only [rowI, List.getElem?_map, Option.map_eq_some_iff] at hu
  obtain ⟨x, hx, rfl⟩ := hu
  exact hc j x hx

theorem ints_of_row {w : World} {base n : Nat} {v : Value} {L : List Int} (h : w.ownsRow base 3 1 v n (rowI L)) : IntsAt w (fun g => base ≤ g) v L := IntsAt.of_owns h

theorem ints_app {w : World} {base n : Nat} {v : Value} {a b c : List Int} (h : w.ownsRow base 3 1 v n ([] ++ rowI a ++ rowI b)) (e : c = a ++ b) : IntsAt w (fun g => base ≤ g) v c := by
  have e2 : [] ++ rowI a ++ rowI b = rowI c := by rw [e]; simp [rowI]
  rw [e2] at h
  exact ints_of_row h

theorem OrdMid.far {w w1 w2 : World} {b p q most B0 : Nat} {L outL inL : List Int} {t : Nat} {S T : Nat → Prop} {vi vo : Value} (h : OrdMid w w1 b p q most L outL inL t S vi vo) (hf : Fr T w1 w2) (hT : ∀ k, T k → B0 ≤ k)
    (hS : ∀ k, S k → k < B0) (hi : ∀ k, vi.ownBlock = some k → k < B0) (ho : ∀ k, vo.ownBlock = some k → k < B0) (hw : w.heap.size ≤ B0) : OrdMid w w2 b p q most L outL inL t S vi vo :=
  ⟨h.live.fr hf (fun k hk e => by have := hT k e; have := hS k hk; omega),
    ⟨hf.owns h.rows.ins (fun k hk e => by have := hT k e; have := hi k hk; omega), hf.owns h.rows.outs (fun k hk e => by have := hT k e; have := ho k hk; omega), h.rows.si, h.rows.so, h.rows.ne,
      h.rows.bel.trans (hf.below h.rows.bel.size (fun i hi e => by have := hT i e; omega)), h.rows.old⟩, h.eq⟩

theorem len_live0 {w : World} {B b most : Nat} {S : Nat → Prop} (h : Live W0 w B b most [] () S) : Calls Try.prog 13 #[.pointer (some ⟨b, 0, none⟩)] w fun e w' => e = .returned (.int .i64 0) ∧ w = w' := len_live W0 h
theorem room_live0 {w : World} {B b most : Nat} {S : Nat → Prop} (h : Live W0 w B b most [] () S) : Calls Try.prog 14 #[.pointer (some ⟨b, 0, none⟩)] w fun e w' => e = .returned (.int .i64 (most : Int)) ∧ ∃ m, w' = w.drewN m := by
  refine (room_live W0 h).mono ?_
  rintro e w' ⟨rfl, hm⟩
  exact ⟨by simp, hm⟩

theorem keep2 {w w' : World} {p q i j : Nat} {u v : Value} {o : Nat} (hb : Below (w.drewN o).heap.size (w.drewN o) w') (hp : p < w.heap.size) (hq : q < w.heap.size) (h : (w.drewN o).cell? ⟨q, i, none⟩ = some u ∧ (w.drewN o).cell? ⟨p, j, none⟩ = some v) :
    w'.cell? ⟨q, i, none⟩ = some u ∧ w'.cell? ⟨p, j, none⟩ = some v :=
  ⟨(hb.cell (p := ⟨q, i, none⟩) hq).trans h.1, (hb.cell (p := ⟨p, j, none⟩) hp).trans h.2⟩
theorem keep2g {w w' : World} {p q i j : Nat} {u v : Value} {row : Option Nat} (hg : w.grownBy w' row) (hp : row ≠ some p) (hq : row ≠ some q) (h : w.cell? ⟨q, i, none⟩ = some u ∧ w.cell? ⟨p, j, none⟩ = some v) :
    w'.cell? ⟨q, i, none⟩ = some u ∧ w'.cell? ⟨p, j, none⟩ = some v :=
  ⟨hg.cell h.1 (Ne.symm hq), hg.cell h.2 (Ne.symm hp)⟩

theorem ints_app2 {w : World} {base n : Nat} {v : Value} {a b c : List Int} (h : w.ownsRow base 3 1 v n (rowI a ++ rowI b)) (e : c = a ++ b) : IntsAt w (fun g => base ≤ g) v c := by
  have e2 : rowI a ++ rowI b = rowI c := by rw [e]; simp [rowI]
  rw [e2] at h
  exact ints_of_row h

theorem ownE (w : World) : (w.alloc (.cells #[] 3)).ownsRow w.heap.size 3 1 (.slice (some ⟨w.heap.size, 0, none⟩) 0 0) 0 [] := ownA w _ (Nat.le_refl _)

def OrdInv (w : World) (b p q most k : Nat) (vi vo d : Value) (wr : World) : Prop :=
  ∃ (L outL inL : List Int) (t : Nat) (S : Nat → Prop), d = .int .i64 t ∧ t ≤ k ∧ inL.length ≤ k ∧ OrdMid w wr b p q most L outL inL t S vi vo

set_option maxRecDepth 100000 in
set_option maxHeartbeats 4000000 in
theorem order_ok (most : Nat) (ao : Option Addr) (n cap : Nat) (ops : List (Bool × Int)) (w : World) (hn : n ≤ 60) (ho : ops.length = n) (hops : OpsAt w ao ops) (hm1 : 1 ≤ most) (hm2 : most ≤ 16) :
    Calls Try.prog 4 #[.int .i64 most, .slice ao n cap] w fun e w' => e = .returned (.bool true) ∧ Below w.heap.size w w' := by
  obtain ⟨i0, hi0, hz0, hz1, hz2⟩ := info_parts info_int
  have q1 : ¬ (60 : Int) < n := by omega
  have q2 : ¬ (16 : Int) < most := by omega
  have q3 : ¬ (most : Int) < 1 := by omega
  have HO := hid ho
  have HOPS := hid hops
  clear ho hops
  go_enter Try.func4, Try.ntmps4
  go_wp2_with fail
  refine (new_live most w (by omega) (by omega)).mono ?_
  rintro e w1 ⟨b, rfl, hL, hb1, hwb⟩
  rw [Int.toNat_natCast] at hL
  have HL := hid hL
  have HB1 := hid hb1
  clear hL hb1
  go_wp2_with fail
  obtain ⟨p, hp⟩ : ∃ p, p = w1.heap.size := ⟨_, rfl⟩
  obtain ⟨q, hq⟩ : ∃ q, q = w1.heap.size + 1 := ⟨_, rfl⟩
  obtain ⟨w2, hw2⟩ : ∃ w2, w2 = (w1.alloc (.cells #[.int .i64 0] 3)).alloc (.cells #[.int .i64 0] 3) := ⟨_, rfl⟩
  rw [← hw2, ← hq, ← hp]
  have hbs := HL.out.lt b rfl
  have hbw := HB1.out.size
  have hL2 : Live W0 w2 w.heap.size b most [] () (fun k => k = b) := by
    rw [hw2]; exact HL.out.fr (((Fr.refl (fun _ => False) w1).alloc _).alloc _) (fun _ _ e => e)
  have hp2 : w2.heap[p]? = some (.cells #[.int .i64 0] 3 (0, 0)) := by rw [hw2, hp]; exact heap_old (heap_new w1 _) _
  have hq2 : w2.heap[q]? = some (.cells #[.int .i64 0] 3 (0, 0)) := by
    rw [hw2, hq]; have := heap_new (w1.alloc (.cells #[.int .i64 0] 3)) (.cells #[.int .i64 0] 3); simp only [World.size_alloc] at this; exact this
  have hB2 : Below w.heap.size w w2 := by rw [hw2]; exact (HB1.out.alloc HB1.out.size _).alloc (by simp; omega) _
  have hpq : p ≠ q := by omega
  have hbp : b ≠ p := by omega
  have hbq : b ≠ q := by omega
  have hwp : w.heap.size ≤ p := by omega
  have hwq : w.heap.size ≤ q := by omega
  have HB2 := hid hB2
  have HL2 := hid hL2
  have HP2 := hid hp2
  have HQ2 := hid hq2
  clear hp hq hw2 hL2 hp2 hq2 hB2 HL HB1 hbs hbw
  refine (watch_live2 HL2.out hpq HP2.out HQ2.out (fun e => hbp e.symm) (fun e => hbq e.symm)).mono ?_
  rintro e w3 ⟨rfl, hL3, hF3⟩
  have HM := hid (show OrdMid w w3 b p q most [] [] [] 0 (fun k => k = b ∨ k = p ∨ k = q) (.slice none 0 0) (.slice none 0 0) from
    ⟨hL3, ⟨World.ownsRow_nil _ _ _ _, World.ownsRow_nil _ _ _ _, fun k hk => by simp [Value.ownBlock] at hk, fun k hk => by simp [Value.ownBlock] at hk, fun k hk => by simp [Value.ownBlock] at hk,
      HB2.out.trans (hF3.below HB2.out.size (fun i hi e => by omega)), fun k hk => by omega⟩, rfl⟩)
  clear hL3 hF3 HL2 HP2 HQ2 HB2
  go_wp2_with fail
  go_loopw [9, 10, 11, 12] (fun vi vo d i wr => ∃ k : Nat, k ≤ n ∧ i = .int .i64 k ∧ OrdInv w b p q most k vi vo d wr) (fun _ _ _ i _ => n - (intOf i).toNat)
  case atStart => exact ⟨0, Nat.zero_le _, rfl, [], [], [], 0, _, rfl, Nat.le_refl _, Nat.le_refl _, HM.out⟩
  case round =>
    obtain ⟨k, hk, rfl, hinv⟩ := hrel
    by_cases hkl : k < n
    · obtain ⟨⟨pp, x⟩, hop⟩ : ∃ z, ops[k]? = some z := ⟨_, List.getElem?_eq_getElem (by rw [HO.out]; exact hkl)⟩
      obtain ⟨g, o, rfl, hgl, hc0, hc1⟩ := HOPS.out k pp x hop
      obtain ⟨L, outL, inL, t, S, rfl, htk, hik, M⟩ := hinv
      have hbel := M.rows.bel
      have r0 : wr.cell? ⟨g, o + k * 2, none⟩ = some (.bool pp) := (hbel.cell hgl).trans hc0
      have r1 : wr.cell? ⟨g, o + k * 2 + 1, none⟩ = some (.int .i64 x) := (hbel.cell hgl).trans hc1
      have cL := M.live.cnt.1
      have HC1 := hid hc1
      have M := hid M
      clear hop hc0 hc1 hbel
      go_upto_if 53 with fail
      go_cut [9, 10, 11] (fun vi vo d wx => OrdInv w b p q most (k + 1) vi vo d wx)
      case first =>
        cases pp with
        | true =>
          cases L with
          | nil =>
            go_wp2_with fail
            refine (pop_live (W2 p q) M.out.live).mono ?_
            rintro e w4 ⟨rfl, hL, hF⟩
            have qe : popE ([] : List Int) = 16 := rfl
            have M2 := hid (M.out.turn0 (S' := S) hL hF (fun _ h => .inl h))
            clear hL hF M r0 r1
            go_wp2_with fail
            go_meet
            exact ⟨[], outL, inL, t, S, rfl, by omega, by omega, M2.out⟩
          | cons y L =>
            go_wp2_with fail
            refine (pop_live (W2 p q) M.out.live).mono ?_
            rintro e w4 ⟨rfl, hL, hF⟩
            have qe : popE (y :: L) = 0 := rfl
            have qv : popV (y :: L) = y := rfl
            rw [pop2 (by omega)] at hL
            have HL := hid hL
            have HF := hid hF
            have HR := hid (M.out.rows.fr hF (S' := S) (fun _ h => .inl h))
            have hol : outL.length ≤ inL.length := by rw [M.out.eq]; simp
            have hw4 : w.heap.size ≤ w4.heap.size := HR.out.bel.size
            have qw : IntKind.i64.wrap ((t : Int) + 1) = ((t + 1 : Nat) : Int) := IntWalk.i64_in _ (by omega)
            clear hL hF r0 r1
            go_wp2_with (at_builtin; refine wpList_append_lies _ (by rfl) _ _ _ (by rfl) w.heap.size 3 i0 _ 1 8 Try.underlying29 hi0 hz0 hz1 hz2 rfl (by omega) u10 outL.length _ (by rfl) (by exact HR.out.outs.alloc _) ⟨w4.heap.size, 0, none⟩ 1 1 [.int .i64 y] (by rfl) (by rfl) (World.news_of_block (cs := #[.int .i64 y]) (t := 3) (fr := (0, 0)) (by exact heap_new w4 _)) (by simp [Value.oneCell']) (by omega) (by unfold maxLen; omega) (by omega) (by simp; omega) (w4.heap.size + 1) (by simp) ?_; intro gg cp w5 hown1 hgrow hat' hlt'; have M2 := hid (OrdMid.popped M.out HL.out HF.out hown1 hgrow hat'))
            go_meet
            exact ⟨L, _, inL, t + 1, S, rfl, by omega, by omega, M2.out⟩
        | false =>
          by_cases hf : L.length < most
          · go_wp2_with fail
            refine (push_live (W2 p q) M.out.live M.out.rows.bel.size x).mono ?_
            rintro e w4 ⟨rfl, S2, hL, hF, hS2⟩
            have qe : pushE most L = 0 := by simp only [pushE, if_pos hf]
            rw [push2 (y := x) (by omega) hf, show pushL most L x = L ++ [x] by simp only [pushL, if_pos hf]] at hL
            have HL := hid hL
            have HF := hid hF
            have HS2 := hid hS2
            have HR := hid (M.out.rows.fr hF hS2)
            have hw4 : w.heap.size ≤ w4.heap.size := HR.out.bel.size
            have qw : IntKind.i64.wrap ((t : Int) + 1) = ((t + 1 : Nat) : Int) := IntWalk.i64_in _ (by omega)
            have r1' : w4.cell? ⟨g, o + k * 2 + 1, none⟩ = some (.int .i64 x) := (HR.out.bel.cell hgl).trans HC1.out
            clear hL hF hS2 r0 r1
            go_wp2_with (at_builtin; refine wpList_append_lies _ (by rfl) _ _ _ (by rfl) w.heap.size 3 i0 _ 1 8 Try.underlying29 hi0 hz0 hz1 hz2 rfl (by omega) u9 inL.length _ (by rfl) (by exact HR.out.ins.alloc _) ⟨w4.heap.size, 0, none⟩ 1 1 [.int .i64 x] (by rfl) (by rfl) (World.news_of_block (cs := #[.int .i64 x]) (t := 3) (fr := (0, 0)) (by exact heap_new w4 _)) (by simp [Value.oneCell']) (by omega) (by unfold maxLen; omega) (by omega) (by simp; omega) (w4.heap.size + 1) (by simp) ?_; intro gg cp w5 hown1 hgrow hat' hlt'; have M2 := hid (OrdMid.pushed M.out HL.out HF.out HS2.out hown1 hgrow hat'))
            go_meet
            exact ⟨_, outL, _, t + 1, S2, rfl, by omega, by simp; omega, M2.out⟩
          · go_wp2_with fail
            refine (push_live (W2 p q) M.out.live M.out.rows.bel.size x).mono ?_
            rintro e w4 ⟨rfl, S2, hL, hF, hS2⟩
            have qe : pushE most L = 7 := by simp only [pushE, if_neg hf]
            rw [push2f hf, show pushL most L x = L by simp only [pushL, if_neg hf]] at hL
            have M2 := hid (M.out.turn0 hL hF hS2)
            clear hL hF hS2 M r0 r1
            go_wp2_with fail
            go_meet
            exact ⟨L, outL, inL, t, S2, rfl, by omega, by omega, M2.out⟩
      case rest =>
        clear M r0 r1 cL
        obtain ⟨L, outL, inL, t, S, rfl, htk, hik, M⟩ := hcut
        obtain ⟨ai, ci, rfl⟩ := owns_slice M.rows.ins
        obtain ⟨ao, co, rfl⟩ := owns_slice M.rows.outs
        obtain ⟨w4, hw4⟩ : ∃ w4, w4 = wc := ⟨_, rfl⟩
        rw [← hw4] at M ⊢
        clear hw4
        have cp := cell_of M.live.q.2.1 0 (v := .int .i64 L.length) rfl
        have cq := cell_of M.live.q.2.2 0 (v := .int .i64 t) rfl
        have cL := M.live.cnt.1
        have qs : IntKind.i64.wrap ((inL.length : Int) - (outL.length : Int)) = (L.length : Int) := by
          have hil : inL.length = outL.length + L.length := by rw [M.eq]; simp
          rw [IntWalk.i64_in _ (by omega)]; omega
        have qg : ¬ (most : Int) < (L.length : Int) := by omega
        have M := hid M
        go_wp2_with fail
        refine wp_region_held_drew (S := (fun w' => w'.cell? ⟨q, 0, none⟩ = some (.int .i64 t) ∧ w'.cell? ⟨p, 0, none⟩ = some (.int .i64 L.length))) (by kernel_rfl) ?_ (fun hH => ?_)
        · go_keep
        refine wpAnyH_take (i := 0) (oi := { dst := some 85, op := Op.load 3 (Operand.tmp 8), type := 3, pos := "own.go:34", after := #[], guard := none }) (v := ?_) rfl (by kernel_rfl) (by kernel_rfl) (by kernel_rfl) (fun _ _ _ h => h) (Or.inl ⟨by rfl, ?_⟩) hH ?_
        rotate_left
        · intro w hSw; (try dsimp only at hSw); go_simp <;> with_reducible rfl
        try simp only [Act.put, List.setIfInBounds_toArray, List.set_cons_zero, List.set_cons_succ]
        refine wpAnyH_take (i := 1) (oi := { dst := some 86, op := Op.move (Operand.tmp 11), type := 3, pos := "own.go:34", after := #[], guard := none }) (v := ?_) rfl (by kernel_rfl) (by kernel_rfl) (by kernel_rfl) (fun _ _ _ h => h) (Or.inl ⟨by rfl, ?_⟩) hH ?_
        rotate_left
        · intro w hSw; (try dsimp only at hSw); go_simp <;> with_reducible rfl
        try simp only [Act.put, List.setIfInBounds_toArray, List.set_cons_zero, List.set_cons_succ]
        refine wpAnyH_take (i := 2) (oi := { dst := some 87, op := Op.binOp BinOp.neq 3 (Operand.tmp 85) (Operand.tmp 86) 3, type := 4, pos := "own.go:34", after := #[{ on := 0, ground := Ground.data }, { on := 1, ground := Ground.data }], guard := none }) (v := ?_) rfl (by kernel_rfl) (by kernel_rfl) (by kernel_rfl) (fun _ _ _ h => h) (Or.inl ⟨by rfl, ?_⟩) hH ?_
        rotate_left
        · intro w hSw; (try dsimp only at hSw); go_simp <;> with_reducible rfl
        try simp only [Act.put, List.setIfInBounds_toArray, List.set_cons_zero, List.set_cons_succ]
        refine wpAnyH_take (i := 3) (oi := { dst := some 88, op := Op.move (Operand.tmp 87), type := 4, pos := "own.go:34", after := #[{ on := 2, ground := Ground.data }], guard := none }) (v := ?_) rfl (by kernel_rfl) (by kernel_rfl) (by kernel_rfl) (fun _ _ _ h => h) (Or.inl ⟨by rfl, ?_⟩) hH ?_
        rotate_left
        · intro w hSw; (try dsimp only at hSw); go_simp <;> with_reducible rfl
        try simp only [Act.put, List.setIfInBounds_toArray, List.set_cons_zero, List.set_cons_succ]
        refine wpAnyH_take (i := 4) (oi := { dst := some 89, op := Op.load 3 (Operand.tmp 7), type := 3, pos := "own.go:34", after := #[{ on := 3, ground := Ground.guard }], guard := some (3, false) }) (v := ?_) rfl (by kernel_rfl) (by kernel_rfl) (by kernel_rfl) (fun _ _ _ h => h) (Or.inl ⟨by rfl, ?_⟩) hH ?_
        rotate_left
        · intro w hSw; (try dsimp only at hSw); go_simp <;> with_reducible rfl
        try simp only [Act.put, List.setIfInBounds_toArray, List.set_cons_zero, List.set_cons_succ]
        refine wpAnyH_take (i := 5) (oi := { dst := some 90, op := Op.move (Operand.tmp 9), type := 29, pos := "own.go:34", after := #[{ on := 3, ground := Ground.guard }], guard := some (3, false) }) (v := ?_) rfl (by kernel_rfl) (by kernel_rfl) (by kernel_rfl) (fun _ _ _ h => h) (Or.inl ⟨by rfl, ?_⟩) hH ?_
        rotate_left
        · intro w hSw; (try dsimp only at hSw); go_simp <;> with_reducible rfl
        try simp only [Act.put, List.setIfInBounds_toArray, List.set_cons_zero, List.set_cons_succ]
        refine wpAnyH_take (i := 6) (oi := { dst := some 91, op := Op.call { callee := Callee.builtin Builtin.len, args := #[Operand.tmp 90], argTypes := #[29] }, type := 3, pos := "own.go:34", after := #[{ on := 5, ground := Ground.data }, { on := 3, ground := Ground.guard }], guard := some (3, false) }) (v := ?_) rfl (by kernel_rfl) (by kernel_rfl) (by kernel_rfl) (fun _ _ _ h => h) (Or.inl ⟨by rfl, ?_⟩) hH ?_
        rotate_left
        · intro w hSw; (try dsimp only at hSw); go_simp <;> with_reducible rfl
        try simp only [Act.put, List.setIfInBounds_toArray, List.set_cons_zero, List.set_cons_succ]
        refine wpAnyH_take (i := 7) (oi := { dst := some 92, op := Op.move (Operand.tmp 10), type := 29, pos := "own.go:34", after := #[{ on := 3, ground := Ground.guard }], guard := some (3, false) }) (v := ?_) rfl (by kernel_rfl) (by kernel_rfl) (by kernel_rfl) (fun _ _ _ h => h) (Or.inl ⟨by rfl, ?_⟩) hH ?_
        rotate_left
        · intro w hSw; (try dsimp only at hSw); go_simp <;> with_reducible rfl
        try simp only [Act.put, List.setIfInBounds_toArray, List.set_cons_zero, List.set_cons_succ]
        refine wpAnyH_take (i := 8) (oi := { dst := some 93, op := Op.call { callee := Callee.builtin Builtin.len, args := #[Operand.tmp 92], argTypes := #[29] }, type := 3, pos := "own.go:34", after := #[{ on := 7, ground := Ground.data }, { on := 3, ground := Ground.guard }], guard := some (3, false) }) (v := ?_) rfl (by kernel_rfl) (by kernel_rfl) (by kernel_rfl) (fun _ _ _ h => h) (Or.inl ⟨by rfl, ?_⟩) hH ?_
        rotate_left
        · intro w hSw; (try dsimp only at hSw); go_simp <;> with_reducible rfl
        try simp only [Act.put, List.setIfInBounds_toArray, List.set_cons_zero, List.set_cons_succ]
        refine wpAnyH_take (i := 9) (oi := { dst := some 94, op := Op.binOp BinOp.sub 3 (Operand.tmp 91) (Operand.tmp 93) 3, type := 3, pos := "own.go:34", after := #[{ on := 6, ground := Ground.data }, { on := 8, ground := Ground.data }, { on := 3, ground := Ground.guard }], guard := some (3, false) }) (v := ?_) rfl (by kernel_rfl) (by kernel_rfl) (by kernel_rfl) (fun _ _ _ h => h) (Or.inl ⟨by rfl, ?_⟩) hH ?_
        rotate_left
        · intro w hSw; (try dsimp only at hSw); go_simp <;> with_reducible rfl
        try simp only [Act.put, List.setIfInBounds_toArray, List.set_cons_zero, List.set_cons_succ]
        refine wpAnyH_take (i := 10) (oi := { dst := some 95, op := Op.binOp BinOp.neq 3 (Operand.tmp 89) (Operand.tmp 94) 3, type := 4, pos := "own.go:34", after := #[{ on := 4, ground := Ground.data }, { on := 9, ground := Ground.data }, { on := 3, ground := Ground.guard }], guard := some (3, false) }) (v := ?_) rfl (by kernel_rfl) (by kernel_rfl) (by kernel_rfl) (fun _ _ _ h => h) (Or.inl ⟨by rfl, ?_⟩) hH ?_
        rotate_left
        · intro w hSw; (try dsimp only at hSw); go_simp <;> with_reducible rfl
        try simp only [Act.put, List.setIfInBounds_toArray, List.set_cons_zero, List.set_cons_succ]
        refine wpAnyH_take (i := 11) (oi := { dst := some 96, op := Op.pick (Operand.tmp 88) (Operand.const (Value.bool true)) (Operand.tmp 95), type := 4, pos := "own.go:34", after := #[{ on := 3, ground := Ground.data }, { on := 10, ground := Ground.data }], guard := none }) (v := ?_) rfl (by kernel_rfl) (by kernel_rfl) (by kernel_rfl) (fun _ _ _ h => h) (Or.inl ⟨by rfl, ?_⟩) hH ?_
        rotate_left
        · intro w hSw; (try dsimp only at hSw); go_simp <;> with_reducible rfl
        try simp only [Act.put, List.setIfInBounds_toArray, List.set_cons_zero, List.set_cons_succ]
        refine wpAnyH_take (i := 12) (oi := { dst := some 97, op := Op.move (Operand.tmp 96), type := 4, pos := "own.go:34", after := #[{ on := 11, ground := Ground.data }, { on := 3, ground := Ground.chain }], guard := none }) (v := ?_) rfl (by kernel_rfl) (by kernel_rfl) (by kernel_rfl) (fun _ _ _ h => h) (Or.inl ⟨by rfl, ?_⟩) hH ?_
        rotate_left
        · intro w hSw; (try dsimp only at hSw); go_simp <;> with_reducible rfl
        try simp only [Act.put, List.setIfInBounds_toArray, List.set_cons_zero, List.set_cons_succ]
        refine wpAnyH_take (i := 13) (oi := { dst := some 98, op := Op.move (Operand.tmp 5), type := 24, pos := "own.go:34", after := #[{ on := 12, ground := Ground.guard }], guard := some (12, false) }) (v := ?_) rfl (by kernel_rfl) (by kernel_rfl) (by kernel_rfl) (fun _ _ _ h => h) (Or.inl ⟨by rfl, ?_⟩) hH ?_
        rotate_left
        · intro w hSw; (try dsimp only at hSw); go_simp <;> with_reducible rfl
        try simp only [Act.put, List.setIfInBounds_toArray, List.set_cons_zero, List.set_cons_succ]
        refine wpAnyH_take (i := 15) (oi := { dst := some 100, op := Op.load 3 (Operand.tmp 7), type := 3, pos := "own.go:34", after := #[{ on := 12, ground := Ground.guard }], guard := some (12, false) }) (v := ?_) rfl (by kernel_rfl) (by kernel_rfl) (by kernel_rfl) (fun _ _ _ h => h) (Or.inl ⟨by rfl, ?_⟩) hH ?_
        rotate_left
        · intro w hSw; (try dsimp only at hSw); go_simp <;> with_reducible rfl
        try simp only [Act.put, List.setIfInBounds_toArray, List.set_cons_zero, List.set_cons_succ]
        refine wpAnyH_ready (rs := [14]) (by kernel_rfl) (by simp) ?_
        refine AllReadyH.cons (o := { dst := some 99, op := Op.call { callee := Callee.value (Operand.func 13), args := #[Operand.tmp 98], argTypes := #[24] }, type := 3, pos := "own.go:34", after := #[{ on := 13, ground := Ground.data }, { on := 12, ground := Ground.chain }, { on := 12, ground := Ground.guard }], guard := some (12, false) }) rfl (fun K hK => ?_) AllReadyH.nil
        go_simp
        go_at_call 13
        refine (len_live (W2 p q) (M.out.live.drewN _)).mono ?_
        rintro e w' ⟨rfl, rfl⟩
        go_simp
        refine hK.out _ _ ?_ (fun hH => ?_)
        · go_keep
        clear hK K
        try simp only [Act.put, List.setIfInBounds_toArray, List.set_cons_zero, List.set_cons_succ]
        refine wpAnyH_take (i := 16) (oi := { dst := some 101, op := Op.binOp BinOp.neq 3 (Operand.tmp 99) (Operand.tmp 100) 3, type := 4, pos := "own.go:34", after := #[{ on := 14, ground := Ground.data }, { on := 15, ground := Ground.data }, { on := 12, ground := Ground.guard }], guard := some (12, false) }) (v := ?_) rfl (by kernel_rfl) (by kernel_rfl) (by kernel_rfl) (fun _ _ _ h => h) (Or.inl ⟨by rfl, ?_⟩) hH ?_
        rotate_left
        · intro w hSw; (try dsimp only at hSw); go_simp <;> with_reducible rfl
        try simp only [Act.put, List.setIfInBounds_toArray, List.set_cons_zero, List.set_cons_succ]
        refine wpAnyH_take (i := 17) (oi := { dst := some 102, op := Op.pick (Operand.tmp 97) (Operand.const (Value.bool true)) (Operand.tmp 101), type := 4, pos := "own.go:34", after := #[{ on := 12, ground := Ground.data }, { on := 16, ground := Ground.data }], guard := none }) (v := ?_) rfl (by kernel_rfl) (by kernel_rfl) (by kernel_rfl) (fun _ _ _ h => h) (Or.inl ⟨by rfl, ?_⟩) hH ?_
        rotate_left
        · intro w hSw; (try dsimp only at hSw); go_simp <;> with_reducible rfl
        try simp only [Act.put, List.setIfInBounds_toArray, List.set_cons_zero, List.set_cons_succ]
        refine wpAnyH_take (i := 18) (oi := { dst := some 103, op := Op.move (Operand.tmp 102), type := 4, pos := "own.go:34", after := #[{ on := 17, ground := Ground.data }, { on := 14, ground := Ground.chain }], guard := none }) (v := ?_) rfl (by kernel_rfl) (by kernel_rfl) (by kernel_rfl) (fun _ _ _ h => h) (Or.inl ⟨by rfl, ?_⟩) hH ?_
        rotate_left
        · intro w hSw; (try dsimp only at hSw); go_simp <;> with_reducible rfl
        try simp only [Act.put, List.setIfInBounds_toArray, List.set_cons_zero, List.set_cons_succ]
        refine wpAnyH_take (i := 19) (oi := { dst := some 104, op := Op.load 3 (Operand.tmp 7), type := 3, pos := "own.go:34", after := #[{ on := 18, ground := Ground.guard }], guard := some (18, false) }) (v := ?_) rfl (by kernel_rfl) (by kernel_rfl) (by kernel_rfl) (fun _ _ _ h => h) (Or.inl ⟨by rfl, ?_⟩) hH ?_
        rotate_left
        · intro w hSw; (try dsimp only at hSw); go_simp <;> with_reducible rfl
        try simp only [Act.put, List.setIfInBounds_toArray, List.set_cons_zero, List.set_cons_succ]
        refine wpAnyH_take (i := 20) (oi := { dst := some 105, op := Op.move (Operand.tmp 0), type := 3, pos := "own.go:34", after := #[{ on := 18, ground := Ground.guard }], guard := some (18, false) }) (v := ?_) rfl (by kernel_rfl) (by kernel_rfl) (by kernel_rfl) (fun _ _ _ h => h) (Or.inl ⟨by rfl, ?_⟩) hH ?_
        rotate_left
        · intro w hSw; (try dsimp only at hSw); go_simp <;> with_reducible rfl
        try simp only [Act.put, List.setIfInBounds_toArray, List.set_cons_zero, List.set_cons_succ]
        refine wpAnyH_take (i := 21) (oi := { dst := some 106, op := Op.binOp BinOp.gtr 3 (Operand.tmp 104) (Operand.tmp 105) 3, type := 4, pos := "own.go:34", after := #[{ on := 19, ground := Ground.data }, { on := 20, ground := Ground.data }, { on := 18, ground := Ground.guard }], guard := some (18, false) }) (v := ?_) rfl (by kernel_rfl) (by kernel_rfl) (by kernel_rfl) (fun _ _ _ h => h) (Or.inl ⟨by rfl, ?_⟩) hH ?_
        rotate_left
        · intro w hSw; (try dsimp only at hSw); go_simp <;> with_reducible rfl
        try simp only [Act.put, List.setIfInBounds_toArray, List.set_cons_zero, List.set_cons_succ]
        refine wpAnyH_take (i := 22) (oi := { dst := some 107, op := Op.pick (Operand.tmp 103) (Operand.const (Value.bool true)) (Operand.tmp 106), type := 4, pos := "own.go:34", after := #[{ on := 18, ground := Ground.data }, { on := 21, ground := Ground.data }], guard := none }) (v := ?_) rfl (by kernel_rfl) (by kernel_rfl) (by kernel_rfl) (fun _ _ _ h => h) (Or.inl ⟨by rfl, ?_⟩) hH ?_
        rotate_left
        · intro w hSw; (try dsimp only at hSw); go_simp <;> with_reducible rfl
        try simp only [Act.put, List.setIfInBounds_toArray, List.set_cons_zero, List.set_cons_succ]
        refine wpAnyH_done (by kernel_rfl) ?_ _
        go_wp2_with fail
        go_roundw
        case rel => exact ⟨k + 1, by omega, by go_num, L, outL, inL, t, S, rfl, htk, hik, M.out.fr (by first | exact (Fr.refl _ _).drewN _ | exact (Fr.refl _ _).drew)⟩
        case measure => simp [intOf]; omega
    · obtain ⟨L, outL, inL, t, S, rfl, htk, hik, M⟩ := hinv
      obtain ⟨ai, ci, rfl⟩ := owns_slice M.rows.ins
      obtain ⟨ao2, co, rfl⟩ := owns_slice M.rows.outs
      have hik2 : inL.length ≤ 60 := by omega
      have M := hid M
      clear hik htk hk HOPS HO
      go_wp2_with fail
      refine (fork_live (W2 p q) M.out.live).mono ?_
      rintro e w4 ⟨b', rfl, hL4, hb4⟩
      have LC := hid hL4
      have M4 := hid (M.out.fr (Fr.of_below hb4 (fun i h1 h2 => by omega)))
      have hs4 : w.heap.size ≤ w4.heap.size := M4.out.rows.bel.size
      clear hL4 hb4
      have ro := M4.out.rows.outs
      have hol : outL.length ≤ inL.length := by rw [M4.out.eq]; simp
      have hll : outL.length + L.length ≤ 60 := by have : inL.length = outL.length + L.length := by rw [M4.out.eq]; simp
                                                   omega
      have RO := hid (Reads.of_own ro)
      clear ro
      go_wp2_with (first
        | (at_builtin; refine wpList_append_any_g _ (by rfl) (.tmp 113) (.tmp 114) _ (by rfl) w4.heap.size 3 i0 _ 1 8 Try.underlying29 hi0 hz0 hz1 hz2 rfl (by omega) (.slice (some ⟨w4.heap.size, 0, none⟩) 0 0) 0 [] (by rfl) (ownE w4) w4.heap.size ao2 outL.length co (rowI outL) (by rfl) (RO.out.alloc (Nat.le_refl _) _) (rowI_one _) (by unfold maxLen; omega) (by omega) (by simp) ?_; intro v1 w5 hown1 hg1 hat1; have O5 := hid hown1; have B5 := hid (show Below w4.heap.size w4 w5 from ((Below.refl _ w4).alloc (Nat.le_refl _) _).grown hg1 (by simp) (fun k hk => by simp [Value.ownBlock] at hk; omega)); clear hown1 hg1 hat1)
        | (go_at_call 16; refine (list_live W0 (LC.out.below B5.out)).mono ?_; rintro e w6 ⟨v2, rfl, hI, hb⟩; have HI := hid hI; have B6 := hid (show Below w4.heap.size w4 w6 from B5.out.trans (hb.mono B5.out.size)); have O6 := hid (show w6.ownsRow w4.heap.size 3 1 v1 _ _ from (Fr.of_below (S := fun _ => False) hb (fun i h1 h2 => by omega)).owns O5.out (fun _ _ e => e)); obtain ⟨a2, c2, rfl, _⟩ := hI; clear hb)
        | (at_builtin; refine wpList_append_any_g _ (by rfl) (.tmp 115) (.tmp 117) _ (by rfl) w4.heap.size 3 i0 _ 1 8 Try.underlying29 hi0 hz0 hz1 hz2 rfl (by omega) v1 (0 + outL.length) ([] ++ rowI outL) (by rfl) O6.out w6.heap.size a2 L.length c2 (rowI L) (by rfl) HI.out.reads (rowI_one _) (by unfold maxLen; omega) (by omega) B6.out.size ?_; intro v3 w7 hown3 hg3 hat3; have B7 := hid (show Below w4.heap.size w4 w7 from B6.out.grown hg3 B6.out.size (fun k hk => (O6.out.lt k hk).1)); have O7 := hid (ints_app hown3 M4.out.eq); clear hown3 hg3 hat3)
        | (go_at_call 15; refine (same_eq O7.out (IntsAt.fr (S := fun _ => False) (ok' := fun _ => True) (ints_of_row M4.out.rows.ins) (Fr.of_below B7.out (fun i h1 h2 => by omega)) (fun _ _ e => e) (fun _ _ _ => trivial))).mono ?_; rintro e w' ⟨rfl, m8, rfl⟩))
      have hb0 : w.heap.size ≤ wr.heap.size := M.out.rows.bel.size
      obtain ⟨B0, hB0⟩ : ∃ B0, B0 = wr.heap.size := ⟨_, rfl⟩
      have hSB : ∀ k, S k → k < B0 := fun k hk => by have := M.out.live.lt k hk; omega
      have hib : ∀ k, (Value.slice ai inL.length ci).ownBlock = some k → k < B0 := fun k hk => by have := (M.out.rows.ins.lt k hk).2; omega
      have hob : ∀ k, (Value.slice ao2 outL.length co).ownBlock = some k → k < B0 := fun k hk => by have := (M.out.rows.outs.lt k hk).2; omega
      rw [← hB0] at hb0
      have HSB := hid hSB
      have HIB := hid hib
      have HOB := hid hob
      have M7 := hid ((M4.out.fr (Fr.of_below B7.out (fun i h1 h2 => by omega))).fr ((Fr.refl _ w7).drewN m8))
      have L7 := hid ((LC.out.below B7.out).drewN m8)
      have cL := M4.out.live.cnt.1
      rw [← hB0] at L7
      clear hB0 hSB hib hob M M4 LC RO O5 B5 HI B6 O6 B7 O7
      obtain ⟨T, hT⟩ : ∃ T : Nat → Prop, T = (fun k => B0 ≤ k ∧ k < w4.heap.size) := ⟨_, rfl⟩
      rw [← hT] at L7
      have HT := hid (show ∀ k, T k → B0 ≤ k from fun k hk => by rw [hT] at hk; exact hk.1)
      clear hT
      obtain ⟨wz, hwz⟩ : ∃ wz, wz = w7.drewN m8 := ⟨_, rfl⟩
      rw [← hwz] at M7 L7 ⊢
      clear hwz
      go_loopw [16] (fun i wq => ∃ j : Nat, j ≤ most + 1 ∧ i = .int .i64 j ∧ ∃ LL : List Int, LL.length ≤ most - j ∧ Live W0 wq B0 b' most LL () T ∧ OrdMid w wq b p q most L outL inL t S (.slice ai inL.length ci) (.slice ao2 outL.length co)) (fun i _ => most + 1 - (intOf i).toNat)
      case atStart => exact ⟨0, by omega, rfl, L, by omega, L7.out, M7.out⟩
      case round =>
        obtain ⟨j, hj, rfl, LL, hLL, hLC, hMQ⟩ := hrel
        by_cases hjm : j ≤ most
        · have HLC := hid hLC
          have HMQ := hid hMQ
          clear hLC hMQ M7 L7
          go_wp2_with fail
          refine (pop_live W0 HLC.out).mono ?_
          rintro e wv ⟨rfl, hL, hF⟩
          have HLD := hid (show Live W0 wv B0 b' most LL.tail () T from hL)
          have HMD := hid (HMQ.out.far hF HT.out HSB.out HIB.out HOB.out hb0)
          clear hL hF HLC HMQ
          go_wp2_with fail
          go_roundw
          case rel => exact ⟨j + 1, by omega, by go_num, LL.tail, by simp; omega, HLD.out, HMD.out⟩
          case measure => simp [intOf]; omega
        · obtain rfl : LL = [] := List.length_eq_zero_iff.1 (by omega)
          have hjm2 : ¬ (j : Int) ≤ (most : Int) := by omega
          have LE := hid hLC
          have MQ := hid hMQ
          have cp := cell_of hMQ.live.q.2.1 0 (v := .int .i64 L.length) rfl
          have cq := cell_of hMQ.live.q.2.2 0 (v := .int .i64 t) rfl
          have hpl := lt_of_block hMQ.live.q.2.1
          have hql := lt_of_block hMQ.live.q.2.2
          have hop : (Value.slice ao2 outL.length co).ownBlock ≠ some p := fun e => hMQ.rows.so _ e (hMQ.live.sf p (.inl rfl))
          have hoq : (Value.slice ao2 outL.length co).ownBlock ≠ some q := fun e => hMQ.rows.so _ e (hMQ.live.sf q (.inr rfl))
          have HOP := hid hop
          have HOQ := hid hoq
          clear hLC hMQ M7 L7 hop hoq
          go_wp2_with fail
          refine wp_region_held_drew (S := (fun w' => w'.cell? ⟨q, 0, none⟩ = some (.int .i64 t) ∧ w'.cell? ⟨p, 0, none⟩ = some (.int .i64 L.length))) (by kernel_rfl) ?_ (fun hH => ?_)
          · go_keep
          refine wpAnyH_take (i := 0) (oi := { dst := some 130, op := Op.move (Operand.tmp 15), type := 24, pos := "own.go:45", after := #[], guard := none }) (v := ?_) rfl (by kernel_rfl) (by kernel_rfl) (by kernel_rfl) (fun _ _ _ h => h) (Or.inl ⟨by rfl, ?_⟩) hH ?_
          rotate_left
          · intro w hSw; (try dsimp only at hSw); go_simp <;> with_reducible rfl
          try simp only [Act.put, List.setIfInBounds_toArray, List.set_cons_zero, List.set_cons_succ]
          refine wpAnyH_ready (rs := [1]) (by kernel_rfl) (by simp) ?_
          refine AllReadyH.cons (o := { dst := some 131, op := Op.call { callee := Callee.value (Operand.func 13), args := #[Operand.tmp 130], argTypes := #[24] }, type := 3, pos := "own.go:45", after := #[{ on := 0, ground := Ground.data }], guard := none }) rfl (fun K hK => ?_) AllReadyH.nil
          go_simp
          go_at_call 13
          refine (len_live0 (LE.out.drewN _)).mono ?_
          rintro e w' ⟨rfl, rfl⟩
          go_simp
          refine hK.out _ _ ?_ (fun hH => ?_)
          · go_keep
          clear hK K
          try simp only [Act.put, List.setIfInBounds_toArray, List.set_cons_zero, List.set_cons_succ]
          refine wpAnyH_take (i := 2) (oi := { dst := some 132, op := Op.binOp BinOp.eql 3 (Operand.tmp 131) (Operand.const (Value.int IntKind.i64 0)) 3, type := 4, pos := "own.go:45", after := #[{ on := 1, ground := Ground.data }], guard := none }) (v := ?_) rfl (by kernel_rfl) (by kernel_rfl) (by kernel_rfl) (fun _ _ _ h => h) (Or.inl ⟨by rfl, ?_⟩) hH ?_
          rotate_left
          · intro w hSw; (try dsimp only at hSw); go_simp <;> with_reducible rfl
          try simp only [Act.put, List.setIfInBounds_toArray, List.set_cons_zero, List.set_cons_succ]
          refine wpAnyH_take (i := 3) (oi := { dst := some 133, op := Op.move (Operand.tmp 132), type := 4, pos := "own.go:45", after := #[{ on := 2, ground := Ground.data }, { on := 1, ground := Ground.chain }], guard := none }) (v := ?_) rfl (by kernel_rfl) (by kernel_rfl) (by kernel_rfl) (fun _ _ _ h => h) (Or.inl ⟨by rfl, ?_⟩) hH ?_
          rotate_left
          · intro w hSw; (try dsimp only at hSw); go_simp <;> with_reducible rfl
          try simp only [Act.put, List.setIfInBounds_toArray, List.set_cons_zero, List.set_cons_succ]
          refine wpAnyH_take (i := 4) (oi := { dst := some 134, op := Op.load 3 (Operand.tmp 8), type := 3, pos := "own.go:45", after := #[{ on := 3, ground := Ground.guard }], guard := some (3, true) }) (v := ?_) rfl (by kernel_rfl) (by kernel_rfl) (by kernel_rfl) (fun _ _ _ h => h) (Or.inl ⟨by rfl, ?_⟩) hH ?_
          rotate_left
          · intro w hSw; (try dsimp only at hSw); go_simp <;> with_reducible rfl
          try simp only [Act.put, List.setIfInBounds_toArray, List.set_cons_zero, List.set_cons_succ]
          refine wpAnyH_take (i := 5) (oi := { dst := some 135, op := Op.move (Operand.tmp 11), type := 3, pos := "own.go:45", after := #[{ on := 3, ground := Ground.guard }], guard := some (3, true) }) (v := ?_) rfl (by kernel_rfl) (by kernel_rfl) (by kernel_rfl) (fun _ _ _ h => h) (Or.inl ⟨by rfl, ?_⟩) hH ?_
          rotate_left
          · intro w hSw; (try dsimp only at hSw); go_simp <;> with_reducible rfl
          try simp only [Act.put, List.setIfInBounds_toArray, List.set_cons_zero, List.set_cons_succ]
          refine wpAnyH_take (i := 6) (oi := { dst := some 136, op := Op.binOp BinOp.eql 3 (Operand.tmp 134) (Operand.tmp 135) 3, type := 4, pos := "own.go:45", after := #[{ on := 4, ground := Ground.data }, { on := 5, ground := Ground.data }, { on := 3, ground := Ground.guard }], guard := some (3, true) }) (v := ?_) rfl (by kernel_rfl) (by kernel_rfl) (by kernel_rfl) (fun _ _ _ h => h) (Or.inl ⟨by rfl, ?_⟩) hH ?_
          rotate_left
          · intro w hSw; (try dsimp only at hSw); go_simp <;> with_reducible rfl
          try simp only [Act.put, List.setIfInBounds_toArray, List.set_cons_zero, List.set_cons_succ]
          refine wpAnyH_take (i := 7) (oi := { dst := some 137, op := Op.pick (Operand.tmp 133) (Operand.tmp 136) (Operand.const (Value.bool false)), type := 4, pos := "own.go:45", after := #[{ on := 3, ground := Ground.data }, { on := 6, ground := Ground.data }], guard := none }) (v := ?_) rfl (by kernel_rfl) (by kernel_rfl) (by kernel_rfl) (fun _ _ _ h => h) (Or.inl ⟨by rfl, ?_⟩) hH ?_
          rotate_left
          · intro w hSw; (try dsimp only at hSw); go_simp <;> with_reducible rfl
          try simp only [Act.put, List.setIfInBounds_toArray, List.set_cons_zero, List.set_cons_succ]
          refine wpAnyH_take (i := 8) (oi := { dst := some 138, op := Op.move (Operand.tmp 137), type := 4, pos := "own.go:45", after := #[{ on := 7, ground := Ground.data }, { on := 3, ground := Ground.chain }], guard := none }) (v := ?_) rfl (by kernel_rfl) (by kernel_rfl) (by kernel_rfl) (fun _ _ _ h => h) (Or.inl ⟨by rfl, ?_⟩) hH ?_
          rotate_left
          · intro w hSw; (try dsimp only at hSw); go_simp <;> with_reducible rfl
          try simp only [Act.put, List.setIfInBounds_toArray, List.set_cons_zero, List.set_cons_succ]
          refine wpAnyH_take (i := 9) (oi := { dst := some 139, op := Op.move (Operand.tmp 5), type := 24, pos := "own.go:45", after := #[{ on := 8, ground := Ground.guard }], guard := some (8, true) }) (v := ?_) rfl (by kernel_rfl) (by kernel_rfl) (by kernel_rfl) (fun _ _ _ h => h) (Or.inl ⟨by rfl, ?_⟩) hH ?_
          rotate_left
          · intro w hSw; (try dsimp only at hSw); go_simp <;> with_reducible rfl
          try simp only [Act.put, List.setIfInBounds_toArray, List.set_cons_zero, List.set_cons_succ]
          refine wpAnyH_take (i := 11) (oi := { dst := some 141, op := Op.load 3 (Operand.tmp 7), type := 3, pos := "own.go:45", after := #[{ on := 8, ground := Ground.guard }], guard := some (8, true) }) (v := ?_) rfl (by kernel_rfl) (by kernel_rfl) (by kernel_rfl) (fun _ _ _ h => h) (Or.inl ⟨by rfl, ?_⟩) hH ?_
          rotate_left
          · intro w hSw; (try dsimp only at hSw); go_simp <;> with_reducible rfl
          try simp only [Act.put, List.setIfInBounds_toArray, List.set_cons_zero, List.set_cons_succ]
          refine wpAnyH_ready (rs := [10]) (by kernel_rfl) (by simp) ?_
          refine AllReadyH.cons (o := { dst := some 140, op := Op.call { callee := Callee.value (Operand.func 13), args := #[Operand.tmp 139], argTypes := #[24] }, type := 3, pos := "own.go:45", after := #[{ on := 9, ground := Ground.data }, { on := 8, ground := Ground.chain }, { on := 8, ground := Ground.guard }], guard := some (8, true) }) rfl (fun K hK => ?_) AllReadyH.nil
          go_simp
          go_at_call 13
          refine (len_live (W2 p q) (MQ.out.live.drewN _)).mono ?_
          rintro e w' ⟨rfl, rfl⟩
          go_simp
          refine hK.out _ _ ?_ (fun hH => ?_)
          · go_keep
          clear hK K
          try simp only [Act.put, List.setIfInBounds_toArray, List.set_cons_zero, List.set_cons_succ]
          refine wpAnyH_take (i := 12) (oi := { dst := some 142, op := Op.binOp BinOp.eql 3 (Operand.tmp 140) (Operand.tmp 141) 3, type := 4, pos := "own.go:45", after := #[{ on := 10, ground := Ground.data }, { on := 11, ground := Ground.data }, { on := 8, ground := Ground.guard }], guard := some (8, true) }) (v := ?_) rfl (by kernel_rfl) (by kernel_rfl) (by kernel_rfl) (fun _ _ _ h => h) (Or.inl ⟨by rfl, ?_⟩) hH ?_
          rotate_left
          · intro w hSw; (try dsimp only at hSw); go_simp <;> with_reducible rfl
          try simp only [Act.put, List.setIfInBounds_toArray, List.set_cons_zero, List.set_cons_succ]
          refine wpAnyH_take (i := 13) (oi := { dst := some 143, op := Op.pick (Operand.tmp 138) (Operand.tmp 142) (Operand.const (Value.bool false)), type := 4, pos := "own.go:45", after := #[{ on := 8, ground := Ground.data }, { on := 12, ground := Ground.data }], guard := none }) (v := ?_) rfl (by kernel_rfl) (by kernel_rfl) (by kernel_rfl) (fun _ _ _ h => h) (Or.inl ⟨by rfl, ?_⟩) hH ?_
          rotate_left
          · intro w hSw; (try dsimp only at hSw); go_simp <;> with_reducible rfl
          try simp only [Act.put, List.setIfInBounds_toArray, List.set_cons_zero, List.set_cons_succ]
          refine wpAnyH_take (i := 14) (oi := { dst := some 144, op := Op.move (Operand.tmp 143), type := 4, pos := "own.go:45", after := #[{ on := 13, ground := Ground.data }, { on := 10, ground := Ground.chain }], guard := none }) (v := ?_) rfl (by kernel_rfl) (by kernel_rfl) (by kernel_rfl) (fun _ _ _ h => h) (Or.inl ⟨by rfl, ?_⟩) hH ?_
          rotate_left
          · intro w hSw; (try dsimp only at hSw); go_simp <;> with_reducible rfl
          try simp only [Act.put, List.setIfInBounds_toArray, List.set_cons_zero, List.set_cons_succ]
          refine wpAnyH_take (i := 15) (oi := { dst := some 145, op := Op.move (Operand.tmp 15), type := 24, pos := "own.go:45", after := #[{ on := 14, ground := Ground.guard }], guard := some (14, true) }) (v := ?_) rfl (by kernel_rfl) (by kernel_rfl) (by kernel_rfl) (fun _ _ _ h => h) (Or.inl ⟨by rfl, ?_⟩) hH ?_
          rotate_left
          · intro w hSw; (try dsimp only at hSw); go_simp <;> with_reducible rfl
          try simp only [Act.put, List.setIfInBounds_toArray, List.set_cons_zero, List.set_cons_succ]
          refine wpAnyH_take (i := 17) (oi := { dst := some 147, op := Op.move (Operand.tmp 0), type := 3, pos := "own.go:45", after := #[{ on := 14, ground := Ground.guard }], guard := some (14, true) }) (v := ?_) rfl (by kernel_rfl) (by kernel_rfl) (by kernel_rfl) (fun _ _ _ h => h) (Or.inl ⟨by rfl, ?_⟩) hH ?_
          rotate_left
          · intro w hSw; (try dsimp only at hSw); go_simp <;> with_reducible rfl
          try simp only [Act.put, List.setIfInBounds_toArray, List.set_cons_zero, List.set_cons_succ]
          refine wpAnyH_ready (rs := [16]) (by kernel_rfl) (by simp) ?_
          refine AllReadyH.cons (o := { dst := some 146, op := Op.call { callee := Callee.value (Operand.func 14), args := #[Operand.tmp 145], argTypes := #[24] }, type := 3, pos := "own.go:45", after := #[{ on := 15, ground := Ground.data }, { on := 14, ground := Ground.chain }, { on := 14, ground := Ground.guard }], guard := some (14, true) }) rfl (fun K hK => ?_) AllReadyH.nil
          go_simp
          go_at_call 14
          refine (room_live0 (LE.out.drewN _)).mono ?_
          rintro e w' ⟨rfl, mm, rfl⟩
          go_simp
          refine hK.out _ _ ?_ (fun hH => ?_)
          · go_keep
          clear hK K
          try simp only [Act.put, List.setIfInBounds_toArray, List.set_cons_zero, List.set_cons_succ]
          refine wpAnyH_take (i := 18) (oi := { dst := some 148, op := Op.binOp BinOp.eql 3 (Operand.tmp 146) (Operand.tmp 147) 3, type := 4, pos := "own.go:45", after := #[{ on := 16, ground := Ground.data }, { on := 17, ground := Ground.data }, { on := 14, ground := Ground.guard }], guard := some (14, true) }) (v := ?_) rfl (by kernel_rfl) (by kernel_rfl) (by kernel_rfl) (fun _ _ _ h => h) (Or.inl ⟨by rfl, ?_⟩) hH ?_
          rotate_left
          · intro w hSw; (try dsimp only at hSw); go_simp <;> with_reducible rfl
          try simp only [Act.put, List.setIfInBounds_toArray, List.set_cons_zero, List.set_cons_succ]
          refine wpAnyH_take (i := 19) (oi := { dst := some 149, op := Op.pick (Operand.tmp 144) (Operand.tmp 148) (Operand.const (Value.bool false)), type := 4, pos := "own.go:45", after := #[{ on := 14, ground := Ground.data }, { on := 18, ground := Ground.data }], guard := none }) (v := ?_) rfl (by kernel_rfl) (by kernel_rfl) (by kernel_rfl) (fun _ _ _ h => h) (Or.inl ⟨by rfl, ?_⟩) hH ?_
          rotate_left
          · intro w hSw; (try dsimp only at hSw); go_simp <;> with_reducible rfl
          try simp only [Act.put, List.setIfInBounds_toArray, List.set_cons_zero, List.set_cons_succ]
          refine wpAnyH_take (i := 20) (oi := { dst := some 150, op := Op.move (Operand.tmp 149), type := 4, pos := "own.go:45", after := #[{ on := 19, ground := Ground.data }, { on := 16, ground := Ground.chain }], guard := none }) (v := ?_) rfl (by kernel_rfl) (by kernel_rfl) (by kernel_rfl) (fun _ _ _ h => h) (Or.inl ⟨by rfl, ?_⟩) hH ?_
          rotate_left
          · intro w hSw; (try dsimp only at hSw); go_simp <;> with_reducible rfl
          try simp only [Act.put, List.setIfInBounds_toArray, List.set_cons_zero, List.set_cons_succ]
          refine wpAnyH_take (i := 21) (oi := { dst := some 151, op := Op.move (Operand.tmp 10), type := 29, pos := "own.go:45", after := #[{ on := 20, ground := Ground.guard }], guard := some (20, true) }) (v := ?_) rfl (by kernel_rfl) (by kernel_rfl) (by kernel_rfl) (fun _ _ _ h => h) (Or.inl ⟨by rfl, ?_⟩) hH ?_
          rotate_left
          · intro w hSw; (try dsimp only at hSw); go_simp <;> with_reducible rfl
          try simp only [Act.put, List.setIfInBounds_toArray, List.set_cons_zero, List.set_cons_succ]
          refine wpAnyH_take (i := 22) (oi := { dst := some 152, op := Op.move (Operand.tmp 5), type := 24, pos := "own.go:45", after := #[{ on := 20, ground := Ground.guard }], guard := some (20, true) }) (v := ?_) rfl (by kernel_rfl) (by kernel_rfl) (by kernel_rfl) (fun _ _ _ h => h) (Or.inl ⟨by rfl, ?_⟩) hH ?_
          rotate_left
          · intro w hSw; (try dsimp only at hSw); go_simp <;> with_reducible rfl
          try simp only [Act.put, List.setIfInBounds_toArray, List.set_cons_zero, List.set_cons_succ]
          refine wpAnyH_take (i := 25) (oi := { dst := some 155, op := Op.move (Operand.tmp 9), type := 29, pos := "own.go:45", after := #[{ on := 20, ground := Ground.guard }], guard := some (20, true) }) (v := ?_) rfl (by kernel_rfl) (by kernel_rfl) (by kernel_rfl) (fun _ _ _ h => h) (Or.inl ⟨by rfl, ?_⟩) hH ?_
          rotate_left
          · intro w hSw; (try dsimp only at hSw); go_simp <;> with_reducible rfl
          try simp only [Act.put, List.setIfInBounds_toArray, List.set_cons_zero, List.set_cons_succ]
          refine wpAnyH_ready (rs := [23]) (by kernel_rfl) (by simp) ?_
          refine AllReadyH.cons (o := { dst := some 153, op := Op.call { callee := Callee.value (Operand.func 16), args := #[Operand.tmp 152], argTypes := #[24] }, type := 29, pos := "own.go:45", after := #[{ on := 22, ground := Ground.data }, { on := 20, ground := Ground.chain }, { on := 20, ground := Ground.guard }], guard := some (20, true) }) rfl (fun K hK => ?_) AllReadyH.nil
          go_simp
          go_at_call 16
          refine (list_live (W2 p q) (MQ.out.live.drewN _)).mono ?_
          rintro e w8 ⟨v8, rfl, hI8, hb8⟩
          have HI8 := hid hI8
          obtain ⟨a8, c8, rfl, _⟩ := hI8
          have B8 := hid (MQ.out.rows.bel.trans ((below_drewN (Below.refl _ wr) _).trans (hb8.mono MQ.out.rows.bel.size)))
          have R8 := hid (MQ.out.rows.fr (S' := S) (((Fr.refl S wr).drewN _).trans' (Fr.of_below hb8 (fun i h1 h2 => by omega))) (fun _ h => .inl h))
          go_simp
          refine hK.out _ _ ?_ (fun hH => ?_)
          · (first | go_keep | exact keep2 hb8 hpl hql hH)
          clear hK K
          try simp only [Act.put, List.setIfInBounds_toArray, List.set_cons_zero, List.set_cons_succ]
          refine wpAnyH_ready (rs := [24]) (by kernel_rfl) (by simp) ?_
          refine AllReadyH.cons (o := { dst := some 154, op := Op.call { callee := Callee.builtin Builtin.append, args := #[Operand.tmp 151, Operand.tmp 153], argTypes := #[29, 29] }, type := 29, pos := "own.go:45", after := #[{ on := 21, ground := Ground.data }, { on := 23, ground := Ground.data }, { on := 23, ground := Ground.chain }, { on := 20, ground := Ground.guard }], guard := some (20, true) }) rfl (fun K hK => ?_) AllReadyH.nil
          refine step_append_any_g _ (by rfl) (.tmp 151) (.tmp 153) _ (by rfl) w.heap.size 3 i0 _ 1 8 Try.underlying29 hi0 hz0 hz1 hz2 rfl (by omega) (.slice ao2 outL.length co) outL.length (rowI outL) (by rfl) R8.out.outs w8.heap.size a8 L.length c8 (rowI L) (by rfl) HI8.out.reads (rowI_one _) (by unfold maxLen; omega) (by omega) B8.out.size ?_
          intro v9 w9 hown9 hg9 hat9
          have B9 := hid (B8.out.grown hg9 B8.out.size (fun k hk => (R8.out.outs.lt k hk).1))
          have O9 := hid (ints_app2 hown9 MQ.out.eq)
          have I9 := hid (ints_of_row (((Fr.refl (fun k => (Value.slice ao2 outL.length co).ownBlock = some k) w8).grown hg9 (fun k hk _ => hk)).owns R8.out.ins (fun k hk e => R8.out.ne k hk e)))
          have hs9 := hid (Nat.le_trans hb8.size hg9.size)
          go_simp
          refine hK.out _ _ ?_ (fun hH => ?_)
          · (first | go_keep | exact keep2g hg9 HOP.out HOQ.out hH)
          clear hK K
          try simp only [Act.put, List.setIfInBounds_toArray, List.set_cons_zero, List.set_cons_succ]
          refine wpAnyH_ready (rs := [26]) (by kernel_rfl) (by simp) ?_
          refine AllReadyH.cons (o := { dst := some 156, op := Op.call { callee := Callee.value (Operand.func 15), args := #[Operand.tmp 154, Operand.tmp 155], argTypes := #[29, 29] }, type := 4, pos := "own.go:45", after := #[{ on := 24, ground := Ground.data }, { on := 25, ground := Ground.data }, { on := 24, ground := Ground.chain }, { on := 20, ground := Ground.guard }], guard := some (20, true) }) rfl (fun K hK => ?_) AllReadyH.nil
          go_simp
          go_at_call 15
          refine (same_eq O9.out I9.out).mono ?_
          rintro e w' ⟨rfl, m9, rfl⟩
          go_simp
          refine hK.out _ _ ?_ (fun hH => ?_)
          · go_keep
          clear hK K
          try simp only [Act.put, List.setIfInBounds_toArray, List.set_cons_zero, List.set_cons_succ]
          refine wpAnyH_take (i := 27) (oi := { dst := some 157, op := Op.pick (Operand.tmp 150) (Operand.tmp 156) (Operand.const (Value.bool false)), type := 4, pos := "own.go:45", after := #[{ on := 20, ground := Ground.data }, { on := 26, ground := Ground.data }], guard := none }) (v := ?_) rfl (by kernel_rfl) (by kernel_rfl) (by kernel_rfl) (fun _ _ _ h => h) (Or.inl ⟨by rfl, ?_⟩) hH ?_
          rotate_left
          · intro w hSw; (try dsimp only at hSw); go_simp <;> with_reducible rfl
          try simp only [Act.put, List.setIfInBounds_toArray, List.set_cons_zero, List.set_cons_succ]
          refine wpAnyH_take (i := 28) (oi := { dst := some 158, op := Op.move (Operand.tmp 157), type := 4, pos := "own.go:45", after := #[{ on := 27, ground := Ground.data }, { on := 26, ground := Ground.chain }], guard := none }) (v := ?_) rfl (by kernel_rfl) (by kernel_rfl) (by kernel_rfl) (fun _ _ _ h => h) (Or.inl ⟨by rfl, ?_⟩) hH ?_
          rotate_left
          · intro w hSw; (try dsimp only at hSw); go_simp <;> with_reducible rfl
          try simp only [Act.put, List.setIfInBounds_toArray, List.set_cons_zero, List.set_cons_succ]
          refine wpAnyH_ready (rs := [29]) (by kernel_rfl) (by simp) ?_
          refine AllReadyH.cons (o := { dst := some 159, op := Op.call { callee := Callee.value (Operand.func 5), args := #[], argTypes := #[] }, type := 4, pos := "own.go:45", after := #[{ on := 28, ground := Ground.chain }, { on := 28, ground := Ground.guard }], guard := some (28, true) }) rfl (fun K hK => ?_) AllReadyH.nil
          go_simp
          go_at_call 5
          refine (awake_ok _).mono ?_
          rintro e w10 ⟨rfl, hb10⟩
          have B10 := hid ((below_drewN B9.out m9).trans (hb10.mono B9.out.size))
          go_simp
          refine hK.out _ _ ?_ (fun hH => ?_)
          · exact keep2 hb10 (Nat.lt_of_lt_of_le hpl hs9.out) (Nat.lt_of_lt_of_le hql hs9.out) hH
          clear hK K
          try simp only [Act.put, List.setIfInBounds_toArray, List.set_cons_zero, List.set_cons_succ]
          refine wpAnyH_take (i := 30) (oi := { dst := some 160, op := Op.pick (Operand.tmp 158) (Operand.tmp 159) (Operand.const (Value.bool false)), type := 4, pos := "own.go:45", after := #[{ on := 28, ground := Ground.data }, { on := 29, ground := Ground.data }], guard := none }) (v := ?_) rfl (by kernel_rfl) (by kernel_rfl) (by kernel_rfl) (fun _ _ _ h => h) (Or.inl ⟨by rfl, ?_⟩) hH ?_
          rotate_left
          · intro w hSw; (try dsimp only at hSw); go_simp <;> with_reducible rfl
          try simp only [Act.put, List.setIfInBounds_toArray, List.set_cons_zero, List.set_cons_succ]
          refine wpAnyH_take (i := 31) (oi := { dst := some 4, op := Op.assign (Operand.tmp 160), type := 4, pos := "own.go:45", after := #[{ on := 30, ground := Ground.data }, { on := 29, ground := Ground.chain }, { on := 0, ground := Ground.phase }, { on := 1, ground := Ground.phase }, { on := 2, ground := Ground.phase }, { on := 3, ground := Ground.phase }, { on := 4, ground := Ground.phase }, { on := 5, ground := Ground.phase }, { on := 6, ground := Ground.phase }, { on := 7, ground := Ground.phase }, { on := 8, ground := Ground.phase }, { on := 9, ground := Ground.phase }, { on := 10, ground := Ground.phase }, { on := 11, ground := Ground.phase }, { on := 12, ground := Ground.phase }, { on := 13, ground := Ground.phase }, { on := 14, ground := Ground.phase }, { on := 15, ground := Ground.phase }, { on := 16, ground := Ground.phase }, { on := 17, ground := Ground.phase }, { on := 18, ground := Ground.phase }, { on := 19, ground := Ground.phase }, { on := 20, ground := Ground.phase }, { on := 21, ground := Ground.phase }, { on := 22, ground := Ground.phase }, { on := 23, ground := Ground.phase }, { on := 24, ground := Ground.phase }, { on := 25, ground := Ground.phase }, { on := 26, ground := Ground.phase }, { on := 27, ground := Ground.phase }, { on := 28, ground := Ground.phase }, { on := 29, ground := Ground.phase }, { on := 30, ground := Ground.phase }], guard := none }) (v := ?_) rfl (by kernel_rfl) (by kernel_rfl) (by kernel_rfl) (fun _ _ _ h => h) (Or.inl ⟨by rfl, ?_⟩) hH ?_
          rotate_left
          · intro w hSw; (try dsimp only at hSw); go_simp <;> with_reducible rfl
          try simp only [Act.put, List.setIfInBounds_toArray, List.set_cons_zero, List.set_cons_succ]
          refine wpAnyH_done (by kernel_rfl) ?_ _
          go_wp2_with fail
          go_ret
          exact ⟨rfl, B10.out⟩

end Go.Proofs.Ytjlamecjenibcaa
