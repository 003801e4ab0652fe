/-
  'awake' of the mesh's laws, walked: true.
-/
import Derived.Test.YtakhmommcgfoaaaMeD1
namespace Go.Proofs.Ytakhmommcgfoaaa
open Go.RowKit

theorem send_none {w : World} {p W most : Nat} {R : Nat → List Mq} {F : Nat → Prop} {P : List Pq} (hn : ¬ ∀ x ∈ P, thereI W x.f x.d) {e : Ending} {w' : World} (h : SendPost w p W most R F P e w') :
    e = .returned (.int .i64 6) ∧ Fr (fun _ => False) w w' := by
  rcases h with ⟨_, h⟩ | ⟨h, _⟩ | ⟨h, _⟩
  · exact h
  · exact absurd h hn
  · exact absurd h hn
theorem send_full {w : World} {p W most : Nat} {R : Nat → List Mq} {F : Nat → Prop} {P : List Pq} (hn : ∀ x ∈ P, thereI W x.f x.d) (hk : ∃ k, k < W * W ∧ most < (R k).length + cntP W P k) {e : Ending} {w' : World} (h : SendPost w p W most R F P e w') :
    e = .returned (.int .i64 7) ∧ Fr (fun _ => False) w w' := by
  rcases h with ⟨h, _⟩ | ⟨_, _, h⟩ | ⟨_, h, _⟩
  · exact absurd hn h
  · exact h
  · obtain ⟨k, hk, h2⟩ := hk
    have := h k hk
    omega
theorem send_yes {w : World} {p W most : Nat} {R : Nat → List Mq} {F : Nat → Prop} {P : List Pq} (hn : ∀ x ∈ P, thereI W x.f x.d) (hk : ∀ k, k < W * W → (R k).length + cntP W P k ≤ most) {e : Ending} {w' : World} (h : SendPost w p W most R F P e w') :
    e = .returned (.int .i64 0) ∧ ∃ F', MeshAt w' p W most (fun k => R k ++ msgsTo W P k) F' ∧ Fr F w w' ∧ ∀ i, F' i → F i ∨ w.heap.size ≤ i := by
  rcases h with ⟨h, _⟩ | ⟨_, ⟨k, h1, h2⟩, _⟩ | ⟨_, _, h⟩
  · exact absurd hn h
  · have := hk k h1
    omega
  · exact h
theorem own_of_block {w : World} {g : Nat} {T : TypeId} {P : List Pq} (h : w.heap[g]? = some (.cells (P.flatMap encP).toArray T (0, 0))) (hP : P.length ≤ 4096) : w.ownsRow g T 9 (.slice (some ⟨g, 0, none⟩) P.length P.length) P.length (P.flatMap encP) := by
  have hl : (P.flatMap encP).length = P.length * 9 := flat_len encP_len P
  refine ⟨hl, .inr ⟨g, P.length, (P.flatMap encP).toArray, rfl, Nat.le_refl _, h, Nat.le_refl _, by unfold maxLen; omega, by simpa using hl, ?_⟩⟩
  rw [← hl]
  exact List.take_length

theorem send_at {w : World} {p W most : Nat} {R : Nat → List Mq} {F : Nat → Prop} (h : MeshAt w p W most R F) (P : List Pq) (hP : P.length ≤ 4096) :
    Calls Try.prog 13 #[.pointer (some ⟨p, 0, none⟩), .slice (some ⟨w.heap.size, 0, none⟩) P.length P.length] (w.alloc (.cells (P.flatMap encP).toArray 69)) fun e w' => SendPost (w.alloc (.cells (P.flatMap encP).toArray 69)) p W most R F P e w' := by
  refine send_ok (h.no ((Fr.refl _ w).alloc _)) (own_of_block (heap_new w _) hP) (fun x hx hF => ?_) hP
  obtain ⟨_, q, cap, bx, S, hm⟩ := h
  have := hm.lt x hF
  simp [Value.ownBlock] at hx
  omega
theorem va_nil (w : World) (F : Nat → Prop) : Va w F none 0 [] := ⟨rfl, by simp, .inl rfl⟩

def xm : Mq := ⟨0, ⟨#[107]⟩, 5, 0, 0, ⟨#[]⟩, none, 0, 0⟩
abbrev xmL : Value := .agg #[.int .i64 0, .string ⟨#[107]⟩, .int .i64 5, .int .i64 0, .int .i64 0, .string ⟨#[]⟩, .slice none 0 0]
abbrev zmL : Value := .agg #[.int .i64 0, .string ⟨#[]⟩, .int .i64 0, .int .i64 0, .int .i64 0, .string ⟨#[]⟩, .slice none 0 0]
def P1 : List Pq := [⟨0, 1, xm⟩, ⟨0, 1, xm⟩]
def P2 : List Pq := [⟨0, 1, xm⟩, ⟨1, 0, xm⟩]
def P3 : List Pq := [⟨0, 2, noM⟩]

attribute [local go_sem ↓] run_ldM run_stM
set_option maxRecDepth 100000 in
set_option maxHeartbeats 2000000 in
theorem awake_ok (w : World) : Calls Try.prog 5 #[] w fun e w' => e = .returned (.bool true) ∧ Below w.heap.size w w' := by
  go_enter Try.func5, Try.ntmps5
  go_wp2_with fail
  refine (mnew_ok 2 1 w (by omega) (by omega) (by omega) (by omega)).mono ?_
  rintro e w1 ⟨rfl, hm, hf⟩
  have hpw := hm.2.elim fun q h => h.elim fun cap h => h.elim fun bx h => h.elim fun S h => h.lt _ h.fp
  have M1 := hid hm
  have B1 := hid hf
  clear hm hf
  go_wp2_with fail
  refine (mnew_bad 17 1 w1 (.inr (by omega))).mono ?_
  rintro e w' ⟨rfl, rfl⟩
  go_wp2_with fail
  refine (send_nil (.slice none 0 0) w1).mono ?_
  rintro e w' ⟨rfl, rfl⟩
  go_wp2_with fail
  refine (mlen_nil 0 0 w1).mono ?_
  rintro e w' ⟨rfl, rfl⟩
  go_wp2_with fail
  refine (mfork_nil w1).mono ?_
  rintro e w' ⟨rfl, rfl⟩
  have S1 : st 40 (.pointer (some ⟨w1.heap.size, 0, none⟩)) xmL (w1.alloc (.cells #[.int .i64 0, .string ⟨#[]⟩, .int .i64 0, .int .i64 0, .int .i64 0, .string ⟨#[]⟩, .slice none 0 0] 40)) = _ := st_msg xm (there_block (m := noM) (t := 40) (heap_new w1 _))
  go_upto_region 7 with fail
  generalize hw2 : World.setCells _ _ _ _ = w2
  obtain ⟨G1, G2, G3⟩ := one_put (T := 40) (m := xm) (C := #[.int .i64 0, .string ⟨#[]⟩, .int .i64 0, .int .i64 0, .int .i64 0, .string ⟨#[]⟩, .slice none 0 0]) rfl hw2.symm
  clear hw2 S1
  generalize hp : w.heap.size = p at *
  generalize hx : w1.heap.size = x at *
  have HP := hid hp
  have HX := hid hx
  have X2 := hid G1
  have B2 := hid (B1.out.trans' G2)
  have M2 := hid (M1.out.no G2)
  have Z2 := hid (show w2.heap.size = x + 1 by rw [G3])
  have hpx := hpw
  have l1 : ld 40 (.pointer (some ⟨x, 0, none⟩)) w2 = .ok (.value xmL) w2 := ld_msg (MsgAt.of_block G1)
  clear G1 G2 G3 B1 M1 hp hx hpw
  go_wp2_with fail
  refine (send_at M2.out P1 (by decide)).mono ?_
  intro e w3 hs
  obtain ⟨rfl, hf⟩ := send_full (by decide) ⟨1, by decide, by decide⟩ hs
  have F3 := hid (((Fr.refl (fun _ => False) w2).alloc _).trans' hf)
  have X3 := hid (F3.out.heap X2.out (fun e => e))
  have M3 := hid (M2.out.no F3.out)
  have Z3 := hid (show x < w3.heap.size by have := F3.out.size; have := Z2.out; omega)
  have B3 := hid (B2.out.trans' F3.out)
  have l2 : ld 40 (.pointer (some ⟨x, 0, none⟩)) w3 = .ok (.value xmL) w3 := ld_msg (MsgAt.of_block X3.out)
  clear hs hf l1 X2 M2 F3 Z2 B2
  go_wp2_with fail
  refine (send_at M3.out P2 (by decide)).mono ?_
  intro e w4 hs
  obtain ⟨rfl, F', hm4, hf4, hF4⟩ := send_yes (by decide) (by decide) hs
  have X4 := hid (hf4.heap (heap_old X3.out _) (fun e => by omega))
  have HF' := hid (show ∀ i, F' i → p ≤ i ∧ i ≠ x from fun i hi => by
    have := Z3.out
    rcases hF4 i hi with h | h
    · omega
    · rw [World.size_alloc] at h; omega)
  have B4 := hid (show Below p w w4 from (B3.out.below (by have := HP.out; omega) (fun _ _ e => e)).trans ((((Fr.refl (fun i => p ≤ i ∧ i < x) w3).alloc _).trans' hf4).below (by have := Z3.out; omega) (fun i hi e => by omega)))
  have Z4 := hid (show x < w4.heap.size from lt_of_block X4.out)
  have M4 := hid hm4
  clear hs hm4 hf4 hF4 l2 X3 M3 Z3 B3
  go_wp2_with fail
  refine (send_at M4.out P3 (by decide)).mono ?_
  intro e w5 hs
  obtain ⟨rfl, hf⟩ := send_none (by decide) hs
  have F5 := hid (((Fr.refl (fun _ => False) w4).alloc _).trans' hf)
  have X5 := hid (F5.out.heap X4.out (fun e => e))
  have M5 := hid (M4.out.no F5.out)
  have Z5 := hid (show x < w5.heap.size by have := F5.out.size; have := Z4.out; omega)
  have B5 := hid (B4.out.trans (F5.out.below (by have := Z4.out; omega) (fun _ _ e => e)))
  clear hs hf X4 M4 F5 Z4 B4
  go_wp2_with fail
  refine (ready_ok M5.out).mono ?_
  rintro e w6 ⟨v, rfl, hown, hbl⟩
  have hrd : rdy 2 (fun k => [] ++ msgsTo 2 P2 k) (2 * 2) = [(0, 1), (1, 0)] := by decide
  rw [hrd] at hown
  obtain ⟨sp, cp, rfl, -⟩ := owns_view hown
  obtain ⟨g, rfl, hg5, hg6⟩ : ∃ g, sp = some ⟨g, 0, none⟩ ∧ w5.heap.size ≤ g ∧ g < w6.heap.size := by
    rcases owns_form hown with ⟨_, hz⟩ | ⟨g, cp, e, _, _, hb, hgw⟩
    · simp at hz
    · injection e with e1 e2 e3; exact ⟨g, e1, hb, hgw⟩
  have O6 := hid hown
  have F6 := hid (Fr.of_below (S := fun _ => False) hbl (fun i h1 h2 => by omega))
  have X6 := hid (F6.out.heap X5.out (fun e => e))
  have M6 := hid (M5.out.no F6.out)
  have HG := hid (show ¬ F' g from fun e => M5.out.2.elim fun q h => h.elim fun cap h => h.elim fun bx h => h.elim fun S h => by have := h.lt g e; omega)
  have Z6 := hid (show x < w6.heap.size ∧ w5.heap.size ≤ w6.heap.size ∧ g < w6.heap.size ∧ w5.heap.size ≤ g from ⟨lt_of_block X6.out, F6.out.size, hg6, hg5⟩)
  have B6 := hid (B5.out.trans (F6.out.below (by have := Z5.out; omega) (fun _ _ e => e)))
  clear hown hbl hrd X5 M5 F6 B5 hg5 hg6
  go_wp2_with fail
  refine (least_ok M6.out).mono ?_
  rintro e w7 ⟨he, hf⟩
  obtain rfl : e = .returned (.tuple #[.int .i64 5, .bool true]) := he.trans (by rw [show lst (fun k => [] ++ msgsTo 2 P2 k) (2 * 2) = (5, true) by decide])
  have F7 := hid hf
  have O7 := hid (hf.owns O6.out (fun _ _ e => e))
  have X7 := hid (hf.heap X6.out (fun e => e))
  have M7 := hid (M6.out.no hf)
  have Z7 := hid hf.size
  have B7 := hid (B6.out.trans (hf.below (by have := Z5.out; have := Z6.out; omega) (fun _ _ e => e)))
  clear hf he F7 O6 X6 M6 B6
  go_wp2_with fail
  refine (recv_some M7.out 0 1 (by decide) (y := xm) (L := []) (by rfl)).mono ?_
  rintro e w8 ⟨rfl, hm, hf⟩
  have O8 := hid (hf.owns O7.out (fun i e => by simp [Value.ownBlock] at e; exact e ▸ HG.out))
  have X8 := hid (hf.heap X7.out (fun e => (HF'.out x e).2 rfl))
  have M8 := hid hm
  have Z8 := hid hf.size
  have B8 := hid (B7.out.trans (hf.below (by have := Z5.out; have := Z6.out; have := Z7.out; omega) (fun i hi e => by have := (HF'.out i e).1; omega)))
  have S8 : st 40 (.pointer (some ⟨w8.heap.size, 0, none⟩)) (msgV xm) (w8.alloc (.cells #[.int .i64 0, .string ⟨#[]⟩, .int .i64 0, .int .i64 0, .int .i64 0, .string ⟨#[]⟩, .slice none 0 0] 40)) = _ := st_msg xm (there_block (m := noM) (t := 40) (heap_new w8 _))
  clear hm hf O7 X7 M7 B7
  go_upto_region 13 with fail
  generalize hw9 : World.setCells _ _ _ _ = w9
  obtain ⟨G1, G2, G3⟩ := one_put (T := 40) (m := xm) (C := #[.int .i64 0, .string ⟨#[]⟩, .int .i64 0, .int .i64 0, .int .i64 0, .string ⟨#[]⟩, .slice none 0 0]) rfl hw9.symm
  clear hw9 S8
  generalize hy : w8.heap.size = y at *
  have O9 := hid (G2.owns O8.out (fun _ _ e => e))
  have X9 := hid (G2.heap X8.out (fun e => e))
  have Y9 := hid G1
  have M9 := hid (M8.out.no G2)
  have Z9 := hid (show w7.heap.size ≤ y ∧ y < w9.heap.size by have := Z8.out; omega)
  have B9 := hid (B8.out.trans (G2.below (by have := Z5.out; have := Z6.out; have := Z7.out; have := Z8.out; omega) (fun _ _ e => e)))
  clear G1 G2 G3 O8 X8 M8 B8 Z8 hy
  go_wp2_with fail
  refine (recv_none M9.out 0 1 (by decide) (by decide)).mono ?_
  rintro e w10 ⟨rfl, hf⟩
  have S10 : st 40 (.pointer (some ⟨w10.heap.size, 0, none⟩)) (msgV noM) (w10.alloc (.cells #[.int .i64 0, .string ⟨#[]⟩, .int .i64 0, .int .i64 0, .int .i64 0, .string ⟨#[]⟩, .slice none 0 0] 40)) = _ := st_msg noM (there_block (m := noM) (t := 40) (heap_new w10 _))
  have F10 := hid hf
  clear hf
  go_upto_region 14 with fail
  generalize hw11 : World.setCells _ _ _ _ = w11
  obtain ⟨G1, G2, G3⟩ := one_put (T := 40) (m := noM) (C := #[.int .i64 0, .string ⟨#[]⟩, .int .i64 0, .int .i64 0, .int .i64 0, .string ⟨#[]⟩, .slice none 0 0]) rfl hw11.symm
  have F11 := hid (F10.out.trans' G2)
  clear hw11 S10 G1 G2 G3 F10
  generalize w10.heap.size = z10
  have O11 := hid (F11.out.owns O9.out (fun _ _ e => e))
  have X11 := hid (F11.out.heap X9.out (fun e => e))
  have Y11 := hid (F11.out.heap Y9.out (fun e => e))
  have M11 := hid (M9.out.no F11.out)
  have Z11 := hid F11.out.size
  have B11 := hid (B9.out.trans (F11.out.below (by have := Z5.out; have := Z6.out; have := Z7.out; have := Z9.out; omega) (fun _ _ e => e)))
  clear O9 X9 Y9 M9 B9 F11
  go_wp2_with fail
  refine (recv_no M11.out 0 (-1) (by decide)).mono ?_
  rintro e w12 ⟨rfl, hf⟩
  obtain ⟨w13, hw13⟩ : ∃ w13, w13 = (w12.alloc (.cells #[.int .i64 0, .string ⟨#[]⟩, .int .i64 0, .int .i64 0, .int .i64 0, .string ⟨#[]⟩, .slice none 0 0] 40)).setCells w12.heap.size 0 (encM noM) := ⟨_, rfl⟩
  obtain ⟨G1, G2, G3⟩ := one_put (T := 40) (m := noM) (C := #[.int .i64 0, .string ⟨#[]⟩, .int .i64 0, .int .i64 0, .int .i64 0, .string ⟨#[]⟩, .slice none 0 0]) rfl hw13
  have S12 : st 40 (.pointer (some ⟨w12.heap.size, 0, none⟩)) (msgV noM) (w12.alloc (.cells #[.int .i64 0, .string ⟨#[]⟩, .int .i64 0, .int .i64 0, .int .i64 0, .string ⟨#[]⟩, .slice none 0 0] 40)) = .ok .skip w13 := by
    rw [hw13]; exact st_msg noM (there_block (m := noM) (t := 40) (heap_new w12 _))
  have F13 := hid (hf.trans' G2)
  have O13 := F13.out.owns O11.out (fun _ _ e => e)
  have M13 := hid (M11.out.no F13.out)
  have B13 := hid (B11.out.trans (F13.out.below (by have := Z5.out; have := Z6.out; have := Z7.out; have := Z9.out; have := Z11.out; omega) (fun _ _ e => e)))
  have e00 : w13.cell? ⟨g, 0, none⟩ = some (.int .i64 0) := owns_range encT_len O13 (i := 0) (x := (0, 1)) rfl 0 _ rfl
  have e01 : w13.cell? ⟨g, 1, none⟩ = some (.int .i64 1) := owns_range encT_len O13 (i := 0) (x := (0, 1)) rfl 1 _ rfl
  have e10 : w13.cell? ⟨g, 2, none⟩ = some (.int .i64 1) := owns_range encT_len O13 (i := 1) (x := (1, 0)) rfl 0 _ rfl
  have e11 : w13.cell? ⟨g, 3, none⟩ = some (.int .i64 0) := owns_range encT_len O13 (i := 1) (x := (1, 0)) rfl 1 _ rfl
  have lx : ld 40 (.pointer (some ⟨x, 0, none⟩)) w13 = .ok (.value xmL) w13 := ld_msg (MsgAt.of_block (F13.out.heap X11.out (fun e => e)))
  have ly : ld 40 (.pointer (some ⟨y, 0, none⟩)) w13 = .ok (.value xmL) w13 := ld_msg (MsgAt.of_block (F13.out.heap Y11.out (fun e => e)))
  have U : Hid (Calls Try.prog 23 #[xmL, xmL] w13 fun e w' => e = .returned (.bool true) ∧ Fr (fun _ => False) w13 w') := hid (msame_ok (x := xm) (y := xm) (F := fun _ => False) (G := fun _ => False) ⟨rfl, rfl, rfl, rfl, rfl, rfl, [], va_nil _ _, va_nil _ _⟩)
  have TE := two_eq
  clear hf hw13 G1 G2 G3 O11 X11 Y11 M11 B11 O13
  go_wp2_with fail
  refine U.out.mono ?_
  rintro e w14 ⟨rfl, hf⟩
  have M14 := hid (M13.out.no hf)
  have B14 := hid (B13.out.trans (hf.below (by have := Z5.out; have := Z6.out; have := Z7.out; have := Z9.out; have := Z11.out; have := F13.out.size; omega) (fun _ _ e => e)))
  clear hf
  go_wp2_with fail
  refine (mlen_ok M14.out 1 0).mono ?_
  rintro e w' ⟨he, m, rfl⟩
  obtain rfl : e = .returned (.int .i64 1) := he
  have M15 := hid (M14.out.no ((Fr.refl (fun _ => False) w14).drewN m))
  go_wp2_with fail
  refine (mlen_ok M15.out 0 1).mono ?_
  rintro e w' ⟨he, m2, rfl⟩
  obtain rfl : e = .returned (.int .i64 0) := he
  go_wp2_with fail
  go_ret
  exact ⟨rfl, by rw [HP.out]; exact below_drewN B14.out (m + m2)⟩

end Go.Proofs.Ytakhmommcgfoaaa
