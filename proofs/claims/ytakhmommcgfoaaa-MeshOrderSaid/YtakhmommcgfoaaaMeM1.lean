/-
  A mesh in memory; link, Len, Recv, walked.
-/
import Derived.Test.YtakhmommcgfoaaaMeB6
namespace Go.Proofs.Ytakhmommcgfoaaa
open Go.RowKit

/-- the number of a link -/
def lk (W : Nat) (a b : Int) : Nat := (a * W + b).toNat
def thereI (W : Nat) (a b : Int) : Prop := 0 ≤ a ∧ a < W ∧ 0 ≤ b ∧ b < W
instance (W : Nat) (a b : Int) : Decidable (thereI W a b) := inferInstanceAs (Decidable (_ ∧ _ ∧ _ ∧ _))
theorem lk_lt {W : Nat} {a b : Int} (h : thereI W a b) : lk W a b < W * W := by
  obtain ⟨h1, h2, h3, h4⟩ := h
  unfold lk
  have h5 : a * W ≤ ((W : Int) - 1) * W := Int.mul_le_mul_of_nonneg_right (by omega) (by omega)
  have h6 : ((W : Int) - 1) * W = W * W - W := by rw [Int.sub_mul, Int.one_mul]
  have h7 : 0 ≤ a * (W : Int) := Int.mul_nonneg h1 (by omega)
  have h8 : ((W * W : Nat) : Int) = (W : Int) * W := Int.natCast_mul W W
  omega
theorem lk_int {W : Nat} {a b : Int} (h : thereI W a b) : ((lk W a b : Nat) : Int) = a * W + b := by
  obtain ⟨h1, h2, h3, h4⟩ := h
  unfold lk
  have h7 : 0 ≤ a * (W : Int) := Int.mul_nonneg h1 (by omega)
  omega

/-- Block p is a mesh of W workers: link k has the messages R k; room for most each; all its memory is among F. -/
structure MeshIn (w : World) (p W most : Nat) (R : Nat → List Mq) (F : Nat → Prop) (q cap : Nat) (bx : Nat → Nat) (S : Nat → Nat → Prop) : Prop where
  blk : w.heap[p]? = some (.cells #[.int .i64 W, .slice (some ⟨q, 0, none⟩) (W * W : Nat) cap] 74 (0, 0))
  cap1 : W * W ≤ cap
  cap2 : cap ≤ maxLen
  links : ∀ k, k < W * W → w.cell? ⟨q, k, none⟩ = some (.pointer (some ⟨bx k, 0, none⟩))
  live : ∀ k, k < W * W → Live w (bx k) most (R k) (S k)
  apart : ∀ j k, j < W * W → k < W * W → j ≠ k → ∀ i, S j i → ¬ S k i
  sub : ∀ k, k < W * W → ∀ i, S k i → F i ∧ i ≠ p ∧ i ≠ q
  fp : F p
  fq : F q
  lt : ∀ i, F i → i < w.heap.size
def MeshAt (w : World) (p W most : Nat) (R : Nat → List Mq) (F : Nat → Prop) : Prop :=
  (1 ≤ W ∧ W ≤ 16 ∧ 1 ≤ most ∧ most ≤ 4096) ∧ ∃ q cap bx S, MeshIn w p W most R F q cap bx S

theorem MeshIn.fr {w w' : World} {p W most : Nat} {R : Nat → List Mq} {F : Nat → Prop} {q cap : Nat} {bx : Nat → Nat} {S : Nat → Nat → Prop} {T : Nat → Prop} (h : MeshIn w p W most R F q cap bx S) (hf : Fr T w w') (hd : ∀ i, F i → ¬ T i) : MeshIn w' p W most R F q cap bx S :=
  ⟨hf.heap h.blk (hd p h.fp), h.cap1, h.cap2, fun k hk => hf.cell (h.links k hk) (hd q h.fq), fun k hk => (h.live k hk).fr hf (fun i hi => hd i (h.sub k hk i hi).1), h.apart, h.sub, h.fp, h.fq, fun i hi => Nat.lt_of_lt_of_le (h.lt i hi) hf.size⟩
theorem MeshAt.fr {w w' : World} {p W most : Nat} {R : Nat → List Mq} {F T : Nat → Prop} (h : MeshAt w p W most R F) (hf : Fr T w w') (hd : ∀ i, F i → ¬ T i) : MeshAt w' p W most R F :=
  ⟨h.1, h.2.elim fun q h => h.elim fun cap h => h.elim fun bx h => h.elim fun S h => ⟨q, cap, bx, S, h.fr hf hd⟩⟩
theorem MeshAt.no {w w' : World} {p W most : Nat} {R : Nat → List Mq} {F : Nat → Prop} (h : MeshAt w p W most R F) (hf : Fr (fun _ => False) w w') : MeshAt w' p W most R F := h.fr hf (fun _ _ e => e)
theorem MeshIn.c0 {w : World} {p W most : Nat} {R : Nat → List Mq} {F : Nat → Prop} {q cap : Nat} {bx : Nat → Nat} {S : Nat → Nat → Prop} (h : MeshIn w p W most R F q cap bx S) : w.cell? ⟨p, 0, none⟩ = some (.int .i64 W) := cell_of h.blk 0 rfl
theorem MeshIn.c1 {w : World} {p W most : Nat} {R : Nat → List Mq} {F : Nat → Prop} {q cap : Nat} {bx : Nat → Nat} {S : Nat → Nat → Prop} (h : MeshIn w p W most R F q cap bx S) : w.cell? ⟨p, 1, none⟩ = some (.slice (some ⟨q, 0, none⟩) (W * W : Nat) cap) := cell_of h.blk 1 rfl

theorem link_nil (a b : Int) (w : World) :
    Calls Try.prog 26 #[.pointer none, .int .i64 a, .int .i64 b] w fun e w' => e = .returned (.tuple #[.pointer none, .bool false]) ∧ w = w' := by
  go_enter Try.func26, Try.ntmps26
  go_wp2
  go_ret2
  exact ⟨rfl, rfl⟩

theorem link_no {w : World} {p W most : Nat} {R : Nat → List Mq} {F : Nat → Prop} (h : MeshAt w p W most R F) (a b : Int) (hn : ¬ thereI W a b) :
    Calls Try.prog 26 #[.pointer (some ⟨p, 0, none⟩), .int .i64 a, .int .i64 b] w fun e w' => e = .returned (.tuple #[.pointer none, .bool false]) ∧ w = w' := by
  obtain ⟨hw, q, cap, bx, S, hm⟩ := h
  have c0 := hm.c0
  clear hm
  unfold thereI at hn
  by_cases h1 : a < 0
  · have t1 : decide (a < 0) = true := by simpa using h1
    clear hn
    go_enter Try.func26, Try.ntmps26
    go_wp2
    go_ret2
    exact ⟨rfl, rfl⟩
  have t1 : decide (a < 0) = false := by simpa using h1
  by_cases h2 : (W : Int) ≤ a
  · have t2 : decide ((W : Int) ≤ a) = true := by simpa using h2
    clear hn
    go_enter Try.func26, Try.ntmps26
    go_wp2
    go_ret2
    exact ⟨rfl, rfl⟩
  have t2 : decide ((W : Int) ≤ a) = false := by simpa using h2
  by_cases h3 : b < 0
  · have t3 : decide (b < 0) = true := by simpa using h3
    clear hn
    go_enter Try.func26, Try.ntmps26
    go_wp2
    go_ret2
    exact ⟨rfl, rfl⟩
  have t3 : decide (b < 0) = false := by simpa using h3
  have h4 : (W : Int) ≤ b := by omega
  have t4 : decide ((W : Int) ≤ b) = true := by simpa using h4
  clear hn
  go_enter Try.func26, Try.ntmps26
  go_wp2
  go_ret2
  exact ⟨rfl, rfl⟩

theorem link_ok {w : World} {p W most : Nat} {R : Nat → List Mq} {F : Nat → Prop} {q cap : Nat} {bx : Nat → Nat} {S : Nat → Nat → Prop} (hw : W ≤ 16) (h : MeshIn w p W most R F q cap bx S) (a b : Int) (hn : thereI W a b) :
    Calls Try.prog 26 #[.pointer (some ⟨p, 0, none⟩), .int .i64 a, .int .i64 b] w fun e w' => e = .returned (.tuple #[.pointer (some ⟨bx (lk W a b), 0, none⟩), .bool true]) ∧ ∃ m, w' = w.drewN m := by
  have c0 := h.c0
  have c1 := h.c1
  have hl := lk_lt hn
  have hi := lk_int hn
  have c2 := h.links _ hl
  clear h
  have ht : (a * (W : Int) + b).toNat = lk W a b := rfl
  generalize hL : lk W a b = k at *
  clear hL
  have hWW : W * W ≤ 256 := by have := Nat.mul_le_mul hw hw; omega
  obtain ⟨h1, h2, h3, h4⟩ := hn
  have g1 : (0 : Int) ≤ a * (W : Int) := Int.mul_nonneg h1 (by omega)
  have g2 : a * (W : Int) ≤ 256 := by omega
  have t1 : ¬ a < 0 := by omega
  have t2 : ¬ (W : Int) ≤ a := by omega
  have t3 : ¬ b < 0 := by omega
  have t4 : ¬ (W : Int) ≤ b := by omega
  have w1 : IntKind.i64.wrap (a * (W : Int)) = a * (W : Int) := IntWalk.i64_in _ (by omega)
  have w2 : IntKind.i64.wrap (a * (W : Int) + b) = a * (W : Int) + b := IntWalk.i64_in _ (by omega)
  have b1 : (0 : Int) ≤ a * (W : Int) + b := by omega
  have b2 : a * (W : Int) + b < ((W * W : Nat) : Int) := by omega
  generalize hN : W * W = n at *
  clear hN
  go_enter Try.func26, Try.ntmps26
  go_wp2
  go_quiet (fail)
  go_wp2
  go_ret2
  exact ⟨rfl, _, rfl⟩

theorem mlen_nil (a b : Int) (w : World) :
    Calls Try.prog 18 #[.pointer none, .int .i64 a, .int .i64 b] w fun e w' => e = .returned (.int .i64 0) ∧ w = w' := by
  go_enter Try.func18, Try.ntmps18
  go_wp2_with (first
    | (go_at_call 26; refine (link_nil a b _).mono ?_; rintro e w' ⟨rfl, rfl⟩)
    | (go_at_call 35; refine (len_nil _).mono ?_; rintro e w' ⟨rfl, rfl⟩))
  go_ret
  exact ⟨rfl, rfl⟩

theorem mlen_ok {w : World} {p W most : Nat} {R : Nat → List Mq} {F : Nat → Prop} (h : MeshAt w p W most R F) (a b : Int) :
    Calls Try.prog 18 #[.pointer (some ⟨p, 0, none⟩), .int .i64 a, .int .i64 b] w fun e w' => e = .returned (.int .i64 (if thereI W a b then ((R (lk W a b)).length : Int) else 0)) ∧ ∃ m, w' = w.drewN m := by
  by_cases ht : thereI W a b
  · rw [if_pos ht]
    obtain ⟨hw, q, cap, bx, S, hm⟩ := h
    have hl := hm.live _ (lk_lt ht)
    have L1 := hid (link_ok hw.2.1 hm a b ht)
    have L2 := hid (fun (m : Nat) => len_live (hl.fr ((Fr.refl (fun _ => False) w).drewN m) (fun _ _ e => e)))
    clear hm hl hw
    go_enter Try.func18, Try.ntmps18
    go_wp2_with (first
      | (go_at_call 26; refine L1.out.mono ?_; rintro e w' ⟨rfl, m, rfl⟩)
      | (go_at_call 35; refine (L2.out _).mono ?_; rintro e w' ⟨rfl, rfl⟩))
    go_ret
    exact ⟨rfl, _, rfl⟩
  · rw [if_neg ht]
    have L1 := hid (link_no h a b ht)
    clear h ht
    go_enter Try.func18, Try.ntmps18
    go_wp2_with (first
      | (go_at_call 26; refine L1.out.mono ?_; rintro e w' ⟨rfl, rfl⟩)
      | (go_at_call 35; refine (len_nil _).mono ?_; rintro e w' ⟨rfl, rfl⟩))
    go_ret
    exact ⟨rfl, 0, rfl⟩

end Go.Proofs.Ytakhmommcgfoaaa
