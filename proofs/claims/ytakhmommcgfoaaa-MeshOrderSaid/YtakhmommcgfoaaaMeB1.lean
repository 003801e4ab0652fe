/-
  The box of messages: at, turned, New, Len, Room, walked.
-/
import Derived.Test.YtakhmommcgfoaaaMeW0
namespace Go.Proofs.Ytakhmommcgfoaaa
open Go.RowKit

abbrev BoxM (w : World) (B b : Nat) (rv : Value) (most h : Nat) (zs L : List Mq) : Prop := BoxAt 97 40 7 encM w B b rv most h zs L .nilFunc

theorem at_walk (b h n rc : Nat) (i : Int) (ra : Option Addr) (w : World)
    (h1 : w.cell? ⟨b, 1, none⟩ = some (.slice ra n rc)) (h2 : w.cell? ⟨b, 2, none⟩ = some (.int .i64 h))
    (hn : 0 < n) (hn2 : n ≤ 4096) (hh : h < n) (hi0 : 0 ≤ i) (hi : i ≤ n) :
    Calls Try.prog 39 #[.pointer (some ⟨b, 0, none⟩), .int .i64 i] w fun e w' => e = .returned (.int .i64 (((h : Int) + i) % (n : Int))) ∧ ∃ m, w' = w.drewN m := by
  go_enter Try.func39, Try.ntmps39
  go_wp2
  go_quiet (fail)
  go_wp2
  go_ret
  exact ⟨rfl, _, rfl⟩

theorem neq_fn_nil (w : World) : (binOp .neq 95 .nilFunc .nilFunc).run Try.prog w = .ok (.bool false) w := by kernel_rfl

theorem turned_nil (b n : Nat) (x0 x1 x2 : Value) (w : World) (hb : w.heap[b]? = some (.cells #[x0, x1, x2, .int .i64 n, .nilFunc] 97 (0, 0))) :
    Calls Try.prog 40 #[.pointer (some ⟨b, 0, none⟩)] w fun e w' => e = .returned (.tuple #[]) ∧ w = w' := by
  have h4 := cell_of hb 4 (v := .nilFunc) rfl
  clear hb
  have hq := neq_fn_nil
  go_enter Try.func40, Try.ntmps40
  go_wp2
  go_end0
  exact ⟨rfl, rfl⟩

theorem new_bad (n : Int) (w : World) (h : n < 1 ∨ 4096 < n) :
    Calls Try.prog 24 #[.int .i64 n] w fun e w' => e = .returned (.tuple #[.pointer none, .int .i64 2]) ∧ w = w' := by
  rcases h with h | h
  · go_enter Try.func24, Try.ntmps24
    go_wp2
    go_ret2
    exact ⟨rfl, rfl⟩
  · have h1 : ¬ n < 1 := by omega
    go_enter Try.func24, Try.ntmps24
    go_wp2
    go_ret2
    exact ⟨rfl, rfl⟩

theorem new_ok (n : Int) (w : World) (h1 : 1 ≤ n) (h2 : n ≤ 4096) :
    Calls Try.prog 24 #[.int .i64 n] w fun e w' => e = .returned (.tuple #[.pointer (some ⟨w.heap.size, 0, none⟩), .int .i64 0]) ∧
      w' = w.alloc (.cells #[.int .i64 n, .slice none 0 0, .int .i64 0, .int .i64 0, .nilFunc] 97) := by
  go_enter Try.func24, Try.ntmps24
  go_wp2
  go_ret2
  exact ⟨rfl, rfl⟩

theorem len_nil (w : World) :
    Calls Try.prog 35 #[.pointer none] w fun e w' => e = .returned (.int .i64 0) ∧ w = w' := by
  go_enter Try.func35, Try.ntmps35
  go_wp2
  go_ret
  exact ⟨rfl, rfl⟩

theorem len_ok {w : World} {B b : Nat} {rv : Value} {most h : Nat} {zs L : List Mq} (x : BoxM w B b rv most h zs L) :
    Calls Try.prog 35 #[.pointer (some ⟨b, 0, none⟩)] w fun e w' => e = .returned (.int .i64 L.length) ∧ w = w' := by
  have h3 := x.c3
  clear x
  go_enter Try.func35, Try.ntmps35
  go_wp2
  go_ret
  exact ⟨rfl, rfl⟩

theorem room_ok {w : World} {B b : Nat} {rv : Value} {most h : Nat} {zs L : List Mq} (x : BoxM w B b rv most h zs L) :
    Calls Try.prog 31 #[.pointer (some ⟨b, 0, none⟩)] w fun e w' => e = .returned (.int .i64 ((most : Int) - (L.length : Int))) ∧ ∃ m, w' = w.drewN m := by
  have h3 := x.c3
  have h0 := x.c0
  have hm := x.m1
  have hc := x.cnt
  clear x
  go_enter Try.func31, Try.ntmps31
  go_wp2
  go_quiet (fail)
  go_wp2
  go_ret
  exact ⟨rfl, _, rfl⟩

theorem below_drewN {B : Nat} {a w : World} (h : Below B a w) (n : Nat) : Below B a (w.drewN n) := ⟨h.os, h.tape, h.output, h.size, h.block⟩

theorem toNat_mod (h k n : Nat) : (((h : Int) + (k : Int)) % (n : Int)).toNat = (h + k) % n := by
  rw [← Int.natCast_add, ← Int.natCast_emod, Int.toNat_natCast]
theorem toNat_mod7 (h k n : Nat) : (((h : Int) + (k : Int)) % (n : Int)).toNat * 7 = (h + k) % n * 7 := by rw [toNat_mod]

theorem take_snoc {α : Type} (L : List α) (k : Nat) (y : α) (h : L[k]? = some y) : L.take (k + 1) = L.take k ++ [y] := by
  rw [List.take_add_one, h]; rfl

end Go.Proofs.Ytakhmommcgfoaaa
