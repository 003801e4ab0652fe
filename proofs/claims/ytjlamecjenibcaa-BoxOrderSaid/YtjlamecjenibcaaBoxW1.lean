/-
  The box's small functions, walked: at, turned (with each of the three that watch), New, Len, Room, Peek.
-/
import Derived.Test.YtjlamecjenibcaaRows
import Derived.Test.YtjlamecjenibcaaBoxDefs
import Derived.Deep.QuietTactic
import Derived.BigQuiet
import Derived.StillTailTactics
import Derived.Deep.RegionWith
import Derived.Lib.Hide
import Derived.Laws.EntriesVeiled
namespace Go.Proofs.Ytjlamecjenibcaa
open Go.RowKit

def encI (z : Int) : List Value := [.int .i64 z]
abbrev BoxI (w : World) (B b : Nat) (rv : Value) (most h : Nat) (zs L : List Int) (wv : Value) : Prop := BoxAt 51 3 1 encI w B b rv most h zs L wv

theorem encI_map (zs : List Int) : zs.flatMap encI = zs.map (Value.int .i64) := by
  induction zs with
  | nil => rfl
  | cons a l ih => simp_all [encI, List.flatMap_cons]

theorem encI_get (zs : List Int) (i : Nat) (z : Int) (h : zs[i]? = some z) : (zs.flatMap encI)[i]? = some (.int .i64 z) := by
  rw [encI_map, List.getElem?_map, h]; rfl

theorem at_walk (b h n rc : Nat) (i : Int) (ra : Option Addr) (w : World)
    (h1 : w.cell? ⟨b, 1, none⟩ = some (.slice ra n rc)) (h2 : w.cell? ⟨b, 2, none⟩ = some (.int .i64 h))
    (hn : 0 < n) (hn2 : n ≤ 4096) (hh : h < n) (hi0 : 0 ≤ i) (hi : i ≤ n) :
    Calls Try.prog 21 #[.pointer (some ⟨b, 0, none⟩), .int .i64 i] w fun e w' => e = .returned (.int .i64 (((h : Int) + i) % (n : Int))) ∧ ∃ m, w' = w.drewN m := by
  go_enter Try.func21, Try.ntmps21
  go_wp2
  go_quiet (fail)
  go_wp2
  go_ret
  exact ⟨rfl, _, rfl⟩

theorem neq_fn_nil (w : World) : (binOp .neq 48 .nilFunc .nilFunc).run Try.prog w = .ok (.bool false) w := by kernel_rfl
theorem neq_fn_some (f : Fn) (x y : Array Value) (w : World) : (binOp .neq 48 (.func f x y) .nilFunc).run Try.prog w = .ok (.bool true) w := by kernel_rfl

theorem turned_nil (b n : Nat) (x0 x1 x2 : Value) (w : World) (hb : w.heap[b]? = some (.cells #[x0, x1, x2, .int .i64 n, .nilFunc] 51 (0, 0))) :
    Calls Try.prog 22 #[.pointer (some ⟨b, 0, none⟩)] w fun e w' => e = .returned (.tuple #[]) ∧ w = w' := by
  have h4 := cell_of hb 4 (v := .nilFunc) rfl
  clear hb
  have hq := neq_fn_nil
  go_enter Try.func22, Try.ntmps22
  go_wp2
  go_end0
  exact ⟨rfl, rfl⟩

theorem awake1_walk (n p : Nat) (t : Int) (w : World) (h0 : w.cell? ⟨p, 0, none⟩ = some (.int .i64 t)) (f0 : w.frozen? ⟨p, 0, none⟩ = false) :
    Calls Try.prog 20 #[.int .i64 n, .pointer (some ⟨p, 0, none⟩)] w fun e w' => e = .returned (.tuple #[]) ∧ w' = w.setCell ⟨p, 0, none⟩ (.int .i64 (wrap64 (wrap64 (10 * t) + n))) := by
  go_enter Try.func20, Try.ntmps20
  go_wp2
  go_end0
  exact ⟨rfl, rfl⟩

/-- who watches in awake: told is 10 * told + n from then on -/
theorem turned_awake (b n p : Nat) (t : Int) (x0 x1 x2 : Value) (w : World) (hb : w.heap[b]? = some (.cells #[x0, x1, x2, .int .i64 n, .func (.func 20) #[] #[.pointer (some ⟨p, 0, none⟩)]] 51 (0, 0)))
    (hp : w.heap[p]? = some (.cells #[.int .i64 t] 3 (0, 0))) :
    Calls Try.prog 22 #[.pointer (some ⟨b, 0, none⟩)] w fun e w' => e = .returned (.tuple #[]) ∧ w' = (w.drewN 1).setCell ⟨p, 0, none⟩ (.int .i64 (wrap64 (wrap64 (10 * t) + n))) := by
  have h4 := cell_of hb 4 (v := .func (.func 20) #[] #[.pointer (some ⟨p, 0, none⟩)]) rfl
  have h3 := cell_of hb 3 (v := .int .i64 n) rfl
  have h0 : w.cell? ⟨p, 0, none⟩ = _ := cell_of hp 0 (v := .int .i64 t) rfl
  have f0 := free_of hp 0
  clear hb hp
  have hq := neq_fn_some (.func 20) #[] #[.pointer (some ⟨p, 0, none⟩)]
  go_enter Try.func22, Try.ntmps22
  go_wp2
  go_region_with (go_at_call 20; refine (awake1_walk n p t _ (by exact h0) (by exact f0)).mono ?_; rintro e w' ⟨rfl, rfl⟩)
  all_goals (go_end0; exact ⟨rfl, rfl⟩)

theorem order1_walk (n p q : Nat) (s t : Int) (w : World) (hpq : p ≠ q) (h0 : w.cell? ⟨p, 0, none⟩ = some (.int .i64 s)) (f0 : w.frozen? ⟨p, 0, none⟩ = false)
    (h1 : w.cell? ⟨q, 0, none⟩ = some (.int .i64 t)) (f1 : w.frozen? ⟨q, 0, none⟩ = false) :
    Calls Try.prog 18 #[.int .i64 n, .pointer (some ⟨p, 0, none⟩), .pointer (some ⟨q, 0, none⟩)] w fun e w' => e = .returned (.tuple #[]) ∧
      w' = (w.setCell ⟨p, 0, none⟩ (.int .i64 n)).setCell ⟨q, 0, none⟩ (.int .i64 (wrap64 (t + 1))) := by
  go_enter Try.func18, Try.ntmps18
  go_wp2
  go_end0
  exact ⟨rfl, rfl⟩

theorem turned_order (b n p q : Nat) (s t : Int) (x0 x1 x2 : Value) (w : World) (hpq : p ≠ q)
    (hb : w.heap[b]? = some (.cells #[x0, x1, x2, .int .i64 n, .func (.func 18) #[] #[.pointer (some ⟨p, 0, none⟩), .pointer (some ⟨q, 0, none⟩)]] 51 (0, 0)))
    (hp : w.heap[p]? = some (.cells #[.int .i64 s] 3 (0, 0))) (hr : w.heap[q]? = some (.cells #[.int .i64 t] 3 (0, 0))) :
    Calls Try.prog 22 #[.pointer (some ⟨b, 0, none⟩)] w fun e w' => e = .returned (.tuple #[]) ∧
      w' = ((w.drewN 1).setCell ⟨p, 0, none⟩ (.int .i64 n)).setCell ⟨q, 0, none⟩ (.int .i64 (wrap64 (t + 1))) := by
  have h4 := cell_of hb 4 (v := .func (.func 18) #[] #[.pointer (some ⟨p, 0, none⟩), .pointer (some ⟨q, 0, none⟩)]) rfl
  have h3 := cell_of hb 3 (v := .int .i64 n) rfl
  have h0 : w.cell? ⟨p, 0, none⟩ = _ := cell_of hp 0 (v := .int .i64 s) rfl
  have f0 := free_of hp 0
  have h1 := cell_of hr 0 (v := .int .i64 t) rfl
  have f1 := free_of hr 0
  clear hb hp hr
  have hq := neq_fn_some (.func 18) #[] #[.pointer (some ⟨p, 0, none⟩), .pointer (some ⟨q, 0, none⟩)]
  go_enter Try.func22, Try.ntmps22
  go_wp2
  go_region_with (go_at_call 18; refine (order1_walk n p q s t _ hpq (by exact h0) (by exact f0) (by exact h1) (by exact f1)).mono ?_; rintro e w' ⟨rfl, rfl⟩)
  all_goals (go_end0; exact ⟨rfl, rfl⟩)

theorem new_bad (n : Int) (w : World) (h : n < 1 ∨ 4096 < n) :
    Calls Try.prog 6 #[.int .i64 n] w fun e w' => e = .returned (.tuple #[.pointer none, .int .i64 2]) ∧ w = w' := by
  rcases h with h | h
  · go_enter Try.func6, Try.ntmps6
    go_wp2
    go_ret2
    exact ⟨rfl, rfl⟩
  · have h1 : ¬ n < 1 := by omega
    go_enter Try.func6, Try.ntmps6
    go_wp2
    go_ret2
    exact ⟨rfl, rfl⟩

theorem new_ok (n : Int) (w : World) (h1 : 1 ≤ n) (h2 : n ≤ 4096) :
    Calls Try.prog 6 #[.int .i64 n] w fun e w' => e = .returned (.tuple #[.pointer (some ⟨w.heap.size, 0, none⟩), .int .i64 0]) ∧
      w' = w.alloc (.cells #[.int .i64 n, .slice none 0 0, .int .i64 0, .int .i64 0, .nilFunc] 51) := by
  go_enter Try.func6, Try.ntmps6
  go_wp2
  go_ret2
  exact ⟨rfl, rfl⟩

theorem len_nil (w : World) :
    Calls Try.prog 13 #[.pointer none] w fun e w' => e = .returned (.int .i64 0) ∧ w = w' := by
  go_enter Try.func13, Try.ntmps13
  go_wp2
  go_ret
  exact ⟨rfl, rfl⟩

theorem len_ok {w : World} {B b : Nat} {rv : Value} {most h : Nat} {zs L : List Int} {wv : Value} (x : BoxI w B b rv most h zs L wv) :
    Calls Try.prog 13 #[.pointer (some ⟨b, 0, none⟩)] w fun e w' => e = .returned (.int .i64 L.length) ∧ w = w' := by
  have h3 := x.c3
  clear x
  go_enter Try.func13, Try.ntmps13
  go_wp2
  go_ret
  exact ⟨rfl, rfl⟩

theorem room_ok {w : World} {B b : Nat} {rv : Value} {most h : Nat} {zs L : List Int} {wv : Value} (x : BoxI w B b rv most h zs L wv) :
    Calls Try.prog 14 #[.pointer (some ⟨b, 0, none⟩)] w fun e w' => e = .returned (.int .i64 (most - L.length : Nat)) ∧ ∃ m, w' = w.drewN m := by
  have h3 := x.c3
  have h0 := x.c0
  have hm := x.m1
  have hc := x.cnt
  clear x
  go_enter Try.func14, Try.ntmps14
  go_wp2
  go_quiet (fail)
  go_wp2
  go_ret
  refine ⟨?_, _, rfl⟩
  simp only [Array.getD_eq_getD_getElem?]
  simp
  omega

theorem peek_none {w : World} {B b : Nat} {rv : Value} {most h : Nat} {zs : List Int} {wv : Value} (x : BoxI w B b rv most h zs [] wv) :
    Calls Try.prog 12 #[.pointer (some ⟨b, 0, none⟩)] w fun e w' => e = .returned (.tuple #[.int .i64 0, .bool false]) ∧ w = w' := by
  have h3 := x.c3
  clear x
  go_enter Try.func12, Try.ntmps12
  go_wp2
  go_ret2
  exact ⟨rfl, rfl⟩

theorem peek_some {w : World} {B b : Nat} {rv : Value} {most h : Nat} {zs L : List Int} {y : Int} {wv : Value} (x : BoxI w B b rv most h zs (y :: L) wv) :
    Calls Try.prog 12 #[.pointer (some ⟨b, 0, none⟩)] w fun e w' => e = .returned (.tuple #[.int .i64 y, .bool true]) ∧ ∃ m, w' = w.drewN m := by
  have h3 := x.c3
  have h2 := x.c2
  have h1 := x.c1
  have hm := x.m1
  have hc := x.cnt
  have hle := x.le
  obtain ⟨hlt, hat, _⟩ := x.ring.pop 0
  have ho := x.own
  rcases x.form with ⟨_, rfl⟩ | ⟨g, cap, rfl, hcap, hcm, _⟩
  · simp at hlt
  have hcell : w.cell? ⟨g, h, none⟩ = some (.int .i64 y) := by
    rw [ho.cellAt h (by omega)]; exact encI_get zs h y hat
  simp only [List.length_cons] at h3 hc
  clear x ho hat
  have hb : ((L.length + 1 : Nat) : Int) = (L.length : Int) + 1 := by omega
  rw [hb] at h3
  have hL : (L.length : Int) + 1 ≤ 4096 := by omega
  have hne : ((L.length : Int) + 1 == 0) = false := by simp; omega
  clear hb hc
  obtain ⟨n, hn⟩ : ∃ n, n = zs.length := ⟨_, rfl⟩
  rw [← hn] at hlt hle hcap h1
  clear hn
  go_enter Try.func12, Try.ntmps12
  go_wp2
  go_quiet (fail)
  go_wp2
  go_ret2
  exact ⟨rfl, _, rfl⟩

end Go.Proofs.Ytjlamecjenibcaa
