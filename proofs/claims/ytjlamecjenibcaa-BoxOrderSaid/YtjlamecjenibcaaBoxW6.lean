/-
  The box's Watch, Fork.
-/
import Derived.Test.YtjlamecjenibcaaBoxW5
namespace Go.Proofs.Ytjlamecjenibcaa
open Go.RowKit

theorem watch_ok {w : World} {B b : Nat} {rv : Value} {most h : Nat} {zs L : List Int} {wv : Value} (f : Fn) (x1 x2 : Array Value) (x : BoxI w B b rv most h zs L wv) :
    Calls Try.prog 17 #[.pointer (some ⟨b, 0, none⟩), .func f x1 x2] w fun e w' => e = .returned (.tuple #[]) ∧ w' = w.setCell ⟨b, 4, none⟩ (.func f x1 x2) := by
  have h4 := x.c4
  have hf := x.fz 4
  clear x
  go_enter Try.func17, Try.ntmps17
  go_wp2
  go_end0
  exact ⟨rfl, rfl⟩

theorem watched {w : World} {B b : Nat} {rv : Value} {most h : Nat} {zs L : List Int} {wv : Value} (v : Value) (x : BoxI w B b rv most h zs L wv) :
    BoxI (w.setCell ⟨b, 4, none⟩ v) B b rv most h zs L v :=
  ⟨x.base, by rw [heap_set x.blk]; simp, Go.ownsRow_setCell_other x.own x.ne v, x.ne, x.m1, x.le, x.ring⟩

theorem fork_nil (w : World) : Calls Try.prog 19 #[.pointer none] w fun e w' => e = .returned (.pointer none) ∧ w = w' := by
  go_enter Try.func19, Try.ntmps19
  go_wp2
  go_ret
  exact ⟨rfl, rfl⟩

theorem clone_ok {w : World} {B : Nat} {rv : Value} {zs : List Int} (ho : w.ownsRow B 3 1 rv zs.length (zs.flatMap encI)) (hn : zs.length ≤ 4096) :
    Calls Try.prog 24 #[rv] w fun e w' => ∃ sp c, e = .returned (.slice sp zs.length c) ∧ w'.ownsRow w.heap.size 3 1 (.slice sp zs.length c) zs.length (zs.flatMap encI) ∧ Below w.heap.size w w' := by
  rw [encI_map] at ho ⊢
  rcases owns_form ho with ⟨rfl, hz⟩ | ⟨g, cap, rfl, _⟩
  · refine (clone_nil w).mono ?_
    rintro e w' ⟨rfl, rfl⟩
    obtain rfl := List.length_eq_zero_iff.1 hz
    exact ⟨_, _, rfl, World.ownsRow_nil _ _ _ _, Below.refl _ _⟩
  · refine (clone_some g cap B zs w ho hn).mono ?_
    rintro e w' ⟨v, rfl, hown, hb⟩
    obtain ⟨sp, c, rfl, _⟩ := owns_view hown
    exact ⟨_, _, rfl, hown, hb⟩

theorem fork_ok {w : World} {B b : Nat} {rv : Value} {most h : Nat} {zs L : List Int} {wv : Value} (x : BoxI w B b rv most h zs L wv) :
    Calls Try.prog 19 #[.pointer (some ⟨b, 0, none⟩)] w fun e w' => ∃ b' rv', e = .returned (.pointer (some ⟨b', 0, none⟩)) ∧ BoxI w' w.heap.size b' rv' most h zs L .nilFunc ∧ Below w.heap.size w w' := by
  have h3 := x.c3
  have h2 := x.c2
  have h1 := x.c1
  have h0 := x.c0
  have hbs := lt_of_block x.blk
  have hle := x.le
  have hm := x.m1
  have X := hid x
  clear x
  go_enter Try.func19, Try.ntmps19
  go_wp2
  go_region_held3 (fun w' => w'.cell? ⟨b, 0, none⟩ = some (.int .i64 most) ∧ w'.cell? ⟨b, 1, none⟩ = some rv ∧ w'.cell? ⟨b, 2, none⟩ = some (.int .i64 h) ∧ w'.cell? ⟨b, 3, none⟩ = some (.int .i64 L.length))
    (first
      | go_keep
      | (go_split_ands; exact ⟨(hbl.cell hbs).trans (by assumption), (hbl.cell hbs).trans (by assumption), (hbl.cell hbs).trans (by assumption), (hbl.cell hbs).trans (by assumption)⟩))
    (first | (go_at_call 24; refine (clone_ok (B := B) (zs := zs) (by exact X.out.own) (by omega)).mono ?_; rintro e w1 ⟨sp, c, rfl, hown, hbl⟩))
  have R1 := hid hown
  have R2 := hid hbl
  clear hown hbl
  go_wp2
  go_ret
  have hsz := R2.out.size
  simp only [World.size_drew] at hsz
  refine ⟨_, _, rfl, ⟨hsz, heap_new _ _, R1.out.alloc _, ?_, hm, hle, X.out.ring⟩, ?_⟩
  · intro e
    have := (R1.out.lt _ e).2
    omega
  · exact ((Below.refl w.heap.size w).drew.trans R2.out).alloc hsz _

end Go.Proofs.Ytjlamecjenibcaa
