/-
  Own of layer 11, walked: it ends, and hands a slice.
-/
import Derived.Test.YtceomkoecidoiaaFolPlaces
namespace Go.Proofs.Ytceomkoecidoiaa
open Go.RowKit

theorem info_test : ∃ i z, Try.prog.info? 103 = some i ∧ i.zero = some z ∧ i.size = 8 ∧ i.bytes = 80 ∧ z.cells.size = 8 := by
  have hinfo : ((Try.prog.info? 103).map (fun i => (i.zero.map (fun z => z.cells.size), i.size, i.bytes))) = some (some 8, 8, 80) := by kernel_rfl
  cases hi : Try.prog.info? 103 with
  | none => rw [hi] at hinfo; simp at hinfo
  | some i =>
    rw [hi] at hinfo
    simp only [Option.map_some, Option.some.injEq, Prod.mk.injEq, Option.map_eq_some_iff] at hinfo
    obtain ⟨⟨z, hz, hs⟩, h1, h2⟩ := hinfo
    exact ⟨i, z, rfl, hz, h1, h2, hs⟩

theorem two_new (w : World) (A B : Array Value) (s t : TypeId) : ((w.alloc (.cells A s)).alloc (.cells B t)).heap[w.heap.size + 1]? = some (.cells B t (0, 0)) := by simpa using heap_new (w.alloc (.cells A s)) (.cells B t)

set_option maxRecDepth 100000 in
set_option maxHeartbeats 2000000 in
theorem own11_ok {w : World} {tv : Value} {n : Nat} (h : TestV w tv n) (h40 : n ≤ 40) :
    Calls Try.prog 23 #[tv] w fun e w' => (∃ a m c, e = .returned (.slice a m c)) ∧ Fr (fun _ => False) w w' := by
  obtain ⟨i0, z0, hi0, hz0, hz1, hz2, hz3⟩ := info_test
  have hv := h
  obtain ⟨ta, tc, rfl, _⟩ := hv
  have H := hid h
  clear h
  go_enter Try.func23, Try.ntmps23
  go_wp2_with fail
  go_loopw [3, 4] (fun v i wr => ∃ j : Nat, j ≤ n ∧ i = .int .i64 j ∧ (∃ xs, wr.ownsRow w.heap.size 103 8 v j xs) ∧ Fr (fun _ => False) w wr) (fun _ i _ => n - (intOf i).toNat)
  case atStart => exact ⟨0, Nat.zero_le _, rfl, ⟨[], World.ownsRow_nil _ _ _ _⟩, Fr.refl _ _⟩
  case round =>
    obtain ⟨j, hj, rfl, ⟨xs, hown⟩, hF⟩ := hrel
    have HF := hid hF
    have HOWN := hid hown
    clear hF hown
    by_cases hjn : j < n
    · obtain ⟨ta', tc', hv, hp⟩ := H.out.fr HF.out
      simp only [Value.slice.injEq, true_and] at hv
      obtain ⟨rfl, rfl⟩ := hv
      obtain ⟨g, o, rfl, hgl, hc⟩ := hp (by omega)
      obtain ⟨k, op, va, na, vk, vn, vb, vt, c0, c1, c2, c3, c4, c5, c6, c7⟩ := (hc j hjn).out
      clear hp hc
      have hjn' : (j : Int) < n := by omega
      have hj0 : (0 : Int) ≤ j := by omega
      have hsz := HF.out.size
      go_upto_region 6 with fail
      go_wp2_with (at_builtin; refine wpList_append_lies _ (by rfl) _ _ _ (by rfl) w.heap.size 103 i0 z0 8 80 Try.underlying57 hi0 hz0 hz1 hz2 hz3 (by omega) u3 j xs (by rfl) ((HOWN.out.alloc _).alloc _) ⟨wr.heap.size + 1, 0, none⟩ 1 1 [.int .u8 k, .int .u8 op, .string va, .string na, .int .u8 vk, .int .i64 vn, .int .u64 vb, .string vt] (by rfl) (by rfl) (World.news_of_block (two_new wr _ _ _ _)) (by simp [Value.oneCell']) (by omega) (by unfold maxLen; omega) (by omega) (by simp; omega) (wr.heap.size + 2) (by simp) ?_; intro gg cp w1 hown1 hgrow hat' hlt2)
      exact ⟨⟨j + 1, by omega, rfl, ⟨_, hown1⟩, ((HF.out.alloc _).alloc _).grown hgrow (fun q e hlt => by have := (HOWN.out.lt q e).1; omega)⟩, by simp [intOf]; omega⟩
    · obtain rfl : j = n := by omega
      rcases owns_form HOWN.out with ⟨rfl, _⟩ | ⟨gv, cap, rfl, _⟩
      · go_wp2_with fail
        go_ret
        exact ⟨⟨_, _, _, rfl⟩, HF.out⟩
      · go_wp2_with fail
        go_ret
        exact ⟨⟨_, _, _, rfl⟩, HF.out⟩

end Go.Proofs.Ytceomkoecidoiaa
