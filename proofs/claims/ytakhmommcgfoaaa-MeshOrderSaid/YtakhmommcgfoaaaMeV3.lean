/-
  Values of the program's (Vals), walked.
-/
import Derived.Test.YtakhmommcgfoaaaMeV2
namespace Go.Proofs.Ytakhmommcgfoaaa
open Go.RowKit

theorem info_val : (Try.prog.info? 103).map (fun i => (i.zero, i.size, i.bytes)) = some (some (.agg #[.int .u8 0, .int .i64 0, .int .u64 0, .string ⟨#[]⟩]), 4, 40) := by kernel_rfl
theorem flatV_take (V : List Vl) (j : Nat) (x : Vl) (h : V[j]? = some x) : (V.take (j + 1)).flatMap encV = (V.take j).flatMap encV ++ encV x := by
  rw [List.take_add_one, h]; simp
/-- a row that a function has made holds values -/
theorem Va.of_own {w : World} {B E : Nat} {v : Value} {V : List Vl} (h : w.ownsRow B E 4 v V.length (V.flatMap encV)) (hl : V.length ≤ 12) : ∃ a c, v = .slice a V.length c ∧ Va w (fun i => i < B) a V.length V := by
  obtain ⟨a, c, rfl, hr⟩ := owns_view h
  refine ⟨a, c, rfl, rfl, hl, ?_⟩
  rcases owns_form h with ⟨_, hz⟩ | ⟨g, cp, e, _, _, hB, _⟩
  · exact .inl (List.eq_nil_of_length_eq_zero hz)
  · injection e with e1 e2 e3
    subst e1
    exact .inr ⟨g, 0, rfl, by omega, fun i x hx => by rw [Nat.zero_add]; exact owns_range encV_len h hx⟩

set_option maxRecDepth 100000 in
set_option maxHeartbeats 1000000 in
theorem vals_ok {w : World} {F : Nat → Prop} {a : Option Addr} {n c : Nat} {V : List Vl} (h : Va w F a n V) :
    Calls Try.prog 42 #[.slice a n c] w fun e w' => ∃ v, e = .returned v ∧ w'.ownsRow w.heap.size 103 4 v V.length (V.flatMap encV) ∧ Below w.heap.size w w' := by
  obtain ⟨i0, hi0, hz0, hz1, hz2⟩ := info_parts info_val
  obtain ⟨rfl, hl, h3⟩ := h
  have H3 := hid h3
  clear h3
  go_enter Try.func42, Try.ntmps42
  go_wp2_with fail
  go_loopw [3, 4] (fun v i wr => ∃ k : Nat, k ≤ V.length ∧ i = .int .i64 k ∧ wr.ownsRow w.heap.size 103 4 v k ((V.take k).flatMap encV) ∧ Below w.heap.size w wr) (fun _ i _ => V.length - (intOf i).toNat)
  case atStart => exact ⟨0, Nat.zero_le _, rfl, by simpa using World.ownsRow_nil _ _ _ _, Below.refl _ _⟩
  case round =>
    obtain ⟨k, hk, rfl, hown, hb⟩ := hrel
    by_cases hkl : k < V.length
    · obtain ⟨x, hx⟩ : ∃ x, V[k]? = some x := ⟨V[k], by simp [hkl]⟩
      obtain ⟨b, o, rfl, _, hr⟩ := H3.out.resolve_left (fun e => by subst e; simp at hx)
      have hbs : b < w.heap.size := World.block_lt_of_cell? _ _ (hr k x hx 0 _ rfl)
      obtain ⟨a0, a1, a2, a3⟩ := cells_of_val (fun j v hv => (hb.cell (p := ⟨b, o + k * 4 + j, none⟩) hbs).trans (hr k x hx j v hv) : wr.rangeAt b (o + k * 4) (encV x))
      have HX := hid hx
      have HB := hid hb
      have HO := hid hown
      have hbz := hb.size
      clear hx hr hb hown
      have hjb : (k : Int) < (V.length : Int) := by omega
      go_wp2_with (at_builtin; go_must (refine wpList_append_lies _ rfl _ _ 36 rfl w.heap.size 103 i0 _ 4 40 Try.underlying36 hi0 hz0 hz1 hz2 rfl (by omega) u3 k _ rfl (by exact HO.out.alloc _) ⟨wr.heap.size, 0, none⟩ 1 1 (encV x) rfl rfl (World.news_of_block (cs := (encV x).toArray) (t := 103) (fr := (0, 0)) (by exact heap_new wr _)) (encV_one x) (by omega) (by unfold maxLen; omega) (by omega) (by simp; omega) (wr.heap.size + 1) (by simp) ?_); go_must (intro g cp w2 hown hgrow hat hlt); have HG := hid hgrow; have HOW := hid hown; go_must (clear hgrow hown hat))
      go_roundw
      case rel => exact ⟨k + 1, by omega, by go_num, by rw [flatV_take V k x HX.out]; exact HOW.out, HB.out.trans (((Below.refl _ _).alloc hbz _).grown HG.out (by simp; omega) (fun i e => (HO.out.lt _ e).1))⟩
      case measure => simp [intOf]; omega
    · obtain rfl : k = V.length := by omega
      rw [List.take_length] at hown
      have R1 := hid hown
      have R2 := hid hb
      clear hown hb
      go_wp2_with fail
      go_ret
      exact ⟨_, rfl, R1.out, R2.out⟩

end Go.Proofs.Ytakhmommcgfoaaa
