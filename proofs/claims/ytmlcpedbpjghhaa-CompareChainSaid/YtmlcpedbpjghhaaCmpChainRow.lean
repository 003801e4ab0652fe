/-
  compareChain: for every input it returns true, and the input reads as it did: the row's proof. No conditions.
-/
import Derived.Test.YtmlcpedbpjghhaaCmpChainLaw
import Derived.Deep.Slices
import Derived.OpenShut
namespace Go.Proofs.Ytmlcpedbpjghhaa
open Go.ChangeShapes Go.WideShapes Go.ChangeAt Go.RowKit Go.Deep Go.Joins

section
variable {H : Type} {enc : TypeId × Value → H} {P : Program}
theorem okWide_arr {w : World} {r : Reach} {base : Nat} {t e : TypeId} {n : Nat} {v : Value} (ht : P.underlying t = some (.array n e)) (h : Value.okWide P w r base t v) : ∃ cs, v = .agg cs ∧ cs.size = P.cellsOf t := by
  simp only [Value.okWide, ht] at h
  obtain ⟨cs, h1, h2, _⟩ := h
  exact ⟨cs, h1, h2⟩
end
section
variable {H : Type} {enc : TypeId × Value → H} {w : World} {base : Nat} {spare : Nat → Bool} {held : Bool} {fuel : Nat}
theorem len4 {α : Type} {l : List α} (h : l.length = 4) : ∃ a b c d, l = [a, b, c, d] := by
  match l, h with
  | [a, b, c, d], _ => exact ⟨a, b, c, d, rfl⟩
theorem cells_arr : Try.prog.cellsOf 38 = 12 := by kernel_rfl
theorem one8 : Try.prog.cellsOf 5 = 1 := by kernel_rfl
theorem oneI : Try.prog.cellsOf 3 = 1 := by kernel_rfl
theorem one64 : Try.prog.cellsOf 22 = 1 := by kernel_rfl
theorem oneS : Try.prog.cellsOf 9 = 1 := by kernel_rfl
theorem cells_read {cs : List Value} {y : DataW H × List MemPlace} (hl : cs.length = 4) (h : DataW.trod enc Try.prog w base spare held fuel 24 cs = some y) : ∃ (k n : Int) (u : Nat) (s : ByteArray), cs = [.int .u8 k, .int .i64 n, .int .u64 u, .string s] ∧ Came n u s := by
  obtain ⟨y0, y1, y2, y3, m, _, _, h0, h1, h2, h3⟩ := trod_struct4 Try.underlying24 h
  obtain ⟨v0, v1, v2, v3, rfl⟩ := len4 hl
  simp only [List.drop_zero, List.drop_succ_cons, List.take_succ_cons, List.take_zero, one8, oneI, one64, oneS] at h0 h1 h2 h3
  obtain ⟨k, hk, _, _⟩ := DataW.trod_int Try.underlying5 h0
  obtain ⟨n, hn, _, wn⟩ := DataW.trod_int Try.underlying3 h1
  obtain ⟨u, hu, _, wu⟩ := DataW.trod_int Try.underlying22 h2
  obtain ⟨s, hs, _, ws⟩ := DataW.trod_string Try.underlying9 h3
  have bn : -9223372036854775808 ≤ n ∧ n ≤ 9223372036854775807 := by simpa [Lit.wf, IntKind.min, IntKind.max, IntKind.signed, IntKind.bits] using wn
  have bu : 0 ≤ u ∧ u ≤ 18446744073709551615 := by simpa [Lit.wf, IntKind.min, IntKind.max, IntKind.signed, IntKind.bits] using wu
  obtain ⟨x, rfl⟩ : ∃ x : Nat, u = x := ⟨u.toNat, by omega⟩
  simp only [List.cons.injEq, and_true] at hk hn hu hs
  subst hk hn hu hs
  unfold maxLen at ws
  exact ⟨k, n, x, s, rfl, bn, by omega, by omega⟩
end

set_option maxRecDepth 100000 in
theorem lifted_chain (os : Os) (started : os.Started) (H : Type) (enc : TypeId × Value → H) :
    ReturnsInHanded {} Try.checked os 6 .any (Rows.compareChainSpec.pre6 enc Try.prog Try.f6 Rows.compareChainRow.domain false) (Rows.compareChainSpec.post enc Try.prog Try.f6 false true false false) := by
  refine returnsInHanded_of_change (C := Try.checked) Try.own started (by kernel_rfl) Try.func6
    (ChangeSpec.witness6 (enc := enc) (C := Try.checked) false ⟨#[], #[.agg #[.int .u8 0, .int .i64 0, .int .u64 0, .string ⟨#[]⟩, .int .u8 0, .int .i64 0, .int .u64 0, .string ⟨#[]⟩, .int .u8 0, .int .i64 0, .int .u64 0, .string ⟨#[]⟩]], []⟩ 8 (by kernel_rfl) (by kernel_rfl) (by kernel_rfl) (by kernel_rfl)) ?_
  intro W base args ds gs before hval0 hW hcnd _
  have hval : ∀ (j : Nat) t v, Try.f6.params[j]? = some t → args[j]? = some v → Value.okWide Try.prog W .any base t v := hval0
  have hW' := hW
  obtain ⟨p, q, hA0, hV, rfl, hfz, hnd⟩ := hW
  have hA : DataW.TrodAll enc Try.prog W 0 (fun _ => true) true Try.f6.params.toList args.toList ds p := hA0
  rw [Try.params6] at hA hval
  obtain ⟨v0, vs0, d0, ds0, p0, q0, hargs, rfl, rfl, h0, r0⟩ := trodAll_cons hA
  obtain ⟨rfl, rfl, rfl⟩ := trodAll_nil r0
  obtain rfl : args = #[v0] := by cases args; simp_all
  obtain ⟨rfl, rfl⟩ := trodVars_none hV
  obtain ⟨cs, rfl, hcs⟩ := okWide_arr Try.underlying38 (hval 0 38 v0 rfl rfl)
  clear hA0 hval0
  have h0k := h0
  have hlt0 : ∀ x ∈ p0, x.block < W.heap.size := fun x hx => hW'.lt x (by simp [hx])
  obtain ⟨fuel, hf⟩ := h0
  obtain ⟨xs, m, _, _, hlen, hxl, hel⟩ := DataW.trod_array Try.underlying38 hf
  rw [cells_arr] at hlen
  have e0 := hel 0 (by omega)
  have e1 := hel 1 (by omega)
  have e2 := hel 2 (by omega)
  rw [cells_V] at e0 e1 e2
  obtain ⟨x0, hx0⟩ : ∃ x0, xs[0]? = some x0 := ⟨xs[0]'(by omega), List.getElem?_eq_getElem _⟩
  obtain ⟨x1, hx1⟩ : ∃ x1, xs[1]? = some x1 := ⟨xs[1]'(by omega), List.getElem?_eq_getElem _⟩
  obtain ⟨x2, hx2⟩ : ∃ x2, xs[2]? = some x2 := ⟨xs[2]'(by omega), List.getElem?_eq_getElem _⟩
  rw [hx0] at e0
  rw [hx1] at e1
  rw [hx2] at e2
  obtain ⟨k0, n0, u0, s0, hc0, C0⟩ := cells_read (by rw [List.length_take, List.length_drop, hlen]; rfl) e0
  obtain ⟨k1, n1, u1, s1, hc1, C1⟩ := cells_read (by rw [List.length_take, List.length_drop, hlen]; rfl) e1
  obtain ⟨k2, n2, u2, s2, hc2, C2⟩ := cells_read (by rw [List.length_take, List.length_drop, hlen]; rfl) e2
  have hcl : cs = #[.int .u8 k0, .int .i64 n0, .int .u64 u0, .string s0, .int .u8 k1, .int .i64 n1, .int .u64 u1, .string s1, .int .u8 k2, .int .i64 n2, .int .u64 u2, .string s2] := by
    have g0 : cs.toList.take 4 = [.int .u8 k0, .int .i64 n0, .int .u64 u0, .string s0] := by simpa [Value.cells] using hc0
    have g1 : (cs.toList.drop 4).take 4 = [.int .u8 k1, .int .i64 n1, .int .u64 u1, .string s1] := by simpa [Value.cells] using hc1
    have g2 : (cs.toList.drop 8) = [.int .u8 k2, .int .i64 n2, .int .u64 u2, .string s2] := by
      have h := hc2
      rw [List.take_of_length_le (by rw [List.length_drop, hlen]; decide)] at h
      simpa [Value.cells] using h
    apply Array.ext'
    rw [← List.take_append_drop 4 cs.toList, g0, ← List.take_append_drop 4 (cs.toList.drop 4), g1, List.drop_drop, g2]
    rfl
  subst hcl
  simp only [List.append_nil] at hW'
  refine (compareChain_law k0 n0 u0 s0 k1 n1 u1 s1 k2 n2 u2 s2 C0 C1 C2 W).mono fun e W' ⟨he, hb⟩ => ?_
  subst he
  exact ⟨_, rfl, post_of_below (pa := (p0 ++ [])) (pv := []) hW' (fun _ _ _ => trodAll_mk1 (shut_bool Try.underlying4 _)) (fun sp hsp => (trodAll_cons_mk (WideElems.Trod_stays Try.laidOut (by kernel_rfl) (of_decide_eq_true (by kernel_rfl)) h0k (fun x hx => hb.same (hlt0 x hx)) (fun x hx => hsp x (by simp [hx]))) trodAll_mk0)) (fun _ _ => rfl) (by simp) hb (ok_one (by kernel_rfl) rfl (okWide_bool_mk Try.underlying4 _))⟩
theorem comparechain_holds : Rows.CompareChainSaid :=
  OpenClaim.holds_of_wide 6 Try.f6 rfl rfl rfl rfl rfl rfl rfl ⟨rfl, rfl, rfl, rfl, rfl⟩ rfl rfl rfl rfl rfl (by kernel_rfl) Try.func6 (by kernel_rfl)
    (of_decide_eq_true (by kernel_rfl)) (by unfold Func.isWrapper; first | (rw [if_pos (by decide +kernel)]; kernel_rfl) | (rw [if_neg (by decide +kernel)]; exact ⟨rfl, rfl⟩))
    (fun os started H enc _ => lifted_chain os started H enc)
#print axioms comparechain_holds
end Go.Proofs.Ytmlcpedbpjghhaa
