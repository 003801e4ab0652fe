/-
  MeshDoes: for every input it returns true, and the input reads as it did: the row's proof. No conditions.
-/
import Derived.Test.YtakhmommcgfoaaaMeD4
import Derived.Test.YtakhmommcgfoaaaMeRow0
namespace Go.Proofs.Ytakhmommcgfoaaa
open Go.ChangeShapes Go.WideShapes Go.ChangeAt Go.RowKit Go.Deep

theorem does_all (n0 n1 : Int) (ao : Option Addr) (n cap : Nat) (ops : List Oq) (w : World) (hn2 : n ≤ 9223372036854775807) (ho : ops.length = n) (hops : OpsIn w w.heap.size ao ops) :
    Calls Try.prog 3 #[.agg #[.int .i64 n0, .int .i64 n1], .slice ao n cap] w fun e w' => e = .returned (.bool true) ∧ Below w.heap.size w w' := by
  by_cases hn : 14 < n
  · exact does_long n0 n1 ao n cap w hn hn2
  · cases hm : mayB n0 n1 with
    | false => exact does_bad n0 n1 ao n cap w (by omega) hm
    | true =>
      unfold mayB at hm
      simp only [Bool.and_eq_true, decide_eq_true_iff] at hm
      obtain ⟨W, rfl⟩ : ∃ W : Nat, n0 = W := ⟨n0.toNat, by omega⟩
      obtain ⟨most, rfl⟩ : ∃ m : Nat, n1 = m := ⟨n1.toNat, by omega⟩
      exact does_ok W most ao n cap ops w (by omega) ho hops (by omega) (by omega) (by omega) (by omega)

set_option maxRecDepth 100000 in
theorem does_lifted (os : Os) (started : os.Started) (H : Type) (enc : TypeId × Value → H) :
    ReturnsInHanded {} Try.checked os 3 .any (Rows.meshDoesSpec.pre6 enc Try.prog Try.f3 Rows.meshDoesRow.domain false) (Rows.meshDoesSpec.post enc Try.prog Try.f3 false true false false) := by
  refine returnsInHanded_of_change (C := Try.checked) Try.own started (by kernel_rfl) Try.func3
    (ChangeSpec.witness6 (enc := enc) (C := Try.checked) false ⟨#[], #[.agg #[.int .i64 0, .int .i64 0], .slice none 0 0], []⟩ 8 (by kernel_rfl) (by kernel_rfl) (by kernel_rfl) (by kernel_rfl)) ?_
  intro W base args ds gs before hval0 hW hcnd _
  have hval : ∀ (j : Nat) t v, Try.f3.params[j]? = some t → args[j]? = some v → Value.okWide Try.prog W .any base t v := hval0
  have hW' := hW
  obtain ⟨p, q, hA0, hV, rfl, hfz, hnd⟩ := hW
  have hA : DataW.TrodAll enc Try.prog W 0 (fun _ => true) true Try.f3.params.toList args.toList ds p := hA0
  rw [Try.params3] at hA hval
  obtain ⟨v0, v1, d0, d1, p0, p1, rfl, rfl, rfl, h0, h1⟩ := trodAll_two hA
  obtain ⟨rfl, rfl⟩ := trodVars_none hV
  obtain ⟨n0, n1, rfl⟩ := two_open (hval 0 22 v0 rfl rfl) h0
  obtain ⟨ao, n, cap, rfl⟩ := okWide_slice Try.underlying23 (hval 1 23 v1 rfl rfl)
  clear hA0 hval0
  have h0k := h0
  have h1k := h1
  have hlt : ∀ x ∈ p0 ++ p1, x.block < W.heap.size := fun x hx => hW'.lt x (by simpa using hx)
  obtain ⟨fuel, hf⟩ := h1
  obtain ⟨ao', n', cap', ops, hv, hn2, ho, hop⟩ := ops_read hf
  injection hv with e1 e2 e3
  subst e1 e2 e3
  simp only [List.append_nil] at hW'
  refine (does_all n0 n1 ao n cap ops W hn2 ho hop).mono fun e W' ⟨he, hb⟩ => ?_
  subst he
  refine ⟨_, rfl, post_of_below (pa := p0 ++ p1) (pv := []) hW' (fun _ _ _ => trodAll_mk1 (shut_bool Try.underlying4 _)) (fun sp hsp => ?_) (fun _ _ => rfl) (by simp) hb (ok_one (by kernel_rfl) rfl (okWide_bool_mk Try.underlying4 _))⟩
  exact trodAll_mk2 (WideElems.Trod_stays Try.laidOut (by kernel_rfl) (of_decide_eq_true (by kernel_rfl)) h0k (fun x hx => hb.same (hlt x (by simp [hx]))) (fun x hx => hsp x (by simp [hx])))
    (WideElems.Trod_stays Try.laidOut (by kernel_rfl) (of_decide_eq_true (by kernel_rfl)) h1k (fun x hx => hb.same (hlt x (by simp [hx]))) (fun x hx => hsp x (by simp [hx])))

theorem meshdoes_holds : Rows.MeshDoesSaid :=
  OpenClaim.holds_of_wide 3 Try.f3 rfl rfl rfl rfl rfl rfl rfl ⟨rfl, rfl, rfl, rfl, rfl⟩ rfl rfl rfl rfl rfl (by kernel_rfl) Try.func3 (by kernel_rfl)
    (of_decide_eq_true (by kernel_rfl)) (by unfold Func.isWrapper; first | (rw [if_pos (by decide +kernel)]; kernel_rfl) | (rw [if_neg (by decide +kernel)]; exact ⟨rfl, rfl⟩))
    (fun os started H enc _ => does_lifted os started H enc)

#print axioms meshdoes_holds

end Go.Proofs.Ytakhmommcgfoaaa
