/-
  MeshOrder: for every input it returns true, and the input reads as it did: the row's proof. No conditions.
-/
import Derived.Test.YtakhmommcgfoaaaMeE3
import Derived.Test.YtakhmommcgfoaaaMeRow0
namespace Go.Proofs.Ytakhmommcgfoaaa
open Go.ChangeShapes Go.WideShapes Go.ChangeAt Go.RowKit Go.Deep

section
variable {H : Type} {enc : TypeId × Value → H} {w : World} {base : Nat} {spare : Nat → Bool} {held : Bool} {fuel : Nat}
set_option maxRecDepth 100000 in
theorem ints_read {v : Value} {y : DataW H × List MemPlace} (h : DataW.trod enc Try.prog w base spare held fuel 64 [v] = some y) : ∃ a n c L, v = .slice a n c ∧ n ≤ 9223372036854775807 ∧ L.length = n ∧ IntsIn w w.heap.size a L := by
  rcases open_slice Try.underlying64 h with ⟨hcs, _⟩ | ⟨a, len, cap, m, n', D, Pl, hcs, _, hl, hm, hmm, _, hi⟩
  · simp at hcs
    subst hcs
    exact ⟨none, 0, 0, [], rfl, by omega, rfl, .inl rfl⟩
  · simp at hcs
    subst hcs
    obtain ⟨L, hL, _, hr⟩ := rows_of (enc := fun x : Int => [.int .i64 x]) (sz := 1) (fun _ => rfl) (by omega) (w := w) (base := base) (len := len) (a := a) (Q := fun _ => True) (fun i him => by
      obtain ⟨cs', hc, ht⟩ := hi i (by split at hmm <;> omega)
      rw [one_int] at hc
      obtain ⟨x, hx, _⟩ := DataW.trod_int Try.underlying3 ht
      subst hx
      exact ⟨x, hc, trivial⟩)
    refine ⟨some a, len, cap, L, rfl, by have : maxLen = 9223372036854775807 := rfl; omega, hL, hr.imp (fun e => e) ?_⟩
    rintro ⟨b, o, e, hb, hra⟩
    refine ⟨b, o, e, hb, fun i x hx => ?_⟩
    have h := hra i x hx 0 _ rfl
    rw [Nat.mul_one] at h
    exact h
end

theorem order_all (n0 n1 : Int) (ao ko : Option Addr) (nl cl nk ck : Nat) (ops : List Oq) (picks : List Int) (w : World) (hl : nl ≤ 9223372036854775807) (hk : nk ≤ 9223372036854775807) (ho : ops.length = nl) (hp : picks.length = nk)
    (hops : OpsIn w w.heap.size ao ops) (hpk : IntsIn w w.heap.size ko picks) :
    Calls Try.prog 4 #[.agg #[.int .i64 n0, .int .i64 n1], .slice ao nl cl, .slice ko nk ck] w fun e w' => e = .returned (.bool true) ∧ Below w.heap.size w w' := by
  by_cases hb : OBad n0 n1 nl nk
  · exact order_short n0 n1 ao ko nl cl nk ck w hl hk hb
  · unfold OBad at hb
    obtain ⟨W, rfl⟩ : ∃ W : Nat, n0 = W := ⟨n0.toNat, by omega⟩
    obtain ⟨most, rfl⟩ : ∃ m : Nat, n1 = m := ⟨n1.toNat, by omega⟩
    exact order_ok W most ao ko nl cl nk ck ops picks w (by omega) (by omega) (by omega) (by omega) (by omega) (by omega) ho hp hops hpk

set_option maxRecDepth 100000 in
theorem order_lifted (os : Os) (started : os.Started) (H : Type) (enc : TypeId × Value → H) :
    ReturnsInHanded {} Try.checked os 4 .any (Rows.meshOrderSpec.pre6 enc Try.prog Try.f4 Rows.meshOrderRow.domain false) (Rows.meshOrderSpec.post enc Try.prog Try.f4 false true false false) := by
  refine returnsInHanded_of_change (C := Try.checked) Try.own started (by kernel_rfl) Try.func4
    (ChangeSpec.witness6 (enc := enc) (C := Try.checked) false ⟨#[], #[.agg #[.int .i64 0, .int .i64 0], .slice none 0 0, .slice none 0 0], []⟩ 8 (by kernel_rfl) (by kernel_rfl) (by kernel_rfl) (by kernel_rfl)) ?_
  intro W base args ds gs before hval0 hW hcnd _
  have hval : ∀ (j : Nat) t v, Try.f4.params[j]? = some t → args[j]? = some v → Value.okWide Try.prog W .any base t v := hval0
  have hW' := hW
  obtain ⟨p, q, hA0, hV, rfl, hfz, hnd⟩ := hW
  have hA : DataW.TrodAll enc Try.prog W 0 (fun _ => true) true Try.f4.params.toList args.toList ds p := hA0
  rw [Try.params4] at hA hval
  obtain ⟨v0, v1, v2, d0, d1, d2, p0, p1, p2, rfl, rfl, rfl, h0, h1, h2⟩ := trodAll_three hA
  obtain ⟨rfl, rfl⟩ := trodVars_none hV
  obtain ⟨n0, n1, rfl⟩ := two_open (hval 0 22 v0 rfl rfl) h0
  obtain ⟨ao, n, cap, rfl⟩ := okWide_slice Try.underlying23 (hval 1 23 v1 rfl rfl)
  obtain ⟨ko, nk, ck, rfl⟩ := okWide_slice Try.underlying64 (hval 2 64 v2 rfl rfl)
  clear hA0 hval0
  have h0k := h0
  have h1k := h1
  have h2k := h2
  have hlt : ∀ x ∈ p0 ++ (p1 ++ p2), x.block < W.heap.size := fun x hx => hW'.lt x (by simpa using hx)
  obtain ⟨fuel, hf⟩ := h1
  obtain ⟨fuel2, hf2⟩ := h2
  obtain ⟨ao', n', cap', ops, hv, hn2, ho, hop⟩ := ops_read hf
  obtain ⟨ko', nk', ck', picks, hv2, hk2, hp, hpk⟩ := ints_read hf2
  injection hv with e1 e2 e3
  subst e1 e2 e3
  injection hv2 with e1 e2 e3
  subst e1 e2 e3
  simp only [List.append_nil] at hW'
  refine (order_all n0 n1 ao ko n cap nk ck ops picks W hn2 hk2 ho hp hop hpk).mono fun e W' ⟨he, hb⟩ => ?_
  subst he
  refine ⟨_, rfl, post_of_below (pa := p0 ++ (p1 ++ p2)) (pv := []) hW' (fun _ _ _ => trodAll_mk1 (shut_bool Try.underlying4 _)) (fun sp hsp => ?_) (fun _ _ => rfl) (by simp) hb (ok_one (by kernel_rfl) rfl (okWide_bool_mk Try.underlying4 _))⟩
  exact trodAll_mk3 (WideElems.Trod_stays Try.laidOut (by kernel_rfl) (of_decide_eq_true (by kernel_rfl)) h0k (fun x hx => hb.same (hlt x (by simp [hx]))) (fun x hx => hsp x (by simp [hx])))
    (WideElems.Trod_stays Try.laidOut (by kernel_rfl) (of_decide_eq_true (by kernel_rfl)) h1k (fun x hx => hb.same (hlt x (by simp [hx]))) (fun x hx => hsp x (by simp [hx])))
    (WideElems.Trod_stays Try.laidOut (by kernel_rfl) (of_decide_eq_true (by kernel_rfl)) h2k (fun x hx => hb.same (hlt x (by simp [hx]))) (fun x hx => hsp x (by simp [hx])))

theorem meshorder_holds : Rows.MeshOrderSaid :=
  OpenClaim.holds_of_wide 4 Try.f4 rfl rfl rfl rfl rfl rfl rfl ⟨rfl, rfl, rfl, rfl, rfl⟩ rfl rfl rfl rfl rfl (by kernel_rfl) Try.func4 (by kernel_rfl)
    (of_decide_eq_true (by kernel_rfl)) (by unfold Func.isWrapper; first | (rw [if_pos (by decide +kernel)]; kernel_rfl) | (rw [if_neg (by decide +kernel)]; exact ⟨rfl, rfl⟩))
    (fun os started H enc _ => order_lifted os started H enc)

#print axioms meshorder_holds

end Go.Proofs.Ytakhmommcgfoaaa
