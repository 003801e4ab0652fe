/-
  Turns that came in: read out of the input's form.
-/
import Derived.Test.YtakhmommcgfoaaaMeD3
import Derived.ProofKit
import Derived.Deep.Slices
import Derived.Deep.Fields
import Derived.ChangeSame
namespace Go.Proofs.Ytakhmommcgfoaaa
open Go.ChangeShapes Go.WideShapes Go.ChangeAt Go.RowKit Go.Deep

theorem list_of_all {α : Type} {Q : Nat → α → Prop} (n : Nat) (h : ∀ i, i < n → ∃ a, Q i a) : ∃ L : List α, L.length = n ∧ ∀ i a, L[i]? = some a → Q i a := by
  induction n with
  | zero => exact ⟨[], rfl, fun i a h => by simp at h⟩
  | succ n ih =>
    obtain ⟨L, hl, hL⟩ := ih (fun i hi => h i (by omega))
    obtain ⟨a, ha⟩ := h n (by omega)
    refine ⟨L ++ [a], by simp [hl], fun i b hb => ?_⟩
    by_cases hi : i < n
    · exact hL i b (by rwa [List.getElem?_append_left (by omega)] at hb)
    · by_cases he : i = n
      · subst he
        rw [List.getElem?_append_right (by omega), hl, Nat.sub_self] at hb
        simp at hb
        exact hb ▸ ha
      · rw [List.getElem?_eq_none (by simp [hl]; omega)] at hb
        cases hb
theorem add_plain (g o n : Nat) : (⟨g, o, none⟩ : Addr).add n = ⟨g, o + n, none⟩ := by
  unfold Addr.add
  split
  · simp_all
  · rfl
/-- a row of structs: one by one -/
theorem rows_of {α : Type} {enc : α → List Value} {sz : Nat} (hl : ∀ x, (enc x).length = sz) (hsz : 0 < sz) {w : World} {base len : Nat} {a : Addr} {Q : α → Prop}
    (h : ∀ i, i < len → ∃ x, w.cells? base (a.add (i * sz)) sz = some (enc x) ∧ Q x) :
    ∃ L : List α, L.length = len ∧ (∀ x ∈ L, Q x) ∧ (L = [] ∨ ∃ b o, some a = some (⟨b, o, none⟩ : Addr) ∧ b < w.heap.size ∧ ∀ (i : Nat) x, L[i]? = some x → w.rangeAt b (o + i * sz) (enc x)) := by
  obtain ⟨L, hL, hLq⟩ := list_of_all (Q := fun i (x : α) => w.cells? base (a.add (i * sz)) sz = some (enc x) ∧ Q x) len h
  refine ⟨L, hL, fun x hx => ?_, ?_⟩
  · obtain ⟨i, hi⟩ := List.mem_iff_getElem?.1 hx
    exact (hLq i x hi).2
  · cases L with
    | nil => exact .inl rfl
    | cons x L =>
      right
      have h0 := (hLq 0 x rfl).1
      obtain ⟨_, hcl, hat⟩ := World.cells?_some h0
      obtain ⟨v, hv⟩ : ∃ v, (enc x)[0]? = some v := ⟨(enc x)[0]'(by rw [hl]; exact hsz), List.getElem?_eq_getElem _⟩
      have hz := hat 0 hsz
      rw [hv, Nat.zero_mul, Go.Deep.add_add] at hz
      obtain ⟨g, o, sp⟩ := a
      have hs : sp = none := World.cell?_spot hz
      subst hs
      have hlt := World.block_lt_of_cell? _ _ hz
      rw [add_plain] at hlt
      refine ⟨g, o, rfl, hlt, fun i y hi j u hu => ?_⟩
      obtain ⟨_, _, hat'⟩ := World.cells?_some (hLq i y hi).1
      have hj : j < sz := by
        have := (List.getElem?_eq_some_iff.1 hu).1
        rwa [hl] at this
      have := hat' j hj
      rw [Go.Deep.add_add, add_plain, hu] at this
      rw [Nat.add_assoc]
      exact this

section
variable {H : Type} {enc : TypeId × Value → H} {w : World} {base : Nat} {spare : Nat → Bool} {held : Bool} {fuel : Nat}

theorem cellsV : Try.prog.cellsOf 101 = 4 := by kernel_rfl
theorem cellsP : Try.prog.cellsOf 79 = 9 := by kernel_rfl
theorem cellsM : Try.prog.cellsOf 47 = 7 := by kernel_rfl
theorem cellsE : Try.prog.cellsOf 45 = 5 := by kernel_rfl
theorem cellsO : Try.prog.cellsOf 35 = 4 := by kernel_rfl
theorem one_u8 : Try.prog.cellsOf 5 = 1 := by kernel_rfl
theorem one_int : Try.prog.cellsOf 3 = 1 := by kernel_rfl
theorem one_u64 : Try.prog.cellsOf 99 = 1 := by kernel_rfl
theorem one_bool : Try.prog.cellsOf 4 = 1 := by kernel_rfl
theorem one_str : Try.prog.cellsOf 9 = 1 := by kernel_rfl
theorem one_vals : Try.prog.cellsOf 43 = 1 := by kernel_rfl
theorem one_pars : Try.prog.cellsOf 30 = 1 := by kernel_rfl

theorem read_int {t : TypeId} {k : IntKind} (ht : Try.prog.underlying t = some (.int k)) {v : Value} {y : Option (DataW H × List MemPlace)} (h : DataW.trod enc Try.prog w base spare held fuel t [v] = y) (hy : y.isSome = true) : ∃ n, v = .int k n := by
  obtain ⟨x, rfl⟩ := Option.isSome_iff_exists.1 hy
  obtain ⟨n, hv, _⟩ := DataW.trod_int ht h
  exact ⟨n, by simpa using hv⟩
theorem read_str {t : TypeId} (ht : Try.prog.underlying t = some .string) {v : Value} {y : Option (DataW H × List MemPlace)} (h : DataW.trod enc Try.prog w base spare held fuel t [v] = y) (hy : y.isSome = true) : ∃ s, v = .string s ∧ s.size ≤ 9223372036854775807 := by
  obtain ⟨x, rfl⟩ := Option.isSome_iff_exists.1 hy
  obtain ⟨s, hv, _, hs⟩ := DataW.trod_string ht h
  exact ⟨s, by simpa using hv, by have : maxLen = 9223372036854775807 := rfl; omega⟩
theorem read_bool {t : TypeId} (ht : Try.prog.underlying t = some .bool) {v : Value} {y : Option (DataW H × List MemPlace)} (h : DataW.trod enc Try.prog w base spare held fuel t [v] = y) (hy : y.isSome = true) : ∃ b, v = .bool b := by
  obtain ⟨x, rfl⟩ := Option.isSome_iff_exists.1 hy
  obtain ⟨b, hv, _⟩ := DataW.trod_bool ht h
  exact ⟨b, by simpa using hv⟩
theorem len4 {α : Type} {l : List α} (h : l.length = 4) : ∃ a b c d, l = [a, b, c, d] := by
  match l, h with
  | [a, b, c, d], _ => exact ⟨a, b, c, d, rfl⟩
theorem len9 {α : Type} {l : List α} (h : l.length = 9) : ∃ a b c d e f g i j, l = [a, b, c, d, e, f, g, i, j] := by
  match l, h with
  | [a, b, c, d, e, f, g, i, j], _ => exact ⟨a, b, c, d, e, f, g, i, j, rfl⟩

set_option maxRecDepth 100000 in
theorem vals_read {v : Value} {y : DataW H × List MemPlace} (h : DataW.trod enc Try.prog w base spare held fuel 43 [v] = some y) : ∃ a n c V, v = .slice a n c ∧ Vr w w.heap.size a n V := by
  rcases open_slice Try.underlying43 h with ⟨hcs, _⟩ | ⟨a, len, cap, m, n', D, Pl, hcs, _, hl, hm, hmm, _, hi⟩
  · simp at hcs
    subst hcs
    exact ⟨none, 0, 0, [], rfl, rfl, by simp, by simp, .inl rfl⟩
  · simp at hcs
    subst hcs
    obtain ⟨V, hV, hQ, hr⟩ := rows_of (enc := encV) (sz := 4) encV_len (by omega) (w := w) (base := base) (len := len) (a := a) (Q := fun x => x.s.size ≤ 9223372036854775807) (fun i him => by
      obtain ⟨cs', hc, ht⟩ := hi i (by split at hmm <;> omega)
      rw [cellsV] at hc
      obtain ⟨xs, nf, _, _, hcl, hxl, hf⟩ := DataW.trod_struct Try.underlying101 ht
      rw [cellsV] at hcl
      obtain ⟨v0, v1, v2, v3, rfl⟩ := len4 hcl
      have h0 := hf 0 _ rfl
      have h1 := hf 1 _ rfl
      have h2 := hf 2 _ rfl
      have h3 := hf 3 _ rfl
      simp only [List.getElem_toArray, List.getElem_cons_zero, List.getElem_cons_succ, List.drop_zero, List.drop_succ_cons, List.take_succ_cons, List.take_zero, one_u8, one_int, one_u64, one_str] at h0 h1 h2 h3
      obtain ⟨k, rfl⟩ := read_int Try.underlying5 h0 (by simp; simp at hxl; omega)
      obtain ⟨n, rfl⟩ := read_int Try.underlying3 h1 (by simp; simp at hxl; omega)
      obtain ⟨b, rfl⟩ := read_int Try.underlying99 h2 (by simp; simp at hxl; omega)
      obtain ⟨s, rfl, hs⟩ := read_str Try.underlying9 h3 (by simp; simp at hxl; omega)
      exact ⟨⟨k, n, b, s⟩, hc, hs⟩)
    exact ⟨some a, len, cap, V, rfl, hV.symm, by rw [hV]; have : maxLen = 9223372036854775807 := rfl; omega, hQ, hr⟩

set_option maxRecDepth 100000 in
theorem pars_read {v : Value} {y : DataW H × List MemPlace} (h : DataW.trod enc Try.prog w base spare held fuel 30 [v] = some y) : ∃ a n c P, v = .slice a n c ∧ Pr w w.heap.size a n P := by
  rcases open_slice Try.underlying30 h with ⟨hcs, _⟩ | ⟨a, len, cap, m, n', D, Pl, hcs, _, hl, hm, hmm, _, hi⟩
  · simp at hcs
    subst hcs
    exact ⟨none, 0, 0, [], rfl, rfl, by simp, .inl rfl⟩
  · simp at hcs
    subst hcs
    obtain ⟨P, hP, hQ, hr⟩ := rows_of (enc := encP) (sz := 9) encP_len (by omega) (w := w) (base := base) (len := len) (a := a) (Q := fun x => x.m.k.size ≤ 9223372036854775807 ∧ x.m.y.size ≤ 9223372036854775807 ∧ ∃ V, Vr w w.heap.size x.m.a x.m.n V) (fun i him => by
      obtain ⟨cs', hc, ht⟩ := hi i (by split at hmm <;> omega)
      rw [cellsP] at hc
      obtain ⟨xs, nf, _, _, hcl, hxl, hf⟩ := DataW.trod_struct Try.underlying79 ht
      rw [cellsP] at hcl
      obtain ⟨v0, v1, v2, v3, v4, v5, v6, v7, v8, rfl⟩ := len9 hcl
      have h0 := hf 0 _ rfl
      have h1 := hf 1 _ rfl
      have h2 := hf 2 _ rfl
      simp only [List.getElem_toArray, List.getElem_cons_zero, List.getElem_cons_succ, List.drop_zero, List.drop_succ_cons, List.take_succ_cons, List.take_zero, one_int, cellsM] at h0 h1 h2
      obtain ⟨fr, rfl⟩ := read_int Try.underlying3 h0 (by simp; simp at hxl; omega)
      obtain ⟨tt, rfl⟩ := read_int Try.underlying3 h1 (by simp; simp at hxl; omega)
      obtain ⟨x2, hx2⟩ : ∃ x2, xs[2]? = some x2 := ⟨xs[2]'(by simp at hxl; omega), List.getElem?_eq_getElem _⟩
      rw [hx2] at h2
      obtain ⟨zs, nz, _, _, _, hzl, hz⟩ := DataW.trod_struct Try.underlying47 h2
      have z0 := hz 0 _ rfl
      have z1 := hz 1 _ rfl
      have z2 := hz 2 _ rfl
      simp only [List.getElem_toArray, List.getElem_cons_zero, List.getElem_cons_succ, List.drop_zero, List.drop_succ_cons, List.take_succ_cons, List.take_zero, one_int, one_str, cellsE] at z0 z1 z2
      obtain ⟨p, rfl⟩ := read_int Try.underlying3 z0 (by simp; simp at hzl; omega)
      obtain ⟨k, rfl, hk⟩ := read_str Try.underlying9 z1 (by simp; simp at hzl; omega)
      obtain ⟨y2, hy2⟩ : ∃ y2, zs[2]? = some y2 := ⟨zs[2]'(by simp at hzl; omega), List.getElem?_eq_getElem _⟩
      rw [hy2] at z2
      obtain ⟨es, ne, _, _, _, hel, he⟩ := DataW.trod_struct Try.underlying45 z2
      have e0 := he 0 _ rfl
      have e1 := he 1 _ rfl
      have e2 := he 2 _ rfl
      have e3 := he 3 _ rfl
      have e4 := he 4 _ rfl
      simp only [List.getElem_toArray, List.getElem_cons_zero, List.getElem_cons_succ, List.drop_zero, List.drop_succ_cons, List.take_succ_cons, List.take_zero, one_int, one_str, one_vals] at e0 e1 e2 e3 e4
      obtain ⟨t, rfl⟩ := read_int Try.underlying3 e0 (by simp; simp at hel; omega)
      obtain ⟨s, rfl⟩ := read_int Try.underlying3 e1 (by simp; simp at hel; omega)
      obtain ⟨q, rfl⟩ := read_int Try.underlying3 e2 (by simp; simp at hel; omega)
      obtain ⟨u, rfl, hu⟩ := read_str Try.underlying9 e3 (by simp; simp at hel; omega)
      obtain ⟨x4, hx4⟩ : ∃ x4, es[4]? = some x4 := ⟨es[4]'(by simp at hel; omega), List.getElem?_eq_getElem _⟩
      rw [hx4] at e4
      obtain ⟨va, vn, vc, V, rfl, hV⟩ := vals_read e4
      exact ⟨⟨fr, tt, ⟨p, k, t, s, q, u, va, vn, vc⟩⟩, hc, hk, hu, V, hV⟩)
    refine ⟨some a, len, cap, P, rfl, hP.symm, by rw [hP]; have : maxLen = 9223372036854775807 := rfl; omega, hr.imp (fun e => e) ?_⟩
    rintro ⟨b, o, e, hb, hra⟩
    exact ⟨b, o, e, hb, fun i x hx => ⟨hra i x hx, hQ x (List.mem_of_getElem? hx)⟩⟩

set_option maxRecDepth 100000 in
theorem ops_read {v : Value} {y : DataW H × List MemPlace} (h : DataW.trod enc Try.prog w base spare held fuel 23 [v] = some y) : ∃ a n c ops, v = .slice a n c ∧ n ≤ 9223372036854775807 ∧ ops.length = n ∧ OpsIn w w.heap.size a ops := by
  rcases open_slice Try.underlying23 h with ⟨hcs, _⟩ | ⟨a, len, cap, m, n', D, Pl, hcs, _, hl, hm, hmm, _, hi⟩
  · simp at hcs
    subst hcs
    exact ⟨none, 0, 0, [], rfl, by omega, rfl, .inl rfl⟩
  · simp at hcs
    subst hcs
    obtain ⟨L, hL, hQ, hr⟩ := rows_of (enc := encO) (sz := 4) (fun _ => rfl) (by omega) (w := w) (base := base) (len := len) (a := a) (Q := fun x => ∃ P, Pr w w.heap.size x.s x.n P) (fun i him => by
      obtain ⟨cs', hc, ht⟩ := hi i (by split at hmm <;> omega)
      rw [cellsO] at hc
      obtain ⟨xs, nf, _, _, hcl, hxl, hf⟩ := DataW.trod_struct Try.underlying35 ht
      rw [cellsO] at hcl
      obtain ⟨v0, v1, v2, v3, rfl⟩ := len4 hcl
      have h0 := hf 0 _ rfl
      have h1 := hf 1 _ rfl
      have h2 := hf 2 _ rfl
      have h3 := hf 3 _ rfl
      simp only [List.getElem_toArray, List.getElem_cons_zero, List.getElem_cons_succ, List.drop_zero, List.drop_succ_cons, List.take_succ_cons, List.take_zero, one_bool, one_int, one_pars] at h0 h1 h2 h3
      obtain ⟨r, rfl⟩ := read_bool Try.underlying4 h0 (by simp; simp at hxl; omega)
      obtain ⟨p, rfl⟩ := read_int Try.underlying3 h1 (by simp; simp at hxl; omega)
      obtain ⟨q, rfl⟩ := read_int Try.underlying3 h2 (by simp; simp at hxl; omega)
      obtain ⟨x3, hx3⟩ : ∃ x3, xs[3]? = some x3 := ⟨xs[3]'(by simp at hxl; omega), List.getElem?_eq_getElem _⟩
      rw [hx3] at h3
      obtain ⟨sa, sn, sc, P, rfl, hP⟩ := pars_read h3
      exact ⟨⟨r, p, q, sa, sn, sc⟩, hc, P, hP⟩)
    refine ⟨some a, len, cap, L, rfl, by have : maxLen = 9223372036854775807 := rfl; omega, hL, hr.imp (fun e => e) ?_⟩
    rintro ⟨b, o, e, hb, hra⟩
    exact ⟨b, o, e, hb, fun i x hx => ⟨hra i x hx, hQ x (List.mem_of_getElem? hx)⟩⟩

theorem cells2 : Try.prog.cellsOf 22 = 2 := by kernel_rfl
end
end Go.Proofs.Ytakhmommcgfoaaa
