/-
  A core that came in: read out of the input's form.
-/
import Derived.Test.YtceomkoecidoiaaFolMain
import Derived.ProofKit
import Derived.Deep.Slices
import Derived.Deep.Fields
import Derived.ChangeSame
namespace Go.Proofs.Ytceomkoecidoiaa
open Go.ChangeShapes Go.WideShapes Go.ChangeAt Go.RowKit Go.Deep

theorem list_of_all {α : Type} {Q : Nat → α → Prop} (n : Nat) (h : ∀ i, i < n → ∃ a, Q i a) : ∃ L : List α, L.length = n ∧ ∀ i a, L[i]? = some a → Q i a := by
  induction n with
  | zero => exact ⟨[], rfl, fun i a h => by simp at h⟩
  | succ n ih =>
    obtain ⟨L, hl, hL⟩ := ih (fun i hi => h i (by omega))
    obtain ⟨a, ha⟩ := h n (by omega)
    refine ⟨L ++ [a], by simp [hl], fun i b hb => ?_⟩
    by_cases hi : i < n
    · exact hL i b (by rwa [List.getElem?_append_left (by omega)] at hb)
    · by_cases he : i = n
      · subst he
        rw [List.getElem?_append_right (by omega), hl, Nat.sub_self] at hb
        simp at hb
        exact hb ▸ ha
      · rw [List.getElem?_eq_none (by simp [hl]; omega)] at hb
        cases hb
theorem add_plain (g o n : Nat) : (⟨g, o, none⟩ : Addr).add n = ⟨g, o + n, none⟩ := by
  unfold Addr.add
  split
  · simp_all
  · rfl

section
variable {H : Type} {enc : TypeId × Value → H} {w : World} {base : Nat} {spare : Nat → Bool} {held : Bool} {fuel : Nat}

theorem cells2 : Try.prog.cellsOf 77 = 2 := by kernel_rfl
theorem cells4 : Try.prog.cellsOf 64 = 4 := by kernel_rfl
theorem cells8 : Try.prog.cellsOf 95 = 8 := by kernel_rfl
theorem cells5 : Try.prog.cellsOf 25 = 5 := by kernel_rfl
theorem cells10 : Try.prog.cellsOf 26 = 10 := by kernel_rfl
theorem cellsV : Try.prog.cellsOf 93 = 4 := by kernel_rfl
theorem one_u8 : Try.prog.cellsOf 5 = 1 := by kernel_rfl
theorem one_int : Try.prog.cellsOf 3 = 1 := by kernel_rfl
theorem one_u64 : Try.prog.cellsOf 87 = 1 := by kernel_rfl
theorem one_bool : Try.prog.cellsOf 4 = 1 := by kernel_rfl
theorem one_str : Try.prog.cellsOf 9 = 1 := by kernel_rfl
theorem one_tests : Try.prog.cellsOf 62 = 1 := by kernel_rfl
theorem one_nodes : Try.prog.cellsOf 22 = 1 := by kernel_rfl
theorem one_places : Try.prog.cellsOf 23 = 1 := by kernel_rfl

theorem read_int {t : TypeId} {k : IntKind} (ht : Try.prog.underlying t = some (.int k)) {v : Value} {y : Option (DataW H × List MemPlace)} (h : DataW.trod enc Try.prog w base spare held fuel t [v] = y) (hy : y.isSome = true) : ∃ n, v = .int k n := by
  obtain ⟨x, rfl⟩ := Option.isSome_iff_exists.1 hy
  obtain ⟨n, hv, _⟩ := DataW.trod_int ht h
  exact ⟨n, by simpa using hv⟩
theorem read_str {t : TypeId} (ht : Try.prog.underlying t = some .string) {v : Value} {y : Option (DataW H × List MemPlace)} (h : DataW.trod enc Try.prog w base spare held fuel t [v] = y) (hy : y.isSome = true) : ∃ s, v = .string s := by
  obtain ⟨x, rfl⟩ := Option.isSome_iff_exists.1 hy
  obtain ⟨s, hv, _⟩ := DataW.trod_string ht h
  exact ⟨s, by simpa using hv⟩
theorem read_bool {t : TypeId} (ht : Try.prog.underlying t = some .bool) {v : Value} {y : Option (DataW H × List MemPlace)} (h : DataW.trod enc Try.prog w base spare held fuel t [v] = y) (hy : y.isSome = true) : ∃ b, v = .bool b := by
  obtain ⟨x, rfl⟩ := Option.isSome_iff_exists.1 hy
  obtain ⟨b, hv, _⟩ := DataW.trod_bool ht h
  exact ⟨b, by simpa using hv⟩

theorem len2 {α : Type} {l : List α} (h : l.length = 2) : ∃ a b, l = [a, b] := by
  match l, h with
  | [a, b], _ => exact ⟨a, b, rfl⟩
theorem len4 {α : Type} {l : List α} (h : l.length = 4) : ∃ a b c d, l = [a, b, c, d] := by
  match l, h with
  | [a, b, c, d], _ => exact ⟨a, b, c, d, rfl⟩
theorem len5 {α : Type} {l : List α} (h : l.length = 5) : ∃ a b c d e, l = [a, b, c, d, e] := by
  match l, h with
  | [a, b, c, d, e], _ => exact ⟨a, b, c, d, e, rfl⟩
theorem len8 {α : Type} {l : List α} (h : l.length = 8) : ∃ a b c d e f g i, l = [a, b, c, d, e, f, g, i] := by
  match l, h with
  | [a, b, c, d, e, f, g, i], _ => exact ⟨a, b, c, d, e, f, g, i, rfl⟩

set_option maxRecDepth 100000 in
theorem node_read {n : Value} {y : DataW H × List MemPlace} (h : DataW.trod enc Try.prog w base spare held fuel 22 [n] = some y) : ∃ N, NodesAt w (fun _ => True) n N := by
  rcases open_slice Try.underlying22 h with ⟨hcs, _⟩ | ⟨a, len, cap, m, n', D, Pl, hcs, _, hl, hm, hmm, _, hi⟩
  · simp at hcs
    subst hcs
    exact ⟨[], none, 0, rfl, by simp, by omega, fun h => by simp at h⟩
  · simp at hcs
    subst hcs
    obtain ⟨N, hN, hNq⟩ := list_of_all (Q := fun i (x : Int × Int) => i < len ∧ w.cell? (a.add (i * 2 + 0)) = some (.int .u8 x.1) ∧ w.cell? (a.add (i * 2 + 1)) = some (.int .i64 x.2)) len (fun i him => by
      obtain ⟨cs', hc, ht⟩ := hi i (by split at hmm <;> omega)
      rw [cells2] at hc
      obtain ⟨_, hcl, hat⟩ := World.cells?_some hc
      obtain ⟨xs, nf, _, _, _, hxl, hf⟩ := DataW.trod_struct Try.underlying77 ht
      obtain ⟨v0, v1, rfl⟩ := len2 hcl
      have h0 := hf 0 _ rfl
      have h1 := hf 1 _ rfl
      simp only [List.getElem_toArray, List.getElem_cons_zero, List.getElem_cons_succ, List.drop_zero, List.drop_succ_cons, List.take_succ_cons, List.take_zero, one_u8, one_int] at h0 h1
      obtain ⟨k, rfl⟩ := read_int Try.underlying5 h0 (by simp; simp at hxl; omega)
      obtain ⟨p, rfl⟩ := read_int Try.underlying3 h1 (by simp; simp at hxl; omega)
      have c0 := hat 0 (by omega)
      have c1 := hat 1 (by omega)
      rw [Go.Deep.add_add] at c0 c1
      exact ⟨(k, p), him, c0, c1⟩)
    refine ⟨N, some a, cap, by rw [hN], by omega, by have : maxLen = 9223372036854775807 := rfl; omega, fun h0 => ?_⟩
    obtain ⟨x, hx⟩ : ∃ x, N[0]? = some x := ⟨N[0], List.getElem?_eq_getElem h0⟩
    obtain ⟨_, hz, _⟩ := hNq 0 x hx
    obtain ⟨g, o, sp⟩ := a
    have hs : sp = none := World.cell?_spot hz
    subst hs
    refine ⟨g, o, rfl, trivial, World.block_lt_of_cell? _ _ hz, fun i x hx => ?_⟩
    obtain ⟨_, c0, c1⟩ := hNq i x hx
    rw [add_plain] at c0 c1
    exact ⟨c0, by rw [Nat.add_assoc]; exact c1⟩

set_option maxRecDepth 100000 in
theorem test_read {n : Value} {y : DataW H × List MemPlace} (h : DataW.trod enc Try.prog w base spare held fuel 62 [n] = some y) : ∃ k, TestV w n k := by
  rcases open_slice Try.underlying62 h with ⟨hcs, _⟩ | ⟨a, len, cap, m, n', D, Pl, hcs, _, hl, hm, hmm, _, hi⟩
  · simp at hcs
    subst hcs
    exact ⟨0, none, 0, rfl, fun h => by omega⟩
  · simp at hcs
    subst hcs
    have key : ∀ j, j < len → ∃ (k op : Int) (va na : ByteArray) (vk vn vb : Int) (vt : ByteArray), w.cell? (a.add (j * 8 + 0)) = some (.int .u8 k) ∧ w.cell? (a.add (j * 8 + 1)) = some (.int .u8 op) ∧ w.cell? (a.add (j * 8 + 2)) = some (.string va) ∧ w.cell? (a.add (j * 8 + 3)) = some (.string na) ∧
        w.cell? (a.add (j * 8 + 4)) = some (.int .u8 vk) ∧ w.cell? (a.add (j * 8 + 5)) = some (.int .i64 vn) ∧ w.cell? (a.add (j * 8 + 6)) = some (.int .u64 vb) ∧ w.cell? (a.add (j * 8 + 7)) = some (.string vt) := fun j hj => by
      obtain ⟨cs', hc, ht⟩ := hi j (by split at hmm <;> omega)
      rw [cells8] at hc
      obtain ⟨_, hcl, hat⟩ := World.cells?_some hc
      obtain ⟨xs, nf, _, _, _, hxl, hf⟩ := DataW.trod_struct Try.underlying95 ht
      obtain ⟨v0, v1, v2, v3, v4, v5, v6, v7, rfl⟩ := len8 hcl
      have h0 := hf 0 _ rfl
      have h1 := hf 1 _ rfl
      have h2 := hf 2 _ rfl
      have h3 := hf 3 _ rfl
      have h4 := hf 4 _ rfl
      simp only [List.getElem_toArray, List.getElem_cons_zero, List.getElem_cons_succ, List.drop_zero, List.drop_succ_cons, List.take_succ_cons, List.take_zero, one_u8, one_str, cellsV] at h0 h1 h2 h3 h4
      obtain ⟨k, rfl⟩ := read_int Try.underlying5 h0 (by simp; simp at hxl; omega)
      obtain ⟨op, rfl⟩ := read_int Try.underlying5 h1 (by simp; simp at hxl; omega)
      obtain ⟨va, rfl⟩ := read_str Try.underlying9 h2 (by simp; simp at hxl; omega)
      obtain ⟨na, rfl⟩ := read_str Try.underlying9 h3 (by simp; simp at hxl; omega)
      obtain ⟨x4, hx4⟩ : ∃ x4, xs[4]? = some x4 := ⟨xs[4]'(by simp at hxl; omega), List.getElem?_eq_getElem _⟩
      rw [hx4] at h4
      obtain ⟨zs, nz, _, _, _, hzl, hz⟩ := DataW.trod_struct Try.underlying93 h4
      have z0 := hz 0 _ rfl
      have z1 := hz 1 _ rfl
      have z2 := hz 2 _ rfl
      have z3 := hz 3 _ rfl
      simp only [List.getElem_toArray, List.getElem_cons_zero, List.getElem_cons_succ, List.drop_zero, List.drop_succ_cons, List.take_succ_cons, List.take_zero, one_u8, one_str, one_int, one_u64] at z0 z1 z2 z3
      obtain ⟨vk, rfl⟩ := read_int Try.underlying5 z0 (by simp; simp at hzl; omega)
      obtain ⟨vn, rfl⟩ := read_int Try.underlying3 z1 (by simp; simp at hzl; omega)
      obtain ⟨vb, rfl⟩ := read_int Try.underlying87 z2 (by simp; simp at hzl; omega)
      obtain ⟨vt, rfl⟩ := read_str Try.underlying9 z3 (by simp; simp at hzl; omega)
      have q := hat
      simp only [Go.Deep.add_add] at q
      exact ⟨k, op, va, na, vk, vn, vb, vt, q 0 (by omega), q 1 (by omega), q 2 (by omega), q 3 (by omega), q 4 (by omega), q 5 (by omega), q 6 (by omega), q 7 (by omega)⟩
    refine ⟨len, some a, cap, rfl, fun h0 => ?_⟩
    obtain ⟨_, _, _, _, _, _, _, _, hz, _⟩ := key 0 h0
    obtain ⟨g, o, sp⟩ := a
    have hs : sp = none := World.cell?_spot hz
    subst hs
    refine ⟨g, o, rfl, World.block_lt_of_cell? _ _ hz, fun j hj => ⟨?_⟩⟩
    obtain ⟨k, op, va, na, vk, vn, vb, vt, c0, c1, c2, c3, c4, c5, c6, c7⟩ := key j hj
    rw [add_plain, ← Nat.add_assoc] at c0 c1 c2 c3 c4 c5 c6 c7
    exact ⟨k, op, va, na, vk, vn, vb, vt, c0, c1, c2, c3, c4, c5, c6, c7⟩

set_option maxRecDepth 100000 in
theorem place_read {n : Value} {y : DataW H × List MemPlace} (h : DataW.trod enc Try.prog w base spare held fuel 23 [n] = some y) : ∃ L, PlacesV w n L := by
  rcases open_slice Try.underlying23 h with ⟨hcs, _⟩ | ⟨a, len, cap, m, n', D, Pl, hcs, _, hl, hm, hmm, _, hi⟩
  · simp at hcs
    subst hcs
    exact ⟨[], none, 0, rfl, fun h => by simp at h⟩
  · simp at hcs
    subst hcs
    obtain ⟨L, hL, hLq⟩ := list_of_all (Q := fun i (tn : Nat) => i < len ∧ ∃ (ng : Bool) (va ty : ByteArray) (tv : Value), w.cell? (a.add (i * 4 + 0)) = some (.bool ng) ∧ w.cell? (a.add (i * 4 + 1)) = some (.string va) ∧ w.cell? (a.add (i * 4 + 2)) = some (.string ty) ∧ w.cell? (a.add (i * 4 + 3)) = some tv ∧ TestV w tv tn) len (fun i him => by
      obtain ⟨cs', hc, ht⟩ := hi i (by split at hmm <;> omega)
      rw [cells4] at hc
      obtain ⟨_, hcl, hat⟩ := World.cells?_some hc
      obtain ⟨xs, nf, _, _, _, hxl, hf⟩ := DataW.trod_struct Try.underlying64 ht
      obtain ⟨v0, v1, v2, v3, rfl⟩ := len4 hcl
      have h0 := hf 0 _ rfl
      have h1 := hf 1 _ rfl
      have h2 := hf 2 _ rfl
      have h3 := hf 3 _ rfl
      simp only [List.getElem_toArray, List.getElem_cons_zero, List.getElem_cons_succ, List.drop_zero, List.drop_succ_cons, List.take_succ_cons, List.take_zero, one_bool, one_str, one_tests] at h0 h1 h2 h3
      obtain ⟨ng, rfl⟩ := read_bool Try.underlying4 h0 (by simp; simp at hxl; omega)
      obtain ⟨va, rfl⟩ := read_str Try.underlying9 h1 (by simp; simp at hxl; omega)
      obtain ⟨ty, rfl⟩ := read_str Try.underlying9 h2 (by simp; simp at hxl; omega)
      obtain ⟨x3, hx3⟩ : ∃ x3, xs[3]? = some x3 := ⟨xs[3]'(by simp at hxl; omega), List.getElem?_eq_getElem _⟩
      rw [hx3] at h3
      obtain ⟨tn, hT⟩ := test_read h3
      have q := hat
      simp only [Go.Deep.add_add] at q
      exact ⟨tn, him, ng, va, ty, v3, q 0 (by omega), q 1 (by omega), q 2 (by omega), q 3 (by omega), hT⟩)
    refine ⟨L, some a, cap, by rw [hL], fun h0 => ?_⟩
    obtain ⟨x, hx⟩ : ∃ x, L[0]? = some x := ⟨L[0], List.getElem?_eq_getElem h0⟩
    obtain ⟨_, _, _, _, _, hz, _⟩ := hLq 0 x hx
    obtain ⟨g, o, sp⟩ := a
    have hs : sp = none := World.cell?_spot hz
    subst hs
    refine ⟨g, o, rfl, World.block_lt_of_cell? _ _ hz, fun i tn hi => ?_⟩
    obtain ⟨_, ng, va, ty, tv, c0, c1, c2, c3, hT⟩ := hLq i tn hi
    rw [add_plain, ← Nat.add_assoc] at c0 c1 c2 c3
    exact ⟨ng, va, ty, tv, c0, c1, c2, c3, hT⟩

set_option maxRecDepth 100000 in
theorem core_read {cs : List Value} {y : DataW H × List MemPlace} (hl : cs.length = 5) (h : DataW.trod enc Try.prog w base spare held fuel 25 cs = some y) :
    ∃ (n p : Value) (wi : Int) (bv : ByteArray) (mm : Int) (N : List (Int × Int)) (L : List Nat), cs = [n, p, .int .i64 wi, .string bv, .int .u8 mm] ∧ CoreIn w n p N L := by
  obtain ⟨xs, nf, _, _, _, hxl, hf⟩ := DataW.trod_struct Try.underlying25 h
  obtain ⟨v0, v1, v2, v3, v4, rfl⟩ := len5 hl
  have h0 := hf 0 _ rfl
  have h1 := hf 1 _ rfl
  have h2 := hf 2 _ rfl
  have h3 := hf 3 _ rfl
  have h4 := hf 4 _ rfl
  simp only [List.getElem_toArray, List.getElem_cons_zero, List.getElem_cons_succ, List.drop_zero, List.drop_succ_cons, List.take_succ_cons, List.take_zero, one_u8, one_str, one_int, one_nodes, one_places] at h0 h1 h2 h3 h4
  obtain ⟨wi, rfl⟩ := read_int Try.underlying3 h2 (by simp; simp at hxl; omega)
  obtain ⟨bv, rfl⟩ := read_str Try.underlying9 h3 (by simp; simp at hxl; omega)
  obtain ⟨mm, rfl⟩ := read_int Try.underlying5 h4 (by simp; simp at hxl; omega)
  obtain ⟨x0, hx0⟩ : ∃ x0, xs[0]? = some x0 := ⟨xs[0]'(by simp at hxl; omega), List.getElem?_eq_getElem _⟩
  obtain ⟨x1, hx1⟩ : ∃ x1, xs[1]? = some x1 := ⟨xs[1]'(by simp at hxl; omega), List.getElem?_eq_getElem _⟩
  rw [hx0] at h0
  rw [hx1] at h1
  obtain ⟨N, hN⟩ := node_read h0
  obtain ⟨L, hL⟩ := place_read h1
  exact ⟨v0, v1, wi, bv, mm, N, L, rfl, hN, hL⟩
end
end Go.Proofs.Ytceomkoecidoiaa
