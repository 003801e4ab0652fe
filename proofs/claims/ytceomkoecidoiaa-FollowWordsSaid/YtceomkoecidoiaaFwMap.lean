/-
  The map of what was asked: its keys, its elements, what it holds.
-/
import Derived.Test.YtceomkoecidoiaaFwOver
import Derived.Maps.OwnSet
import Derived.DeepKeys4
namespace Go.Proofs.Ytceomkoecidoiaa
open Go.RowKit

theorem laidOutM : laidOutB Try.prog = true := by kernel_rfl
theorem ask_keyed : Maps.Keyed Try.prog 108 := Maps.Keyed.of_law (deep_law_laid laidOutM (m := 4) (by omega) (of_decide_eq_true (by kernel_rfl)) (by kernel_rfl) (by kernel_rfl))
def askV (a : Nat) (S : Nat → Bool) : Value := .agg #[.int .i64 a, .int .u64 (lo S), .int .u64 (hi S)]
theorem ask_type : Try.prog.keyType 108 = true := by kernel_rfl
theorem ask_formed (a x y : Int) : (Value.agg #[.int .i64 a, .int .u64 x, .int .u64 y]).formed Try.prog 108 = true := by kernel_rfl
theorem sz_types : ∃ n, Try.prog.types.size + 1 = n + 1 + 1 + 1 + 1 := ⟨Try.prog.types.size - 3, by have : 3 ≤ Try.prog.types.size := of_decide_eq_true (by kernel_rfl); omega⟩
theorem ask_lit (a : Nat) (ha : a ≤ 250) (S : Nat → Bool) : ∃ kl, keyOf Try.prog 108 (askV a S) = some kl := by
  unfold askV
  have w0 : (Lit.int .i64 (a : Int)).wf = true := by simp [Lit.wf, IntKind.min, IntKind.max, IntKind.signed, IntKind.bits]; omega
  have w1 : (Lit.int .u64 (lo S : Int)).wf = true := by have := lo_lt S; simp [Lit.wf, IntKind.min, IntKind.max, IntKind.signed, IntKind.bits]; omega
  have w2 : (Lit.int .u64 (hi S : Int)).wf = true := by have := hi_lt S; simp [Lit.wf, IntKind.min, IntKind.max, IntKind.signed, IntKind.bits]; omega
  generalize (a : Int) = a at *
  generalize (lo S : Int) = x at *
  generalize (hi S : Int) = y at *
  obtain ⟨n, hn⟩ := sz_types
  unfold keyOf
  rw [Try.underlying108]
  simp only [ask_type, ask_formed, Bool.and_self, if_true, hn]
  have c1 : Try.prog.cellsOf 3 = 1 := by kernel_rfl
  have c2 : Try.prog.cellsOf 89 = 2 := by kernel_rfl
  have c3 : Try.prog.cellsOf 87 = 1 := by kernel_rfl
  have c4 : Try.prog.cellsOf 108 = 3 := by kernel_rfl
  have e1 : Try.prog.keyLits (n + 1 + 1) 3 [.int .i64 a] = some [.int .i64 a] := by simp [Program.keyLits, Try.underlying3, w0]
  have e2 : Try.prog.keyLits (n + 1 + 1 + 1) 3 [.int .i64 a] = some [.int .i64 a] := by simp [Program.keyLits, Try.underlying3, w0]
  have e3 : ∀ z, (Lit.int .u64 z).wf = true → Try.prog.keyLits (n + 1 + 1) 87 [.int .u64 z] = some [.int .u64 z] := by intro z hz; simp [Program.keyLits, Try.underlying87, hz]
  have e4 : Try.prog.keyLits (n + 1 + 1 + 1) 89 [.int .u64 x, .int .u64 y] = some [.int .u64 x, .int .u64 y] := by
    unfold Program.keyLits
    rw [Try.underlying89]
    have r2 : List.range 2 = [0, 1] := rfl
    simp [c2, c3, r2, e3 x w1, e3 y w2]
  have e5 : ∃ ls, Try.prog.keyLits (n + 1 + 1 + 1 + 1) 108 (Value.agg #[.int .i64 a, .int .u64 x, .int .u64 y]).cells.toList = some ls := by
    unfold Program.keyLits
    rw [Try.underlying108]
    simp [Value.cells, c1, c2, c4, e2, e4]
  obtain ⟨ls, hls⟩ := e5
  rw [hls]
  exact ⟨_, rfl⟩
/-- how an element reads -/
def rdM : Value → Option (DataW Unit × List MemPlace)
  | .agg ⟨[.int .u64 x, .int .u64 y]⟩ => some (.agg [.lit (.int .u64 x), .lit (.int .u64 y)], [])
  | _ => none
def datM (S : Nat → Bool) : DataW Unit := .agg [.lit (.int .u64 (lo S)), .lit (.int .u64 (hi S))]
theorem rdM_mk (S : Nat → Bool) : rdM (mk S) = some (datM S, []) := rfl
theorem rdM_inv {v : Value} {d : DataW Unit} {ps : List MemPlace} (h : rdM v = some (d, ps)) : ∃ x y : Int, v = .agg #[.int .u64 x, .int .u64 y] ∧ d = .agg [.lit (.int .u64 x), .lit (.int .u64 y)] := by
  unfold rdM at h
  split at h
  · rename_i x y
    simp only [Option.some.injEq, Prod.mk.injEq] at h
    exact ⟨x, y, rfl, h.1.symm⟩
  · cases h
theorem zero_marks (w : World) : (zeroValue 89).run Try.prog w = .ok (.agg #[.int .u64 0, .int .u64 0]) w := by kernel_rfl
theorem rdM_zero : rdM (.agg #[.int .u64 0, .int .u64 0]) = some (.agg [.lit (.int .u64 0), .lit (.int .u64 0)], []) := rfl

theorem mk_inj {n : Nat} (hn : n ≤ 100) {S T : Nat → Bool} (hS : Upto n S) (hT : Upto n T) (h1 : lo S = lo T) (h2 : hi S = hi T) : S = T := by
  funext j
  by_cases c1 : j < 64
  · exact msk_inj h1 j c1
  · by_cases c2 : j < 128
    · have := msk_inj h2 (j - 64) (by omega)
      rwa [show 64 + (j - 64) = j by omega] at this
    · have hs : S j = false := by
        cases h : S j with
        | false => rfl
        | true => have := hS j h; omega
      have ht : T j = false := by
        cases h : T j with
        | false => rfl
        | true => have := hT j h; omega
      rw [hs, ht]
theorem askV_inj {n : Nat} (hn : n ≤ 100) {a b : Nat} {S T : Nat → Bool} (hS : Upto n S) (hT : Upto n T) (h : askV a S = askV b T) : a = b ∧ S = T := by
  unfold askV at h
  simp only [Value.agg.injEq, Array.mk.injEq, List.cons.injEq, Value.int.injEq, true_and, and_true] at h
  exact ⟨by omega, mk_inj hn hS hT (by omega) (by omega)⟩
theorem flat_inj : ∀ (t t' : Tr) (r r' : List (Int × Int)), t.flat ++ r = t'.flat ++ r' → t = t' ∧ r = r' := by
  intro t
  induction t with
  | eps p =>
    intro t' r r' h
    cases t' <;> simp [Tr.flat] at h
    exact ⟨by rw [h.1], h.2⟩
  | leaf p =>
    intro t' r r' h
    cases t' <;> simp [Tr.flat] at h
    exact ⟨by rw [h.1], h.2⟩
  | cat p a b iha ihb =>
    intro t' r r' h
    cases t' <;> simp [Tr.flat] at h
    obtain ⟨rfl, h⟩ := h
    obtain ⟨e1, h1⟩ := iha _ _ _ h
    obtain ⟨e2, h2⟩ := ihb _ _ _ h1
    exact ⟨by rw [e1, e2], h2⟩
  | alt p a b iha ihb =>
    intro t' r r' h
    cases t' <;> simp [Tr.flat] at h
    obtain ⟨rfl, h⟩ := h
    obtain ⟨e1, h1⟩ := iha _ _ _ h
    obtain ⟨e2, h2⟩ := ihb _ _ _ h1
    exact ⟨by rw [e1, e2], h2⟩
  | loop p a ih =>
    intro t' r r' h
    cases t' <;> simp [Tr.flat] at h
    obtain ⟨rfl, h⟩ := h
    obtain ⟨e1, h1⟩ := ih _ _ _ h
    exact ⟨by rw [e1], h1⟩

/-- what the map holds is what is told -/
def Memo (w : World) (M c : Nat) (N : List (Int × Int)) (n : Nat) (hit : Nat → Nat → Bool) : Prop :=
  ∃ D : DataW Unit, w.ownsMap Try.prog 108 rdM M c D ∧ ∀ (a : Nat) (S : Nat → Bool) (kl : Lit), a ≤ 250 → Upto n S → keyOf Try.prog 108 (askV a S) = some kl → Maps.has D kl = true →
    ∃ t rest, N.drop a = t.flat ++ rest ∧ ∀ z, D.atKey kl z = datM (sem n hit t S)
theorem Memo.fr {w w' : World} {M c : Nat} {N : List (Int × Int)} {n : Nat} {hit : Nat → Nat → Bool} (h : Memo w M c N n hit) (hF : Fr (fun _ => False) w w') : Memo w' M c N n hit := by
  obtain ⟨D, ⟨es, clock, hb, F, hs, hD⟩, hall⟩ := h
  exact ⟨D, ⟨es, clock, hF.heap hb (fun e => e), F, hs, hD⟩, hall⟩
theorem Memo.mono {w : World} {M c c' : Nat} {N : List (Int × Int)} {n : Nat} {hit : Nat → Nat → Bool} (h : Memo w M c N n hit) (hc : c ≤ c') : Memo w M c' N n hit := by
  obtain ⟨D, hD, hall⟩ := h
  exact ⟨D, hD.mono hc, hall⟩
theorem Memo.lt {w : World} {M c : Nat} {N : List (Int × Int)} {n : Nat} {hit : Nat → Nat → Bool} (h : Memo w M c N n hit) : M < w.heap.size := by
  obtain ⟨D, hD, _⟩ := h
  exact hD.lt
theorem memo_made (w : World) (N : List (Int × Int)) (n : Nat) (hit : Nat → Nat → Bool) : Memo (w.alloc (.map #[] 0)) w.heap.size 0 N n hit :=
  ⟨_, World.ownsMap_made w Try.prog 108 rdM, fun _ _ _ _ _ _ h => by cases h⟩
/-- what is asked of the map -/
theorem memo_look {w : World} {M c : Nat} {N : List (Int × Int)} {n : Nat} {hit : Nat → Nat → Bool} (h : Memo w M c N n hit) {a : Nat} (ha : a ≤ 250) {S : Nat → Bool} (hS : Upto n S) {t : Tr} {rest : List (Int × Int)} (hN : N.drop a = t.flat ++ rest) :
    ∃ (x y : Int) (b : Bool), (∀ w', Fr (fun _ => False) w w' → (Instr.lookup 84 (.map (some M)) (askV a S) true).run Try.prog w' = .ok (.tuple #[.agg #[.int .u64 x, .int .u64 y], .bool b]) w') ∧ (b = true → .agg #[.int .u64 x, .int .u64 y] = mk (sem n hit t S)) := by
  obtain ⟨kl, hkl⟩ := ask_lit a ha S
  obtain ⟨D, hD, hall⟩ := h
  obtain ⟨v, ps, hrun, hv⟩ := hD.look_ok ask_keyed Try.underlying84 (zero_marks w) rdM_zero hkl
  obtain ⟨x, y, rfl, hd⟩ := rdM_inv hv
  refine ⟨x, y, Maps.has D kl, fun w' hF => ?_, fun hh => ?_⟩
  · have hD' : w'.ownsMap Try.prog 108 rdM M c D := by
      obtain ⟨es, clock, hb, F, hs, hD⟩ := hD
      exact ⟨es, clock, hF.heap hb (fun e => e), F, hs, hD⟩
    obtain ⟨v', ps', hrun', hv'⟩ := hD'.look_ok ask_keyed Try.underlying84 (zero_marks w') rdM_zero hkl
    obtain ⟨x', y', rfl, hd'⟩ := rdM_inv hv'
    rw [hd] at hd'
    simp only [DataW.agg.injEq, List.cons.injEq, DataW.lit.injEq, Lit.int.injEq, true_and, and_true] at hd'
    rw [hrun', hd'.1, hd'.2]
  · obtain ⟨t', rest', hN', hat⟩ := hall a S kl ha hS hkl hh
    obtain ⟨rfl, _⟩ := flat_inj _ _ _ _ (hN.symm.trans hN')
    rw [hat] at hd
    unfold datM at hd
    simp only [DataW.agg.injEq, List.cons.injEq, DataW.lit.injEq, Lit.int.injEq, true_and, and_true] at hd
    unfold mk
    rw [hd.1, hd.2]
/-- what is put into the map -/
theorem memo_put {w : World} {M c : Nat} {N : List (Int × Int)} {n : Nat} (hn : n ≤ 100) {hit : Nat → Nat → Bool} (h : Memo w M c N n hit) (hc : c < 4611686018427387904) {a : Nat} (ha : a ≤ 250) {S : Nat → Bool} (hS : Upto n S) {t : Tr} {rest : List (Int × Int)} (hN : N.drop a = t.flat ++ rest) :
    ∃ w', (Instr.mapUpdate 84 (.map (some M)) (askV a S) (mk (sem n hit t S))).run Try.prog w = .ok () w' ∧ Memo w' M (c + 1) N n hit ∧ Fr (fun k => k = M) w w' := by
  obtain ⟨kl, hkl⟩ := ask_lit a ha S
  obtain ⟨D, hD, hall⟩ := h
  have hmap := hD.isMap
  obtain ⟨w', hrun, hD', hg⟩ := hD.update ask_keyed Try.underlying84 (by unfold maxLen; omega) hkl (rdM_mk (sem n hit t S))
  have hk := ask_keyed.key hkl
  refine ⟨w', hrun, ⟨_, hD', fun b T kl' hb hT hkl' hh => ?_⟩, (Fr.refl _ _).grown hg (fun k e _ => (Option.some.inj e).symm)⟩
  by_cases e : kl' = kl
  · subst e
    obtain ⟨rfl, rfl⟩ := askV_inj hn hT hS (ask_keyed.inj hkl' hkl)
    exact ⟨t, rest, hN, fun z => Maps.atKey_put_same hmap hk _ _⟩
  · rw [Maps.has_put_other e] at hh
    obtain ⟨t', rest', hN', hat⟩ := hall b T kl' hb hT hkl' hh
    exact ⟨t', rest', hN', fun z => by rw [Maps.atKey_put_other e]; exact hat z⟩
end Go.Proofs.Ytceomkoecidoiaa
