/-
  Values of four cells; slices.Equal of alike values, walked.
-/
import Derived.Test.YtakhmommcgfoaaaMeR2
import Derived.Laws.StructEq
namespace Go.Proofs.Ytakhmommcgfoaaa
open Go.RowKit

/-- a value: its four cells -/
structure Vl where
  k : Int
  n : Int
  b : Int
  s : ByteArray
deriving Inhabited
def encV (x : Vl) : List Value := [.int .u8 x.k, .int .i64 x.n, .int .u64 x.b, .string x.s]
def valV (x : Vl) : Value := .agg (encV x).toArray
theorem encV_len (x : Vl) : (encV x).length = 4 := rfl
theorem encV_size (x : Vl) : (encV x).toArray.size = 4 := rfl
theorem encV_one (x : Vl) : ∀ v ∈ encV x, v.oneCell' = true := by
  intro v hv
  simp only [encV, List.mem_cons, List.not_mem_nil, or_false] at hv
  rcases hv with rfl | rfl | rfl | rfl <;> rfl
theorem flatV_one (zs : List Vl) : ∀ v ∈ zs.flatMap encV, v.oneCell' = true := by
  intro v hv
  obtain ⟨m, _, h⟩ := List.mem_flatMap.1 hv
  exact encV_one m v h
theorem run_ldV (ρ : Operand → Value) (dst : Option Tmp) (x : Operand) (ty : TypeId) (pos : String) (after : Array Edge) (guard : Option (Nat × Bool)) (w : World) :
    (execOp ρ { dst, op := .load 103 x, type := ty, pos, after, guard }).run Try.prog w = ld 103 (ρ x) w := rfl
theorem run_ldW (ρ : Operand → Value) (dst : Option Tmp) (x : Operand) (ty : TypeId) (pos : String) (after : Array Edge) (guard : Option (Nat × Bool)) (w : World) :
    (execOp ρ { dst, op := .load 101 x, type := ty, pos, after, guard }).run Try.prog w = ld 101 (ρ x) w := rfl
theorem ld_val {w : World} {b o : Nat} {x : Vl} (h : w.rangeAt b o (encV x)) : ld 103 (.pointer (some ⟨b, o, none⟩)) w = .ok (.value (valV x)) w := by
  have := run_loadAt_mid (P := Try.prog) w b o 103 (encV x) _ h Try.underlying103 rfl (by rw [encV_len]; kernel_rfl)
  simp only [ld, Sem.run_bind, this, Result.andThen_ok, Sem.run_pure]
  rfl
theorem ld_rval {w : World} {b o : Nat} {x : Vl} (h : w.rangeAt b o (encV x)) : ld 101 (.pointer (some ⟨b, o, none⟩)) w = .ok (.value (valV x)) w := by
  have := run_loadAt_mid (P := Try.prog) w b o 101 (encV x) _ h Try.underlying101 rfl (by rw [encV_len]; kernel_rfl)
  simp only [ld, Sem.run_bind, this, Result.andThen_ok, Sem.run_pure]
  rfl

theorem cells_of_val {w : World} {b o : Nat} {x : Vl} (h : w.rangeAt b o (encV x)) : w.cell? ⟨b, o, none⟩ = some (.int .u8 x.k) ∧ w.cell? ⟨b, o + 1, none⟩ = some (.int .i64 x.n) ∧ w.cell? ⟨b, o + 2, none⟩ = some (.int .u64 x.b) ∧ w.cell? ⟨b, o + 3, none⟩ = some (.string x.s) :=
  ⟨h 0 _ rfl, h 1 _ rfl, h 2 _ rfl, h 3 _ rfl⟩
/-- the slice (a, n) holds the values V, in a block that is not among F -/
def Va (w : World) (F : Nat → Prop) (a : Option Addr) (n : Nat) (V : List Vl) : Prop :=
  n = V.length ∧ V.length ≤ 12 ∧ (V = [] ∨ ∃ b o, a = some ⟨b, o, none⟩ ∧ ¬ F b ∧ ∀ i v, V[i]? = some v → w.rangeAt b (o + i * 4) (encV v))
theorem Va.fr {w w' : World} {F T : Nat → Prop} {a : Option Addr} {n : Nat} {V : List Vl} (h : Va w F a n V) (hf : Fr T w w') (hT : ∀ i, T i → F i) : Va w' F a n V := by
  obtain ⟨h1, h2, h3⟩ := h
  refine ⟨h1, h2, h3.imp (fun e => e) ?_⟩
  rintro ⟨b, o, e, hb, hr⟩
  exact ⟨b, o, e, hb, fun i v hi j c hc => hf.cell (hr i v hi j c hc) (fun hx => hb (hT _ hx))⟩
theorem Va.no {w w' : World} {F : Nat → Prop} {a : Option Addr} {n : Nat} {V : List Vl} (h : Va w F a n V) (hf : Fr (fun _ => False) w w') : Va w' F a n V := h.fr hf (fun _ e => e.elim)
theorem Va.of {w : World} {F F' : Nat → Prop} {a : Option Addr} {n : Nat} {V : List Vl} (h : Va w F a n V) (hF : ∀ i, F' i → i < w.heap.size → F i) : Va w F' a n V := by
  obtain ⟨h1, h2, h3⟩ := h
  refine ⟨h1, h2, ?_⟩
  rcases h3 with rfl | ⟨b, o, e, hb, hr⟩
  · exact .inl rfl
  · cases V with
    | nil => exact .inl rfl
    | cons v V =>
      refine .inr ⟨b, o, e, fun hx => hb (hF b hx ?_), hr⟩
      have := hr 0 v rfl 0 _ rfl
      exact World.block_lt_of_cell? _ _ this

theorem sequal_ok {w : World} {F G : Nat → Prop} {a c : Option Addr} {n m k l : Nat} {V : List Vl} (h : Va w F a n V) (h2 : Va w G c m V) :
    Calls Try.prog 45 #[.slice a n k, .slice c m l] w fun e w' => e = .returned (.bool true) ∧ ∃ m, w' = w.drewN m := by
  obtain ⟨rfl, hl, h3⟩ := h
  obtain ⟨rfl, _, h4⟩ := h2
  have H3 := hid h3
  have H4 := hid h4
  clear h3 h4
  go_enter Try.func45, Try.ntmps45
  go_wp2_with fail
  go_loopw [13] (fun i wr => ∃ j : Nat, j ≤ V.length ∧ i = .int .i64 j ∧ ∃ m, wr = w.drewN m) (fun i _ => V.length - (intOf i).toNat)
  case atStart => exact ⟨0, Nat.zero_le _, rfl, 0, rfl⟩
  case round =>
    obtain ⟨j, hj, rfl, m, rfl⟩ := hrel
    by_cases hjn : j < V.length
    · obtain ⟨x, hx⟩ : ∃ x, V[j]? = some x := ⟨V[j], by simp [hjn]⟩
      obtain ⟨b, o, rfl, _, hr⟩ := H3.out.resolve_left (fun e => by subst e; simp at hx)
      obtain ⟨b', o', rfl, _, hr'⟩ := H4.out.resolve_left (fun e => by subst e; simp at hx)
      obtain ⟨a0, a1, a2, a3⟩ := cells_of_val (hr j x hx)
      obtain ⟨b0, b1, b2, b3⟩ := cells_of_val (hr' j x hx)
      clear hx hr hr'
      have hjb : (j : Int) < (V.length : Int) := by omega
      go_wp2_with fail
      go_quiet (fail)
      go_wp2_with fail
      go_roundw
      case rel => exact ⟨j + 1, by omega, by go_num, _, rfl⟩
      case measure => simp [intOf]; omega
    · obtain rfl : j = V.length := by omega
      go_wp2_with fail
      go_ret
      exact ⟨rfl, _, rfl⟩

end Go.Proofs.Ytakhmommcgfoaaa
