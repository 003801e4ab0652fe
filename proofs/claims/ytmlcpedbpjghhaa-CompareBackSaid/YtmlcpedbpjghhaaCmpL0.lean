/-
  What the laws' walks share: short texts; a value that came in; a post behind a world that is as it was below.
-/
import Derived.Test.YtmlcpedbpjghhaaCmpA1
import Derived.ProofKit
import Derived.ChangeSame
import Derived.ShutString
import Derived.Lib.SmallJoins
import Derived.Deep.Fields
namespace Go.Proofs.Ytmlcpedbpjghhaa
open Go.ChangeShapes Go.WideShapes Go.ChangeAt Go.RowKit Go.Deep Go.Joins

/-- by how much a text is longer than one may be -/
def smallN (s : ByteArray) : Int := max 0 ((s.size : Int) - 100)
theorem small_v (k n : Int) (u : Nat) (s : ByteArray) (hs : s.size ≤ 9223372036854775807) (w : World) : Calls Try.prog 8 #[V k n u s] w fun e w' => e = .returned (.int .i64 (smallN s)) ∧ Below w.heap.size w w' := by
  have H : Hid (smallN s = max 0 ((s.size : Int) - 100)) := Lib.hid rfl
  unfold V
  go_enter Try.func8, Try.ntmps8
  go_wp2
  all_goals go_ret
  all_goals exact ⟨retI (by rw [H.out]; omega), one_box _ _⟩
theorem small_dec (s : ByteArray) : decide (0 < smallN s) = decide ((100 : Int) < s.size) := by
  unfold smallN
  rw [decide_eq_decide]
  omega
theorem two_aw (w : World) (T T' : TypeId) (k n : Int) (u : Nat) (s : ByteArray) (k' n' : Int) (u' : Nat) (s' : ByteArray) :
    Aw w ((w.alloc (.cells #[.int .u8 k, .int .i64 n, .int .u64 u, .string s] T)).alloc (.cells #[.int .u8 k', .int .i64 n', .int .u64 u', .string s'] T')) w.heap.size k n u s ∧
    Aw w ((w.alloc (.cells #[.int .u8 k, .int .i64 n, .int .u64 u, .string s] T)).alloc (.cells #[.int .u8 k', .int .i64 n', .int .u64 u', .string s'] T')) (w.heap.size + 1) k' n' u' s' :=
  have h := box_two w T T' k n u s k' n' u' s'
  ⟨⟨two_boxes _ _ _, h.1, by simp; omega, by simp; omega⟩, ⟨two_boxes _ _ _, h.2, by simp, by simp; omega⟩⟩

theorem aw_new {w W : World} {p : Nat} {k n : Int} {u : Nat} {s : ByteArray} (h : Aw w W p k n u s) (T : TypeId) (k' n' : Int) (u' : Nat) (s' : ByteArray) : Aw w (W.alloc (.cells #[.int .u8 k', .int .i64 n', .int .u64 u', .string s'] T)) W.heap.size k' n' u' s' :=
  ⟨h.1.trans ((one_box _ _).mono h.2.2.2), box_new W T k' n' u' s', by simp, by have := h.2.2.2; simp; omega⟩
theorem eql_R (k n u k' n' u' : Int) (s s' : ByteArray) (w : World) : (binOp .eql 24 (.agg #[.int .u8 k, .int .i64 n, .int .u64 u, .string s]) (.agg #[.int .u8 k', .int .i64 n', .int .u64 u', .string s'])).run Try.prog w = .ok (.bool (k == k' && n == n' && u == u' && s.toList == s'.toList)) w := by
  simp only [binOp]
  simp [Op.equal, Op.maxDepth, run_equalIn_struct (P := Try.prog) w 9999 24 _ _ (by rfl) (by kernel_rfl), go_sem]
  by_cases h1 : k = k' <;> by_cases h2 : n = n' <;> by_cases h3 : u = u' <;> by_cases h4 : s.toList = s'.toList <;> simp [h1, h2, h3, h4]
theorem plus_vals (k n : Int) (u : Nat) (s : ByteArray) (k' n' : Int) (u' : Nat) (s' : ByteArray) : ∃ (a m : Int) (x : Nat) (t : ByteArray) (b : Bool), plusV k n u s k' n' u' s' = .tuple #[V a m x t, .bool b] := by
  unfold plusV wsumV realV noneV
  split
  · split
    · exact ⟨_, _, _, _, _, rfl⟩
    · exact ⟨_, _, _, _, _, rfl⟩
  · exact ⟨_, _, _, _, _, rfl⟩
theorem minus_vals (k n : Int) (u : Nat) (s : ByteArray) (k' n' : Int) (u' : Nat) (s' : ByteArray) : ∃ (a m : Int) (x : Nat) (t : ByteArray) (b : Bool), minusV k n u s k' n' u' s' = .tuple #[V a m x t, .bool b] := by
  unfold minusV wsumV realV noneV
  split
  · split
    · exact ⟨_, _, _, _, _, rfl⟩
    · exact ⟨_, _, _, _, _, rfl⟩
  · exact ⟨_, _, _, _, _, rfl⟩

/-- what is asked of a value that came in -/
def Came (n : Int) (u : Nat) (s : ByteArray) : Prop := (-9223372036854775808 ≤ n ∧ n ≤ 9223372036854775807) ∧ u < 18446744073709551616 ∧ s.size ≤ 9223372036854775807
section
variable {H : Type} {enc : TypeId × Value → H} {w : World} {base : Nat} {spare : Nat → Bool} {held : Bool}
theorem cells_V : Try.prog.cellsOf 24 = 4 := by kernel_rfl
theorem value_read {r : Reach} {b0 : Nat} {v : Value} {d : DataW H} {p : List MemPlace} (hv : Value.okWide Try.prog w r b0 24 v) (h : DataW.Trod enc Try.prog w base spare held 24 v d p) : ∃ (k n : Int) (u : Nat) (s : ByteArray), v = V k n u s ∧ Came n u s := by
  obtain ⟨v0, v1, v2, v3, y0, y1, y2, y3, m, rfl, _, _, h0, h1, h2, h3⟩ := open_agg4 Try.underlying24 (by kernel_rfl) cells_V hv h
  obtain ⟨k, hk, _, _⟩ := DataW.trod_int Try.underlying5 h0
  obtain ⟨n, hn, _, wn⟩ := DataW.trod_int Try.underlying3 h1
  obtain ⟨u, hu, _, wu⟩ := DataW.trod_int Try.underlying22 h2
  obtain ⟨s, hs, _, ws⟩ := DataW.trod_string Try.underlying9 h3
  have bn : -9223372036854775808 ≤ n ∧ n ≤ 9223372036854775807 := by simpa [Lit.wf, IntKind.min, IntKind.max, IntKind.signed, IntKind.bits] using wn
  have bu : 0 ≤ u ∧ u ≤ 18446744073709551615 := by simpa [Lit.wf, IntKind.min, IntKind.max, IntKind.signed, IntKind.bits] using wu
  obtain ⟨x, rfl⟩ : ∃ x : Nat, u = x := ⟨u.toNat, by omega⟩
  simp only [List.cons.injEq, and_true] at hk hn hu hs
  subst hk hn hu hs
  unfold maxLen at ws
  exact ⟨k, n, x, s, rfl, bn, by omega, by omega⟩
end
section
variable {H : Type} {enc : TypeId × Value → H} {P : Program}
theorem post_of_below {f : Func} {s : ChangeSpec} {apart fresh handsOn again : Bool} {W W' : World} {args : Array Value} {v : Value} {ds gs : List (DataW H)} {before pa pv : List MemPlace}
    (hW : DataW.Whole enc P f.params.toList s.vars apart W args.toList ds gs before)
    (hres : ∀ (b : Nat) (sp : Nat → Bool) (hd : Bool), DataW.TrodAll enc P W' b sp hd f.resultTypes.toList (v.resultList f.resultTypes.size) (s.fn H (ds ++ gs)).results [])
    (hargs : ∀ sp : Nat → Bool, (∀ p ∈ before, sp p.block = true) → DataW.TrodAll enc P W' 0 sp true f.params.toList args.toList (s.fn H (ds ++ gs)).args pa)
    (hvars : ∀ sp : Nat → Bool, (∀ p ∈ before, sp p.block = true) → DataW.TrodVars enc P W' sp s.vars (s.fn H (ds ++ gs)).vars pv)
    (hps : before = pa ++ pv) (hb : Below W.heap.size W W')
    (hok : ∀ (j : Nat) (t : TypeId) (r : Value), f.resultTypes[j]? = some t → (v.resultList f.resultTypes.size)[j]? = some r → Value.okWide P W' .any 0 t r) :
    s.post enc P f apart fresh handsOn again W args v W' := by
  have hlt : ∀ p ∈ before, p.block < W.heap.size := fun p hp => hW.lt p hp
  have hold : ∀ p ∈ before, (fun b => decide (b < W.heap.size)) p.block = true := fun p hp => by simpa using hlt p hp
  refine ⟨ds, gs, before, [], pa, pv, hW, hres _ _ _, hargs _ hold, hvars _ hold, World.keptBut_mono (fun p hp => ⟨hp, ?_⟩) (hb.frame (· ∈ before)), fun _ => ?_⟩
  · rw [hps, List.mem_append] at hp
    exact Or.inr hp
  · obtain ⟨_, _, _, _, _, hz, hn⟩ := hW
    refine ⟨hok, _, _, ([] ++ pa) ++ pv, ⟨[] ++ pa, pv, trodAll_append (hargs _ (fun _ _ => rfl)) (hres _ _ _), hvars _ (fun _ _ => rfl), rfl, ?_, ?_⟩, ?_⟩
    · intro b off hp
      have hin : MemPlace.cell b off ∈ before := by rw [hps]; simpa using hp
      rw [hb.frozen (hlt _ hin)]
      exact hz b off hin
    · intro ha
      have := hn ha
      rw [hps] at this
      simpa using this
    · intro p hp _
      rw [hps]
      simpa using hp
end
theorem Try.own : ownKnob Try.prog.godebug = none := by kernel_rfl
theorem Try.laidOut : laidOutB Try.prog = true := by kernel_rfl
end Go.Proofs.Ytmlcpedbpjghhaa
