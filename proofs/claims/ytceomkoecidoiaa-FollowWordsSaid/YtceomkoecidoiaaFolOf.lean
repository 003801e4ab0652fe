/-
  The document's sets of a tree, walked.
-/
import Derived.Test.YtceomkoecidoiaaFolSets
import Derived.Test.YtceomkoecidoiaaFolW1
import Derived.Deep.WholeRow
namespace Go.Proofs.Ytceomkoecidoiaa
open Go.RowKit

def coreV (nv : Value) (pa : Option Addr) (P pc : Nat) (wi : Int) (bv : ByteArray) (mm : Int) : Value := .agg #[nv, .slice pa P pc, .int .i64 wi, .string bv, .int .u8 mm]

structure OfDone (w w' : World) (e : Ending) (P : Nat) (t : Tr) (g : Nat) : Prop where
  res : e = .returned (setsV t.null t.first t.last (.slice (some ⟨g, 0, none⟩) P P))
  new : w.heap.size ≤ g
  rows : RowsB w' g P t.next
  fr : Fr (fun _ => False) w w'

def OfSaid (t : Tr) : Prop := ∀ (w : World) (ok : Nat → Prop) (nv : Value) (pa : Option Addr) (P pc : Nat) (wi : Int) (bv : ByteArray) (mm : Int) (N : List (Int × Int)) (a : Nat) (rest : List (Int × Int)),
  NodesAt w ok nv N → N.drop a = t.flat ++ rest → N.length ≤ 250 → P ≤ 24 → (∀ p ∈ t.leaves, 0 ≤ p ∧ p < P) →
  Calls Try.prog 25 #[coreV nv pa P pc wi bv mm, .int .i64 a] w fun e w' => ∃ g, OfDone w w' e P t g

theorem run_ld25 (ρ : Operand → Value) (dst : Option Tmp) (x : Operand) (ty : TypeId) (pos : String) (after : Array Edge) (guard : Option (Nat × Bool)) (w : World) :
    (execOp ρ { dst, op := .load 25 x, type := ty, pos, after, guard }).run Try.prog w = ld 25 (ρ x) w := rfl
theorem ld_core {w : World} {b : Nat} {kv : Array Value} (h : w.heap[b]? = some (.cells kv 25 (0, 0))) (hk : kv.size = 5) : ld 25 (.pointer (some ⟨b, 0, none⟩)) w = .ok (.value (.agg kv)) w := by
  have e : (kv.extract 0 (0 + 5)).toList = kv.toList := by rw [show 0 + 5 = kv.size by omega, Array.extract_size]
  have hr := World.rangeAt_of_block h 0 5
  rw [e] at hr
  have := run_loadAt_mid (P := Try.prog) w b 0 25 kv.toList _ hr Try.underlying25 rfl (by rw [Array.length_toList, hk]; kernel_rfl)
  simp only [ld, Sem.run_bind, this, Result.andThen_ok, Sem.run_pure]

attribute [local go_sem ↓] run_ld42 run_st42 run_ld45 run_st45 run_ld25

theorem zero_sets : ∃ C : Array Value, C.size = 66 ∧ (∀ w, (zeroValue 45).run Try.prog w = .ok (.agg C) w) ∧ ∀ v, C.setIfInBounds 65 v = (setsC false (fun _ => false) (fun _ => false) v).toArray :=
  ⟨(setsC false (fun _ => false) (fun _ => false) (.slice none 0 0)).toArray, by rw [List.size_toArray, setsC_len], (zero_of_info (P := Try.prog) (t := 45) (n := 66) (by kernel_rfl)).1, fun v => by
    apply Array.ext_getElem?
    intro i
    rw [Array.getElem?_setIfInBounds]
    simp only [List.getElem?_toArray, setsC_get, List.size_toArray, setsC_len]
    by_cases h : 65 = i
    · subst h; simp
    · have h' : ¬ i = 65 := fun e => h e.symm
      simp only [h, h', if_false]⟩

attribute [local go_sem ↓] run_ld42 run_st42 run_ld45 run_st45

theorem Fr.one {w : World} (b i : Nat) (u : Value) : Fr (fun k => k = b) w (w.setCell ⟨b, i, none⟩ u) := (Fr.refl (fun k => k = b) w).setCell (p := ⟨b, i, none⟩) (fun _ => rfl) u
theorem Fr.many {w : World} (b i : Nat) (vs : List Value) : Fr (fun k => k = b) w (w.setCells b i vs) := Fr.setCells (S := fun k => k = b) (fun _ => rfl) vs i (Fr.refl (fun k => k = b) w)
theorem Fr.quiet {S : Nat → Prop} {w w' : World} (h : Fr (fun _ => False) w w') : Fr S w w' := h.mono (fun _ _ e => e.elim)

/-- what the walk of a tree holds: the core, the result's block, the node, the rows, the sets -/
structure OfSt (w w3 : World) (kv : Array Value) (k r m g s P : Nat) (K p : Int) (n : Bool) (f l : Nat → Bool) (F : Nat → Nat → Bool) : Prop where
  core : w3.heap[k]? = some (.cells kv 25 (0, 0))
  res : Blk66 w3 r
  node : w3.heap[m]? = some (.cells #[.int .u8 K, .int .i64 p] 77 (0, 0))
  rows : RowsB w3 g P F
  sets : SetsB w3 s n f l (.slice (some ⟨g, 0, none⟩) P P)
  fr : Fr (fun _ => False) w w3
  lt : w.heap.size ≤ k ∧ k < r ∧ r < m ∧ m < g ∧ g < s

theorem OfSt.moveS {w w3 w4 : World} {kv : Array Value} {k r m g s P : Nat} {K p : Int} {n n' : Bool} {f l f' l' : Nat → Bool} {F : Nat → Nat → Bool} (h : OfSt w w3 kv k r m g s P K p n f l F)
    (hF : Fr (fun j => j = s) w3 w4) (hS : SetsB w4 s n' f' l' (.slice (some ⟨g, 0, none⟩) P P)) : OfSt w w4 kv k r m g s P K p n' f' l' F := by
  have := h.lt
  exact ⟨hF.heap h.core (by omega), h.res.fr hF (by omega), hF.heap h.node (by omega), h.rows.fr hF (by omega), hS, h.fr.trans hF (fun _ e => e) (fun _ _ e => by omega), h.lt⟩
theorem OfSt.moveG {w w3 w4 : World} {kv : Array Value} {k r m g s P : Nat} {K p : Int} {n : Bool} {f l : Nat → Bool} {F F' : Nat → Nat → Bool} (h : OfSt w w3 kv k r m g s P K p n f l F)
    (hF : Fr (fun j => j = g) w3 w4) (hG : RowsB w4 g P F') : OfSt w w4 kv k r m g s P K p n f l F' := by
  have := h.lt
  exact ⟨hF.heap h.core (by omega), h.res.fr hF (by omega), hF.heap h.node (by omega), hG, h.sets.fr hF (by omega), h.fr.trans hF (fun _ e => e) (fun _ _ e => by omega), h.lt⟩
theorem OfSt.moveN {w w3 w4 : World} {kv : Array Value} {k r m g s P : Nat} {K p : Int} {n : Bool} {f l : Nat → Bool} {F : Nat → Nat → Bool} (h : OfSt w w3 kv k r m g s P K p n f l F)
    (hF : Fr (fun _ => False) w3 w4) : OfSt w w4 kv k r m g s P K p n f l F :=
  ⟨hF.heap h.core (fun e => e), h.res.fr hF (fun e => e), hF.heap h.node (fun e => e), h.rows.fr hF (fun e => e), h.sets.fr hF (fun e => e), h.fr.trans hF (fun _ e => e) (fun _ _ e => e), h.lt⟩

theorem OfSt.done {w w3 : World} {kv : Array Value} {k r m g s P : Nat} {K p : Int} {t : Tr} {n : Bool} {f l : Nat → Bool} {F : Nat → Nat → Bool} (h : OfSt w w3 kv k r m g s P K p n f l F)
    (hn : n = t.null) (hf : ∀ i, i < 32 → f i = t.first i) (hl : ∀ i, i < 32 → l i = t.last i) (hF : ∀ i, i < P → F i = t.next i) :
    OfDone w (w3.setCells r 0 (setsC n f l (.slice (some ⟨g, 0, none⟩) P P))) (.returned (setsV n f l (.slice (some ⟨g, 0, none⟩) P P))) P t g := by
  have hlt := h.lt
  refine ⟨?_, by omega, (h.rows.fr (Fr.many r 0 _) (by omega)).congr hF, Fr.setCells (by omega) _ _ h.fr⟩
  subst hn
  have : setsC t.null f l (.slice (some ⟨g, 0, none⟩) P P) = setsC t.null t.first t.last (.slice (some ⟨g, 0, none⟩) P P) := by simp only [setsC, bs_congr hf, bs_congr hl]
  simp only [setsV, this]

theorem OfSt.result {w w3 : World} {kv : Array Value} {k r m g s P : Nat} {K p : Int} {n : Bool} {f l : Nat → Bool} {F : Nat → Nat → Bool} (h : OfSt w w3 kv k r m g s P K p n f l F) (tmps : Array Value)
    (ht : tmps.getD 4 undef = .pointer (some ⟨r, 0, none⟩)) :
    (results Try.f25 tmps).run Try.prog (w3.setCells r 0 (setsC n f l (.slice (some ⟨g, 0, none⟩) P P))) = .ok (setsV n f l (.slice (some ⟨g, 0, none⟩) P P)) (w3.setCells r 0 (setsC n f l (.slice (some ⟨g, 0, none⟩) P P))) :=
  results_one Try.results25 _ _ ht (run_loadVar_mid (P := Try.prog) _ _ 0 45 _ _ (h.res.put n f l _).at_ Try.underlying45 rfl (by rw [setsC_len]; kernel_rfl))

/-- a kid's sets, laid in a block of their own -/
structure KidB (w3 : World) (s P a ga : Nat) (x : Tr) : Prop where
  sets : SetsB w3 a x.null x.first x.last (.slice (some ⟨ga, 0, none⟩) P P)
  rows : RowsB w3 ga P x.next
  lt : s < a ∧ s < ga
theorem KidB.fr {S : Nat → Prop} {w3 w4 : World} {s P a ga : Nat} {x : Tr} (h : KidB w3 s P a ga x) (hF : Fr S w3 w4) (hS : ∀ j, S j → j ≤ s) : KidB w4 s P a ga x :=
  ⟨h.sets.fr hF (fun e => by have := hS _ e; have := h.lt; omega), h.rows.fr hF (fun e => by have := hS _ e; have := h.lt; omega), h.lt⟩
theorem KidB.fr' {S : Nat → Prop} {w3 w4 : World} {s P a ga : Nat} {x : Tr} (h : KidB w3 s P a ga x) (hF : Fr S w3 w4) (h1 : ¬ S a) (h2 : ¬ S ga) : KidB w4 s P a ga x :=
  ⟨h.sets.fr hF h1, h.rows.fr hF h2, h.lt⟩

/-- the rows up to k -/
def rowsTo (T : Nat → Nat → Bool) (k : Nat) : Nat → Nat → Bool := fun i j => decide (i < k) && T i j
theorem rowsTo_step (T : Nat → Nat → Bool) (k : Nat) {i : Nat} (h : i ≠ k) : rowsTo T (k + 1) i = rowsTo T k i := by
  funext j
  have : (i < k + 1) ↔ (i < k) := by omega
  simp [rowsTo, this]
theorem rowsTo_at (T : Nat → Nat → Bool) (k j : Nat) : rowsTo T (k + 1) k j = T k j := by simp [rowsTo]

/-- the state behind the loop -/
structure OfEn (w wr : World) (kv : Array Value) (k r m g s P b c ga gb : Nat) (K p : Int) (x y : Tr) (T : Nat → Nat → Bool) (n : Bool) (f l : Nat → Bool) : Prop where
  st : OfSt w wr kv k r m g s P K p n f l (rowsTo T P)
  ka : KidB wr s P b ga x
  kb : KidB wr s P c gb y

theorem OfEn.fr {w w3 w4 : World} {kv : Array Value} {k r m g s P b c ga gb : Nat} {K p : Int} {x y : Tr} {T : Nat → Nat → Bool} {n : Bool} {f l : Nat → Bool} (h : OfEn w w3 kv k r m g s P b c ga gb K p x y T n f l) (hF : Fr (fun _ => False) w3 w4) :
    OfEn w w4 kv k r m g s P b c ga gb K p x y T n f l := ⟨h.st.moveN hF, h.ka.fr hF (fun _ e => e.elim), h.kb.fr hF (fun _ e => e.elim)⟩
theorem OfEn.kids {w w3 w4 : World} {kv : Array Value} {k r m g s P b c ga gb : Nat} {K p : Int} {x y : Tr} {T : Nat → Nat → Bool} {n : Bool} {f l : Nat → Bool} (h : OfEn w w3 kv k r m g s P b c ga gb K p x y T n f l) (hF : Fr (fun j => j = s) w3 w4) :
    KidB w4 s P b ga x ∧ KidB w4 s P c gb y := ⟨h.ka.fr hF (fun _ e => by omega), h.kb.fr hF (fun _ e => by omega)⟩
theorem OfEn.set0 {w w3 : World} {kv : Array Value} {k r m g s P b c ga gb : Nat} {K p : Int} {x y : Tr} {T : Nat → Nat → Bool} {n : Bool} {f l : Nat → Bool} (h : OfEn w w3 kv k r m g s P b c ga gb K p x y T n f l) (n' : Bool) :
    OfEn w (w3.setCell ⟨s, 0, none⟩ (.bool n')) kv k r m g s P b c ga gb K p x y T n' f l :=
  ⟨h.st.moveS (Fr.one s 0 _) (h.st.sets.set0 n'), (h.kids (Fr.one s 0 _)).1, (h.kids (Fr.one s 0 _)).2⟩
theorem OfEn.putF {w w3 : World} {kv : Array Value} {k r m g s P b c ga gb : Nat} {K p : Int} {x y : Tr} {T : Nat → Nat → Bool} {n : Bool} {f l : Nat → Bool} (h : OfEn w w3 kv k r m g s P b c ga gb K p x y T n f l) (f' : Nat → Bool) :
    OfEn w (w3.setCells s 1 (bs f' 32)) kv k r m g s P b c ga gb K p x y T n f' l :=
  ⟨h.st.moveS (Fr.many s 1 _) (h.st.sets.putF f'), (h.kids (Fr.many s 1 _)).1, (h.kids (Fr.many s 1 _)).2⟩
theorem OfEn.putL {w w3 : World} {kv : Array Value} {k r m g s P b c ga gb : Nat} {K p : Int} {x y : Tr} {T : Nat → Nat → Bool} {n : Bool} {f l : Nat → Bool} (h : OfEn w w3 kv k r m g s P b c ga gb K p x y T n f l) (l' : Nat → Bool) :
    OfEn w (w3.setCells s 33 (bs l' 32)) kv k r m g s P b c ga gb K p x y T n f l' :=
  ⟨h.st.moveS (Fr.many s 33 _) (h.st.sets.putL l'), (h.kids (Fr.many s 33 _)).1, (h.kids (Fr.many s 33 _)).2⟩

/-- the state in the loop over the places -/
structure OfLp (w wr : World) (kv : Array Value) (k r m g s P b c ga gb : Nat) (K p : Int) (x y : Tr) (T : Nat → Nat → Bool) (i : Nat) : Prop where
  st : OfSt w wr kv k r m g s P K p false (fun _ => false) (fun _ => false) (rowsTo T i)
  ka : KidB wr s P b ga x
  kb : KidB wr s P c gb y

theorem OfLp.fr {w w3 w4 : World} {kv : Array Value} {k r m g s P b c ga gb : Nat} {K p : Int} {x y : Tr} {T : Nat → Nat → Bool} {i : Nat} (h : OfLp w w3 kv k r m g s P b c ga gb K p x y T i) (hF : Fr (fun _ => False) w3 w4) :
    OfLp w w4 kv k r m g s P b c ga gb K p x y T i := ⟨h.st.moveN hF, h.ka.fr hF (fun _ e => e.elim), h.kb.fr hF (fun _ e => e.elim)⟩

theorem OfLp.frG {w w3 w4 : World} {kv : Array Value} {k r m g s P b c ga gb : Nat} {K p : Int} {x y : Tr} {T : Nat → Nat → Bool} {i : Nat} (h : OfLp w w3 kv k r m g s P b c ga gb K p x y T i) (hF : Fr (fun j => j = g) w3 w4) :
    w4.cell? ⟨s, 65, none⟩ = some (.slice (some ⟨g, 0, none⟩) P P) ∧ KidB w4 s P b ga x ∧ KidB w4 s P c gb y := by
  have := h.st.lt
  exact ⟨hF.cell h.st.sets.c65 (by simp only; omega), h.ka.fr hF (fun _ e => by omega), h.kb.fr hF (fun _ e => by omega)⟩

/-- the rows behind the first half of a round -/
def rowsMid (T : Nat → Nat → Bool) (k : Nat) (e : Nat → Bool) : Nat → Nat → Bool := fun i j => if i = k then e j else rowsTo T k i j
theorem rowsMid_ne (T : Nat → Nat → Bool) (k : Nat) (e : Nat → Bool) {i : Nat} (h : i ≠ k) : rowsMid T k e i = rowsTo T k i := by funext j; simp [rowsMid, h]
theorem rowsMid_at (T : Nat → Nat → Bool) (k : Nat) (e : Nat → Bool) : rowsMid T k e k = e := by funext j; simp [rowsMid]
theorem rowsMid_to (T : Nat → Nat → Bool) (k : Nat) (e : Nat → Bool) (h : ∀ j, T k j = e j) : rowsMid T k e = rowsTo T (k + 1) := by
  funext i
  by_cases hi : i = k
  · subst hi; rw [rowsMid_at]; funext j; rw [rowsTo_at, h]
  · rw [rowsMid_ne T k e hi, rowsTo_step T k hi]

theorem OfLp.mid {w wr w9 : World} {kv : Array Value} {k r m g s P b c ga gb : Nat} {K p : Int} {x y : Tr} {T : Nat → Nat → Bool} {j : Nat} (h : OfLp w wr kv k r m g s P b c ga gb K p x y T j) (hj : j < P) (e : Nat → Bool)
    {w8 : World} (hF : Fr (fun _ => False) wr w8) (hw : w9 = w8.setCells g (j * 32) (bs e 32)) :
    OfSt w w9 kv k r m g s P K p false (fun _ => false) (fun _ => false) (rowsMid T j e) ∧ KidB w9 s P b ga x ∧ KidB w9 s P c gb y := by
  subst hw
  have H := h.fr hF
  have hlt := h.st.lt
  exact ⟨H.st.moveG (Fr.many g _ _) (H.st.rows.put j hj e _ (fun q _ => by rw [rowsMid_at]) (fun i hi => rowsMid_ne T j e hi)), H.ka.fr (Fr.many g _ _) (fun _ e => by omega), H.kb.fr (Fr.many g _ _) (fun _ e => by omega)⟩

theorem OfSt.again {w w9 w9' w10 : World} {kv : Array Value} {k r m g s P b c ga gb : Nat} {K p : Int} {x y : Tr} {T : Nat → Nat → Bool} {j : Nat} {e : Nat → Bool} (h : OfSt w w9 kv k r m g s P K p false (fun _ => false) (fun _ => false) (rowsMid T j e))
    (ha : KidB w9 s P b ga x) (hb : KidB w9 s P c gb y) (hj : j < P) (e' : Nat → Bool) (hF : Fr (fun _ => False) w9 w9') (hw : w10 = w9'.setCells g (j * 32) (bs e' 32)) (hT : ∀ q, T j q = e' q) :
    OfLp w w10 kv k r m g s P b c ga gb K p x y T (j + 1) := by
  subst hw
  have H := h.moveN hF
  have hlt := h.lt
  refine ⟨?_, (ha.fr hF (fun _ e => e.elim)).fr (Fr.many g _ _) (fun _ e => by omega), (hb.fr hF (fun _ e => e.elim)).fr (Fr.many g _ _) (fun _ e => by omega)⟩
  rw [← rowsMid_to T j e' hT]
  exact H.moveG (Fr.many g _ _) (H.rows.put j hj e' _ (fun q _ => by rw [rowsMid_at]) (fun i hi => by rw [rowsMid_ne T j e' hi, rowsMid_ne T j e hi]))

theorem OfSt.next {w w9 : World} {kv : Array Value} {k r m g s P b c ga gb : Nat} {K p : Int} {x y : Tr} {T : Nat → Nat → Bool} {j : Nat} {e : Nat → Bool} (h : OfSt w w9 kv k r m g s P K p false (fun _ => false) (fun _ => false) (rowsMid T j e))
    (ha : KidB w9 s P b ga x) (hb : KidB w9 s P c gb y) (hT : ∀ q, T j q = e q) : OfLp w w9 kv k r m g s P b c ga gb K p x y T (j + 1) :=
  ⟨by rw [← rowsMid_to T j e hT]; exact h, ha, hb⟩

end Go.Proofs.Ytceomkoecidoiaa
