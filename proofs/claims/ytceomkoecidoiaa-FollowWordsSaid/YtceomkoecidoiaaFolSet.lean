/-
  Sets as 32 bools: the document's unions and words.
-/
import Derived.Test.YtceomkoecidoiaaFolW3
import Derived.Deep.MidRow
namespace Go.Proofs.Ytceomkoecidoiaa
open Go.RowKit

def bs (f : Nat → Bool) (n : Nat) : List Value := (List.range n).map fun i => .bool (f i)
theorem bs_len (f : Nat → Bool) (n : Nat) : (bs f n).length = n := by simp [bs]
theorem bs_get (f : Nat → Bool) (n i : Nat) (h : i < n) : (bs f n)[i]? = some (.bool (f i)) := by simp [bs, h]
theorem bs_size (f : Nat → Bool) (n : Nat) : (bs f n).toArray.size = n := by simp [bs]
theorem bs_one (f : Nat → Bool) (n : Nat) : (bs f n).toArray.all (·.oneCell') = true := all_oneCell_toArray (by simp [bs, Value.oneCell'])
theorem bs_none : bs (fun _ => false) 32 = List.replicate 32 (.bool false) := rfl

def setV (f : Nat → Bool) : Value := .agg (bs f 32).toArray


def uptoV (f g : Nat → Bool) (k : Nat) : Nat → Bool := fun i => if i < k then f i || g i else f i

theorem bs_set (f f' : Nat → Bool) (n k : Nat) (h : ∀ i, i < n → i ≠ k → f' i = f i) : (bs f n).toArray.setIfInBounds k (.bool (f' k)) = (bs f' n).toArray := by
  apply Array.ext'
  simp only [bs, List.setIfInBounds_toArray]
  apply List.ext_getElem?
  intro i
  rw [List.getElem?_set]
  by_cases hi : k = i
  · subst hi
    by_cases hk : k < n
    · simp [hk]
    · simp [hk]
  · simp only [hi, if_false]
    by_cases hk : i < n
    · simp [hk, h i hk (fun e => hi e.symm)]
    · simp [hk]

theorem bs_congr {f g : Nat → Bool} {n : Nat} (h : ∀ i, i < n → f i = g i) : bs f n = bs g n := by
  simp only [bs]
  exact List.map_congr_left fun i hi => by rw [h i (by simpa using hi)]

/-- the set f lies in block b from o on -/
structure RowB (w : World) (b o : Nat) (f : Nat → Bool) : Prop where
  at_ : w.rangeAt b o (bs f 32)
theorem RowB.of_all {w : World} {b : Nat} {f : Nat → Bool} {t : TypeId} {fr : Nat × Nat} (h : w.heap[b]? = some (.cells (bs f 32).toArray t fr)) : RowB w b 0 f := by
  have := World.rangeAt_of_block h 0 32
  have e : ((bs f 32).toArray.extract 0 (0 + 32)).toList = bs f 32 := by
    simp only [List.extract_toArray, List.extract, Nat.zero_add, Nat.sub_zero, List.drop_zero]
    exact List.take_of_length_le (Nat.le_of_eq (bs_len f 32))
  rw [e] at this
  exact ⟨this⟩

/-- a load, a store of many cells, kept shut -/
noncomputable def ld (t : TypeId) (v : Value) (w : World) : Result Next := (do pure (.value (← Instr.loadAt t v)) : Sem Next).run Try.prog w
noncomputable def st (t : TypeId) (v x : Value) (w : World) : Result Next := (do Instr.storeAt t v x; pure .skip : Sem Next).run Try.prog w

theorem run_ld42 (ρ : Operand → Value) (dst : Option Tmp) (x : Operand) (ty : TypeId) (pos : String) (after : Array Edge) (guard : Option (Nat × Bool)) (w : World) :
    (execOp ρ { dst, op := .load 42 x, type := ty, pos, after, guard }).run Try.prog w = ld 42 (ρ x) w := rfl
theorem run_st42 (ρ : Operand → Value) (dst : Option Tmp) (x y : Operand) (ty : TypeId) (pos : String) (after : Array Edge) (guard : Option (Nat × Bool)) (w : World) :
    (execOp ρ { dst, op := .store 42 x y, type := ty, pos, after, guard }).run Try.prog w = st 42 (ρ x) (ρ y) w := rfl

theorem ld_set {w : World} {b o : Nat} {f : Nat → Bool} (h : RowB w b o f) : ld 42 (.pointer (some ⟨b, o, none⟩)) w = .ok (.value (setV f)) w := by
  have := run_loadAt_mid (P := Try.prog) w b o 42 (bs f 32) _ h.at_ Try.underlying42 rfl (by rw [bs_len]; kernel_rfl)
  simp only [ld, Sem.run_bind, this, Result.andThen_ok, Sem.run_pure]
  rfl

structure ThereB (w : World) (b o : Nat) : Prop where
  at_ : w.there b o 32
theorem ThereB.of_all {w : World} {b : Nat} {f : Nat → Bool} {t : TypeId} (h : w.heap[b]? = some (.cells (bs f 32).toArray t (0, 0))) : ThereB w b 0 :=
  ⟨fun j hj => ⟨by rw [cell_of_row w b (0 + j) _ t _ h]; simp [bs, hj], free_of h _⟩⟩
theorem st_set {w : World} {b o : Nat} {f : Nat → Bool} (h : ThereB w b o) : st 42 (.pointer (some ⟨b, o, none⟩)) (setV f) w = .ok .skip (w.setCells b o (bs f 32)) := by
  have := run_storeAt_mid (P := Try.prog) w b o 42 (bs f 32).toArray (by rw [bs_size]; exact h.at_) (by rw [bs_size]; kernel_rfl) (bs_one f 32)
  simp only [st, setV, Sem.run_bind, this, Result.andThen_ok, Sem.run_pure]

attribute [local go_sem ↓] run_ld42 run_st42

/-- cells laid over others -/
def ovl : Array Value → Nat → List Value → Array Value
  | C, _, [] => C
  | C, o, v :: r => ovl (C.setIfInBounds o v) (o + 1) r

theorem ovl_size (vs : List Value) : ∀ (C : Array Value) (o : Nat), (ovl C o vs).size = C.size := by
  induction vs with
  | nil => intro C o; rfl
  | cons v r ih => intro C o; rw [ovl, ih]; simp

theorem ovl_get (vs : List Value) : ∀ (C : Array Value) (o i : Nat), o + vs.length ≤ C.size → (ovl C o vs)[i]? = if o ≤ i ∧ i < o + vs.length then vs[i - o]? else C[i]? := by
  induction vs with
  | nil => intro C o i _; simp only [ovl, List.length_nil]; rw [if_neg (by omega)]
  | cons v r ih =>
    intro C o i h
    simp only [List.length_cons] at h
    rw [ovl, ih _ _ _ (by simp; omega)]
    by_cases h1 : o + 1 ≤ i ∧ i < o + 1 + r.length
    · rw [if_pos h1, if_pos (by simp only [List.length_cons]; omega)]
      obtain ⟨k, rfl⟩ : ∃ k, i = o + 1 + k := ⟨i - (o + 1), by omega⟩
      rw [show o + 1 + k - (o + 1) = k by omega, show o + 1 + k - o = k + 1 by omega]; rfl
    · rw [if_neg h1]
      by_cases h2 : i = o
      · subst h2
        rw [if_pos (by simp only [List.length_cons]; omega)]
        simp only [Nat.sub_self, List.getElem?_cons_zero]
        rw [Array.getElem?_setIfInBounds_self_of_lt (by omega)]
      · rw [if_neg (by simp only [List.length_cons]; omega), Array.getElem?_setIfInBounds_ne (fun e => h2 e.symm)]

theorem heap_setCells {b : Nat} {t : TypeId} {fr : Nat × Nat} (vs : List Value) : ∀ {w : World} {C : Array Value} (o : Nat), w.heap[b]? = some (.cells C t fr) → (w.setCells b o vs).heap[b]? = some (.cells (ovl C o vs) t fr) := by
  induction vs with
  | nil => intro w C o h; exact h
  | cons v r ih => intro w C o h; rw [World.setCells, ovl]; exact ih (o + 1) (heap_set h v)

theorem heap_setCells_ne {b k : Nat} {o' : Obj} (hk : k ≠ b) (vs : List Value) : ∀ {w : World} (o : Nat), w.heap[k]? = some o' → (w.setCells b o vs).heap[k]? = some o' := by
  induction vs with
  | nil => intro w o h; exact h
  | cons v r ih => intro w o h; rw [World.setCells]; exact ih (o + 1) (heap_set_ne h (a := ⟨b, o, none⟩) hk v)

theorem Fr.setCells {S : Nat → Prop} {a : World} {b : Nat} (hp : b < a.heap.size → S b) (vs : List Value) : ∀ {w : World} (o : Nat), Fr S a w → Fr S a (w.setCells b o vs) := by
  induction vs with
  | nil => intro w o h; exact h
  | cons v r ih => intro w o h; rw [World.setCells]; exact ih (o + 1) (h.setCell (p := ⟨b, o, none⟩) hp v)

theorem ovl_all (f g : Nat → Bool) : ovl (bs f 32).toArray 0 (bs g 32) = (bs g 32).toArray := by
  apply Array.ext_getElem?
  intro i
  rw [ovl_get _ _ _ _ (by simp [bs])]
  by_cases h : i < 32
  · rw [if_pos (by rw [bs_len]; omega)]; simp
  · rw [if_neg (by rw [bs_len]; omega)]; simp [bs, h]

theorem upto_ne (f g : Nat → Bool) {i k : Nat} (h : i ≠ k) : uptoV f g (k + 1) i = uptoV f g k i := by
  have : (i < k + 1) ↔ (i < k) := by omega
  simp only [uptoV, this]

theorem results_one {fn : Func} {p : Tmp} {ty : TypeId} (h : fn.results = #[.cell p ty]) (tmps : Array Value) (w : World) {a : Addr} (ha : tmps.getD p undef = .pointer (some a)) {v : Value} (hv : (loadVar ty a).run Try.prog w = .ok v w) :
    (results fn tmps).run Try.prog w = .ok v w := by
  simp only [Array.getD_eq_getD_getElem?] at ha
  simp only [results, h]
  simp [ha, asAddr, hv]

set_option maxHeartbeats 1000000 in
theorem either_ok (f g : Nat → Bool) (w : World) :
    Calls Try.prog 36 #[setV f, setV g] w fun e w' => e = .returned (setV (fun i => f i || g i)) ∧ Fr (fun _ => False) w w' := by
  unfold setV
  go_enter Try.func36, Try.ntmps36
  go_wp2_with fail
  obtain ⟨w0, hw0⟩ : ∃ w0, w0 = ((w.alloc (.cells (bs f 32).toArray 42)).alloc (.cells (bs g 32).toArray 42)).alloc (.cells (bs (fun _ => false) 32).toArray 42) := ⟨_, rfl⟩
  have hw0' := hw0
  rw [bs_none] at hw0'
  simp only [List.replicate] at hw0'
  rw [← hw0']
  clear hw0'
  obtain ⟨s, hs⟩ : ∃ s, s = w.heap.size := ⟨_, rfl⟩
  obtain ⟨s1, hs1⟩ : ∃ s1, s1 = w.heap.size + 1 := ⟨_, rfl⟩
  obtain ⟨s2, hs2⟩ : ∃ s2, s2 = w.heap.size + 1 + 1 := ⟨_, rfl⟩
  rw [← hs2, ← hs1, ← hs]
  have H0 : w0.heap[s]? = some (.cells (bs (uptoV f g 0) 32).toArray 42 (0, 0)) := by
    rw [hw0, hs]; exact heap_old (heap_old (heap_new w _) _) _
  have H1 : w0.heap[s1]? = some (.cells (bs g 32).toArray 42 (0, 0)) := by
    rw [hw0, hs1]; exact heap_old (by simpa using heap_new (w.alloc _) (.cells (bs g 32).toArray 42)) _
  have H2 : w0.heap[s2]? = some (.cells (bs (fun _ => false) 32).toArray 42 (0, 0)) := by
    rw [hw0, hs2]; simpa using heap_new ((w.alloc _).alloc _) (.cells (bs (fun _ => false) 32).toArray 42)
  have F0 : Fr (fun _ => False) w w0 := by rw [hw0]; exact (((Fr.refl _ w).alloc _).alloc _).alloc _
  have hn1 : s1 ≠ s := by omega
  have hn2 : s2 ≠ s := by omega
  have hn3 : w.heap.size ≤ s := by omega
  have hn4 : w.heap.size ≤ s2 := by omega
  have G0 := hid H0
  have G1 := hid H1
  have G2 := hid H2
  have F0 := hid F0
  clear hw0 hs hs1 hs2 H0 H1 H2
  go_loopw [5] (fun i wr => ∃ k : Nat, k ≤ 32 ∧ i = .int .i64 k ∧ wr.heap[s]? = some (.cells (bs (uptoV f g k) 32).toArray 42 (0, 0)) ∧ wr.heap[s1]? = some (.cells (bs g 32).toArray 42 (0, 0)) ∧ wr.heap[s2]? = some (.cells (bs (fun _ => false) 32).toArray 42 (0, 0)) ∧ Fr (fun _ => False) w wr) (fun i _ => 32 - (intOf i).toNat)
  case atStart => exact ⟨0, Nat.zero_le _, rfl, G0.out, G1.out, G2.out, F0.out⟩
  case round =>
    obtain ⟨k, hk, rfl, h0, h1, h2, hF⟩ := hrel
    by_cases hk2 : k < 32
    · have c0 := cell_of h0 k (v := .bool _) (by simpa using bs_get _ 32 k hk2)
      have c1 := cell_of h1 k (v := .bool _) (by simpa using bs_get _ 32 k hk2)
      have f0 := free_of h0 k
      have hu : uptoV f g k k = f k := by simp [uptoV]
      rw [hu] at c0
      have R0 := hid h0
      have R1 := hid h1
      have R2 := hid h2
      have RF := hid hF
      clear h0 h1 h2 hF hu
      cases hfk : f k with
      | true =>
        rw [hfk] at c0
        go_wp2_with fail
        go_roundw
        case rel =>
          refine ⟨k + 1, by omega, by go_num, ?_, heap_set_ne R1.out (a := ⟨s, k, none⟩) hn1 _, heap_set_ne R2.out (a := ⟨s, k, none⟩) hn2 _, RF.out.setCell (p := ⟨s, k, none⟩) (fun h => by simp only at h; omega) _⟩
          rw [heap_set R0.out, ← bs_set (uptoV f g k) (uptoV f g (k + 1)) 32 k (fun i _ hi => upto_ne f g hi)]
          simp [uptoV, hfk]
        case measure => simp [intOf]; omega
      | false =>
        rw [hfk] at c0
        go_wp2_with fail
        go_roundw
        case rel =>
          refine ⟨k + 1, by omega, by go_num, ?_, heap_set_ne R1.out (a := ⟨s, k, none⟩) hn1 _, heap_set_ne R2.out (a := ⟨s, k, none⟩) hn2 _, RF.out.setCell (p := ⟨s, k, none⟩) (fun h => by simp only at h; omega) _⟩
          rw [heap_set R0.out, ← bs_set (uptoV f g k) (uptoV f g (k + 1)) 32 k (fun i _ hi => upto_ne f g hi)]
          simp [uptoV, hfk]
        case measure => simp [intOf]; omega
    · obtain rfl : k = 32 := by omega
      have hl := ld_set (RowB.of_all h0)
      have hst := st_set (f := uptoV f g 32) (ThereB.of_all h2)
      go_wp2_with fail
      refine bodyPost_ret (v := setV (fun i => f i || g i)) ?_ rfl ⟨rfl, Fr.setCells (fun h => by omega) _ _ hF⟩
      have h3 := heap_setCells (bs (uptoV f g 32) 32) 0 h2
      rw [ovl_all, bs_congr (g := fun i => f i || g i) (fun i hi => by simp [uptoV, hi])] at h3
      refine results_one Try.results36 _ _ (by rfl) ?_
      rw [bs_congr (g := fun i => f i || g i) (fun i hi => by simp [uptoV, hi])]
      exact run_loadVar_mid (P := Try.prog) _ _ 0 42 _ _ (RowB.of_all h3).at_ Try.underlying42 rfl (by rw [bs_len]; kernel_rfl)

theorem div_step (m k : Nat) : m / 2 ^ k = 2 * (m / 2 ^ (k + 1)) + (if m.testBit k then 1 else 0) := by
  rw [Nat.testBit_eq_decide_div_mod_eq, Nat.pow_succ, ← Nat.div_div_eq_div_mul]
  by_cases h : m / 2 ^ k % 2 = 1
  · simp [h]; omega
  · simp [h]; omega

set_option maxHeartbeats 1000000 in
theorem word_ok (f : Nat → Bool) (w : World) :
    Calls Try.prog 26 #[setV f] w fun e w' => e = .returned (.int .u32 (msk f 32)) ∧ Fr (fun _ => False) w w' := by
  unfold setV
  go_enter Try.func26, Try.ntmps26
  go_wp2_with fail
  obtain ⟨w0, hw0⟩ : ∃ w0, w0 = w.alloc (.cells (bs f 32).toArray 42) := ⟨_, rfl⟩
  rw [← hw0]
  obtain ⟨s, hs⟩ : ∃ s, s = w.heap.size := ⟨_, rfl⟩
  rw [← hs]
  have H0 := hid (show w0.heap[s]? = some (.cells (bs f 32).toArray 42 (0, 0)) by rw [hw0, hs]; exact heap_new w _)
  have F0 := hid (show Fr (fun _ => False) w w0 by rw [hw0]; exact (Fr.refl _ w).alloc _)
  have hlt := msk_u32 f
  clear hw0 hs
  go_loopw [3, 4] (fun u i wr => ∃ k : Nat, k ≤ 32 ∧ i = .int .i64 ((k : Int) - 1) ∧ u = .int .u32 (msk f 32 / 2 ^ k : Nat) ∧ w0 = wr) (fun _ i _ => (intOf i + 1).toNat)
  case atStart => exact ⟨32, Nat.le_refl _, rfl, by rw [Nat.div_eq_of_lt hlt]; rfl, rfl⟩
  case round =>
    obtain ⟨k, hk, rfl, rfl, rfl⟩ := hrel
    cases k with
    | zero =>
      have e : msk f 32 / 2 ^ 0 = msk f 32 := by simp
      rw [e]
      go_wp2_with fail
      go_ret
      exact ⟨rfl, F0.out⟩
    | succ k =>
      have c0 := cell_of H0.out k (v := .bool _) (by simpa using bs_get _ 32 k (by omega))
      have hd := div_step (msk f 32) k
      rw [testBit_msk, show decide (k < 32) = true by simp; omega, Bool.true_and] at hd
      have e1 : (((k + 1 : Nat) : Int) - 1) = (k : Int) := by omega
      rw [e1]
      have hm2 : msk f 32 / 2 ^ (k + 1) < 2147483648 := by
        rw [Nat.pow_succ]
        have h1 : msk f 32 / (2 ^ k * 2) ≤ msk f 32 / 2 := by
          refine Nat.div_le_div_left ?_ (by omega)
          have := Nat.one_le_two_pow (n := k)
          omega
        omega
      obtain ⟨m, hm⟩ : ∃ m, m = msk f 32 / 2 ^ (k + 1) := ⟨_, rfl⟩
      rw [← hm] at hd hm2 ⊢
      have HM := hid hm
      clear hm
      have hmw : (2 * (m : Int)) % 4294967296 = 2 * m := by omega
      cases hfk : f k with
      | true =>
        rw [hfk] at c0 hd
        have HD := hid hd
        clear hd
        go_wp2_with fail
        refine ⟨⟨k, by omega, rfl, ?_, trivial⟩, ?_⟩
        · have := HD.out
          simp only [if_true] at this
          rw [this]; rfl
        · simp [intOf]
      | false =>
        rw [hfk] at c0 hd
        have HD := hid hd
        clear hd
        go_wp2_with fail
        refine ⟨⟨k, by omega, rfl, ?_, trivial⟩, ?_⟩
        · have := HD.out
          simp only [Bool.false_eq_true, if_false, Nat.add_zero] at this
          rw [this]; rfl
        · simp [intOf]

end Go.Proofs.Ytceomkoecidoiaa
