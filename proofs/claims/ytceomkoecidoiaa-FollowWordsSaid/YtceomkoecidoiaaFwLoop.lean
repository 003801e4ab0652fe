/-
  loop of a reader, walked: the rounds until nothing is added.
-/
import Derived.Test.YtceomkoecidoiaaFwMap
import Derived.Laws.StructEq
import Derived.Test.YtceomkoecidoiaaFolEq
namespace Go.Proofs.Ytceomkoecidoiaa
open Go.RowKit

/-- is the i-th letter that of place p? -/
def hitW (ws : List ByteArray) (p i : Nat) : Bool := hitS ws (lt p) i
/-- how often, at most, the map is written -/
def cost (n : Nat) : Tr → Nat
  | .eps _ => 1
  | .leaf _ => 1
  | .cat _ a b => 1 + cost n a + cost n b
  | .alt _ a b => 1 + cost n a + cost n b
  | .loop _ a => 1 + (n + 3) * cost n a
structure AskSays (w w' : World) (e : Ending) (M c : Nat) (N : List (Int × Int)) (ws : List ByteArray) (O : Nat → Bool) : Prop where
  out : e = .returned (.agg #[.int .u64 (lo O), .int .u64 (hi O)])
  fr : Fr (fun k => k = M) w w'
  memo : Memo w' M c N ws.length (hitW ws)
def AskSaid (t : Tr) : Prop := ∀ (w : World) (R M : Nat) (nv pv wv : Value) (wi mm : Int) (bv : ByteArray) (N : List (Int × Int)) (P : Nat) (ws : List ByteArray) (a c : Nat) (rest : List (Int × Int)) (S : Nat → Bool),
  Rd w R M nv pv wv wi mm bv N P ws → Memo w M c N ws.length (hitW ws) → Upto ws.length S → N.drop a = t.flat ++ rest → N.length ≤ 250 → ws.length ≤ 100 → (∀ p ∈ t.leaves, 0 ≤ p ∧ p < P) → c + cost ws.length t ≤ 4611686018427387904 →
  Calls Try.prog 29 #[.pointer (some ⟨R, 0, none⟩), .int .i64 a, mk S] w fun e w' => AskSays w w' e M (c + cost ws.length t) N ws (sem ws.length (hitW ws) t S)

theorem marks_eq0 (a b c d : Int) (w : World) : (Op.equalIn 10000 89 (.agg #[.int .u64 a, .int .u64 b]) (.agg #[.int .u64 c, .int .u64 d])).run Try.prog w =
    (if (!(a == c)) = true then .ok false w else if (!(b == d)) = true then .ok false w else .ok true w) := by
  have h1 : ∀ (x y : Int), (Op.equalIn 9999 87 (.int .u64 x) (.int .u64 y)).run Try.prog w = .ok (x == y) w := fun x y => by
    rw [show (9999 : Nat) = 9998 + 1 from rfl]
    unfold Op.equalIn
    simp [Sem.run_bind, run_underlying Try.underlying87]
  rw [show (10000 : Nat) = 9999 + 1 from rfl]
  unfold Op.equalIn
  simp only [Sem.run_bind, run_underlying Try.underlying89, Result.andThen_ok]
  simp [part]
  rw [show List.range' 0 2 = [0, 1] from rfl]
  by_cases hac : a = c
  · by_cases hbd : b = d
    · simp [h1, hac, hbd]
    · simp [h1, hac, hbd]
  · simp [h1, hac]
theorem marks_eq (a b c d : Int) (w : World) : (Op.equalIn 10000 89 (.agg #[.int .u64 a, .int .u64 b]) (.agg #[.int .u64 c, .int .u64 d])).run Try.prog w = .ok (a == c && b == d) w := by
  rw [marks_eq0]
  by_cases hac : a = c <;> by_cases hbd : b = d <;> simp [hac, hbd]
theorem eql_marks (x y x' y' : Int) (w : World) : (binOp .eql 89 (.agg #[.int .u64 x, .int .u64 y]) (.agg #[.int .u64 x', .int .u64 y'])).run Try.prog w = .ok (.bool (x == x' && y == y')) w := by
  simp only [binOp]
  simp [Op.equal, Op.maxDepth, marks_eq]
theorem Memo.drew {w : World} {M c : Nat} {N : List (Int × Int)} {n : Nat} {hit : Nat → Nat → Bool} (h : Memo w M c N n hit) : Memo w.drew M c N n hit := h
theorem Memo.setCell {w : World} {M c : Nat} {N : List (Int × Int)} {n : Nat} {hit : Nat → Nat → Bool} (h : Memo w M c N n hit) {p : Addr} (hp : M ≠ p.block) (u : Value) : Memo (w.setCell p u) M c N n hit := by
  obtain ⟨D, hD, hall⟩ := h
  exact ⟨D, hD.setCell hp u, hall⟩
/-- what is there behind a round's region -/
def LoopCut (W3 : World) (o M c : Nat) (N : List (Int × Int)) (ws : List ByteArray) (O O2 : Nat → Bool) (y : Value) (wx : World) : Prop :=
  ∃ x : Nat, y = .pointer (some ⟨x, 0, none⟩) ∧ o ≠ x ∧ ¬ x = M ∧ W3.heap.size ≤ x ∧ wx.heap[x]? = some (.cells #[.int .u64 (lo O2), .int .u64 (hi O2)] 89 (0, 0)) ∧ wx.heap[o]? = some (.cells #[.int .u64 (lo O), .int .u64 (hi O)] 89 (0, 0)) ∧ Fr (fun q => q = M ∨ q = o) W3 wx ∧ Memo wx M c N ws.length (hitW ws)
set_option maxRecDepth 100000 in
set_option maxHeartbeats 4000000 in
theorem rloop_ok (t : Tr) (ih : AskSaid t) (w : World) (R M : Nat) (nv pv wv : Value) (wi mm : Int) (bv : ByteArray) (N : List (Int × Int)) (P : Nat) (ws : List ByteArray) (a c : Nat) (rest : List (Int × Int)) (S : Nat → Bool)
    (hR : Rd w R M nv pv wv wi mm bv N P ws) (hM : Memo w M c N ws.length (hitW ws)) (hS : Upto ws.length S) (hN : N.drop a = t.flat ++ rest) (hl : N.length ≤ 250) (hw : ws.length ≤ 100) (hlv : ∀ p ∈ t.leaves, 0 ≤ p ∧ p < P) (hc : c + (ws.length + 3) * cost ws.length t ≤ 4611686018427387904) :
    Calls Try.prog 42 #[.pointer (some ⟨R, 0, none⟩), .int .i64 a, mk S] w fun e w' => AskSays w w' e M (c + (ws.length + 3) * cost ws.length t) N ws (sem ws.length (hitW ws) (.loop 0 t) S) := by
  have hMlt := hM.lt
  have hcm : ∀ j, j ≤ ws.length + 3 → c + j * cost ws.length t ≤ c + (ws.length + 3) * cost ws.length t := fun j hj => Nat.add_le_add_left (Nat.mul_le_mul_right _ hj) _
  have IH := Lib.hid fun (w' : World) (O : Nat → Bool) (j : Nat) (hj : j + 1 ≤ ws.length + 3) (hR' : Rd w' R M nv pv wv wi mm bv N P ws) (hM' : Memo w' M (c + j * cost ws.length t) N ws.length (hitW ws)) (hO : Upto ws.length O) =>
    (show Calls Try.prog 29 #[.pointer (some ⟨R, 0, none⟩), .int .i64 a, mk O] w' fun e w'' => AskSays w' w'' e M (c + (j + 1) * cost ws.length t) N ws (sem ws.length (hitW ws) t O) by
      have h := ih w' R M nv pv wv wi mm bv N P ws a (c + j * cost ws.length t) rest O hR' hM' hO hN hl hw hlv (by have := hcm (j + 1) hj; rw [Nat.succ_mul] at this; omega)
      rw [show c + j * cost ws.length t + cost ws.length t = c + (j + 1) * cost ws.length t by rw [Nat.succ_mul]; omega] at h
      exact h)
  have HCM := hid hcm
  have HS := hid hS
  have HR := hid hR
  have HM := hid hM
  have HC := hid hc
  have HU := hid (fun k => upto_rounds (hit := hitW ws) (a := t) (upto_sem ws.length (hitW ws) t) hS k)
  clear hS hN hlv hcm hR hM hc ih
  obtain ⟨C, hC⟩ : ∃ C, C = cost ws.length t := ⟨_, rfl⟩
  rw [← hC] at HCM HC IH ⊢
  have H0 := Lib.hid fun (w' : World) (hR' : Rd w' R M nv pv wv wi mm bv N P ws) (hM' : Memo w' M c N ws.length (hitW ws)) => IH.out w' S 0 (by omega) hR' (by rw [Nat.zero_mul]; exact hM') HS.out
  unfold mk at *
  go_enter Try.func42, Try.ntmps42
  go_upto_region 1 with fail
  obtain ⟨w1, hw1⟩ : ∃ w1, w1 = (w.alloc (.cells #[.int .u64 (lo S), .int .u64 (hi S)] 89)).alloc (.cells #[.int .u64 0, .int .u64 0] 89) := ⟨_, rfl⟩
  obtain ⟨k, hk⟩ : ∃ k, k = w.heap.size := ⟨_, rfl⟩
  obtain ⟨r, hr⟩ : ∃ r, r = w.heap.size + 1 := ⟨_, rfl⟩
  rw [← hw1, ← hr, ← hk]
  have K1 := hid (show w1.heap[k]? = some (.cells #[.int .u64 (lo S), .int .u64 (hi S)] 89 (0, 0)) by rw [hw1, hk]; exact heap_old (heap_new w _) _)
  have R1 := hid (show w1.heap[r]? = some (.cells #[.int .u64 0, .int .u64 0] 89 (0, 0)) by rw [hw1, hr]; simpa using heap_new (w.alloc _) (.cells #[.int .u64 0, .int .u64 0] 89))
  have F1 := hid (show Fr (fun _ => False) w w1 by rw [hw1]; exact ((Fr.refl _ w).alloc _).alloc _)
  have hkr : k < r := by omega
  have hkw : w.heap.size ≤ k := by omega
  have hr1 : r < w1.heap.size := lt_of_block R1.out
  clear hw1 hk hr
  have k0 := cell_of K1.out 0 (v := .int .u64 (lo S)) rfl
  have k1 := cell_of K1.out 1 (v := .int .u64 (hi S)) rfl
  go_upto_region 2 with (go_at_call 29; refine (H0.out _ (HR.out.fr (F1.out.toM M)) (HM.out.fr F1.out)).mono ?_; rintro ev w2 ⟨rfl, hf2, hm2⟩; have HF2 := hid hf2; have HM2 := hid hm2; clear hf2 hm2)
  rw [Nat.zero_add, Nat.one_mul] at HM2
  obtain ⟨o, ho⟩ : ∃ o, o = w2.heap.size := ⟨_, rfl⟩
  obtain ⟨W3, hW3⟩ : ∃ W3, W3 = w2.alloc (.cells #[.int .u64 (lo (sem ws.length (hitW ws) t S)), .int .u64 (hi (sem ws.length (hitW ws) t S))] 89) := ⟨_, rfl⟩
  rw [← hW3, ← ho]
  have O3 := hid (show W3.heap[o]? = some (.cells #[.int .u64 (lo (rounds ws.length (hitW ws) t S 0)), .int .u64 (hi (rounds ws.length (hitW ws) t S 0))] 89 (0, 0)) by rw [hW3, ho]; exact heap_new w2 _)
  have F3 := hid (show Fr (fun k => k = M) w1 W3 by rw [hW3]; exact HF2.out.alloc _)
  have M3 := hid (show Memo W3 M (c + C) N ws.length (hitW ws) by rw [hW3]; exact HM2.out.fr ((Fr.refl _ _).alloc _))
  have hor : r < o := by have := HF2.out.size; omega
  have ho3 : o < W3.heap.size := lt_of_block O3.out
  have hrM : ¬ r = M := by omega
  have hoM : ¬ o = M := by omega
  have HRW := Lib.hid fun (w' : World) (h : Fr (fun q => q = M ∨ q = o) W3 w') => HR.out.fr (show Fr (fun k => k = M) w w' from (((F1.out.toM M).trans' F3.out).trans h (fun _ e => e) (fun i hi e => e.resolve_right (by omega))))
  have HWW := Lib.hid fun (w' : World) (h : Fr (fun q => q = M ∨ q = o) W3 w') => (show Fr (fun k => k = M) w w' from (((F1.out.toM M).trans' F3.out).trans h (fun _ e => e) (fun i hi e => e.resolve_right (by omega))))
  have HRR := Lib.hid fun (w' : World) (h : Fr (fun q => q = M ∨ q = o) W3 w') => h.heap (F3.out.heap R1.out hrM) (by rintro (e | e) <;> omega)
  clear hW3 ho k0 k1
  go_loopg [8] (ws.length + 1) (fun g _ wr => ∃ j : Nat, j + g = ws.length + 1 ∧ wr.heap[o]? = some (.cells #[.int .u64 (lo (rounds ws.length (hitW ws) t S j)), .int .u64 (hi (rounds ws.length (hitW ws) t S j))] 89 (0, 0)) ∧ Fr (fun q => q = M ∨ q = o) W3 wr ∧ Memo wr M (c + (j + 1) * C) N ws.length (hitW ws) ∧ ∀ i, i < j → more ws.length (hitW ws) t (rounds ws.length (hitW ws) t S i) ≠ rounds ws.length (hitW ws) t S i)
  case atStart => exact ⟨0, by omega, O3.out, Fr.refl _ _, by rw [Nat.zero_add, Nat.one_mul]; exact M3.out, fun i hi => by omega⟩
  case round =>
    obtain ⟨j, hj, hO, hG, hM, hall⟩ := hrel
    obtain ⟨O, hOe⟩ : ∃ O, O = rounds ws.length (hitW ws) t S j := ⟨_, rfl⟩
    obtain ⟨O2, hO2⟩ : ∃ O2, O2 = more ws.length (hitW ws) t O := ⟨_, rfl⟩
    rw [← hOe] at hO
    have HUO := hid (HU.out j)
    rw [← hOe] at HUO
    have IH1 := Lib.hid fun (w' : World) (hR' : Rd w' R M nv pv wv wi mm bv N P ws) (hM' : Memo w' M (c + (j + 1) * C) N ws.length (hitW ws)) => IH.out w' O (j + 1) (by omega) hR' hM' HUO.out
    have MOR := Lib.hid fun w' => mor_ok O (sem ws.length (hitW ws) t O) w'
    have e2 : (fun i => O i || sem ws.length (hitW ws) t O i) = O2 := hO2.symm
    rw [e2] at MOR
    have HOE := hid hOe
    have HO2 := hid hO2
    have HALL := hid hall
    have hsub : ∀ i, i < W3.heap.size → i = M → i = M ∨ i = o := fun _ _ e => Or.inl e
    unfold mk at *
    clear hOe hO2 e2 hall
    go_wp2_with fail
    go_cut [8] (fun y wx => LoopCut W3 o M (c + (j + 1 + 1) * C) N ws O O2 y wx)
    case first =>
      refine wp_region_held_drew (S := (fun w' => w'.cell? ⟨o, 0, none⟩ = some (.int .u64 (lo O)) ∧ w'.cell? ⟨o, 1, none⟩ = some (.int .u64 (hi O)))) (by kernel_rfl) ?_ (fun hH => ?_)
      · (first | exact ⟨cell_of hO 0 rfl, cell_of hO 1 rfl⟩ | go_keep)
      refine wpAnyH_take (i := 0) (oi := { dst := some 13, op := Op.load 89 (Operand.tmp 7), type := 89, pos := "core.go:278", after := #[], guard := none }) (v := ?_) rfl (by kernel_rfl) (by kernel_rfl) (by kernel_rfl) (fun _ _ _ h => h) (Or.inl ⟨by rfl, ?_⟩) hH ?_
      rotate_left
      · intro w hSw; (try dsimp only at hSw); go_simp <;> with_reducible rfl
      try simp only [Act.put, List.setIfInBounds_toArray, List.set_cons_zero, List.set_cons_succ]
      refine wpAnyH_take (i := 1) (oi := { dst := some 14, op := Op.move (Operand.tmp 0), type := 83, pos := "core.go:278", after := #[], guard := none }) (v := ?_) rfl (by kernel_rfl) (by kernel_rfl) (by kernel_rfl) (fun _ _ _ h => h) (Or.inl ⟨by rfl, ?_⟩) hH ?_
      rotate_left
      · intro w hSw; (try dsimp only at hSw); go_simp <;> with_reducible rfl
      try simp only [Act.put, List.setIfInBounds_toArray, List.set_cons_zero, List.set_cons_succ]
      refine wpAnyH_take (i := 2) (oi := { dst := some 15, op := Op.move (Operand.tmp 1), type := 3, pos := "core.go:278", after := #[], guard := none }) (v := ?_) rfl (by kernel_rfl) (by kernel_rfl) (by kernel_rfl) (fun _ _ _ h => h) (Or.inl ⟨by rfl, ?_⟩) hH ?_
      rotate_left
      · intro w hSw; (try dsimp only at hSw); go_simp <;> with_reducible rfl
      try simp only [Act.put, List.setIfInBounds_toArray, List.set_cons_zero, List.set_cons_succ]
      refine wpAnyH_take (i := 3) (oi := { dst := some 16, op := Op.load 89 (Operand.tmp 7), type := 89, pos := "core.go:278", after := #[], guard := none }) (v := ?_) rfl (by kernel_rfl) (by kernel_rfl) (by kernel_rfl) (fun _ _ _ h => h) (Or.inl ⟨by rfl, ?_⟩) hH ?_
      rotate_left
      · intro w hSw; (try dsimp only at hSw); go_simp <;> with_reducible rfl
      try simp only [Act.put, List.setIfInBounds_toArray, List.set_cons_zero, List.set_cons_succ]
      refine wpAnyH_ready (rs := [4, 6]) (by kernel_rfl) (by simp) ?_
      refine AllReadyH.cons (o := { dst := some 17, op := Op.call { callee := Callee.value (Operand.func 29), args := #[Operand.tmp 14, Operand.tmp 15, Operand.tmp 16], argTypes := #[83, 3, 89] }, type := 89, pos := "core.go:278", after := #[{ on := 1, ground := Ground.data }, { on := 2, ground := Ground.data }, { on := 3, ground := Ground.data }], guard := none }) rfl (fun K hK => ?_) ?_
      ·
        go_simp
        go_at_call 29
        refine (IH1.out _ (HRW.out _ (by first | exact hG | exact hG.drew)) (by first | exact hM | exact Memo.drew hM)).mono ?_
        rintro ev v4 ⟨rfl, hf9, hM9⟩
        replace hM := hM9
        clear hM9
        (first | replace hO := hf9.heap hO hoM | replace hO := hf9.heap (k := o) hO hoM)
        (first | replace hG := hG.trans hf9 (fun _ e => e) hsub | replace hG := hG.drew.trans hf9 (fun _ e => e) hsub)
        clear hf9
        go_simp
        refine hK.out _ _ ?_ (fun hH => ?_)
        · (first | exact ⟨cell_of hO 0 rfl, cell_of hO 1 rfl⟩ | go_keep)
        clear hK K
        try simp only [Act.put, List.setIfInBounds_toArray, List.set_cons_zero, List.set_cons_succ]
        refine wpAnyH_ready (rs := [5, 6]) (by kernel_rfl) (by simp) ?_
        refine AllReadyH.cons (o := { dst := some 18, op := Op.call { callee := Callee.value (Operand.func 41), args := #[Operand.tmp 13, Operand.tmp 17], argTypes := #[89, 89] }, type := 89, pos := "core.go:278", after := #[{ on := 0, ground := Ground.data }, { on := 4, ground := Ground.data }, { on := 4, ground := Ground.chain }], guard := none }) rfl (fun K hK => ?_) ?_
        ·
          go_simp
          go_at_call 41
          refine (MOR.out _).mono ?_
          rintro ev v4_5 ⟨rfl, hf0⟩
          have hf9 := hf0.toM M
          (first | replace hM := hM.fr hf0 | replace hM := (Memo.drew hM).fr hf0)
          clear hf0
          (first | replace hO := hf9.heap hO hoM | replace hO := hf9.heap (k := o) hO hoM)
          (first | replace hG := hG.trans hf9 (fun _ e => e) hsub | replace hG := hG.drew.trans hf9 (fun _ e => e) hsub)
          clear hf9
          go_simp
          refine hK.out _ _ ?_ (fun hH => ?_)
          · (first | exact ⟨cell_of hO 0 rfl, cell_of hO 1 rfl⟩ | go_keep)
          clear hK K
          try simp only [Act.put, List.setIfInBounds_toArray, List.set_cons_zero, List.set_cons_succ]
          refine wpAnyH_ready (rs := [6]) (by kernel_rfl) (by simp) ?_
          refine AllReadyH.cons (o := { dst := some 8, op := Op.alloc 89, type := 0, pos := "core.go:278", after := #[], guard := none }) rfl (fun K hK => ?_) AllReadyH.nil
          go_simp
          generalize hV9 : World.alloc _ _ = v4_5_6
          have hX : v4_5_6.heap[v4_5.heap.size]? = some (.cells #[.int .u64 0, .int .u64 0] 89 (0, 0)) := by rw [← hV9]; exact heap_new _ _
          have hx3 := hG.size
          have hxM : ¬ v4_5.heap.size = M := by have := hM.lt; omega
          replace hO : v4_5_6.heap[o]? = some (.cells #[.int .u64 (lo O), .int .u64 (hi O)] 89 (0, 0)) := by rw [← hV9]; exact heap_old hO _
          replace hG : Fr (fun q => q = M ∨ q = o) W3 v4_5_6 := by rw [← hV9]; exact hG.alloc _
          replace hM : Memo v4_5_6 M (c + (j + 1 + 1) * C) N ws.length (hitW ws) := by rw [← hV9]; exact hM.fr ((Fr.refl _ _).alloc _)
          clear hV9
          refine hK.out _ _ ?_ (fun hH => ?_)
          · (first | exact ⟨cell_of hO 0 rfl, cell_of hO 1 rfl⟩ | go_keep)
          clear hK K
          try simp only [Act.put, List.setIfInBounds_toArray, List.set_cons_zero, List.set_cons_succ]
          refine wpAnyH_ready (rs := [7]) (by kernel_rfl) (by simp) ?_
          refine AllReadyH.cons (o := { dst := none, op := Op.store 89 (Operand.tmp 8) (Operand.tmp 18), type := 0, pos := "core.go:278", after := #[{ on := 6, ground := Ground.data }, { on := 5, ground := Ground.data }, { on := 5, ground := Ground.chain }, { on := 0, ground := Ground.phase }, { on := 1, ground := Ground.phase }, { on := 2, ground := Ground.phase }, { on := 3, ground := Ground.phase }, { on := 4, ground := Ground.phase }, { on := 5, ground := Ground.phase }, { on := 6, ground := Ground.phase }], guard := none }) rfl (fun K hK => ?_) AllReadyH.nil
          have x0 := cell_of hX 0 (v := .int .u64 0) rfl
          have x1 := cell_of hX 1 (v := .int .u64 0) rfl
          have x2 := free_of hX 0
          have x3 := free_of hX 1
          have hxo : o ≠ v4_5.heap.size := by omega
          go_simp
          generalize hV9 : World.setCell _ _ _ = v4_5_6_7
          clear x0 x1 x2 x3
          replace hX : v4_5_6_7.heap[v4_5.heap.size]? = some (.cells #[.int .u64 (lo O2), .int .u64 (hi O2)] 89 (0, 0)) := by rw [← hV9]; exact heap_set (heap_set hX _) _
          replace hO : v4_5_6_7.heap[o]? = some (.cells #[.int .u64 (lo O), .int .u64 (hi O)] 89 (0, 0)) := by rw [← hV9]; exact heap_set_ne (heap_set_ne hO hxo _) hxo _
          replace hG : Fr (fun q => q = M ∨ q = o) W3 v4_5_6_7 := by rw [← hV9]; exact (hG.setCell (p := ⟨_, 0, none⟩) (fun h => absurd hx3 (Nat.not_le.2 h)) _).setCell (p := ⟨_, 1, none⟩) (fun h => absurd hx3 (Nat.not_le.2 h)) _
          replace hM : Memo v4_5_6_7 M (c + (j + 1 + 1) * C) N ws.length (hitW ws) := by rw [← hV9]; exact (hM.setCell (p := ⟨_, 0, none⟩) (fun e => hxM e.symm) _).setCell (p := ⟨_, 1, none⟩) (fun e => hxM e.symm) _
          clear hV9
          refine hK.out _ _ ?_ (fun hH => ?_)
          · (first | exact ⟨cell_of hO 0 rfl, cell_of hO 1 rfl⟩ | go_keep)
          clear hK K
          refine wpAnyH_done (by kernel_rfl) ?_ _
          go_wp2_with fail
          go_meet
          exact ⟨_, rfl, hxo, hxM, hx3, hX, hO, hG, hM⟩
        refine AllReadyH.cons (o := { dst := some 8, op := Op.alloc 89, type := 0, pos := "core.go:278", after := #[], guard := none }) rfl (fun K hK => ?_) AllReadyH.nil
        go_simp
        generalize hV9 : World.alloc _ _ = v4_6
        have hX : v4_6.heap[v4.heap.size]? = some (.cells #[.int .u64 0, .int .u64 0] 89 (0, 0)) := by rw [← hV9]; exact heap_new _ _
        have hx3 := hG.size
        have hxM : ¬ v4.heap.size = M := by have := hM.lt; omega
        replace hO : v4_6.heap[o]? = some (.cells #[.int .u64 (lo O), .int .u64 (hi O)] 89 (0, 0)) := by rw [← hV9]; exact heap_old hO _
        replace hG : Fr (fun q => q = M ∨ q = o) W3 v4_6 := by rw [← hV9]; exact hG.alloc _
        replace hM : Memo v4_6 M (c + (j + 1 + 1) * C) N ws.length (hitW ws) := by rw [← hV9]; exact hM.fr ((Fr.refl _ _).alloc _)
        clear hV9
        refine hK.out _ _ ?_ (fun hH => ?_)
        · (first | exact ⟨cell_of hO 0 rfl, cell_of hO 1 rfl⟩ | go_keep)
        clear hK K
        try simp only [Act.put, List.setIfInBounds_toArray, List.set_cons_zero, List.set_cons_succ]
        refine wpAnyH_ready (rs := [5]) (by kernel_rfl) (by simp) ?_
        refine AllReadyH.cons (o := { dst := some 18, op := Op.call { callee := Callee.value (Operand.func 41), args := #[Operand.tmp 13, Operand.tmp 17], argTypes := #[89, 89] }, type := 89, pos := "core.go:278", after := #[{ on := 0, ground := Ground.data }, { on := 4, ground := Ground.data }, { on := 4, ground := Ground.chain }], guard := none }) rfl (fun K hK => ?_) AllReadyH.nil
        go_simp
        go_at_call 41
        refine (MOR.out _).mono ?_
        rintro ev v4_6_5 ⟨rfl, hf0⟩
        have hf9 := hf0.toM M
        (first | replace hM := hM.fr hf0 | replace hM := (Memo.drew hM).fr hf0)
        clear hf0
        (first | replace hO := hf9.heap hO hoM | replace hO := hf9.heap (k := o) hO hoM)
        replace hX := hf9.heap hX hxM
        (first | replace hG := hG.trans hf9 (fun _ e => e) hsub | replace hG := hG.drew.trans hf9 (fun _ e => e) hsub)
        clear hf9
        go_simp
        refine hK.out _ _ ?_ (fun hH => ?_)
        · (first | exact ⟨cell_of hO 0 rfl, cell_of hO 1 rfl⟩ | go_keep)
        clear hK K
        try simp only [Act.put, List.setIfInBounds_toArray, List.set_cons_zero, List.set_cons_succ]
        refine wpAnyH_ready (rs := [7]) (by kernel_rfl) (by simp) ?_
        refine AllReadyH.cons (o := { dst := none, op := Op.store 89 (Operand.tmp 8) (Operand.tmp 18), type := 0, pos := "core.go:278", after := #[{ on := 6, ground := Ground.data }, { on := 5, ground := Ground.data }, { on := 5, ground := Ground.chain }, { on := 0, ground := Ground.phase }, { on := 1, ground := Ground.phase }, { on := 2, ground := Ground.phase }, { on := 3, ground := Ground.phase }, { on := 4, ground := Ground.phase }, { on := 5, ground := Ground.phase }, { on := 6, ground := Ground.phase }], guard := none }) rfl (fun K hK => ?_) AllReadyH.nil
        have x0 := cell_of hX 0 (v := .int .u64 0) rfl
        have x1 := cell_of hX 1 (v := .int .u64 0) rfl
        have x2 := free_of hX 0
        have x3 := free_of hX 1
        have hxo : o ≠ v4.heap.size := by omega
        go_simp
        generalize hV9 : World.setCell _ _ _ = v4_6_5_7
        clear x0 x1 x2 x3
        replace hX : v4_6_5_7.heap[v4.heap.size]? = some (.cells #[.int .u64 (lo O2), .int .u64 (hi O2)] 89 (0, 0)) := by rw [← hV9]; exact heap_set (heap_set hX _) _
        replace hO : v4_6_5_7.heap[o]? = some (.cells #[.int .u64 (lo O), .int .u64 (hi O)] 89 (0, 0)) := by rw [← hV9]; exact heap_set_ne (heap_set_ne hO hxo _) hxo _
        replace hG : Fr (fun q => q = M ∨ q = o) W3 v4_6_5_7 := by rw [← hV9]; exact (hG.setCell (p := ⟨_, 0, none⟩) (fun h => absurd hx3 (Nat.not_le.2 h)) _).setCell (p := ⟨_, 1, none⟩) (fun h => absurd hx3 (Nat.not_le.2 h)) _
        replace hM : Memo v4_6_5_7 M (c + (j + 1 + 1) * C) N ws.length (hitW ws) := by rw [← hV9]; exact (hM.setCell (p := ⟨_, 0, none⟩) (fun e => hxM e.symm) _).setCell (p := ⟨_, 1, none⟩) (fun e => hxM e.symm) _
        clear hV9
        refine hK.out _ _ ?_ (fun hH => ?_)
        · (first | exact ⟨cell_of hO 0 rfl, cell_of hO 1 rfl⟩ | go_keep)
        clear hK K
        refine wpAnyH_done (by kernel_rfl) ?_ _
        go_wp2_with fail
        go_meet
        exact ⟨_, rfl, hxo, hxM, hx3, hX, hO, hG, hM⟩
      refine AllReadyH.cons (o := { dst := some 8, op := Op.alloc 89, type := 0, pos := "core.go:278", after := #[], guard := none }) rfl (fun K hK => ?_) AllReadyH.nil
      go_simp
      generalize hV9 : World.alloc _ _ = v6
      have hX : v6.heap[wr.heap.size]? = some (.cells #[.int .u64 0, .int .u64 0] 89 (0, 0)) := by rw [← hV9]; exact heap_new _ _
      have hx3 := hG.size
      have hxM : ¬ wr.heap.size = M := by have := hM.lt; omega
      replace hO : v6.heap[o]? = some (.cells #[.int .u64 (lo O), .int .u64 (hi O)] 89 (0, 0)) := by rw [← hV9]; exact heap_old hO _
      replace hG : Fr (fun q => q = M ∨ q = o) W3 v6 := by rw [← hV9]; exact hG.alloc _
      replace hM : Memo v6 M (c + (j + 1) * C) N ws.length (hitW ws) := by rw [← hV9]; exact hM.fr ((Fr.refl _ _).alloc _)
      clear hV9
      refine hK.out _ _ ?_ (fun hH => ?_)
      · (first | exact ⟨cell_of hO 0 rfl, cell_of hO 1 rfl⟩ | go_keep)
      clear hK K
      try simp only [Act.put, List.setIfInBounds_toArray, List.set_cons_zero, List.set_cons_succ]
      refine wpAnyH_ready (rs := [4]) (by kernel_rfl) (by simp) ?_
      refine AllReadyH.cons (o := { dst := some 17, op := Op.call { callee := Callee.value (Operand.func 29), args := #[Operand.tmp 14, Operand.tmp 15, Operand.tmp 16], argTypes := #[83, 3, 89] }, type := 89, pos := "core.go:278", after := #[{ on := 1, ground := Ground.data }, { on := 2, ground := Ground.data }, { on := 3, ground := Ground.data }], guard := none }) rfl (fun K hK => ?_) AllReadyH.nil
      go_simp
      go_at_call 29
      refine (IH1.out _ (HRW.out _ (by first | exact hG | exact hG.drew)) (by first | exact hM | exact Memo.drew hM)).mono ?_
      rintro ev v6_4 ⟨rfl, hf9, hM9⟩
      replace hM := hM9
      clear hM9
      (first | replace hO := hf9.heap hO hoM | replace hO := hf9.heap (k := o) hO hoM)
      replace hX := hf9.heap hX hxM
      (first | replace hG := hG.trans hf9 (fun _ e => e) hsub | replace hG := hG.drew.trans hf9 (fun _ e => e) hsub)
      clear hf9
      go_simp
      refine hK.out _ _ ?_ (fun hH => ?_)
      · (first | exact ⟨cell_of hO 0 rfl, cell_of hO 1 rfl⟩ | go_keep)
      clear hK K
      try simp only [Act.put, List.setIfInBounds_toArray, List.set_cons_zero, List.set_cons_succ]
      refine wpAnyH_ready (rs := [5]) (by kernel_rfl) (by simp) ?_
      refine AllReadyH.cons (o := { dst := some 18, op := Op.call { callee := Callee.value (Operand.func 41), args := #[Operand.tmp 13, Operand.tmp 17], argTypes := #[89, 89] }, type := 89, pos := "core.go:278", after := #[{ on := 0, ground := Ground.data }, { on := 4, ground := Ground.data }, { on := 4, ground := Ground.chain }], guard := none }) rfl (fun K hK => ?_) AllReadyH.nil
      go_simp
      go_at_call 41
      refine (MOR.out _).mono ?_
      rintro ev v6_4_5 ⟨rfl, hf0⟩
      have hf9 := hf0.toM M
      (first | replace hM := hM.fr hf0 | replace hM := (Memo.drew hM).fr hf0)
      clear hf0
      (first | replace hO := hf9.heap hO hoM | replace hO := hf9.heap (k := o) hO hoM)
      replace hX := hf9.heap hX hxM
      (first | replace hG := hG.trans hf9 (fun _ e => e) hsub | replace hG := hG.drew.trans hf9 (fun _ e => e) hsub)
      clear hf9
      go_simp
      refine hK.out _ _ ?_ (fun hH => ?_)
      · (first | exact ⟨cell_of hO 0 rfl, cell_of hO 1 rfl⟩ | go_keep)
      clear hK K
      try simp only [Act.put, List.setIfInBounds_toArray, List.set_cons_zero, List.set_cons_succ]
      refine wpAnyH_ready (rs := [7]) (by kernel_rfl) (by simp) ?_
      refine AllReadyH.cons (o := { dst := none, op := Op.store 89 (Operand.tmp 8) (Operand.tmp 18), type := 0, pos := "core.go:278", after := #[{ on := 6, ground := Ground.data }, { on := 5, ground := Ground.data }, { on := 5, ground := Ground.chain }, { on := 0, ground := Ground.phase }, { on := 1, ground := Ground.phase }, { on := 2, ground := Ground.phase }, { on := 3, ground := Ground.phase }, { on := 4, ground := Ground.phase }, { on := 5, ground := Ground.phase }, { on := 6, ground := Ground.phase }], guard := none }) rfl (fun K hK => ?_) AllReadyH.nil
      have x0 := cell_of hX 0 (v := .int .u64 0) rfl
      have x1 := cell_of hX 1 (v := .int .u64 0) rfl
      have x2 := free_of hX 0
      have x3 := free_of hX 1
      have hxo : o ≠ wr.heap.size := by omega
      go_simp
      generalize hV9 : World.setCell _ _ _ = v6_4_5_7
      clear x0 x1 x2 x3
      replace hX : v6_4_5_7.heap[wr.heap.size]? = some (.cells #[.int .u64 (lo O2), .int .u64 (hi O2)] 89 (0, 0)) := by rw [← hV9]; exact heap_set (heap_set hX _) _
      replace hO : v6_4_5_7.heap[o]? = some (.cells #[.int .u64 (lo O), .int .u64 (hi O)] 89 (0, 0)) := by rw [← hV9]; exact heap_set_ne (heap_set_ne hO hxo _) hxo _
      replace hG : Fr (fun q => q = M ∨ q = o) W3 v6_4_5_7 := by rw [← hV9]; exact (hG.setCell (p := ⟨_, 0, none⟩) (fun h => absurd hx3 (Nat.not_le.2 h)) _).setCell (p := ⟨_, 1, none⟩) (fun h => absurd hx3 (Nat.not_le.2 h)) _
      replace hM : Memo v6_4_5_7 M (c + (j + 1 + 1) * C) N ws.length (hitW ws) := by rw [← hV9]; exact (hM.setCell (p := ⟨_, 0, none⟩) (fun e => hxM e.symm) _).setCell (p := ⟨_, 1, none⟩) (fun e => hxM e.symm) _
      clear hV9
      refine hK.out _ _ ?_ (fun hH => ?_)
      · (first | exact ⟨cell_of hO 0 rfl, cell_of hO 1 rfl⟩ | go_keep)
      clear hK K
      refine wpAnyH_done (by kernel_rfl) ?_ _
      go_wp2_with fail
      go_meet
      exact ⟨_, rfl, hxo, hxM, hx3, hX, hO, hG, hM⟩
    case rest =>
      unfold LoopCut at hcut
      obtain ⟨x, rfl, hox, hxM, hx3, hX, hO', hG', hM'⟩ := hcut
      have GX := hid hX
      have GO := hid hO'
      have GG := hid hG'
      have GM := hid hM'
      have GR := hid (HRR.out _ hG')
      clear hO hG hM hX hO' hG' hM'
      have x0 := cell_of GX.out 0 (v := .int .u64 (lo O2)) rfl
      have x1 := cell_of GX.out 1 (v := .int .u64 (hi O2)) rfl
      have o0 := cell_of GO.out 0 (v := .int .u64 (lo O)) rfl
      have o1 := cell_of GO.out 1 (v := .int .u64 (hi O)) rfl
      have of0 := free_of GO.out 0
      have of1 := free_of GO.out 1
      have r0 := cell_of GR.out 0 (v := .int .u64 0) rfl
      have r1 := cell_of GR.out 1 (v := .int .u64 0) rfl
      have rf0 := free_of GR.out 0
      have rf1 := free_of GR.out 1
      have q := fun w' => eql_marks (lo O2) (hi O2) (lo O) (hi O) w'
      by_cases he : O2 = O
      · have hd : ((lo O2 : Int) == (lo O : Int) && (hi O2 : Int) == (hi O : Int)) = true := by rw [he]; simp
        simp only [hd] at q
        have HE := hid he
        clear hd he
        have hrw : ¬ r < w.heap.size := by omega
        have hdone := rounds_done (n := ws.length) (hit := hitW ws) (a := t) HS.out (k := j) (by omega) (by rw [← HOE.out, ← HO2.out]; exact HE.out)
        rw [← HOE.out] at hdone
        have HD := hid hdone
        have hcj := HCM.out (j + 1 + 1) (by omega)
        clear hdone
        go_wp2_with fail
        exact bodyPost_ret (v := .agg #[.int .u64 (lo O), .int .u64 (hi O)]) (by simp [results, Try.results42, go_sem, r0, r1, rf0, rf1, o0, o1]) rfl
          (by rw [HD.out]; exact ⟨rfl, ((HWW.out _ GG.out).setCell (p := ⟨r, 0, none⟩) (fun h => absurd h hrw) _).setCell (p := ⟨r, 1, none⟩) (fun h => absurd h hrw) _, ((GM.out.setCell (p := ⟨r, 0, none⟩) (fun e => hrM e.symm) _).setCell (p := ⟨r, 1, none⟩) (fun e => hrM e.symm) _).mono hcj⟩)
      · have hd : ((lo O2 : Int) == (lo O : Int) && (hi O2 : Int) == (hi O : Int)) = false := by
          rw [Bool.eq_false_iff]
          intro h
          simp only [Bool.and_eq_true, beq_iff_eq] at h
          refine he (mk_inj hw ?_ HUO.out (by omega) (by omega))
          rw [HO2.out]
          exact upto_more (upto_sem _ _ t) HUO.out
        simp only [hd] at q
        have HE := hid he
        clear hd he
        have hj' := rounds_more (n := ws.length) (hit := hitW ws) (a := t) HS.out (k := j) (fun i hi => by
          by_cases e : i = j
          · subst e; rw [← HOE.out, ← HO2.out]; exact HE.out
          · exact HALL.out i (by omega))
        go_wp2_with fail
        go_roundg (gk - 1)
        case rel => exact ⟨j + 1, by omega, by rw [show rounds ws.length (hitW ws) t S (j + 1) = O2 by rw [HO2.out, HOE.out]; rfl]; exact heap_set (heap_set GO.out _) _, (GG.out.setCell (p := ⟨o, 0, none⟩) (fun _ => Or.inr rfl) _).setCell (p := ⟨o, 1, none⟩) (fun _ => Or.inr rfl) _, (GM.out.setCell (p := ⟨o, 0, none⟩) (fun e => hoM e.symm) _).setCell (p := ⟨o, 1, none⟩) (fun e => hoM e.symm) _, fun i hi => by
          by_cases e : i = j
          · subst e; rw [← HOE.out, ← HO2.out]; exact HE.out
          · exact HALL.out i (by omega)⟩
        case measure => omega
end Go.Proofs.Ytceomkoecidoiaa
