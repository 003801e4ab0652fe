/-
  FollowWords, walked.
-/
import Derived.Test.YtceomkoecidoiaaFwPlain
import Derived.Test.YtceomkoecidoiaaFwOwn
import Derived.Test.YtceomkoecidoiaaFolMain
namespace Go.Proofs.Ytceomkoecidoiaa
open Go.RowKit
attribute [local go_sem ↓] run_ld25 run_ld39

theorem str_info : ∃ i0, Try.prog.info? 9 = some i0 ∧ i0.zero = some (.string ⟨#[]⟩) ∧ i0.size = 1 ∧ i0.bytes = 16 := by
  have hinfo : ((Try.prog.info? 9).map (fun i => (i.zero, i.size, i.bytes))) = some (some (.string ⟨#[]⟩), 1, 16) := by kernel_rfl
  cases hi : Try.prog.info? 9 with
  | none => rw [hi] at hinfo; simp at hinfo
  | some i =>
    rw [hi] at hinfo
    simp only [Option.map_some, Option.some.injEq, Prod.mk.injEq] at hinfo
    exact ⟨i, rfl, hinfo.1, hinfo.2.1, hinfo.2.2⟩
/-- the names that there are -/
def letters : ByteArray := ⟨#[97, 98, 99, 100, 101, 102, 103, 104, 105, 106, 107, 108, 109, 110, 111, 112, 113, 114, 115, 116, 117, 118, 119, 120, 121, 122]⟩
theorem letters_at : ∀ j, j < 24 → letters.extract j (j + 1) = lt j := by decide +kernel
theorem build_plc (s : ByteArray) (w : World) : (Instr.build 59 #[(1, .string s)]).run Try.prog w = .ok (.agg #[.bool false, .string s, .string ⟨#[]⟩, .slice none 0 0]) w := by kernel_rfl
/-- the first j places have letters of their own -/
def Let (cur : Array Value) (j : Nat) : Prop := ∀ i, i < j → cur[i * 4]? = some (.bool false) ∧ cur[i * 4 + 1]? = some (.string (lt i)) ∧ cur[i * 4 + 2]? = some (.string ⟨#[]⟩) ∧ cur[i * 4 + 3]? = some (.slice none 0 0)
/-- the places' row, while letters are given -/
def Giving (w : World) (pa : Option Addr) (P pc j : Nat) : Prop := P = 0 ∨ ∃ g cur, pa = some ⟨g, 0, none⟩ ∧ w.heap[g]? = some (.cells cur 59 (0, 0)) ∧ cur.size = pc * 4 ∧ P ≤ pc ∧ Let cur j

/-- one place more -/
def give (cur : Array Value) (j : Nat) : Array Value := (((cur.setIfInBounds (j * 4) (.bool false)).setIfInBounds (j * 4 + 1) (.string (lt j))).setIfInBounds (j * 4 + 2) (.string ⟨#[]⟩)).setIfInBounds (j * 4 + 3) (.slice none 0 0)
theorem give_size (cur : Array Value) (j : Nat) : (give cur j).size = cur.size := by simp [give]
theorem let_step {cur : Array Value} {j : Nat} (h : Let cur j) (hs : (j + 1) * 4 ≤ cur.size) : Let (give cur j) (j + 1) := by
  intro i hi
  unfold give
  by_cases e : i = j
  · subst e
    have a0 : i * 4 < cur.size := by omega
    have a1 : i * 4 + 1 < cur.size := by omega
    have a2 : i * 4 + 2 < cur.size := by omega
    have a3 : i * 4 + 3 < cur.size := by omega
    refine ⟨?_, ?_, ?_, ?_⟩ <;> simp [Array.getElem?_setIfInBounds, a0, a1, a2, a3]
  · have := h i (by omega)
    have n0 : ∀ x y : Nat, x < 4 → y < 4 → ¬ j * 4 + x = i * 4 + y := fun x y hx hy => by omega
    have m0 := n0 0 0 (by omega) (by omega)
    have m1 := n0 0 1 (by omega) (by omega)
    have m2 := n0 0 2 (by omega) (by omega)
    have m3 := n0 0 3 (by omega) (by omega)
    have m4 := n0 1 0 (by omega) (by omega)
    have m5 := n0 2 0 (by omega) (by omega)
    have m6 := n0 3 0 (by omega) (by omega)
    have k0 := n0 1 1 (by omega) (by omega)
    have k1 := n0 1 2 (by omega) (by omega)
    have k2 := n0 1 3 (by omega) (by omega)
    have k3 := n0 2 1 (by omega) (by omega)
    have k4 := n0 2 2 (by omega) (by omega)
    have k5 := n0 2 3 (by omega) (by omega)
    have k6 := n0 3 1 (by omega) (by omega)
    have k7 := n0 3 2 (by omega) (by omega)
    have k8 := n0 3 3 (by omega) (by omega)
    simp only [Nat.add_zero] at m0 m1 m2 m3 m4 m5 m6
    refine ⟨?_, ?_, ?_, ?_⟩
    · rw [Array.getElem?_setIfInBounds_ne m6, Array.getElem?_setIfInBounds_ne m5, Array.getElem?_setIfInBounds_ne m4, Array.getElem?_setIfInBounds_ne m0]; exact this.1
    · rw [Array.getElem?_setIfInBounds_ne k6, Array.getElem?_setIfInBounds_ne k3, Array.getElem?_setIfInBounds_ne k0, Array.getElem?_setIfInBounds_ne m1]; exact this.2.1
    · rw [Array.getElem?_setIfInBounds_ne k7, Array.getElem?_setIfInBounds_ne k4, Array.getElem?_setIfInBounds_ne k1, Array.getElem?_setIfInBounds_ne m2]; exact this.2.2.1
    · rw [Array.getElem?_setIfInBounds_ne k8, Array.getElem?_setIfInBounds_ne k5, Array.getElem?_setIfInBounds_ne k2, Array.getElem?_setIfInBounds_ne m3]; exact this.2.2.2

set_option maxRecDepth 100000 in
set_option maxHeartbeats 8000000 in
theorem fwords_ok {w : World} {nv pv lv : Value} {wi mm : Int} {bv : ByteArray} {N : List (Int × Int)} {Ln : List Nat} {L : List Int} (C0 : CoreIn w nv pv N Ln) (hL : IntsV w lv L) :
    Calls Try.prog 5 #[.agg #[nv, pv, .int .i64 wi, .string bv, .int .u8 mm], lv] w fun e w' => e = .returned (.bool true) ∧ Fr (fun _ => False) w w' := by
  obtain ⟨lo', lc, rfl, _⟩ := id hL
  obtain ⟨pa0, pc0, rfl, _⟩ := C0.places
  have hC0 := hid C0
  have HL := hid hL
  obtain ⟨kv, hkv⟩ : ∃ kv : Array Value, kv = #[nv, .slice pa0 Ln.length pc0, .int .i64 wi, .string bv, .int .u8 mm] := ⟨_, rfl⟩
  rw [← hkv]
  have HKV := hid hkv
  clear C0 hL hkv
  obtain ⟨n, hn⟩ : ∃ n, n = L.length := ⟨_, rfl⟩
  rw [← hn] at HL ⊢
  have HN := hid hn
  clear hn
  go_enter Try.func5, Try.ntmps5
  go_upto_region 1 with fail
  obtain ⟨w1, hw1⟩ : ∃ w1, w1 = w.alloc (.cells kv 25) := ⟨_, rfl⟩
  obtain ⟨k, hk⟩ : ∃ k, k = w.heap.size := ⟨_, rfl⟩
  rw [← hw1, ← hk]
  have K1 := hid (show w1.heap[k]? = some (.cells kv 25 (0, 0)) by rw [hw1, hk]; exact heap_new w _)
  have F1 := hid (show Fr (fun _ => False) w w1 by rw [hw1]; exact (Fr.refl _ w).alloc _)
  clear hw1 hk
  have l1 := ld_core K1.out (by rw [HKV.out]; rfl)
  have HOV := hid (over_ok (w := w1) (wi := wi) (bv := bv) (mm := mm) (hC0.out.fr F1.out).nodes (hC0.out.fr F1.out).places)
  rw [← HKV.out] at HOV
  go_wp2_with fail
  refine HOV.out.mono ?_
  rintro e w2 ⟨⟨z, rfl, hz, hfew⟩, hF2, hdeep⟩
  have F2 := hid (F1.out.trans' hF2)
  have HFEW := hid hfew
  have HDEEP := hid hdeep
  have K2 := hid (hF2.heap K1.out (fun e => e))
  clear hfew hdeep hF2 l1 HOV
  rcases hz with rfl | rfl
  · by_cases h100 : 100 < n
    · have h100' : (100 : Int) < n := by omega
      go_wp2_with (go_at_call 7; refine (awake_ok _).mono ?_; rintro e w9 ⟨rfl, hf9⟩; have F9 := hid hf9; clear hf9)
      go_ret
      exact ⟨rfl, F2.out.trans' F9.out⟩
    · have h100' : ¬ (100 : Int) < n := by omega
      have hfew := HFEW.out rfl
      have hdeep := HDEEP.out rfl
      have HF3 := hid hfew
      have HD3 := hid hdeep
      obtain ⟨P, hP⟩ : ∃ P, P = Ln.length := ⟨_, rfl⟩
      have HP := hid hP
      have l2 := ld_core K2.out (by rw [HKV.out]; rfl)
      have HOW := Lib.hid (own2_ok (w := w2) (wi := wi) (bv := bv) (mm := mm) (hC0.out.fr F2.out).nodes hfew.1 (hC0.out.fr F2.out).places hfew.2.1 hfew.2.2)
      rw [← HKV.out, ← hP] at HOW
      clear hfew hdeep hP
      go_upto_region 4 with (go_at_call 9; refine HOW.out.mono ?_; rintro e w3 ⟨⟨nv', pa', pc', rfl, hOT⟩, hF3⟩; obtain ⟨na', nc', rfl, hnle, hnc9, _⟩ := id hOT.nodes; unfold coreV at *; have HOT := hid hOT; have F3 := hid hF3; clear hOT hF3)
      obtain ⟨M, hM⟩ : ∃ M, M = N.length := ⟨_, rfl⟩
      rw [← hM] at HOT hnle ⊢
      obtain ⟨o, ho⟩ : ∃ o, o = w3.heap.size := ⟨_, rfl⟩
      obtain ⟨w4, hw4⟩ : ∃ w4, w4 = w3.alloc (.cells #[.slice na' M nc', .slice pa' P pc', .int .i64 wi, .string bv, .int .u8 mm] 39) := ⟨_, rfl⟩
      rw [← hw4, ← ho]
      have O4 := hid (show w4.heap[o]? = some (.cells #[.slice na' M nc', .slice pa' P pc', .int .i64 wi, .string bv, .int .u8 mm] 39 (0, 0)) by rw [hw4, ho]; exact heap_new w3 _)
      have F34 := hid (show Fr (fun _ => False) w3 w4 by rw [hw4]; exact (Fr.refl _ _).alloc _)
      have HMN := hid hM
      have F4 := hid ((F2.out.trans' F3.out).trans' F34.out)
      have ho3 : w3.heap.size ≤ o := by omega
      clear hw4 ho hM l2 HOW
      have l4 := ld_own O4.out (by rfl)
      have hB4 := hid (HOT.out.nodes.fr F34.out (fun _ _ e => e) (fun g h _ => h) (ok' := fun g => (Value.slice na' M nc').ownBlock = some g))
      have hB4t := hid (HOT.out.nodes.fr F34.out (fun _ _ e => e) (fun g _ _ => trivial) (ok' := fun _ => True))
      by_cases h17 : Ok17 N P
      · obtain ⟨t, hNt, hP24, hlv⟩ := ok17_tree h17
        have HBY := Lib.hid (build_yes (pa := pa') (pc := pc') (wi := wi) (bv := bv) (mm := mm) hB4t.out HF3.out.1 h17 t hNt hP24 hlv)
        unfold coreV at HBY
        have HNT := hid hNt
        have HLV := hid hlv
        have H17 := hid h17
        have HLIN := hid (lin_of t (hNt ▸ h17.one) (fun p hp => (hlv p hp).1))
        have HCO := Lib.hid (cost_small (n := n) (t := t) (by omega) (hNt ▸ h17.ok.le) (HD3.out (HP.out ▸ h17.ok) t hNt))
        clear hNt hlv h17
        go_upto_region 7 with (go_at_call 8; refine HBY.out.mono ?_; rintro e w5 ⟨⟨g5, rfl, hg5, hR5, hf5⟩⟩; unfold foV at *; have F45 := hid hf5; have R5 := hid hR5; clear hf5 hR5)
        obtain ⟨s, hs⟩ : ∃ s, s = w5.heap.size := ⟨_, rfl⟩
        obtain ⟨w6, hw6⟩ : ∃ w6, w6 = w5.alloc (.cells #[.bool t.null, .int .u32 (msk t.first 32), .int .u32 (msk t.last 32), .slice (some ⟨g5, 0, none⟩) P P] 32) := ⟨_, rfl⟩
        rw [← hw6, ← hs]
        have S6 := hid (show w6.heap[s]? = some (.cells #[.bool t.null, .int .u32 (msk t.first 32), .int .u32 (msk t.last 32), .slice (some ⟨g5, 0, none⟩) P P] 32 (0, 0)) by rw [hw6, hs]; exact heap_new w5 _)
        have F56 := hid (show Fr (fun _ => False) w5 w6 by rw [hw6]; exact (Fr.refl _ _).alloc _)
        have F46 := hid (F45.out.trans' F56.out)
        have F6 := hid (F4.out.trans' F46.out)
        have R6 := hid (F56.out.heap R5.out.blk (fun e => e))
        have O6 := hid (F46.out.heap O4.out (fun e => e))
        have hs5 : w5.heap.size ≤ s := by omega
        clear hw6 hs R5
        have h34 := F34.out.size
        have h45 := F45.out.size
        have ho4 : o < w4.heap.size := lt_of_block O4.out
        have hs6 : s < w6.heap.size := lt_of_block S6.out
        have h3w := F3.out.size
        have h2w := F2.out.size
        obtain ⟨PB, hPB⟩ : ∃ PB : Nat → Prop, PB = fun q => (Value.slice pa' P pc').ownBlock = some q := ⟨_, rfl⟩
        have hPB' := hid hPB
        obtain ⟨xs, B, hwB, hRow, hNB⟩ : ∃ xs B, w2.heap.size ≤ B ∧ w6.ownsRow B 59 4 (.slice pa' P pc') P xs ∧ ∀ q, (Value.slice na' M nc').ownBlock = some q → q < B := by
          obtain ⟨B, xs, h1, h2, h3⟩ := HOT.out.places
          exact ⟨xs, B, h1, (F34.out.trans' F46.out).owns h2 (fun _ _ e => e), h3⟩
        have hPBlt : ∀ q, PB q → B ≤ q ∧ q < w3.heap.size := by
          intro q hq
          rw [hPB'.out] at hq
          obtain ⟨B', xs', h1, h2, h3⟩ := HOT.out.places
          have h4 := h2.lt q hq
          have h5 := hRow.lt q hq
          exact ⟨h5.1, h4.2⟩
        have hPB4 := hid hPBlt
        have hG0 : Giving w6 pa' P pc' 0 := by
          rcases hRow.2 with ⟨_, h⟩ | ⟨g, cap, cur, hv, hb, hgg, hnc, hcm, hsz, _⟩
          · exact Or.inl h
          · simp only [Value.slice.injEq] at hv
            obtain ⟨rfl, _, rfl⟩ := hv
            exact Or.inr ⟨g, cur, rfl, hgg, hsz, hnc, fun i hi => by omega⟩
        have HG0 := hid hG0
        have hoP : ¬ PB o := fun h => by have := hPB4.out o h; omega
        have hsP : ¬ PB s := fun h => by have := hPB4.out s h; omega
        have HS10 := Lib.hid fun (w' : World) (h : Fr PB w6 w') => (show w'.cell? ⟨o, 1, none⟩ = some (.slice pa' P pc') from cell_of (h.heap O6.out hoP) 1 rfl)
        clear hPB hPBlt hG0 hRow
        go_wp2_with fail
        go_loopw [8] (fun i wr => ∃ j : Nat, j ≤ P ∧ i = .int .i64 j ∧ Giving wr pa' P pc' j ∧ Fr PB w6 wr) (fun i _ => P - (intOf i).toNat)
        case atStart => exact ⟨0, Nat.zero_le _, rfl, HG0.out, Fr.refl _ _⟩
        case round =>
          obtain ⟨j, hj, rfl, hGi, hG⟩ := hrel
          have o1 := HS10.out _ hG
          by_cases hjP : j < P
          · obtain ⟨g, cur, rfl, hcur, hsz, hPc, hlet⟩ := hGi.resolve_left (by omega)
            have HLET := hid hlet
            have hgP : PB g := by rw [hPB'.out]; rfl
            have hjP' : (j : Int) < P := by omega
            have hj0 : (0 : Int) ≤ j := by omega
            have hw1 : IntKind.i64.wrap ((j : Int) + 1) = (j : Int) + 1 := IntWalk.i64_in _ (by omega)
            have hb1 : (0 : Int) ≤ (j : Int) + 1 := by omega
            have hb2 : (j : Int) ≤ (j : Int) + 1 := by omega
            have hb3 : (j : Int) + 1 ≤ 26 := by omega
            have bP := build_plc
            obtain ⟨v0, hv0⟩ : ∃ v0, cur[j * 4]? = some v0 := ⟨cur[j * 4]'(by omega), Array.getElem?_eq_getElem _⟩
            obtain ⟨v1, hv1⟩ : ∃ v1, cur[j * 4 + 1]? = some v1 := ⟨cur[j * 4 + 1]'(by omega), Array.getElem?_eq_getElem _⟩
            obtain ⟨v2, hv2⟩ : ∃ v2, cur[j * 4 + 2]? = some v2 := ⟨cur[j * 4 + 2]'(by omega), Array.getElem?_eq_getElem _⟩
            obtain ⟨v3, hv3⟩ : ∃ v3, cur[j * 4 + 3]? = some v3 := ⟨cur[j * 4 + 3]'(by omega), Array.getElem?_eq_getElem _⟩
            have HC := hid hcur
            have X0 := hid (cell_of hcur (j * 4) hv0)
            have X1 := hid (cell_of hcur (j * 4 + 1) hv1)
            have X2 := hid (cell_of hcur (j * 4 + 2) hv2)
            have X3 := hid (cell_of hcur (j * 4 + 3) hv3)
            clear hlet hcur hv0 hv1 hv2 hv3 hGi
            go_wp2_with fail
            refine wp_region_held_drew (S := (fun w' => w'.cell? ⟨o, 1, none⟩ = some (.slice (some ⟨g, 0, none⟩) P pc'))) (by kernel_rfl) ?_ (fun hH => ?_)
            · (first | exact HS10.out _ hG | exact HS10.out _ hG.drew | go_keep)
            refine wpAnyH_take (i := 0) (oi := { dst := some 58, op := Op.fieldAddr 39 (Operand.tmp 5) 1, type := 0, pos := "own.go:25", after := #[], guard := none }) (v := ?_) rfl (by kernel_rfl) (by kernel_rfl) (by kernel_rfl) (fun _ _ _ h => h) (Or.inl ⟨by rfl, ?_⟩) hH ?_
            rotate_left
            · intro w hSw; (try dsimp only at hSw); go_simp <;> with_reducible rfl
            try simp only [Act.put, List.setIfInBounds_toArray, List.set_cons_zero, List.set_cons_succ]
            refine wpAnyH_take (i := 1) (oi := { dst := some 59, op := Op.load 37 (Operand.tmp 58), type := 37, pos := "own.go:25", after := #[{ on := 0, ground := Ground.data }], guard := none }) (v := ?_) rfl (by kernel_rfl) (by kernel_rfl) (by kernel_rfl) (fun _ _ _ h => h) (Or.inl ⟨by rfl, ?_⟩) hH ?_
            rotate_left
            · intro w hSw; (try dsimp only at hSw); go_simp <;> with_reducible rfl
            try simp only [Act.put, List.setIfInBounds_toArray, List.set_cons_zero, List.set_cons_succ]
            refine wpAnyH_take (i := 2) (oi := { dst := some 60, op := Op.move (Operand.tmp 8), type := 3, pos := "own.go:25", after := #[], guard := none }) (v := ?_) rfl (by kernel_rfl) (by kernel_rfl) (by kernel_rfl) (fun _ _ _ h => h) (Or.inl ⟨by rfl, ?_⟩) hH ?_
            rotate_left
            · intro w hSw; (try dsimp only at hSw); go_simp <;> with_reducible rfl
            try simp only [Act.put, List.setIfInBounds_toArray, List.set_cons_zero, List.set_cons_succ]
            refine wpAnyH_take (i := 3) (oi := { dst := some 61, op := Op.move (Operand.tmp 8), type := 3, pos := "own.go:25", after := #[], guard := none }) (v := ?_) rfl (by kernel_rfl) (by kernel_rfl) (by kernel_rfl) (fun _ _ _ h => h) (Or.inl ⟨by rfl, ?_⟩) hH ?_
            rotate_left
            · intro w hSw; (try dsimp only at hSw); go_simp <;> with_reducible rfl
            try simp only [Act.put, List.setIfInBounds_toArray, List.set_cons_zero, List.set_cons_succ]
            refine wpAnyH_take (i := 4) (oi := { dst := some 62, op := Op.move (Operand.tmp 8), type := 3, pos := "own.go:25", after := #[], guard := none }) (v := ?_) rfl (by kernel_rfl) (by kernel_rfl) (by kernel_rfl) (fun _ _ _ h => h) (Or.inl ⟨by rfl, ?_⟩) hH ?_
            rotate_left
            · intro w hSw; (try dsimp only at hSw); go_simp <;> with_reducible rfl
            try simp only [Act.put, List.setIfInBounds_toArray, List.set_cons_zero, List.set_cons_succ]
            refine wpAnyH_take (i := 5) (oi := { dst := some 63, op := Op.binOp BinOp.add 3 (Operand.tmp 62) (Operand.const (Value.int IntKind.i64 1)) 3, type := 3, pos := "own.go:25", after := #[{ on := 4, ground := Ground.data }], guard := none }) (v := ?_) rfl (by kernel_rfl) (by kernel_rfl) (by kernel_rfl) (fun _ _ _ h => h) (Or.inl ⟨by rfl, ?_⟩) hH ?_
            rotate_left
            · intro w hSw; (try dsimp only at hSw); go_simp <;> with_reducible rfl
            try simp only [Act.put, List.setIfInBounds_toArray, List.set_cons_zero, List.set_cons_succ]
            refine wpAnyH_take (i := 6) (oi := { dst := some 64, op := Op.slice 9 (Operand.const (Value.string { data := #[97, 98, 99, 100, 101, 102, 103, 104, 105, 106, 107, 108, 109, 110, 111, 112, 113, 114, 115, 116, 117, 118, 119, 120, 121, 122] })) (some (Operand.tmp 61)) (some (Operand.tmp 63)) none, type := 9, pos := "own.go:25", after := #[{ on := 3, ground := Ground.data }, { on := 5, ground := Ground.data }], guard := none }) (v := ?_) rfl (by kernel_rfl) (by kernel_rfl) (by kernel_rfl) (fun _ _ _ h => h) (Or.inl ⟨by rfl, ?_⟩) hH ?_
            rotate_left
            · intro w hSw; (try dsimp only at hSw); go_simp <;> with_reducible rfl
            try simp only [Act.put, List.setIfInBounds_toArray, List.set_cons_zero, List.set_cons_succ]
            refine wpAnyH_take (i := 7) (oi := { dst := some 65, op := Op.build 59 #[(1, Operand.tmp 64)], type := 59, pos := "own.go:25", after := #[{ on := 6, ground := Ground.data }], guard := none }) (v := ?_) rfl (by kernel_rfl) (by kernel_rfl) (by kernel_rfl) (fun _ _ _ h => h) (Or.inl ⟨by rfl, ?_⟩) hH ?_
            rotate_left
            · intro w hSw; (try dsimp only at hSw); go_simp <;> with_reducible rfl
            try simp only [Act.put, List.setIfInBounds_toArray, List.set_cons_zero, List.set_cons_succ]
            refine wpAnyH_take (i := 8) (oi := { dst := some 66, op := Op.indexAddr 37 (Operand.tmp 59) (Operand.tmp 60), type := 0, pos := "own.go:25", after := #[{ on := 1, ground := Ground.data }, { on := 2, ground := Ground.data }, { on := 0, ground := Ground.phase }, { on := 1, ground := Ground.phase }, { on := 2, ground := Ground.phase }, { on := 3, ground := Ground.phase }, { on := 4, ground := Ground.phase }, { on := 5, ground := Ground.phase }, { on := 6, ground := Ground.phase }, { on := 7, ground := Ground.phase }], guard := none }) (v := ?_) rfl (by kernel_rfl) (by kernel_rfl) (by kernel_rfl) (fun _ _ _ h => h) (Or.inl ⟨by rfl, ?_⟩) hH ?_
            rotate_left
            · intro w hSw; (try dsimp only at hSw); go_simp <;> with_reducible rfl
            try simp only [Act.put, List.setIfInBounds_toArray, List.set_cons_zero, List.set_cons_succ]
            refine wpAnyH_ready (rs := [9]) (by kernel_rfl) (by simp) ?_
            refine AllReadyH.cons (o := { dst := none, op := Op.store 59 (Operand.tmp 66) (Operand.tmp 65), type := 0, pos := "own.go:25", after := #[{ on := 8, ground := Ground.data }, { on := 7, ground := Ground.data }, { on := 0, ground := Ground.phase }, { on := 1, ground := Ground.phase }, { on := 2, ground := Ground.phase }, { on := 3, ground := Ground.phase }, { on := 4, ground := Ground.phase }, { on := 5, ground := Ground.phase }, { on := 6, ground := Ground.phase }, { on := 7, ground := Ground.phase }], guard := none }) rfl (fun K hK => ?_) AllReadyH.nil
            have x0 := X0.out
            have x1 := X1.out
            have x2 := X2.out
            have x3 := X3.out
            have y0 := free_of HC.out (j * 4)
            have y1 := free_of HC.out (j * 4 + 1)
            have y2 := free_of HC.out (j * 4 + 2)
            have y3 := free_of HC.out (j * 4 + 3)
            go_simp
            generalize hV9 : World.setCell _ _ _ = vE
            clear x0 x1 x2 x3 y0 y1 y2 y3
            have hcell : vE.heap[g]? = some (.cells (give cur j) 59 (0, 0)) := by
              have e := letters_at j (by omega)
              unfold letters at e
              rw [← hV9, e]
              exact heap_set (heap_set (heap_set (heap_set HC.out _) _) _) _
            replace hG : Fr PB w6 vE := by rw [← hV9]; exact (((hG.setCell (p := ⟨g, _, none⟩) (fun _ => hgP) _).setCell (p := ⟨g, _, none⟩) (fun _ => hgP) _).setCell (p := ⟨g, _, none⟩) (fun _ => hgP) _).setCell (p := ⟨g, _, none⟩) (fun _ => hgP) _
            clear hV9
            refine hK.out _ _ ?_ (fun hH => ?_)
            · (first | exact HS10.out _ hG | exact HS10.out _ hG.drew | go_keep)
            clear hK K
            refine wpAnyH_done (by kernel_rfl) ?_ _
            go_wp2_with fail
            go_roundw
            case rel => exact ⟨j + 1, by omega, by go_num, Or.inr ⟨g, _, rfl, hcell, (give_size cur j).trans hsz, hPc, let_step HLET.out (by omega)⟩, hG.drew⟩
            case measure => simp [intOf]; omega
          · obtain rfl : j = P := by omega
            have HG := hid hG
            have HGI := hid hGi
            clear hG hGi
            have F7 := hid (show Fr (fun _ => False) w wr from F6.out.trans HG.out (fun _ e => e) (fun i hi h => by have := hPB4.out i h; omega))
            have S7 := hid (HG.out.heap S6.out hsP)
            have O7 := hid (HG.out.heap O6.out hoP)
            have R7 := hid (HG.out.heap R6.out (fun h => by have := hPB4.out g5 h; omega))
            have B7 := hid (show NodesAt wr (fun _ => True) (.slice na' M nc') N from (hB4.out.fr F46.out (fun _ _ e => e) (fun g h _ => h) (ok' := fun g => (Value.slice na' M nc').ownBlock = some g)).fr HG.out (fun g h hp => by have := hPB4.out g hp; have := hNB g h; omega) (fun _ _ _ => trivial))
            have hos : o < wr.heap.size := lt_of_block O7.out
            have hss : s < wr.heap.size := lt_of_block S7.out
            have o1 := cell_of O7.out 1 (v := .slice pa' j pc') rfl
            obtain ⟨W7, rfl⟩ : ∃ W7, W7 = wr := ⟨wr, rfl⟩
            obtain ⟨i0, hi0, hz0, hz1, hz2⟩ := str_info
            obtain ⟨B2, hB2⟩ : ∃ B2, B2 = W7.heap.size := ⟨_, rfl⟩
            go_wp2_with fail
            go_loopw [9, 10] (fun v i wr => ∃ q : Nat, q ≤ n ∧ i = .int .i64 q ∧ wr.ownsRow B2 9 1 v q ((L.take q).map fun x => .string (letOf j x)) ∧ Fr (fun _ => False) W7 wr) (fun _ i _ => n - (intOf i).toNat)
            case atStart => exact ⟨0, Nat.zero_le _, rfl, World.ownsRow_nil _ _ _ _, Fr.refl _ _⟩
            case round =>
              obtain ⟨q, hq, rfl, hown, hF⟩ := hrel
              have HOWN := hid hown
              have HF := hid hF
              clear hown hF
              obtain ⟨v9, hv9⟩ : ∃ v9, v9 = u9 := ⟨_, rfl⟩
              rw [← hv9] at HOWN ⊢
              clear hv9
              by_cases hqn : q < n
              · obtain ⟨x, hx⟩ : ∃ x, L[q]? = some x := ⟨L[q]'(by have := HN.out; omega), List.getElem?_eq_getElem _⟩
                have HX := hid hx
                have hLw := HL.out
                rw [HN.out] at hLw
                obtain ⟨gl, ol, rfl, hcl⟩ := hLw.at_ hx
                have hglw : gl < w.heap.size := World.block_lt_of_cell? w _ hcl
                have HCL := hid hcl
                have hqn' : (q : Int) < n := by omega
                have hq0 : (0 : Int) ≤ q := by omega
                have hown' : ∀ z, v9.ownBlock = some z → B2 ≤ z := fun z e => (HOWN.out.lt z e).1
                have hwW : w.heap.size ≤ W7.heap.size := F7.out.size
                have hbase : B2 ≤ wr.heap.size := by have := HF.out.size; omega
                have HSL := Lib.hid fun (w' : World) (h : Fr (fun z => v9.ownBlock = some z) wr w') => (show w'.cell? ⟨gl, ol + q, none⟩ = some (.int .i64 x) ∧ w'.cell? ⟨o, 1, none⟩ = some (.slice pa' j pc') from
                  ⟨h.cell (HF.out.cell (F7.out.cell HCL.out (fun e => e)) (fun e => e)) (fun e => by have := hown' _ e; simp only at this; omega), cell_of (h.heap (HF.out.heap O7.out (fun e => e)) (fun e => by have := hown' _ e; omega)) 1 rfl⟩)
                have hsn : (L.take (q + 1)).map (fun x => Value.string (letOf j x)) = (L.take q).map (fun x => Value.string (letOf j x)) ++ [.string (letOf j x)] := by
                  rw [List.take_add_one, HX.out]; simp
                have HSN := hid hsn
                clear hx hcl hLw hsn
                have hG : Fr (fun z => v9.ownBlock = some z) wr wr := Fr.refl _ _
                have hdn : decide ((q : Int) < n) = true := by simp; omega
                go_upto_region 15 with fail
                by_cases hx0 : 0 ≤ x
                · obtain ⟨p, rfl⟩ : ∃ p : Nat, x = p := ⟨x.toNat, by omega⟩
                  by_cases hxP : p < j
                  · have hxd : decide ((p : Int) < j) = true := by simp; omega
                    have hxd' : decide (p < j) = true := by simp; omega
                    have hxd0 : decide ((0 : Int) ≤ p) = true := by simp
                    have hw1 : IntKind.i64.wrap ((p : Int) + 1) = (p : Int) + 1 := IntWalk.i64_in _ (by omega)
                    have hb1 : (0 : Int) ≤ (p : Int) + 1 := by omega
                    have hb2 : (p : Int) ≤ (p : Int) + 1 := by omega
                    have hb3 : (p : Int) + 1 ≤ 26 := by omega
                    have HLE := hid (show letOf j (p : Int) = lt p by unfold letOf; rw [if_pos (by omega)]; rfl)
                    refine wp_region_held_drew (S := (fun w' => w'.cell? ⟨gl, ol + q, none⟩ = some (.int .i64 p) ∧ w'.cell? ⟨o, 1, none⟩ = some (.slice pa' j pc'))) (by kernel_rfl) ?_ (fun hH => ?_)
                    · (first | exact HSL.out _ hG | exact HSL.out _ hG.drew | go_keep)
                    refine wpAnyH_take (i := 0) (oi := { dst := some 73, op := Op.move (Operand.tmp 1), type := 53, pos := "own.go:29", after := #[], guard := none }) (v := ?_) rfl (by kernel_rfl) (by kernel_rfl) (by kernel_rfl) (fun _ _ _ h => h) (Or.inl ⟨by rfl, ?_⟩) hH ?_
                    rotate_left
                    · intro w hSw; (try dsimp only at hSw); go_simp <;> with_reducible rfl
                    try simp only [Act.put, List.setIfInBounds_toArray, List.set_cons_zero, List.set_cons_succ]
                    refine wpAnyH_take (i := 1) (oi := { dst := some 74, op := Op.move (Operand.tmp 10), type := 3, pos := "own.go:29", after := #[], guard := none }) (v := ?_) rfl (by kernel_rfl) (by kernel_rfl) (by kernel_rfl) (fun _ _ _ h => h) (Or.inl ⟨by rfl, ?_⟩) hH ?_
                    rotate_left
                    · intro w hSw; (try dsimp only at hSw); go_simp <;> with_reducible rfl
                    try simp only [Act.put, List.setIfInBounds_toArray, List.set_cons_zero, List.set_cons_succ]
                    refine wpAnyH_take (i := 2) (oi := { dst := some 75, op := Op.indexAddr 53 (Operand.tmp 73) (Operand.tmp 74), type := 0, pos := "own.go:29", after := #[{ on := 0, ground := Ground.data }, { on := 1, ground := Ground.data }], guard := none }) (v := ?_) rfl (by kernel_rfl) (by kernel_rfl) (by kernel_rfl) (fun _ _ _ h => h) (Or.inl ⟨by rfl, ?_⟩) hH ?_
                    rotate_left
                    · intro w hSw; (try dsimp only at hSw); go_simp <;> with_reducible rfl
                    try simp only [Act.put, List.setIfInBounds_toArray, List.set_cons_zero, List.set_cons_succ]
                    refine wpAnyH_take (i := 3) (oi := { dst := some 76, op := Op.load 3 (Operand.tmp 75), type := 3, pos := "own.go:29", after := #[{ on := 2, ground := Ground.data }], guard := none }) (v := ?_) rfl (by kernel_rfl) (by kernel_rfl) (by kernel_rfl) (fun _ _ _ h => h) (Or.inl ⟨by rfl, ?_⟩) hH ?_
                    rotate_left
                    · intro w hSw; (try dsimp only at hSw); go_simp <;> with_reducible rfl
                    try simp only [Act.put, List.setIfInBounds_toArray, List.set_cons_zero, List.set_cons_succ]
                    refine wpAnyH_take (i := 4) (oi := { dst := some 77, op := Op.binOp BinOp.geq 3 (Operand.tmp 76) (Operand.const (Value.int IntKind.i64 0)) 3, type := 4, pos := "own.go:29", after := #[{ on := 3, ground := Ground.data }], guard := none }) (v := ?_) rfl (by kernel_rfl) (by kernel_rfl) (by kernel_rfl) (fun _ _ _ h => h) (Or.inl ⟨by rfl, ?_⟩) hH ?_
                    rotate_left
                    · intro w hSw; (try dsimp only at hSw); go_simp <;> with_reducible rfl
                    try simp only [Act.put, List.setIfInBounds_toArray, List.set_cons_zero, List.set_cons_succ]
                    refine wpAnyH_take (i := 5) (oi := { dst := some 78, op := Op.move (Operand.tmp 77), type := 4, pos := "own.go:29", after := #[{ on := 4, ground := Ground.data }], guard := none }) (v := ?_) rfl (by kernel_rfl) (by kernel_rfl) (by kernel_rfl) (fun _ _ _ h => h) (Or.inl ⟨by rfl, ?_⟩) hH ?_
                    rotate_left
                    · intro w hSw; (try dsimp only at hSw); go_simp <;> with_reducible rfl
                    try simp only [Act.put, List.setIfInBounds_toArray, List.set_cons_zero, List.set_cons_succ]
                    refine wpAnyH_take (i := 6) (oi := { dst := some 79, op := Op.move (Operand.tmp 1), type := 53, pos := "own.go:29", after := #[{ on := 5, ground := Ground.guard }], guard := some (5, true) }) (v := ?_) rfl (by kernel_rfl) (by kernel_rfl) (by kernel_rfl) (fun _ _ _ h => h) (Or.inl ⟨by rfl, ?_⟩) hH ?_
                    rotate_left
                    · intro w hSw; (try dsimp only at hSw); go_simp <;> with_reducible rfl
                    try simp only [Act.put, List.setIfInBounds_toArray, List.set_cons_zero, List.set_cons_succ]
                    refine wpAnyH_take (i := 7) (oi := { dst := some 80, op := Op.move (Operand.tmp 10), type := 3, pos := "own.go:29", after := #[{ on := 5, ground := Ground.guard }], guard := some (5, true) }) (v := ?_) rfl (by kernel_rfl) (by kernel_rfl) (by kernel_rfl) (fun _ _ _ h => h) (Or.inl ⟨by rfl, ?_⟩) hH ?_
                    rotate_left
                    · intro w hSw; (try dsimp only at hSw); go_simp <;> with_reducible rfl
                    try simp only [Act.put, List.setIfInBounds_toArray, List.set_cons_zero, List.set_cons_succ]
                    refine wpAnyH_take (i := 8) (oi := { dst := some 81, op := Op.indexAddr 53 (Operand.tmp 79) (Operand.tmp 80), type := 0, pos := "own.go:29", after := #[{ on := 6, ground := Ground.data }, { on := 7, ground := Ground.data }, { on := 5, ground := Ground.guard }], guard := some (5, true) }) (v := ?_) rfl (by kernel_rfl) (by kernel_rfl) (by kernel_rfl) (fun _ _ _ h => h) (Or.inl ⟨by rfl, ?_⟩) hH ?_
                    rotate_left
                    · intro w hSw; (try dsimp only at hSw); go_simp <;> with_reducible rfl
                    try simp only [Act.put, List.setIfInBounds_toArray, List.set_cons_zero, List.set_cons_succ]
                    refine wpAnyH_take (i := 9) (oi := { dst := some 82, op := Op.load 3 (Operand.tmp 81), type := 3, pos := "own.go:29", after := #[{ on := 8, ground := Ground.data }, { on := 5, ground := Ground.guard }], guard := some (5, true) }) (v := ?_) rfl (by kernel_rfl) (by kernel_rfl) (by kernel_rfl) (fun _ _ _ h => h) (Or.inl ⟨by rfl, ?_⟩) hH ?_
                    rotate_left
                    · intro w hSw; (try dsimp only at hSw); go_simp <;> with_reducible rfl
                    try simp only [Act.put, List.setIfInBounds_toArray, List.set_cons_zero, List.set_cons_succ]
                    refine wpAnyH_take (i := 10) (oi := { dst := some 83, op := Op.fieldAddr 39 (Operand.tmp 5) 1, type := 0, pos := "own.go:29", after := #[{ on := 5, ground := Ground.guard }], guard := some (5, true) }) (v := ?_) rfl (by kernel_rfl) (by kernel_rfl) (by kernel_rfl) (fun _ _ _ h => h) (Or.inl ⟨by rfl, ?_⟩) hH ?_
                    rotate_left
                    · intro w hSw; (try dsimp only at hSw); go_simp <;> with_reducible rfl
                    try simp only [Act.put, List.setIfInBounds_toArray, List.set_cons_zero, List.set_cons_succ]
                    refine wpAnyH_take (i := 11) (oi := { dst := some 84, op := Op.load 37 (Operand.tmp 83), type := 37, pos := "own.go:29", after := #[{ on := 10, ground := Ground.data }, { on := 5, ground := Ground.guard }], guard := some (5, true) }) (v := ?_) rfl (by kernel_rfl) (by kernel_rfl) (by kernel_rfl) (fun _ _ _ h => h) (Or.inl ⟨by rfl, ?_⟩) hH ?_
                    rotate_left
                    · intro w hSw; (try dsimp only at hSw); go_simp <;> with_reducible rfl
                    try simp only [Act.put, List.setIfInBounds_toArray, List.set_cons_zero, List.set_cons_succ]
                    refine wpAnyH_take (i := 12) (oi := { dst := some 85, op := Op.call { callee := Callee.builtin Builtin.len, args := #[Operand.tmp 84], argTypes := #[37] }, type := 3, pos := "own.go:29", after := #[{ on := 11, ground := Ground.data }, { on := 5, ground := Ground.guard }], guard := some (5, true) }) (v := ?_) rfl (by kernel_rfl) (by kernel_rfl) (by kernel_rfl) (fun _ _ _ h => h) (Or.inl ⟨by rfl, ?_⟩) hH ?_
                    rotate_left
                    · intro w hSw; (try dsimp only at hSw); go_simp <;> with_reducible rfl
                    try simp only [Act.put, List.setIfInBounds_toArray, List.set_cons_zero, List.set_cons_succ]
                    refine wpAnyH_take (i := 13) (oi := { dst := some 86, op := Op.binOp BinOp.lss 3 (Operand.tmp 82) (Operand.tmp 85) 3, type := 4, pos := "own.go:29", after := #[{ on := 9, ground := Ground.data }, { on := 12, ground := Ground.data }, { on := 5, ground := Ground.guard }], guard := some (5, true) }) (v := ?_) rfl (by kernel_rfl) (by kernel_rfl) (by kernel_rfl) (fun _ _ _ h => h) (Or.inl ⟨by rfl, ?_⟩) hH ?_
                    rotate_left
                    · intro w hSw; (try dsimp only at hSw); go_simp <;> with_reducible rfl
                    try simp only [Act.put, List.setIfInBounds_toArray, List.set_cons_zero, List.set_cons_succ]
                    refine wpAnyH_take (i := 14) (oi := { dst := some 87, op := Op.pick (Operand.tmp 78) (Operand.tmp 86) (Operand.const (Value.bool false)), type := 4, pos := "own.go:29", after := #[{ on := 5, ground := Ground.data }, { on := 13, ground := Ground.data }], guard := none }) (v := ?_) rfl (by kernel_rfl) (by kernel_rfl) (by kernel_rfl) (fun _ _ _ h => h) (Or.inl ⟨by rfl, ?_⟩) hH ?_
                    rotate_left
                    · intro w hSw; (try dsimp only at hSw); go_simp <;> with_reducible rfl
                    try simp only [Act.put, List.setIfInBounds_toArray, List.set_cons_zero, List.set_cons_succ]
                    refine wpAnyH_done (by kernel_rfl) ?_ _
                    obtain ⟨wa, hwa⟩ : ∃ wa, wa = wr.drew := ⟨_, rfl⟩
                    rw [← hwa]
                    have HA := hid (show Fr (fun _ => False) wr wa by rw [hwa]; exact (Fr.refl _ _).drew)
                    have HOA := hid (show wa.ownsRow B2 9 1 v9 q ((L.take q).map fun x => .string (letOf j x)) by rw [hwa]; exact HOWN.out)
                    have hba : B2 ≤ wa.heap.size := by have := HA.out.size; omega
                    clear hwa hG
                    have HSA := Lib.hid fun (w' : World) (h : Fr (fun z => v9.ownBlock = some z) wa w') => HSL.out w' (HA.out.trans h (fun _ e => e.elim) (fun _ _ e => e))
                    have hG : Fr (fun z => v9.ownBlock = some z) wa wa := Fr.refl _ _
                    go_wp2_with fail
                    refine wp_region_held_drew (S := (fun w' => w'.cell? ⟨gl, ol + q, none⟩ = some (.int .i64 p) ∧ w'.cell? ⟨o, 1, none⟩ = some (.slice pa' j pc'))) (by kernel_rfl) ?_ (fun hH => ?_)
                    · (first | exact HSA.out _ hG | exact HSA.out _ hG.drew | go_keep)
                    refine wpAnyH_take (i := 0) (oi := { dst := some 88, op := Op.move (Operand.tmp 9), type := 60, pos := "own.go:30", after := #[], guard := none }) (v := ?_) rfl (by kernel_rfl) (by kernel_rfl) (by kernel_rfl) (fun _ _ _ h => h) (Or.inl ⟨by rfl, ?_⟩) hH ?_
                    rotate_left
                    · intro w hSw; (try dsimp only at hSw); go_simp <;> with_reducible rfl
                    try simp only [Act.put, List.setIfInBounds_toArray, List.set_cons_zero, List.set_cons_succ]
                    refine wpAnyH_take (i := 1) (oi := { dst := some 89, op := Op.move (Operand.tmp 1), type := 53, pos := "own.go:30", after := #[], guard := none }) (v := ?_) rfl (by kernel_rfl) (by kernel_rfl) (by kernel_rfl) (fun _ _ _ h => h) (Or.inl ⟨by rfl, ?_⟩) hH ?_
                    rotate_left
                    · intro w hSw; (try dsimp only at hSw); go_simp <;> with_reducible rfl
                    try simp only [Act.put, List.setIfInBounds_toArray, List.set_cons_zero, List.set_cons_succ]
                    refine wpAnyH_take (i := 2) (oi := { dst := some 90, op := Op.move (Operand.tmp 10), type := 3, pos := "own.go:30", after := #[], guard := none }) (v := ?_) rfl (by kernel_rfl) (by kernel_rfl) (by kernel_rfl) (fun _ _ _ h => h) (Or.inl ⟨by rfl, ?_⟩) hH ?_
                    rotate_left
                    · intro w hSw; (try dsimp only at hSw); go_simp <;> with_reducible rfl
                    try simp only [Act.put, List.setIfInBounds_toArray, List.set_cons_zero, List.set_cons_succ]
                    refine wpAnyH_take (i := 3) (oi := { dst := some 91, op := Op.indexAddr 53 (Operand.tmp 89) (Operand.tmp 90), type := 0, pos := "own.go:30", after := #[{ on := 1, ground := Ground.data }, { on := 2, ground := Ground.data }], guard := none }) (v := ?_) rfl (by kernel_rfl) (by kernel_rfl) (by kernel_rfl) (fun _ _ _ h => h) (Or.inl ⟨by rfl, ?_⟩) hH ?_
                    rotate_left
                    · intro w hSw; (try dsimp only at hSw); go_simp <;> with_reducible rfl
                    try simp only [Act.put, List.setIfInBounds_toArray, List.set_cons_zero, List.set_cons_succ]
                    refine wpAnyH_take (i := 4) (oi := { dst := some 92, op := Op.load 3 (Operand.tmp 91), type := 3, pos := "own.go:30", after := #[{ on := 3, ground := Ground.data }], guard := none }) (v := ?_) rfl (by kernel_rfl) (by kernel_rfl) (by kernel_rfl) (fun _ _ _ h => h) (Or.inl ⟨by rfl, ?_⟩) hH ?_
                    rotate_left
                    · intro w hSw; (try dsimp only at hSw); go_simp <;> with_reducible rfl
                    try simp only [Act.put, List.setIfInBounds_toArray, List.set_cons_zero, List.set_cons_succ]
                    refine wpAnyH_take (i := 5) (oi := { dst := some 93, op := Op.move (Operand.tmp 1), type := 53, pos := "own.go:30", after := #[], guard := none }) (v := ?_) rfl (by kernel_rfl) (by kernel_rfl) (by kernel_rfl) (fun _ _ _ h => h) (Or.inl ⟨by rfl, ?_⟩) hH ?_
                    rotate_left
                    · intro w hSw; (try dsimp only at hSw); go_simp <;> with_reducible rfl
                    try simp only [Act.put, List.setIfInBounds_toArray, List.set_cons_zero, List.set_cons_succ]
                    refine wpAnyH_take (i := 6) (oi := { dst := some 94, op := Op.move (Operand.tmp 10), type := 3, pos := "own.go:30", after := #[], guard := none }) (v := ?_) rfl (by kernel_rfl) (by kernel_rfl) (by kernel_rfl) (fun _ _ _ h => h) (Or.inl ⟨by rfl, ?_⟩) hH ?_
                    rotate_left
                    · intro w hSw; (try dsimp only at hSw); go_simp <;> with_reducible rfl
                    try simp only [Act.put, List.setIfInBounds_toArray, List.set_cons_zero, List.set_cons_succ]
                    refine wpAnyH_take (i := 7) (oi := { dst := some 95, op := Op.indexAddr 53 (Operand.tmp 93) (Operand.tmp 94), type := 0, pos := "own.go:30", after := #[{ on := 5, ground := Ground.data }, { on := 6, ground := Ground.data }], guard := none }) (v := ?_) rfl (by kernel_rfl) (by kernel_rfl) (by kernel_rfl) (fun _ _ _ h => h) (Or.inl ⟨by rfl, ?_⟩) hH ?_
                    rotate_left
                    · intro w hSw; (try dsimp only at hSw); go_simp <;> with_reducible rfl
                    try simp only [Act.put, List.setIfInBounds_toArray, List.set_cons_zero, List.set_cons_succ]
                    refine wpAnyH_take (i := 8) (oi := { dst := some 96, op := Op.load 3 (Operand.tmp 95), type := 3, pos := "own.go:30", after := #[{ on := 7, ground := Ground.data }], guard := none }) (v := ?_) rfl (by kernel_rfl) (by kernel_rfl) (by kernel_rfl) (fun _ _ _ h => h) (Or.inl ⟨by rfl, ?_⟩) hH ?_
                    rotate_left
                    · intro w hSw; (try dsimp only at hSw); go_simp <;> with_reducible rfl
                    try simp only [Act.put, List.setIfInBounds_toArray, List.set_cons_zero, List.set_cons_succ]
                    refine wpAnyH_take (i := 9) (oi := { dst := some 97, op := Op.binOp BinOp.add 3 (Operand.tmp 96) (Operand.const (Value.int IntKind.i64 1)) 3, type := 3, pos := "own.go:30", after := #[{ on := 8, ground := Ground.data }], guard := none }) (v := ?_) rfl (by kernel_rfl) (by kernel_rfl) (by kernel_rfl) (fun _ _ _ h => h) (Or.inl ⟨by rfl, ?_⟩) hH ?_
                    rotate_left
                    · intro w hSw; (try dsimp only at hSw); go_simp <;> with_reducible rfl
                    try simp only [Act.put, List.setIfInBounds_toArray, List.set_cons_zero, List.set_cons_succ]
                    refine wpAnyH_take (i := 10) (oi := { dst := some 98, op := Op.slice 9 (Operand.const (Value.string { data := #[97, 98, 99, 100, 101, 102, 103, 104, 105, 106, 107, 108, 109, 110, 111, 112, 113, 114, 115, 116, 117, 118, 119, 120, 121, 122] })) (some (Operand.tmp 92)) (some (Operand.tmp 97)) none, type := 9, pos := "own.go:30", after := #[{ on := 4, ground := Ground.data }, { on := 9, ground := Ground.data }], guard := none }) (v := ?_) rfl (by kernel_rfl) (by kernel_rfl) (by kernel_rfl) (fun _ _ _ h => h) (Or.inl ⟨by rfl, ?_⟩) hH ?_
                    rotate_left
                    · intro w hSw; (try dsimp only at hSw); go_simp <;> with_reducible rfl
                    try simp only [Act.put, List.setIfInBounds_toArray, List.set_cons_zero, List.set_cons_succ]
                    refine wpAnyH_ready (rs := [11]) (by kernel_rfl) (by simp) ?_
                    refine AllReadyH.cons (o := { dst := some 99, op := Op.buildSlice 60 1 #[(0, Operand.tmp 98)], type := 60, pos := "own.go:30", after := #[{ on := 10, ground := Ground.data }], guard := none }) rfl (fun K hK => ?_) AllReadyH.nil
                    go_simp
                    generalize hV9 : World.alloc _ _ = wz
                    obtain ⟨wy, hwy⟩ : ∃ wy, wy = wz.drew := ⟨_, rfl⟩
                    rw [← hwy]
                    obtain ⟨e8, he8⟩ : ∃ e8, e8 = wa.heap.size := ⟨_, rfl⟩
                    rw [← he8]
                    have hN : wy.heap[e8]? = some (.cells #[.string (lt p)] 9 (0, 0)) := by
                      have e := letters_at p (by omega)
                      unfold letters at e
                      rw [hwy, he8, ← hV9, e]
                      exact heap_new _ _
                    have hY : Fr (fun _ => False) wa wy := by rw [hwy, ← hV9]; exact ((Fr.refl _ wa).alloc _).drew
                    replace hG : Fr (fun z => v9.ownBlock = some z) wa wy := hY.mono (fun _ _ e => e.elim)
                    clear hwy he8 hV9
                    refine hK.out _ _ ?_ (fun hH => ?_)
                    · (first | exact HSA.out _ hG | exact HSA.out _ hG.drew | go_keep)
                    clear hK K
                    try simp only [Act.put, List.setIfInBounds_toArray, List.set_cons_zero, List.set_cons_succ]
                    refine wpAnyH_ready (rs := [12]) (by kernel_rfl) (by simp) ?_
                    refine AllReadyH.cons (o := { dst := some 100, op := Op.call { callee := Callee.builtin Builtin.append, args := #[Operand.tmp 88, Operand.tmp 99], argTypes := #[60, 60] }, type := 60, pos := "own.go:30", after := #[{ on := 0, ground := Ground.data }, { on := 11, ground := Ground.data }], guard := none }) rfl (fun K hK => ?_) AllReadyH.nil
                    refine step_append_lies _ (by rfl) _ _ _ (by rfl) B2 9 i0 _ 1 16 Try.underlying60 hi0 hz0 hz1 hz2 rfl (by omega) v9 q _ (by rfl) (hY.owns HOA.out (fun _ _ e => e)) ⟨e8, 0, none⟩ 1 1 [.string (lt p)] (by rfl) (by rfl) (World.news_of_block hN) (by simp [Value.oneCell']) (by omega) (by unfold maxLen; omega) (by omega) (by have := hY.size; omega) wy.heap.size rfl ?_
                    intro gg cp w9 hown1 hgrow hat hlt9
                    have HO9 := hid hown1
                    replace hG := hG.grown (S := fun z => v9.ownBlock = some z) hgrow (fun z e _ => e)
                    refine hK.out _ _ ?_ (fun hH => ?_)
                    · (first | exact HSA.out _ hG | exact HSA.out _ hG.drew | go_keep)
                    clear hK K
                    try simp only [Act.put, List.setIfInBounds_toArray, List.set_cons_zero, List.set_cons_succ]
                    refine wpAnyH_take (i := 13) (oi := { dst := some 9, op := Op.assign (Operand.tmp 100), type := 60, pos := "own.go:30", after := #[{ on := 12, ground := Ground.data }, { on := 12, ground := Ground.chain }, { on := 0, ground := Ground.phase }, { on := 1, ground := Ground.phase }, { on := 2, ground := Ground.phase }, { on := 3, ground := Ground.phase }, { on := 4, ground := Ground.phase }, { on := 5, ground := Ground.phase }, { on := 6, ground := Ground.phase }, { on := 7, ground := Ground.phase }, { on := 8, ground := Ground.phase }, { on := 9, ground := Ground.phase }, { on := 10, ground := Ground.phase }, { on := 11, ground := Ground.phase }, { on := 12, ground := Ground.phase }], guard := none }) (v := ?_) rfl (by kernel_rfl) (by kernel_rfl) (by kernel_rfl) (fun _ _ _ h => h) (Or.inl ⟨by rfl, ?_⟩) hH ?_
                    rotate_left
                    · intro w hSw; (try dsimp only at hSw); go_simp <;> with_reducible rfl
                    try simp only [Act.put, List.setIfInBounds_toArray, List.set_cons_zero, List.set_cons_succ]
                    refine wpAnyH_done (by kernel_rfl) ?_ _
                    go_wp2_with fail
                    go_roundw
                    case rel => exact ⟨q + 1, by omega, by go_num, by rw [HSN.out, HLE.out]; exact HO9.out, HF.out.trans (HA.out.trans hG (fun _ e => e.elim) (fun _ _ e => e)) (fun _ e => e) (fun i hi e => by have := hown' i e; omega)⟩
                    case measure => simp [intOf]; omega
                  · have hxd : decide ((p : Int) < j) = false := by simp; omega
                    have hxd' : decide (p < j) = false := by simp; omega
                    have hxd0 : decide ((0 : Int) ≤ p) = true := by simp
                    have HLE := hid (show letOf j (p : Int) = ⟨#[63]⟩ by unfold letOf; rw [if_neg (by omega)])
                    refine wp_region_held_drew (S := (fun w' => w'.cell? ⟨gl, ol + q, none⟩ = some (.int .i64 p) ∧ w'.cell? ⟨o, 1, none⟩ = some (.slice pa' j pc'))) (by kernel_rfl) ?_ (fun hH => ?_)
                    · (first | exact HSL.out _ hG | exact HSL.out _ hG.drew | go_keep)
                    refine wpAnyH_take (i := 0) (oi := { dst := some 73, op := Op.move (Operand.tmp 1), type := 53, pos := "own.go:29", after := #[], guard := none }) (v := ?_) rfl (by kernel_rfl) (by kernel_rfl) (by kernel_rfl) (fun _ _ _ h => h) (Or.inl ⟨by rfl, ?_⟩) hH ?_
                    rotate_left
                    · intro w hSw; (try dsimp only at hSw); go_simp <;> with_reducible rfl
                    try simp only [Act.put, List.setIfInBounds_toArray, List.set_cons_zero, List.set_cons_succ]
                    refine wpAnyH_take (i := 1) (oi := { dst := some 74, op := Op.move (Operand.tmp 10), type := 3, pos := "own.go:29", after := #[], guard := none }) (v := ?_) rfl (by kernel_rfl) (by kernel_rfl) (by kernel_rfl) (fun _ _ _ h => h) (Or.inl ⟨by rfl, ?_⟩) hH ?_
                    rotate_left
                    · intro w hSw; (try dsimp only at hSw); go_simp <;> with_reducible rfl
                    try simp only [Act.put, List.setIfInBounds_toArray, List.set_cons_zero, List.set_cons_succ]
                    refine wpAnyH_take (i := 2) (oi := { dst := some 75, op := Op.indexAddr 53 (Operand.tmp 73) (Operand.tmp 74), type := 0, pos := "own.go:29", after := #[{ on := 0, ground := Ground.data }, { on := 1, ground := Ground.data }], guard := none }) (v := ?_) rfl (by kernel_rfl) (by kernel_rfl) (by kernel_rfl) (fun _ _ _ h => h) (Or.inl ⟨by rfl, ?_⟩) hH ?_
                    rotate_left
                    · intro w hSw; (try dsimp only at hSw); go_simp <;> with_reducible rfl
                    try simp only [Act.put, List.setIfInBounds_toArray, List.set_cons_zero, List.set_cons_succ]
                    refine wpAnyH_take (i := 3) (oi := { dst := some 76, op := Op.load 3 (Operand.tmp 75), type := 3, pos := "own.go:29", after := #[{ on := 2, ground := Ground.data }], guard := none }) (v := ?_) rfl (by kernel_rfl) (by kernel_rfl) (by kernel_rfl) (fun _ _ _ h => h) (Or.inl ⟨by rfl, ?_⟩) hH ?_
                    rotate_left
                    · intro w hSw; (try dsimp only at hSw); go_simp <;> with_reducible rfl
                    try simp only [Act.put, List.setIfInBounds_toArray, List.set_cons_zero, List.set_cons_succ]
                    refine wpAnyH_take (i := 4) (oi := { dst := some 77, op := Op.binOp BinOp.geq 3 (Operand.tmp 76) (Operand.const (Value.int IntKind.i64 0)) 3, type := 4, pos := "own.go:29", after := #[{ on := 3, ground := Ground.data }], guard := none }) (v := ?_) rfl (by kernel_rfl) (by kernel_rfl) (by kernel_rfl) (fun _ _ _ h => h) (Or.inl ⟨by rfl, ?_⟩) hH ?_
                    rotate_left
                    · intro w hSw; (try dsimp only at hSw); go_simp <;> with_reducible rfl
                    try simp only [Act.put, List.setIfInBounds_toArray, List.set_cons_zero, List.set_cons_succ]
                    refine wpAnyH_take (i := 5) (oi := { dst := some 78, op := Op.move (Operand.tmp 77), type := 4, pos := "own.go:29", after := #[{ on := 4, ground := Ground.data }], guard := none }) (v := ?_) rfl (by kernel_rfl) (by kernel_rfl) (by kernel_rfl) (fun _ _ _ h => h) (Or.inl ⟨by rfl, ?_⟩) hH ?_
                    rotate_left
                    · intro w hSw; (try dsimp only at hSw); go_simp <;> with_reducible rfl
                    try simp only [Act.put, List.setIfInBounds_toArray, List.set_cons_zero, List.set_cons_succ]
                    refine wpAnyH_take (i := 6) (oi := { dst := some 79, op := Op.move (Operand.tmp 1), type := 53, pos := "own.go:29", after := #[{ on := 5, ground := Ground.guard }], guard := some (5, true) }) (v := ?_) rfl (by kernel_rfl) (by kernel_rfl) (by kernel_rfl) (fun _ _ _ h => h) (Or.inl ⟨by rfl, ?_⟩) hH ?_
                    rotate_left
                    · intro w hSw; (try dsimp only at hSw); go_simp <;> with_reducible rfl
                    try simp only [Act.put, List.setIfInBounds_toArray, List.set_cons_zero, List.set_cons_succ]
                    refine wpAnyH_take (i := 7) (oi := { dst := some 80, op := Op.move (Operand.tmp 10), type := 3, pos := "own.go:29", after := #[{ on := 5, ground := Ground.guard }], guard := some (5, true) }) (v := ?_) rfl (by kernel_rfl) (by kernel_rfl) (by kernel_rfl) (fun _ _ _ h => h) (Or.inl ⟨by rfl, ?_⟩) hH ?_
                    rotate_left
                    · intro w hSw; (try dsimp only at hSw); go_simp <;> with_reducible rfl
                    try simp only [Act.put, List.setIfInBounds_toArray, List.set_cons_zero, List.set_cons_succ]
                    refine wpAnyH_take (i := 8) (oi := { dst := some 81, op := Op.indexAddr 53 (Operand.tmp 79) (Operand.tmp 80), type := 0, pos := "own.go:29", after := #[{ on := 6, ground := Ground.data }, { on := 7, ground := Ground.data }, { on := 5, ground := Ground.guard }], guard := some (5, true) }) (v := ?_) rfl (by kernel_rfl) (by kernel_rfl) (by kernel_rfl) (fun _ _ _ h => h) (Or.inl ⟨by rfl, ?_⟩) hH ?_
                    rotate_left
                    · intro w hSw; (try dsimp only at hSw); go_simp <;> with_reducible rfl
                    try simp only [Act.put, List.setIfInBounds_toArray, List.set_cons_zero, List.set_cons_succ]
                    refine wpAnyH_take (i := 9) (oi := { dst := some 82, op := Op.load 3 (Operand.tmp 81), type := 3, pos := "own.go:29", after := #[{ on := 8, ground := Ground.data }, { on := 5, ground := Ground.guard }], guard := some (5, true) }) (v := ?_) rfl (by kernel_rfl) (by kernel_rfl) (by kernel_rfl) (fun _ _ _ h => h) (Or.inl ⟨by rfl, ?_⟩) hH ?_
                    rotate_left
                    · intro w hSw; (try dsimp only at hSw); go_simp <;> with_reducible rfl
                    try simp only [Act.put, List.setIfInBounds_toArray, List.set_cons_zero, List.set_cons_succ]
                    refine wpAnyH_take (i := 10) (oi := { dst := some 83, op := Op.fieldAddr 39 (Operand.tmp 5) 1, type := 0, pos := "own.go:29", after := #[{ on := 5, ground := Ground.guard }], guard := some (5, true) }) (v := ?_) rfl (by kernel_rfl) (by kernel_rfl) (by kernel_rfl) (fun _ _ _ h => h) (Or.inl ⟨by rfl, ?_⟩) hH ?_
                    rotate_left
                    · intro w hSw; (try dsimp only at hSw); go_simp <;> with_reducible rfl
                    try simp only [Act.put, List.setIfInBounds_toArray, List.set_cons_zero, List.set_cons_succ]
                    refine wpAnyH_take (i := 11) (oi := { dst := some 84, op := Op.load 37 (Operand.tmp 83), type := 37, pos := "own.go:29", after := #[{ on := 10, ground := Ground.data }, { on := 5, ground := Ground.guard }], guard := some (5, true) }) (v := ?_) rfl (by kernel_rfl) (by kernel_rfl) (by kernel_rfl) (fun _ _ _ h => h) (Or.inl ⟨by rfl, ?_⟩) hH ?_
                    rotate_left
                    · intro w hSw; (try dsimp only at hSw); go_simp <;> with_reducible rfl
                    try simp only [Act.put, List.setIfInBounds_toArray, List.set_cons_zero, List.set_cons_succ]
                    refine wpAnyH_take (i := 12) (oi := { dst := some 85, op := Op.call { callee := Callee.builtin Builtin.len, args := #[Operand.tmp 84], argTypes := #[37] }, type := 3, pos := "own.go:29", after := #[{ on := 11, ground := Ground.data }, { on := 5, ground := Ground.guard }], guard := some (5, true) }) (v := ?_) rfl (by kernel_rfl) (by kernel_rfl) (by kernel_rfl) (fun _ _ _ h => h) (Or.inl ⟨by rfl, ?_⟩) hH ?_
                    rotate_left
                    · intro w hSw; (try dsimp only at hSw); go_simp <;> with_reducible rfl
                    try simp only [Act.put, List.setIfInBounds_toArray, List.set_cons_zero, List.set_cons_succ]
                    refine wpAnyH_take (i := 13) (oi := { dst := some 86, op := Op.binOp BinOp.lss 3 (Operand.tmp 82) (Operand.tmp 85) 3, type := 4, pos := "own.go:29", after := #[{ on := 9, ground := Ground.data }, { on := 12, ground := Ground.data }, { on := 5, ground := Ground.guard }], guard := some (5, true) }) (v := ?_) rfl (by kernel_rfl) (by kernel_rfl) (by kernel_rfl) (fun _ _ _ h => h) (Or.inl ⟨by rfl, ?_⟩) hH ?_
                    rotate_left
                    · intro w hSw; (try dsimp only at hSw); go_simp <;> with_reducible rfl
                    try simp only [Act.put, List.setIfInBounds_toArray, List.set_cons_zero, List.set_cons_succ]
                    refine wpAnyH_take (i := 14) (oi := { dst := some 87, op := Op.pick (Operand.tmp 78) (Operand.tmp 86) (Operand.const (Value.bool false)), type := 4, pos := "own.go:29", after := #[{ on := 5, ground := Ground.data }, { on := 13, ground := Ground.data }], guard := none }) (v := ?_) rfl (by kernel_rfl) (by kernel_rfl) (by kernel_rfl) (fun _ _ _ h => h) (Or.inl ⟨by rfl, ?_⟩) hH ?_
                    rotate_left
                    · intro w hSw; (try dsimp only at hSw); go_simp <;> with_reducible rfl
                    try simp only [Act.put, List.setIfInBounds_toArray, List.set_cons_zero, List.set_cons_succ]
                    refine wpAnyH_done (by kernel_rfl) ?_ _
                    obtain ⟨wa, hwa⟩ : ∃ wa, wa = wr.drew := ⟨_, rfl⟩
                    rw [← hwa]
                    have HA := hid (show Fr (fun _ => False) wr wa by rw [hwa]; exact (Fr.refl _ _).drew)
                    have HOA := hid (show wa.ownsRow B2 9 1 v9 q ((L.take q).map fun x => .string (letOf j x)) by rw [hwa]; exact HOWN.out)
                    have hba : B2 ≤ wa.heap.size := by have := HA.out.size; omega
                    clear hwa hG
                    have HQ : B2 ≤ (wa.alloc (.cells #[.string ⟨#[63]⟩] 9)).heap.size := by simp; omega
                    have hN := heap_new wa (.cells #[.string ⟨#[63]⟩] 9)
                    go_wp2_with (at_builtin; refine wpList_append_lies _ (by rfl) _ _ _ (by rfl) B2 9 i0 _ 1 16 Try.underlying60 hi0 hz0 hz1 hz2 rfl (by omega) v9 q _ (by rfl) (by exact ((Fr.refl (fun _ => False) wa).alloc _).owns HOA.out (fun _ _ e => e)) ⟨wa.heap.size, 0, none⟩ 1 1 [.string ⟨#[63]⟩] (by rfl) (by rfl) (World.news_of_block (cs := #[.string ⟨#[63]⟩]) (t := 9) (fr := (0, 0)) (by exact hN)) (by simp [Value.oneCell']) (by omega) (by unfold maxLen; omega) (by omega) (by exact HQ) (wa.heap.size + 1) (by simp) ?_; intro gg cp w9 hown1 hgrow hat hlt9; have HO9 := hid hown1; have HG9 := hid hgrow; clear hown1 hgrow hat hlt9)
                    go_roundw
                    case rel => exact ⟨q + 1, by omega, by go_num, by rw [HSN.out, HLE.out]; exact HO9.out, (HF.out.trans (((HA.out.alloc _).mono (fun _ _ e => e.elim)).grown (S := fun z => v9.ownBlock = some z) HG9.out (fun z e _ => e)) (fun _ e => e) (fun i hi e => by have := hown' i e; omega))⟩
                    case measure => simp [intOf]; omega
                · have hxd0 : decide ((0 : Int) ≤ x) = false := by simp; omega
                  have HLE := hid (show letOf j x = ⟨#[63]⟩ by unfold letOf; rw [if_neg (by omega)])
                  have hx1 : x < 0 := by omega
                  refine wp_region_held_drew (S := (fun w' => w'.cell? ⟨gl, ol + q, none⟩ = some (.int .i64 x) ∧ w'.cell? ⟨o, 1, none⟩ = some (.slice pa' j pc'))) (by kernel_rfl) ?_ (fun hH => ?_)
                  · (first | exact HSL.out _ hG | exact HSL.out _ hG.drew | go_keep)
                  refine wpAnyH_take (i := 0) (oi := { dst := some 73, op := Op.move (Operand.tmp 1), type := 53, pos := "own.go:29", after := #[], guard := none }) (v := ?_) rfl (by kernel_rfl) (by kernel_rfl) (by kernel_rfl) (fun _ _ _ h => h) (Or.inl ⟨by rfl, ?_⟩) hH ?_
                  rotate_left
                  · intro w hSw; (try dsimp only at hSw); go_simp <;> with_reducible rfl
                  try simp only [Act.put, List.setIfInBounds_toArray, List.set_cons_zero, List.set_cons_succ]
                  refine wpAnyH_take (i := 1) (oi := { dst := some 74, op := Op.move (Operand.tmp 10), type := 3, pos := "own.go:29", after := #[], guard := none }) (v := ?_) rfl (by kernel_rfl) (by kernel_rfl) (by kernel_rfl) (fun _ _ _ h => h) (Or.inl ⟨by rfl, ?_⟩) hH ?_
                  rotate_left
                  · intro w hSw; (try dsimp only at hSw); go_simp <;> with_reducible rfl
                  try simp only [Act.put, List.setIfInBounds_toArray, List.set_cons_zero, List.set_cons_succ]
                  refine wpAnyH_take (i := 2) (oi := { dst := some 75, op := Op.indexAddr 53 (Operand.tmp 73) (Operand.tmp 74), type := 0, pos := "own.go:29", after := #[{ on := 0, ground := Ground.data }, { on := 1, ground := Ground.data }], guard := none }) (v := ?_) rfl (by kernel_rfl) (by kernel_rfl) (by kernel_rfl) (fun _ _ _ h => h) (Or.inl ⟨by rfl, ?_⟩) hH ?_
                  rotate_left
                  · intro w hSw; (try dsimp only at hSw); go_simp <;> with_reducible rfl
                  try simp only [Act.put, List.setIfInBounds_toArray, List.set_cons_zero, List.set_cons_succ]
                  refine wpAnyH_take (i := 3) (oi := { dst := some 76, op := Op.load 3 (Operand.tmp 75), type := 3, pos := "own.go:29", after := #[{ on := 2, ground := Ground.data }], guard := none }) (v := ?_) rfl (by kernel_rfl) (by kernel_rfl) (by kernel_rfl) (fun _ _ _ h => h) (Or.inl ⟨by rfl, ?_⟩) hH ?_
                  rotate_left
                  · intro w hSw; (try dsimp only at hSw); go_simp <;> with_reducible rfl
                  try simp only [Act.put, List.setIfInBounds_toArray, List.set_cons_zero, List.set_cons_succ]
                  refine wpAnyH_take (i := 4) (oi := { dst := some 77, op := Op.binOp BinOp.geq 3 (Operand.tmp 76) (Operand.const (Value.int IntKind.i64 0)) 3, type := 4, pos := "own.go:29", after := #[{ on := 3, ground := Ground.data }], guard := none }) (v := ?_) rfl (by kernel_rfl) (by kernel_rfl) (by kernel_rfl) (fun _ _ _ h => h) (Or.inl ⟨by rfl, ?_⟩) hH ?_
                  rotate_left
                  · intro w hSw; (try dsimp only at hSw); go_simp <;> with_reducible rfl
                  try simp only [Act.put, List.setIfInBounds_toArray, List.set_cons_zero, List.set_cons_succ]
                  refine wpAnyH_take (i := 5) (oi := { dst := some 78, op := Op.move (Operand.tmp 77), type := 4, pos := "own.go:29", after := #[{ on := 4, ground := Ground.data }], guard := none }) (v := ?_) rfl (by kernel_rfl) (by kernel_rfl) (by kernel_rfl) (fun _ _ _ h => h) (Or.inl ⟨by rfl, ?_⟩) hH ?_
                  rotate_left
                  · intro w hSw; (try dsimp only at hSw); go_simp <;> with_reducible rfl
                  try simp only [Act.put, List.setIfInBounds_toArray, List.set_cons_zero, List.set_cons_succ]
                  refine wpAnyH_take (i := 6) (oi := { dst := some 79, op := Op.move (Operand.tmp 1), type := 53, pos := "own.go:29", after := #[{ on := 5, ground := Ground.guard }], guard := some (5, true) }) (v := undef) rfl (by kernel_rfl) (by kernel_rfl) (by kernel_rfl) (fun _ _ _ h => h) (Or.inr ⟨by rfl, rfl⟩) hH ?_
                  try simp only [Act.put, List.setIfInBounds_toArray, List.set_cons_zero, List.set_cons_succ]
                  refine wpAnyH_take (i := 7) (oi := { dst := some 80, op := Op.move (Operand.tmp 10), type := 3, pos := "own.go:29", after := #[{ on := 5, ground := Ground.guard }], guard := some (5, true) }) (v := undef) rfl (by kernel_rfl) (by kernel_rfl) (by kernel_rfl) (fun _ _ _ h => h) (Or.inr ⟨by rfl, rfl⟩) hH ?_
                  try simp only [Act.put, List.setIfInBounds_toArray, List.set_cons_zero, List.set_cons_succ]
                  refine wpAnyH_take (i := 8) (oi := { dst := some 81, op := Op.indexAddr 53 (Operand.tmp 79) (Operand.tmp 80), type := 0, pos := "own.go:29", after := #[{ on := 6, ground := Ground.data }, { on := 7, ground := Ground.data }, { on := 5, ground := Ground.guard }], guard := some (5, true) }) (v := undef) rfl (by kernel_rfl) (by kernel_rfl) (by kernel_rfl) (fun _ _ _ h => h) (Or.inr ⟨by rfl, rfl⟩) hH ?_
                  try simp only [Act.put, List.setIfInBounds_toArray, List.set_cons_zero, List.set_cons_succ]
                  refine wpAnyH_take (i := 9) (oi := { dst := some 82, op := Op.load 3 (Operand.tmp 81), type := 3, pos := "own.go:29", after := #[{ on := 8, ground := Ground.data }, { on := 5, ground := Ground.guard }], guard := some (5, true) }) (v := undef) rfl (by kernel_rfl) (by kernel_rfl) (by kernel_rfl) (fun _ _ _ h => h) (Or.inr ⟨by rfl, rfl⟩) hH ?_
                  try simp only [Act.put, List.setIfInBounds_toArray, List.set_cons_zero, List.set_cons_succ]
                  refine wpAnyH_take (i := 10) (oi := { dst := some 83, op := Op.fieldAddr 39 (Operand.tmp 5) 1, type := 0, pos := "own.go:29", after := #[{ on := 5, ground := Ground.guard }], guard := some (5, true) }) (v := undef) rfl (by kernel_rfl) (by kernel_rfl) (by kernel_rfl) (fun _ _ _ h => h) (Or.inr ⟨by rfl, rfl⟩) hH ?_
                  try simp only [Act.put, List.setIfInBounds_toArray, List.set_cons_zero, List.set_cons_succ]
                  refine wpAnyH_take (i := 11) (oi := { dst := some 84, op := Op.load 37 (Operand.tmp 83), type := 37, pos := "own.go:29", after := #[{ on := 10, ground := Ground.data }, { on := 5, ground := Ground.guard }], guard := some (5, true) }) (v := undef) rfl (by kernel_rfl) (by kernel_rfl) (by kernel_rfl) (fun _ _ _ h => h) (Or.inr ⟨by rfl, rfl⟩) hH ?_
                  try simp only [Act.put, List.setIfInBounds_toArray, List.set_cons_zero, List.set_cons_succ]
                  refine wpAnyH_take (i := 12) (oi := { dst := some 85, op := Op.call { callee := Callee.builtin Builtin.len, args := #[Operand.tmp 84], argTypes := #[37] }, type := 3, pos := "own.go:29", after := #[{ on := 11, ground := Ground.data }, { on := 5, ground := Ground.guard }], guard := some (5, true) }) (v := undef) rfl (by kernel_rfl) (by kernel_rfl) (by kernel_rfl) (fun _ _ _ h => h) (Or.inr ⟨by rfl, rfl⟩) hH ?_
                  try simp only [Act.put, List.setIfInBounds_toArray, List.set_cons_zero, List.set_cons_succ]
                  refine wpAnyH_take (i := 13) (oi := { dst := some 86, op := Op.binOp BinOp.lss 3 (Operand.tmp 82) (Operand.tmp 85) 3, type := 4, pos := "own.go:29", after := #[{ on := 9, ground := Ground.data }, { on := 12, ground := Ground.data }, { on := 5, ground := Ground.guard }], guard := some (5, true) }) (v := undef) rfl (by kernel_rfl) (by kernel_rfl) (by kernel_rfl) (fun _ _ _ h => h) (Or.inr ⟨by rfl, rfl⟩) hH ?_
                  try simp only [Act.put, List.setIfInBounds_toArray, List.set_cons_zero, List.set_cons_succ]
                  refine wpAnyH_take (i := 14) (oi := { dst := some 87, op := Op.pick (Operand.tmp 78) (Operand.tmp 86) (Operand.const (Value.bool false)), type := 4, pos := "own.go:29", after := #[{ on := 5, ground := Ground.data }, { on := 13, ground := Ground.data }], guard := none }) (v := ?_) rfl (by kernel_rfl) (by kernel_rfl) (by kernel_rfl) (fun _ _ _ h => h) (Or.inl ⟨by rfl, ?_⟩) hH ?_
                  rotate_left
                  · intro w hSw; (try dsimp only at hSw); go_simp <;> with_reducible rfl
                  try simp only [Act.put, List.setIfInBounds_toArray, List.set_cons_zero, List.set_cons_succ]
                  refine wpAnyH_done (by kernel_rfl) ?_ _
                  obtain ⟨wa, hwa⟩ : ∃ wa, wa = wr.drew := ⟨_, rfl⟩
                  rw [← hwa]
                  have HA := hid (show Fr (fun _ => False) wr wa by rw [hwa]; exact (Fr.refl _ _).drew)
                  have HOA := hid (show wa.ownsRow B2 9 1 v9 q ((L.take q).map fun x => .string (letOf j x)) by rw [hwa]; exact HOWN.out)
                  have hba : B2 ≤ wa.heap.size := by have := HA.out.size; omega
                  clear hwa hG
                  have HQ : B2 ≤ (wa.alloc (.cells #[.string ⟨#[63]⟩] 9)).heap.size := by simp; omega
                  have hN := heap_new wa (.cells #[.string ⟨#[63]⟩] 9)
                  go_wp2_with (at_builtin; refine wpList_append_lies _ (by rfl) _ _ _ (by rfl) B2 9 i0 _ 1 16 Try.underlying60 hi0 hz0 hz1 hz2 rfl (by omega) v9 q _ (by rfl) (by exact ((Fr.refl (fun _ => False) wa).alloc _).owns HOA.out (fun _ _ e => e)) ⟨wa.heap.size, 0, none⟩ 1 1 [.string ⟨#[63]⟩] (by rfl) (by rfl) (World.news_of_block (cs := #[.string ⟨#[63]⟩]) (t := 9) (fr := (0, 0)) (by exact hN)) (by simp [Value.oneCell']) (by omega) (by unfold maxLen; omega) (by omega) (by exact HQ) (wa.heap.size + 1) (by simp) ?_; intro gg cp w9 hown1 hgrow hat hlt9; have HO9 := hid hown1; have HG9 := hid hgrow; clear hown1 hgrow hat hlt9)
                  go_roundw
                  case rel => exact ⟨q + 1, by omega, by go_num, by rw [HSN.out, HLE.out]; exact HO9.out, (HF.out.trans (((HA.out.alloc _).mono (fun _ _ e => e.elim)).grown (S := fun z => v9.ownBlock = some z) HG9.out (fun z e _ => e)) (fun _ e => e) (fun i hi e => by have := hown' i e; omega))⟩
                  case measure => simp [intOf]; omega
              · obtain rfl : q = n := by omega
                have hws : (L.take q).map (fun x => Value.string (letOf j x)) = L.map (fun x => Value.string (letOf j x)) := by rw [List.take_of_length_le (by have := HN.out; omega)]
                obtain ⟨ws, hwse⟩ : ∃ ws, ws = L.map (letOf j) := ⟨_, rfl⟩
                have hwl : ws.length = q := by rw [hwse, List.length_map, ← HN.out]
                have hST : StrsV wr wr.heap.size v9 ws := by
                  have h9 := HOWN.out
                  rw [hws] at h9
                  rcases owns_form h9 with ⟨rfl, h0⟩ | ⟨g, cap, rfl, hc, hm, hb, hg⟩
                  · exact ⟨none, 0, by rw [hwl, h0], by omega, fun h => by omega⟩
                  · refine ⟨_, cap, by rw [hwl], by omega, fun _ => ⟨g, 0, rfl, by omega, hg, fun i s hi => ?_⟩⟩
                    have hlt : i < q := by have := (List.getElem?_eq_some_iff.1 hi).1; omega
                    rw [Nat.zero_add, h9.cellAt i (by omega)]
                    rw [hwse, List.getElem?_map] at hi
                    rw [List.getElem?_map]
                    cases hz : L[i]? with
                    | none => rw [hz] at hi; cases hi
                    | some y => rw [hz] at hi; simp only [Option.map_some, Option.some.injEq] at hi ⊢; rw [hi]
                have hPL : PlcsV wr wr.heap.size (.slice pa' j pc') j := by
                  rcases HGI.out with h0 | ⟨g, cur, rfl, hcur, hsz, hPc, hlet⟩
                  · exact ⟨pa', pc', rfl, by omega, fun h => by omega⟩
                  · have hc9 := HF.out.heap hcur (fun e => e)
                    have hg9 := lt_of_block hc9
                    refine ⟨_, pc', rfl, hPc, fun _ => ⟨g, 0, rfl, by omega, hg9, fun i hi => ?_⟩⟩
                    have hh := hlet i hi
                    rw [Nat.zero_add]
                    exact ⟨cell_of hc9 _ hh.1, cell_of hc9 _ hh.2.1, cell_of hc9 _ hh.2.2.1, cell_of hc9 _ hh.2.2.2⟩
                have hU : U32V wr (.slice (some ⟨g5, 0, none⟩) j j) j t.next :=
                  ⟨_, j, rfl, fun _ => ⟨g5, 0, rfl, lt_of_block (HF.out.heap R7.out (fun e => e)), fun i hi => by rw [Nat.zero_add]; exact cell_of (HF.out.heap R7.out (fun e => e)) i (rowU_get j t.next i hi)⟩⟩
                have hLI : IntsV wr (.slice lo' q lc) L := by
                  have h := HL.out.fr (F7.out.trans' HF.out)
                  rwa [HN.out] at h ⊢
                obtain ⟨b, hb⟩ : ∃ b, b = pathB t.null t.first t.last j t.next L := ⟨_, rfl⟩
                have hsem : sem ws.length (hitW ws) t start1 ws.length = b := by
                  rw [hb, words_path (by omega) t HLIN.out L, hwl, ← HN.out]
                  rw [sem_congr (n := q) (h := hitW ws) (h' := hitL j L) t (fun p hp i hi => by
                    have hpp := HLV.out p hp
                    rw [hwse]
                    exact hit_eq hP24 L p.toNat (by omega) i (by rw [← HN.out]; exact hi))]
                  rfl
                have PATH := Lib.hid fun (w' : World) (h : Fr (fun _ => False) wr w') => (show Calls Try.prog 15 #[foV t.null (msk t.first 32) (msk t.last 32) (.slice (some ⟨g5, 0, none⟩) j j), .slice lo' q lc] w' fun e w'' => e = .returned (.bool b) ∧ Fr (fun _ => False) w' w'' by
                  rw [hb]; exact path_ok t.null t.first t.last (hU.fr h) (hLI.fr h) (by rw [← HN.out]; omega))
                have ACC := Lib.hid fun (w' : World) (h : Fr (fun _ => False) wr w') => (show Calls Try.prog 17 #[coreV (.slice na' M nc') pa' j pc' wi bv mm, v9] w' fun e w'' => e = .returned (.bool b) ∧ Fr (fun _ => False) w' w'' by
                  rw [← hsem]
                  exact accepts_ok (M0 := wr.heap.size) ((B7.out.fr HF.out (fun _ _ e => e) (fun _ h _ => h) (ok' := fun _ => True)).fr h (fun _ _ e => e) (fun _ h _ => h)) (hPL.fr (h.toM _)) (hST.fr (h.toM _)) H17.out.ok t HNT.out HLV.out (by omega) (by rw [hwl]; exact HCO.out))
                have S9 := hid (HF.out.heap S7.out (fun e => e))
                have O9 := hid (HF.out.heap O7.out (fun e => e))
                have HS18 := Lib.hid fun (w' : World) (h : Fr (fun _ => False) wr w') => (show w'.cell? ⟨s, 0, none⟩ = some (.bool t.null) ∧ w'.cell? ⟨s, 1, none⟩ = some (.int .u32 (msk t.first 32)) ∧ w'.cell? ⟨s, 2, none⟩ = some (.int .u32 (msk t.last 32)) ∧ w'.cell? ⟨s, 3, none⟩ = some (.slice (some ⟨g5, 0, none⟩) j j) ∧ ld 39 (.pointer (some ⟨o, 0, none⟩)) w' = .ok (.value (.agg #[.slice na' M nc', .slice pa' j pc', .int .i64 wi, .string bv, .int .u8 mm])) w' from
                  ⟨cell_of (h.heap S9.out (fun e => e)) 0 rfl, cell_of (h.heap S9.out (fun e => e)) 1 rfl, cell_of (h.heap S9.out (fun e => e)) 2 rfl, cell_of (h.heap S9.out (fun e => e)) 3 rfl, ld_own (h.heap O9.out (fun e => e)) (by rfl)⟩)
                have hqq : decide ((q : Int) < q) = false := by simp
                have F9 := hid (F7.out.trans' HF.out)
                have hG : Fr (fun _ => False) wr wr := Fr.refl _ _
                clear hST hPL hU hLI hsem hb hwse hwl hws
                unfold foV at PATH
                unfold coreV at ACC
                go_wp2_with fail
                refine wp_region_held_drew (S := (fun w' => w'.cell? ⟨s, 0, none⟩ = some (.bool t.null) ∧ w'.cell? ⟨s, 1, none⟩ = some (.int .u32 (msk t.first 32)) ∧ w'.cell? ⟨s, 2, none⟩ = some (.int .u32 (msk t.last 32)) ∧ w'.cell? ⟨s, 3, none⟩ = some (.slice (some ⟨g5, 0, none⟩) j j) ∧ ld 39 (.pointer (some ⟨o, 0, none⟩)) w' = .ok (.value (.agg #[.slice na' M nc', .slice pa' j pc', .int .i64 wi, .string bv, .int .u8 mm])) w')) (by kernel_rfl) ?_ (fun hH => ?_)
                · (first | exact HS18.out _ hG | exact HS18.out _ hG.drew | go_keep)
                refine wpAnyH_take (i := 0) (oi := { dst := some 104, op := Op.load 32 (Operand.tmp 6), type := 32, pos := "own.go:35", after := #[], guard := none }) (v := ?_) rfl (by kernel_rfl) (by kernel_rfl) (by kernel_rfl) (fun _ _ _ h => h) (Or.inl ⟨by rfl, ?_⟩) hH ?_
                rotate_left
                · intro w hSw; (try dsimp only at hSw); go_simp <;> with_reducible rfl
                try simp only [Act.put, List.setIfInBounds_toArray, List.set_cons_zero, List.set_cons_succ]
                refine wpAnyH_take (i := 1) (oi := { dst := some 105, op := Op.move (Operand.tmp 1), type := 53, pos := "own.go:35", after := #[], guard := none }) (v := ?_) rfl (by kernel_rfl) (by kernel_rfl) (by kernel_rfl) (fun _ _ _ h => h) (Or.inl ⟨by rfl, ?_⟩) hH ?_
                rotate_left
                · intro w hSw; (try dsimp only at hSw); go_simp <;> with_reducible rfl
                try simp only [Act.put, List.setIfInBounds_toArray, List.set_cons_zero, List.set_cons_succ]
                refine wpAnyH_take (i := 3) (oi := { dst := some 107, op := Op.load 39 (Operand.tmp 5), type := 39, pos := "own.go:35", after := #[], guard := none }) (v := ?_) rfl (by kernel_rfl) (by kernel_rfl) (by kernel_rfl) (fun _ _ _ h => h) (Or.inl ⟨by rfl, ?_⟩) hH ?_
                rotate_left
                · intro w hSw; (try dsimp only at hSw); go_simp <;> with_reducible rfl
                try simp only [Act.put, List.setIfInBounds_toArray, List.set_cons_zero, List.set_cons_succ]
                refine wpAnyH_take (i := 4) (oi := { dst := some 108, op := Op.move (Operand.tmp 9), type := 60, pos := "own.go:35", after := #[], guard := none }) (v := ?_) rfl (by kernel_rfl) (by kernel_rfl) (by kernel_rfl) (fun _ _ _ h => h) (Or.inl ⟨by rfl, ?_⟩) hH ?_
                rotate_left
                · intro w hSw; (try dsimp only at hSw); go_simp <;> with_reducible rfl
                try simp only [Act.put, List.setIfInBounds_toArray, List.set_cons_zero, List.set_cons_succ]
                refine wpAnyH_ready (rs := [2]) (by kernel_rfl) (by simp) ?_
                refine AllReadyH.cons (o := { dst := some 106, op := Op.call { callee := Callee.value (Operand.func 15), args := #[Operand.tmp 104, Operand.tmp 105], argTypes := #[32, 53] }, type := 4, pos := "own.go:35", after := #[{ on := 0, ground := Ground.data }, { on := 1, ground := Ground.data }], guard := none }) rfl (fun K hK => ?_) AllReadyH.nil
                go_simp
                go_at_call 15
                refine (PATH.out _ (by first | exact hG | exact hG.drew)).mono ?_
                rintro ev y1 ⟨rfl, hf0⟩
                (first | replace hG := hG.trans' hf0 | replace hG := hG.drew.trans' hf0)
                clear hf0
                go_simp
                refine hK.out _ _ ?_ (fun hH => ?_)
                · (first | exact HS18.out _ hG | exact HS18.out _ hG.drew | go_keep)
                clear hK K
                try simp only [Act.put, List.setIfInBounds_toArray, List.set_cons_zero, List.set_cons_succ]
                refine wpAnyH_ready (rs := [5]) (by kernel_rfl) (by simp) ?_
                refine AllReadyH.cons (o := { dst := some 109, op := Op.call { callee := Callee.value (Operand.func 17), args := #[Operand.tmp 107, Operand.tmp 108], argTypes := #[39, 60] }, type := 4, pos := "own.go:35", after := #[{ on := 3, ground := Ground.data }, { on := 4, ground := Ground.data }, { on := 2, ground := Ground.chain }], guard := none }) rfl (fun K hK => ?_) AllReadyH.nil
                go_simp
                go_at_call 17
                refine (ACC.out _ (by first | exact hG | exact hG.drew)).mono ?_
                rintro ev y2 ⟨rfl, hf0⟩
                (first | replace hG := hG.trans' hf0 | replace hG := hG.drew.trans' hf0)
                clear hf0
                go_simp
                refine hK.out _ _ ?_ (fun hH => ?_)
                · (first | exact HS18.out _ hG | exact HS18.out _ hG.drew | go_keep)
                clear hK K
                try simp only [Act.put, List.setIfInBounds_toArray, List.set_cons_zero, List.set_cons_succ]
                refine wpAnyH_take (i := 6) (oi := { dst := some 110, op := Op.binOp BinOp.eql 4 (Operand.tmp 106) (Operand.tmp 109) 4, type := 4, pos := "own.go:35", after := #[{ on := 2, ground := Ground.data }, { on := 5, ground := Ground.data }], guard := none }) (v := ?_) rfl (by kernel_rfl) (by kernel_rfl) (by kernel_rfl) (fun _ _ _ h => h) (Or.inl ⟨by rfl, ?_⟩) hH ?_
                rotate_left
                · intro w hSw; (try dsimp only at hSw); go_simp <;> with_reducible rfl
                try simp only [Act.put, List.setIfInBounds_toArray, List.set_cons_zero, List.set_cons_succ]
                refine wpAnyH_take (i := 7) (oi := { dst := some 111, op := Op.move (Operand.tmp 110), type := 4, pos := "own.go:35", after := #[{ on := 6, ground := Ground.data }, { on := 5, ground := Ground.chain }], guard := none }) (v := ?_) rfl (by kernel_rfl) (by kernel_rfl) (by kernel_rfl) (fun _ _ _ h => h) (Or.inl ⟨by rfl, ?_⟩) hH ?_
                rotate_left
                · intro w hSw; (try dsimp only at hSw); go_simp <;> with_reducible rfl
                try simp only [Act.put, List.setIfInBounds_toArray, List.set_cons_zero, List.set_cons_succ]
                refine wpAnyH_ready (rs := [8]) (by kernel_rfl) (by simp) ?_
                refine AllReadyH.cons (o := { dst := some 112, op := Op.call { callee := Callee.value (Operand.func 7), args := #[], argTypes := #[] }, type := 4, pos := "own.go:35", after := #[{ on := 7, ground := Ground.chain }, { on := 7, ground := Ground.guard }], guard := some (7, true) }) rfl (fun K hK => ?_) AllReadyH.nil
                go_simp
                go_at_call 7
                refine (awake_ok _).mono ?_
                rintro ev y3 ⟨rfl, hf0⟩
                (first | replace hG := hG.trans' hf0 | replace hG := hG.drew.trans' hf0)
                clear hf0
                go_simp
                refine hK.out _ _ ?_ (fun hH => ?_)
                · (first | exact HS18.out _ hG | exact HS18.out _ hG.drew | go_keep)
                clear hK K
                try simp only [Act.put, List.setIfInBounds_toArray, List.set_cons_zero, List.set_cons_succ]
                refine wpAnyH_take (i := 9) (oi := { dst := some 113, op := Op.pick (Operand.tmp 111) (Operand.tmp 112) (Operand.const (Value.bool false)), type := 4, pos := "own.go:35", after := #[{ on := 7, ground := Ground.data }, { on := 8, ground := Ground.data }], guard := none }) (v := ?_) rfl (by kernel_rfl) (by kernel_rfl) (by kernel_rfl) (fun _ _ _ h => h) (Or.inl ⟨by rfl, ?_⟩) hH ?_
                rotate_left
                · intro w hSw; (try dsimp only at hSw); go_simp <;> with_reducible rfl
                try simp only [Act.put, List.setIfInBounds_toArray, List.set_cons_zero, List.set_cons_succ]
                refine wpAnyH_take (i := 10) (oi := { dst := some 4, op := Op.assign (Operand.tmp 113), type := 4, pos := "own.go:35", after := #[{ on := 9, ground := Ground.data }, { on := 8, ground := Ground.chain }, { on := 0, ground := Ground.phase }, { on := 1, ground := Ground.phase }, { on := 2, ground := Ground.phase }, { on := 3, ground := Ground.phase }, { on := 4, ground := Ground.phase }, { on := 5, ground := Ground.phase }, { on := 6, ground := Ground.phase }, { on := 7, ground := Ground.phase }, { on := 8, ground := Ground.phase }, { on := 9, ground := Ground.phase }], guard := none }) (v := ?_) rfl (by kernel_rfl) (by kernel_rfl) (by kernel_rfl) (fun _ _ _ h => h) (Or.inl ⟨by rfl, ?_⟩) hH ?_
                rotate_left
                · intro w hSw; (try dsimp only at hSw); go_simp <;> with_reducible rfl
                try simp only [Act.put, List.setIfInBounds_toArray, List.set_cons_zero, List.set_cons_succ]
                refine wpAnyH_done (by kernel_rfl) ?_ _
                go_wp2_with fail
                go_ret
                exact ⟨by first | rfl | simp, F9.out.trans' (by first | exact hG | exact hG.drew)⟩
      · have HNO := Lib.hid (build_no (pa := pa') (pc := pc') (wi := wi) (bv := bv) (mm := mm) hB4t.out HF3.out.1 h17)
        unfold coreV at HNO
        go_wp2_with (first | (go_at_call 8; refine HNO.out.mono ?_; rintro e w5 ⟨⟨rfl, hf5⟩⟩; unfold foV at *; have F5 := hid (F4.out.trans' hf5); clear hf5) | (go_at_call 7; refine (awake_ok _).mono ?_; rintro e w9 ⟨rfl, hf9⟩; have F9 := hid hf9; clear hf9))
        go_ret
        exact ⟨rfl, (F5.out.alloc _).trans' F9.out⟩
  · go_wp2_with (go_at_call 7; refine (awake_ok _).mono ?_; rintro e w9 ⟨rfl, hf9⟩; have F9 := hid hf9; clear hf9)
    go_ret
    exact ⟨rfl, F2.out.trans' F9.out⟩
end Go.Proofs.Ytceomkoecidoiaa
