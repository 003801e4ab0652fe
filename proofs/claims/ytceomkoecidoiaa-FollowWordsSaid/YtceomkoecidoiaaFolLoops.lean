/-
  Loops, walked: it ends, within the nodes.
-/
import Derived.Test.YtceomkoecidoiaaFolW1
namespace Go.Proofs.Ytceomkoecidoiaa
open Go.RowKit

def kidsT : Tr → List Tr
  | .eps _ => []
  | .leaf _ => []
  | .cat _ a b => [a, b]
  | .alt _ a b => [a, b]
  | .loop _ a => [a]
def kindT : Tr → Int
  | .eps _ => 1
  | .leaf _ => 2
  | .cat _ _ _ => 3
  | .alt _ _ _ => 4
  | .loop _ _ => 5
def placeT : Tr → Int
  | .eps p => p
  | .leaf p => p
  | .cat p _ _ => p
  | .alt p _ _ => p
  | .loop p _ => p
theorem flat_kids (t : Tr) : t.flat = (kindT t, placeT t) :: (kidsT t).flatMap Tr.flat := by cases t <;> simp [Tr.flat, kidsT, kindT, placeT]
theorem kids_len (t : Tr) : kidsOf (kindT t) = (kidsT t).length := by cases t <;> simp [kidsOf, kidsT, kindT]

/-- within how many loops, at most, a node stands -/
def Tr.depth : Tr → Nat
  | .eps _ => 0
  | .leaf _ => 0
  | .cat _ a b => max a.depth b.depth
  | .alt _ a b => max a.depth b.depth
  | .loop _ a => a.depth + 1
theorem depth_kids (t : Tr) (z : Nat) (h : ∀ y ∈ kidsT t, y.depth ≤ z) : t.depth ≤ z + (if kindT t = 5 then 1 else 0) := by
  cases t with
  | eps p => simp [Tr.depth]
  | leaf p => simp [Tr.depth]
  | cat p a b =>
    have h1 := h a (by simp [kidsT])
    have h2 := h b (by simp [kidsT])
    simp only [Tr.depth]
    omega
  | alt p a b =>
    have h1 := h a (by simp [kidsT])
    have h2 := h b (by simp [kidsT])
    simp only [Tr.depth]
    omega
  | loop p a =>
    have h1 := h a (by simp [kidsT])
    simp only [Tr.depth, kindT, if_true]
    omega
def LoopsSaid (t : Tr) : Prop := ∀ (w : World) (ok : Nat → Prop) (nv : Value) (N : List (Int × Int)) (a : Nat) (rest : List (Int × Int)), NodesAt w ok nv N → N.drop a = t.flat ++ rest → N.length ≤ 250 →
  Calls Try.prog 20 #[nv, .int .i64 a] w fun e w' => (∃ z : Nat, e = .returned (.int .i64 z) ∧ z ≤ t.flat.length ∧ t.depth ≤ z) ∧ w = w'

set_option maxRecDepth 100000 in
set_option maxHeartbeats 2000000 in
theorem loops_step (t : Tr) (ih : ∀ x ∈ kidsT t, LoopsSaid x) : LoopsSaid t := by
  intro w ok nv N a rest hB hN hl
  have hpos := t.pos
  have hal : a < N.length := by
    rcases Nat.lt_or_ge a N.length with h | h
    · exact h
    · rw [List.drop_eq_nil_of_le h] at hN
      have := congrArg List.length hN
      simp at this; omega
  have hx : N[a]? = some (kindT t, placeT t) := by
    have := congrArg List.head? hN
    rw [flat_kids] at this
    simpa [List.head?_drop] using this
  have hdrop : N.drop (a + 1) = (kidsT t).flatMap Tr.flat ++ rest := by
    have := congrArg (List.drop 1) hN
    rw [flat_kids] at this
    simpa [List.drop_drop] using this
  have hB' := hB
  obtain ⟨ao, nc, rfl, _, _, hp⟩ := hB'
  obtain ⟨ng, no, rfl, _, hngl, hcell⟩ := hp (by omega)
  obtain ⟨c0, _⟩ := hcell a _ hx
  obtain ⟨n, hn⟩ : ∃ n, n = N.length := ⟨_, rfl⟩
  have hflat : t.flat.length = 1 + ((kidsT t).flatMap Tr.flat).length := by rw [flat_kids]; simp; omega
  have hlen : a + t.flat.length ≤ N.length := by
    have := congrArg List.length hN
    simp at this; omega
  have HB := hid hB
  have HL := hid hl
  have HN := hid hN
  have HD := hid hdrop
  have HF := hid hflat
  have HLEN := hid hlen
  have IH := hid ih
  rw [← hn] at HB hal hl ⊢
  have HNN := hid hn
  simp only at c0
  obtain ⟨kd, hkd⟩ : ∃ kd, kd = kindT t := ⟨_, rfl⟩
  rw [← hkd] at c0
  have hkn : kidsOf kd = (kidsT t).length := by rw [hkd]; exact kids_len t
  have HKD := hid hkd
  obtain ⟨q, hq⟩ : ∃ q, q = (kidsT t).length := ⟨_, rfl⟩
  rw [← hq] at hkn
  have HQ := hid hq
  have hkl : kidsOf kd ≤ 2 := kidsOf_le kd
  have hal' : (a : Int) < n := by omega
  have ha0 : (0 : Int) ≤ a := by omega
  have hadd1 : IntKind.i64.wrap ((a : Int) + 1) = (a : Int) + 1 := IntWalk.i64_in _ (by omega)
  have hq2 : q ≤ 2 := by omega
  have HKN := hid hkn
  clear hB hN hdrop hflat hlen hp hcell hn hx hkd hq ih hkn hpos
  go_enter Try.func20, Try.ntmps20
  go_wp2_with fail
  go_loopw [5, 6, 7] (fun o x i wr => ∃ (j z m : Nat), j ≤ q ∧ i = .int .i64 j ∧ o = .int .i64 z ∧ x = .int .i64 ((a : Int) + 1 + m) ∧ m = ((kidsT t).take j |>.flatMap Tr.flat).length ∧ z ≤ m ∧ (∀ y ∈ (kidsT t).take j, y.depth ≤ z) ∧ w = wr) (fun _ _ i _ => q - (intOf i).toNat)
  case atStart => exact ⟨0, 0, 0, Nat.zero_le _, rfl, rfl, by simp, by simp, Nat.le_refl _, fun y hy => by simp at hy, rfl⟩
  case round =>
    obtain ⟨j, z, m, hj, rfl, rfl, rfl, hm, hz, hdep, rfl⟩ := hrel
    have HDEP := hid hdep
    clear hdep
    have HM := hid hm
    clear hm
    have hkc : Calls Try.prog 33 #[.int .u8 kd] w fun e w' => e = .returned (.int .i64 (q : Nat)) ∧ w = w' := by have := refKids_ok kd w; rwa [HKN.out] at this
    have HKC := hid hkc
    clear hkc
    by_cases hjq : j < q
    · obtain ⟨x, hx⟩ : ∃ x, (kidsT t)[j]? = some x := ⟨(kidsT t)[j]'(by have := HQ.out; omega), List.getElem?_eq_getElem _⟩
      have hd : N.drop (a + 1 + m) = x.flat ++ (((kidsT t).drop (j + 1)).flatMap Tr.flat ++ rest) := by
        have h1 := congrArg (List.drop m) HD.out
        rw [List.drop_drop] at h1
        rw [h1]
        have h2 : (kidsT t) = (kidsT t).take j ++ x :: (kidsT t).drop (j + 1) := by
          have hl : j < (kidsT t).length := (List.getElem?_eq_some_iff.1 hx).1
          have he : (kidsT t)[j] = x := (List.getElem?_eq_some_iff.1 hx).2
          rw [← he, ← List.drop_eq_getElem_cons hl, List.take_append_drop]
        have h3 : (kidsT t).flatMap Tr.flat = ((kidsT t).take j).flatMap Tr.flat ++ (x.flat ++ ((kidsT t).drop (j + 1)).flatMap Tr.flat) := by
          conv => lhs; rw [h2]
          rw [List.flatMap_append, List.flatMap_cons]
        rw [h3, List.append_assoc, HM.out, List.drop_left, List.append_assoc]
      have hm2 : m + x.flat.length = (((kidsT t).take (j + 1)).flatMap Tr.flat).length := by
        rw [List.take_add_one, hx, List.flatMap_append, List.length_append, ← HM.out]; simp
      have hle : m + x.flat.length + 1 + a ≤ n := by
        have h1 := congrArg List.length hd
        simp only [List.length_drop, List.length_append] at h1
        have := x.pos
        have := HNN.out
        omega
      have hih := IH.out x (List.mem_of_getElem? hx) w ok _ N (a + 1 + m) _ (by rw [HNN.out] at HB; exact HB.out) hd HL.out
      rw [← HNN.out] at hih
      have hsz : szAt N ((a : Int) + 1 + m) = (x.flat.length : Nat) := by
        have := x.pos
        simp only [szAt]
        rw [if_neg (by have := HNN.out; omega), show ((a : Int) + 1 + m).toNat = a + 1 + m by omega, hd, sz_flat]; rfl
      have hSz := refSize_ok (w := w) ((a : Int) + 1 + m) (by rw [HNN.out] at HB; exact HB.out) HL.out
      rw [hsz, ← HNN.out] at hSz
      have hcast : ((a + 1 + m : Nat) : Int) = (a : Int) + 1 + m := by omega
      rw [hcast] at hih
      have HIH := hid hih
      have HSZ := hid hSz
      have HM2 := hid hm2
      obtain ⟨xl, hxl⟩ : ∃ xl, xl = x.flat.length := ⟨_, rfl⟩
      rw [← hxl] at hle HM2 HSZ HIH
      have hadd2 : IntKind.i64.wrap ((a : Int) + 1 + (m : Int) + (xl : Int)) = (a : Int) + 1 + ((m + xl : Nat) : Int) := by rw [IntWalk.i64_in _ (by omega)]; omega
      have hjq' : (j : Int) < q := by omega
      have HX := hid hx
      clear hd hih hsz hSz hcast hm2 hxl hx
      go_wp2_with (first
        | (go_at_call 33; refine HKC.out.mono ?_; rintro e w' ⟨rfl, rfl⟩)
        | (go_at_call 20; refine HIH.out.mono ?_; rintro e w' ⟨⟨z2, rfl, hz2, hzd⟩, rfl⟩; have HZD := hid hzd; clear hzd)
        | (go_at_call 32; refine HSZ.out.mono ?_; rintro e w' ⟨rfl, rfl⟩))
      refine ⟨⟨j + 1, max z z2, m + xl, by omega, rfl, ?_, rfl, HM2.out, by omega, fun y hy => by
        rw [List.take_add_one, HX.out, List.mem_append] at hy
        rcases hy with hy | hy
        · have := HDEP.out y hy; omega
        · have h9 : y = x := by simpa using hy
          have := HZD.out
          rw [h9]; omega, trivial⟩, by simp [intOf]; omega⟩
      congr 1
      split <;> omega
    · obtain rfl : j = q := by omega
      have hjq' : ¬ (j : Int) < j := by omega
      have hmf : m = ((kidsT t).flatMap Tr.flat).length := by rw [HM.out, List.take_of_length_le (by have := HQ.out; omega)]
      have hmt := HF.out
      have hmn := HLEN.out
      have hnn := HNN.out
      have hzn : z ≤ 250 := by omega
      have HR := hid (show z + 1 ≤ t.flat.length by omega)
      have HDT := hid (depth_kids t z (fun y hy => HDEP.out y (by rw [List.take_of_length_le (by have := HQ.out; omega)]; exact hy)))
      rw [← HKD.out] at HDT
      clear hmf hmt hmn hnn
      by_cases h5 : kd = 5
      · subst h5
        go_wp2_with (go_at_call 33; refine HKC.out.mono ?_; rintro e w' ⟨rfl, rfl⟩)
        go_ret
        exact ⟨⟨z + 1, rfl, HR.out, HDT.out⟩, rfl⟩
      · have h5b : (kd == 5) = false := by simpa using h5
        go_wp2_with (go_at_call 33; refine HKC.out.mono ?_; rintro e w' ⟨rfl, rfl⟩)
        go_ret
        exact ⟨⟨z, rfl, by have := HR.out; omega, by have := HDT.out; rwa [if_neg h5] at this⟩, rfl⟩

theorem loops_ok (t : Tr) : LoopsSaid t := by
  induction t with
  | eps p => exact loops_step _ (fun x hx => by simp [kidsT] at hx)
  | leaf p => exact loops_step _ (fun x hx => by simp [kidsT] at hx)
  | cat p a b iha ihb => exact loops_step _ (fun x hx => by simp [kidsT] at hx; exact hx.elim (fun h => h ▸ iha) (fun h => h ▸ ihb))
  | alt p a b iha ihb => exact loops_step _ (fun x hx => by simp [kidsT] at hx; exact hx.elim (fun h => h ▸ iha) (fun h => h ▸ ihb))
  | loop p a iha => exact loops_step _ (fun x hx => by simp [kidsT] at hx; subst hx; exact iha)

end Go.Proofs.Ytceomkoecidoiaa
