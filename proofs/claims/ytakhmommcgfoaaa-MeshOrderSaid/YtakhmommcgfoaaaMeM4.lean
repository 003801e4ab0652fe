/-
  A mesh: Least, walked.
-/
import Derived.Test.YtakhmommcgfoaaaMeM3
namespace Go.Proofs.Ytakhmommcgfoaaa
open Go.RowKit
attribute [local go_sem ↓] run_ldM run_stM

def lstep (s : Int × Bool) (t : Int) : Int × Bool := if s.2 = false ∨ t < s.1 then (t, true) else s
/-- the least moment of the links below k -/
def lst (R : Nat → List Mq) : Nat → Int × Bool
  | 0 => (0, false)
  | k + 1 => ((R k).map Mq.t).foldl lstep (lst R k)

/-- a message in a new block behind others, in order -/
theorem one_put {w w1 : World} {T : TypeId} {m : Mq} {C : Array Value} (hC : C.size = 7) (hw : w1 = (w.alloc (.cells C T)).setCells w.heap.size 0 (encM m)) :
    w1.heap[w.heap.size]? = some (.cells (encM m).toArray T (0, 0)) ∧ Fr (fun _ => False) w w1 ∧ w1.heap.size = w.heap.size + 1 := by
  subst hw
  refine ⟨?_, ?_, ?_⟩
  · have h := heap_setCells (w := w.alloc (.cells C T)) (encM m) 0 (heap_new w (.cells C T))
    rw [encM_zero _ _ hC] at h
    exact h
  · exact ((Fr.refl (fun _ => False) w).alloc (.cells C T)).setCells (fun h => by omega) _ _
  · rw [size_setCells]; simp

set_option maxRecDepth 100000 in
set_option maxHeartbeats 2000000 in
theorem least_ok {w : World} {p W most : Nat} {R : Nat → List Mq} {F : Nat → Prop} (h : MeshAt w p W most R F) :
    Calls Try.prog 16 #[.pointer (some ⟨p, 0, none⟩)] w fun e w' => e = .returned (.tuple #[.int .i64 (lst R (W * W)).1, .bool (lst R (W * W)).2]) ∧ Fr (fun _ => False) w w' := by
  obtain ⟨⟨hw1, hw2, hw3, hw4⟩, q, cap, bx, S, hm⟩ := h
  have c1 := hm.c1
  have hqw := hm.lt q hm.fq
  have hnn : W * W ≤ 256 := by have := Nat.mul_le_mul hw2 hw2; omega
  have hcap := hm.cap1
  have hcap2 := hm.cap2
  have HL := hid (fun k (hk : k < W * W) => hm.links k hk)
  have HV := hid (fun k (hk : k < W * W) => hm.live k hk)
  clear hm
  generalize hN : W * W = n at *
  clear hN
  go_enter Try.func16, Try.ntmps16
  go_wp2_with fail
  go_loopw [4, 5, 17] (fun l s i wr => ∃ k : Nat, k ≤ n ∧ i = .int .i64 k ∧ l = .int .i64 (lst R k).1 ∧ s = .bool (lst R k).2 ∧ Fr (fun _ => False) w wr) (fun _ _ i _ => n - (intOf i).toNat)
  case atStart => exact ⟨0, Nat.zero_le _, rfl, rfl, rfl, Fr.refl _ _⟩
  case round =>
    obtain ⟨k, hk, rfl, rfl, rfl, hb⟩ := hrel
    have R2 := hid hb
    clear hb
    by_cases hkn : k < n
    · have c2 : wr.cell? ⟨q, k, none⟩ = some (.pointer (some ⟨bx k, 0, none⟩)) := R2.out.cell (HL.out k hkn) (fun e => e)
      have hv := (HV.out k hkn).fr R2.out (fun _ _ e => e)
      have hcn := hv.cnt
      have L1 := hid (list_live hv)
      clear hv
      generalize hs : lst R k = s0 at *
      have HS := hid hs
      clear hs
      go_wp2_with (go_at_call 34; refine L1.out.mono ?_; rintro e w2 ⟨v, rfl, hown, hbl⟩; obtain ⟨sp, c, rfl, hcs⟩ := owns_view hown; have HO := hid hown; have HB := hid hbl; clear hown hbl hcs)
      have HWF := hid (R2.out.trans' (Fr.of_below (S := fun _ => False) HB.out (fun i h1 h2 => by omega)))
      clear HB L1
      generalize hLk : R k = L at *
      have HLK := hid hLk
      clear hLk
      go_loopw [4, 5, 24] (fun l s i wr => ∃ j : Nat, j ≤ L.length ∧ i = .int .i64 j ∧ l = .int .i64 (((L.take j).map Mq.t).foldl lstep s0).1 ∧ s = .bool (((L.take j).map Mq.t).foldl lstep s0).2 ∧ Fr (fun _ => False) w2 wr) (fun _ _ i _ => L.length - (intOf i).toNat)
      case atStart => exact ⟨0, Nat.zero_le _, rfl, rfl, rfl, Fr.refl _ _⟩
      case round =>
        obtain ⟨j, hj, rfl, rfl, rfl, hf⟩ := hrel
        have R3 := hid hf
        clear hf
        by_cases hjn : j < L.length
        · obtain ⟨m, hmj⟩ : ∃ m, L[j]? = some m := ⟨L[j], by simp [hjn]⟩
          have hst : ((L.take (j + 1)).map Mq.t).foldl lstep s0 = lstep (((L.take j).map Mq.t).foldl lstep s0) m.t := by
            rw [take_snoc L j m hmj, List.map_append, List.foldl_append]; rfl
          obtain ⟨g, rfl, hgw⟩ : ∃ g, sp = some ⟨g, 0, none⟩ ∧ g < w2.heap.size := by
            rcases owns_form HO.out with ⟨_, hz⟩ | ⟨g, cp, e, _, _, _, hgw⟩
            · omega
            · injection e with e1 e2 e3; exact ⟨g, e1, hgw⟩
          have c3 := ld_msg (show MsgAt wr g (j * 7) m from fun i v hv => R3.out.cell (owns_range encM_len HO.out hmj i v hv) (fun e => e))
          generalize hs1 : ((L.take j).map Mq.t).foldl lstep s0 = s1 at *
          obtain ⟨a1, b1⟩ := s1
          have HST := hid hst
          clear hst hs1 hmj
          have hjb : (j : Int) < (L.length : Int) := by omega
          have S1 : st 40 (.pointer (some ⟨wr.heap.size, 0, none⟩)) (msgV m) (wr.alloc (.cells #[.int .i64 0, .string ⟨#[]⟩, .int .i64 0, .int .i64 0, .int .i64 0, .string ⟨#[]⟩, .slice none 0 0] 40)) = _ := st_msg m (there_block (m := noM) (t := 40) (heap_new wr _))
          go_upto_region 10 with fail
          generalize hw9 : World.setCells _ _ _ _ = w9
          obtain ⟨G1, G2, G3⟩ := one_put (T := 40) (m := m) (C := #[.int .i64 0, .string ⟨#[]⟩, .int .i64 0, .int .i64 0, .int .i64 0, .string ⟨#[]⟩, .slice none 0 0]) rfl hw9.symm
          have cT := (MsgAt.of_block G1).cells.2.2.1
          have R4 := hid (R3.out.trans' G2)
          clear hw9 G1 G2 G3 S1 c3
          rcases b1 with _ | _
          · have e1 : ((L.take (j + 1)).map Mq.t).foldl lstep s0 = (m.t, true) := by rw [HST.out]; simp [lstep]
            have HE := hid e1
            clear e1
            go_wp2_with fail
            go_roundw
            case rel => exact ⟨j + 1, by omega, by go_num, by rw [HE.out], by rw [HE.out], R4.out⟩
            case measure => simp [intOf]; omega
          · by_cases hlt : m.t < a1
            · have e1 : ((L.take (j + 1)).map Mq.t).foldl lstep s0 = (m.t, true) := by rw [HST.out]; simp [lstep, hlt]
              have HE := hid e1
              clear e1
              have hd : decide (m.t < a1) = true := by simpa using hlt
              go_wp2_with fail
              go_roundw
              case rel => exact ⟨j + 1, by omega, by go_num, by rw [HE.out], by rw [HE.out], R4.out⟩
              case measure => simp [intOf]; omega
            · have e1 : ((L.take (j + 1)).map Mq.t).foldl lstep s0 = (a1, true) := by rw [HST.out]; simp [lstep, hlt]
              have HE := hid e1
              clear e1
              have hd : decide (m.t < a1) = false := by simpa using hlt
              go_wp2_with fail
              go_roundw
              case rel => exact ⟨j + 1, by omega, by go_num, by rw [HE.out], by rw [HE.out], R4.out⟩
              case measure => simp [intOf]; omega
        · obtain rfl : j = L.length := by omega
          have hst : lst R (k + 1) = ((L.take L.length).map Mq.t).foldl lstep s0 := by rw [lst, HLK.out, HS.out, List.take_length]
          have HST := hid hst
          clear hst
          go_wp2_with fail
          go_roundw
          case rel => exact ⟨k + 1, by omega, by go_num, by rw [HST.out], by rw [HST.out], HWF.out.trans' R3.out⟩
          case measure => simp [intOf]; omega
    · obtain rfl : k = n := by omega
      go_wp2
      go_ret2
      exact ⟨rfl, R2.out⟩

theorem least_nil (w : World) : Calls Try.prog 16 #[.pointer none] w fun e w' => e = .returned (.tuple #[.int .i64 0, .bool false]) ∧ w = w' := by
  go_enter Try.func16, Try.ntmps16
  go_wp2
  go_ret2
  exact ⟨rfl, rfl⟩

end Go.Proofs.Ytakhmommcgfoaaa
