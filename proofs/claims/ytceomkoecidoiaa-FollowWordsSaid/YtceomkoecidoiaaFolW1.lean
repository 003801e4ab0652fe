/-
  Has, Kids, kids, and the two Sizes, walked; a set as bits.
-/
import Derived.Test.YtceomkoecidoiaaRows
import Derived.Test.YtceomkoecidoiaaFolDefs
import Derived.Deep.QuietTactic
import Derived.BigQuiet
import Derived.StillTailTactics
import Derived.Deep.RegionWith
import Derived.Deep.RegionHeld3
import Derived.Deep.AppendLies
import Derived.Deep.LoopGhost
import Derived.Deep.DeepCutAuto
import Derived.Lib.Hide
import Derived.Laws.EntriesVeiled
import Derived.Laws.BitsAllLaws
import Derived.Laws.BitsLemmas
namespace Go.Proofs.Ytceomkoecidoiaa
open Go.RowKit

theorem kids_ok (k : Int) (w : World) : Calls Try.prog 43 #[.int .u8 k] w fun e w' => e = .returned (.int .i64 (kidsOf k)) ∧ w = w' := by
  by_cases h3 : k = 3
  · subst h3
    go_enter Try.func43, Try.ntmps43
    go_wp2
    go_ret
    exact ⟨rfl, rfl⟩
  by_cases h4 : k = 4
  · subst h4
    go_enter Try.func43, Try.ntmps43
    go_wp2
    go_ret
    exact ⟨rfl, rfl⟩
  by_cases h5 : k = 5
  · subst h5
    go_enter Try.func43, Try.ntmps43
    go_wp2
    go_ret
    exact ⟨rfl, rfl⟩
  have e : kidsOf k = 0 := by simp [kidsOf, h3, h4, h5]
  rw [e]
  go_enter Try.func43, Try.ntmps43
  go_wp2
  go_ret
  exact ⟨rfl, rfl⟩

theorem refKids_ok (k : Int) (w : World) : Calls Try.prog 33 #[.int .u8 k] w fun e w' => e = .returned (.int .i64 (kidsOf k)) ∧ w = w' := by
  by_cases h3 : k = 3
  · subst h3
    go_enter Try.func33, Try.ntmps33
    go_wp2
    go_ret
    exact ⟨rfl, rfl⟩
  by_cases h4 : k = 4
  · subst h4
    go_enter Try.func33, Try.ntmps33
    go_wp2
    go_ret
    exact ⟨rfl, rfl⟩
  by_cases h5 : k = 5
  · subst h5
    go_enter Try.func33, Try.ntmps33
    go_wp2
    go_ret
    exact ⟨rfl, rfl⟩
  have e : kidsOf k = 0 := by simp [kidsOf, h3, h4, h5]
  rw [e]
  have e3 : (k == 3) = false := by simp [h3]
  have e4 : (k == 4) = false := by simp [h4]
  have e5 : (k == 5) = false := by simp [h5]
  go_enter Try.func33, Try.ntmps33
  go_wp2
  go_ret
  exact ⟨rfl, rfl⟩

/-- a node list in memory: two cells a node -/
def NodesAt (w : World) (ok : Nat → Prop) (v : Value) (N : List (Int × Int)) : Prop :=
  ∃ ao c, v = .slice ao N.length c ∧ N.length ≤ c ∧ c ≤ 9223372036854775807 ∧
    (0 < N.length → ∃ g o, ao = some ⟨g, o, none⟩ ∧ ok g ∧ g < w.heap.size ∧ ∀ i x, N[i]? = some x → w.cell? ⟨g, o + i * 2, none⟩ = some (.int .u8 x.1) ∧ w.cell? ⟨g, o + i * 2 + 1, none⟩ = some (.int .i64 x.2))

theorem NodesAt.fr {S ok ok' : Nat → Prop} {w w' : World} {v : Value} {L : List (Int × Int)} (h : NodesAt w ok v L) (hf : Fr S w w') (h1 : ∀ g, ok g → ¬ S g) (h2 : ∀ g, ok g → g < w.heap.size → ok' g) : NodesAt w' ok' v L := by
  obtain ⟨ao, c, hv, hc, hm, hp⟩ := h
  refine ⟨ao, c, hv, hc, hm, fun h0 => ?_⟩
  obtain ⟨g, o, ha, hok, hlt, hcell⟩ := hp h0
  exact ⟨g, o, ha, h2 g hok hlt, Nat.lt_of_lt_of_le hlt hf.size, fun i z hz => ⟨hf.cell (hcell i z hz).1 (h1 g hok), hf.cell (hcell i z hz).2 (h1 g hok)⟩⟩

theorem NodesAt.below {ok : Nat → Prop} {w w' : World} {v : Value} {L : List (Int × Int)} (h : NodesAt w ok v L) (hf : Below w.heap.size w w') : NodesAt w' ok v L :=
  h.fr (S := fun _ => False) (Fr.of_below hf (fun i h1 h2 => by omega)) (fun _ _ e => e) (fun _ h _ => h)

theorem kidsOf_le (k : Int) : kidsOf k ≤ 2 := by unfold kidsOf; split <;> (try split) <;> omega

/-- the tree's size at a place; 0: none -/
def szAt (N : List (Int × Int)) (at_ : Int) : Int := if at_ < 0 ∨ (N.length : Int) ≤ at_ then 0 else ((szGo 1 (N.drop at_.toNat)).getD 0 : Nat)

theorem szGo_succ (m : Nat) (N : List (Int × Int)) (i : Nat) (x : Int × Int) (h : N[i]? = some x) : szGo (m + 1) (N.drop i) = (szGo (m + kidsOf x.1) (N.drop (i + 1))).map (· + 1) := by
  have hl : i < N.length := (List.getElem?_eq_some_iff.1 h).1
  rw [List.drop_eq_getElem_cons hl]
  have e : N[i] = x := (List.getElem?_eq_some_iff.1 h).2
  rw [e]
  rfl

def SzRel (N : List (Int × Int)) (a : Nat) (o i : Value) : Prop :=
  ∃ m j : Nat, o = .int .i64 m ∧ i = .int .i64 j ∧ a ≤ j ∧ j ≤ N.length ∧ m ≤ j + 1 ∧ szGo 1 (N.drop a) = (szGo m (N.drop j)).map (· + (j - a))

set_option maxHeartbeats 1000000 in
theorem refSize_ok {w : World} {ok : Nat → Prop} {v : Value} {N : List (Int × Int)} (at_ : Int) (h : NodesAt w ok v N) (hb : N.length ≤ 250) :
    Calls Try.prog 32 #[v, .int .i64 at_] w fun e w' => e = .returned (.int .i64 (szAt N at_)) ∧ w = w' := by
  obtain ⟨ao, c, rfl, hc, hm, hp⟩ := h
  obtain ⟨n, hn⟩ : ∃ n, n = N.length := ⟨_, rfl⟩
  rw [← hn] at hc hp hb ⊢
  have HN := hid hn
  have HP := hid hp
  clear hp
  by_cases h1 : at_ < 0
  · have e : szAt N at_ = 0 := by simp [szAt, h1]
    rw [e]
    clear hn
    go_enter Try.func32, Try.ntmps32
    go_wp2
    go_ret
    exact ⟨rfl, rfl⟩
  by_cases h2 : (n : Int) ≤ at_
  · have e : szAt N at_ = 0 := by rw [hn] at h2; simp [szAt, h2]
    rw [e]
    clear hn
    go_enter Try.func32, Try.ntmps32
    go_wp2
    go_ret
    exact ⟨rfl, rfl⟩
  obtain ⟨a, rfl⟩ : ∃ a : Nat, at_ = a := ⟨at_.toNat, by omega⟩
  have hr : szAt N a = ((szGo 1 (N.drop a)).getD 0 : Nat) := by
    unfold szAt
    rw [if_neg (by omega)]
    simp
  have HR := hid hr
  clear hn hr
  rw [HR.out]
  obtain ⟨res, hres⟩ : ∃ res : Nat, res = (szGo 1 (N.drop a)).getD 0 := ⟨_, rfl⟩
  rw [← hres]
  have HRES := hid hres
  clear hres
  go_enter Try.func32, Try.ntmps32
  go_wp2_with fail
  go_loopw [5, 6] (fun o i wr => wr = w ∧ SzRel N a o i) (fun _ i _ => n - (intOf i).toNat)
  case atStart => exact ⟨rfl, 1, a, rfl, rfl, Nat.le_refl _, by rw [← HN.out]; omega, by omega, by simp⟩
  case round =>
    obtain ⟨rfl, m, j, rfl, rfl, haj, hjn, hmj, hsz⟩ := hrel
    rw [← HN.out] at hjn
    cases m with
    | zero =>
      have e : res = j - a := by rw [HRES.out, hsz]; simp [szGo]
      have e2 : IntKind.i64.wrap ((j : Int) - (a : Int)) = (res : Int) := by rw [IntWalk.i64_in _ (by omega)]; omega
      clear e hsz
      go_wp2_with fail
      go_ret
      exact ⟨rfl, rfl⟩
    | succ m =>
      by_cases hj : j < n
      · obtain ⟨g, o, rfl, _, _, hcell⟩ := HP.out (by omega)
        obtain ⟨⟨k, p⟩, hx⟩ : ∃ x, N[j]? = some x := ⟨_, List.getElem?_eq_getElem (by rw [← HN.out]; exact hj)⟩
        have c0 := (hcell j _ hx).1
        have hst := szGo_succ m N j _ hx
        have hk2 := kidsOf_le k
        have e2 : IntKind.i64.wrap (IntKind.i64.wrap (((m + 1 : Nat) : Int) - 1) + (kidsOf k : Int)) = ((m + kidsOf k : Nat) : Int) := by
          rw [IntWalk.i64_in (((m + 1 : Nat) : Int) - 1) (by omega), IntWalk.i64_in _ (by omega)]; omega
        have H2 := hid (show szGo 1 (N.drop a) = (szGo (m + kidsOf k) (N.drop (j + 1))).map (· + (j + 1 - a)) by
          rw [hsz, hst]
          cases szGo (m + kidsOf k) (N.drop (j + 1)) with
          | none => rfl
          | some z => simp; omega)
        clear hsz hst hx hcell
        go_wp2_with (go_at_call 33; refine (refKids_ok k _).mono ?_; rintro e w' ⟨rfl, rfl⟩)
        go_roundw
        case rel => exact ⟨trivial, m + kidsOf k, j + 1, by congr 1, by go_num, by omega, by rw [← HN.out]; omega, by omega, H2.out⟩
        case measure => simp [intOf]; omega
      · have e : res = 0 := by
          rw [HRES.out, hsz, List.drop_eq_nil_of_le (by rw [← HN.out]; omega)]; rfl
        clear hsz
        go_wp2_with fail
        go_ret
        exact ⟨by rw [e]; rfl, rfl⟩

def SzRel2 (N : List (Int × Int)) (o i : Value) : Prop :=
  ∃ m j : Nat, o = .int .i64 m ∧ i = .int .i64 j ∧ j ≤ N.length ∧ 1 ≤ m ∧ m ≤ j + 1 ∧ szGo 1 N = (szGo m (N.drop j)).map (· + j)

set_option maxHeartbeats 1000000 in
theorem size_ok {w : World} {ok : Nat → Prop} {v : Value} {N : List (Int × Int)} (h : NodesAt w ok v N) (hb : N.length ≤ 250) :
    Calls Try.prog 34 #[v, .int .i64 0] w fun e w' => e = .returned (.int .i64 ((szGo 1 N).getD 0 : Nat)) ∧ Below w.heap.size w w' := by
  obtain ⟨ao, c, rfl, hc, hm, hp⟩ := h
  obtain ⟨n, hn⟩ : ∃ n, n = N.length := ⟨_, rfl⟩
  rw [← hn] at hc hp hb ⊢
  have HN := hid hn
  have HP := hid hp
  clear hp
  obtain ⟨res, hres⟩ : ∃ res : Nat, res = (szGo 1 N).getD 0 := ⟨_, rfl⟩
  rw [← hres]
  have HRES := hid hres
  clear hres
  by_cases h2 : n = 0
  · have e : res = 0 := by
      rw [HRES.out, List.length_eq_zero_iff.1 (HN.out.symm.trans h2)]; rfl
    subst h2
    rw [e]
    go_enter Try.func34, Try.ntmps34
    go_wp2
    go_ret
    exact ⟨rfl, Below.refl _ _⟩
  obtain ⟨g, o, rfl, _, hgl, hcell⟩ := HP.out (by omega)
  have HC := hid hcell
  have hc0 : ¬ c = 0 := by omega
  have h2' : ¬ (n : Int) ≤ 0 := by omega
  clear hcell hn
  go_enter Try.func34, Try.ntmps34
  go_wp2_with fail
  go_loopw [5, 20] (fun o i wr => Below w.heap.size w wr ∧ SzRel2 N o i) (fun _ i _ => n - (intOf i).toNat)
  case atStart => exact ⟨Below.refl _ _, 1, 0, rfl, rfl, Nat.zero_le _, Nat.le_refl _, by omega, by simp⟩
  case round =>
    obtain ⟨hbel, m, j, rfl, rfl, hjn, hm1, hmj, hsz⟩ := hrel
    rw [← HN.out] at hjn
    obtain ⟨m, rfl⟩ : ∃ m', m = m' + 1 := ⟨m - 1, by omega⟩
    by_cases hj : j < n
    · obtain ⟨⟨k, p⟩, hx⟩ : ∃ x, N[j]? = some x := ⟨_, List.getElem?_eq_getElem (by rw [← HN.out]; exact hj)⟩
      have c0 := (hbel.cell hgl).trans (HC.out j _ hx).1
      have c1 := (hbel.cell hgl).trans (HC.out j _ hx).2
      have hst := szGo_succ m N j _ hx
      have hk2 := kidsOf_le k
      have H2 := hid (show szGo 1 N = (szGo (m + kidsOf k) (N.drop (j + 1))).map (· + (j + 1)) by
        rw [hsz, hst]
        cases szGo (m + kidsOf k) (N.drop (j + 1)) with
        | none => rfl
        | some z => simp; omega)
      clear hsz hst hx
      have HB := hid hbel
      have hbs := hbel.size
      clear hbel
      by_cases hz : m + kidsOf k = 0
      · have e : res = j + 1 := by rw [HRES.out, H2.out, hz]; simp [szGo]
        go_wp2_with (go_at_call 43; refine (kids_ok k _).mono ?_; rintro e w' ⟨rfl, rfl⟩)
        go_ret
        exact ⟨by rw [e]; rfl, HB.out.alloc HB.out.size _⟩
      · go_wp2_with (go_at_call 43; refine (kids_ok k _).mono ?_; rintro e w' ⟨rfl, rfl⟩)
        go_roundw
        case rel => exact ⟨HB.out.alloc HB.out.size _, m + kidsOf k, j + 1, by congr 1; omega, by go_num, by rw [← HN.out]; omega, by omega, by omega, H2.out⟩
        case measure => simp [intOf]; omega
    · have e : res = 0 := by
        rw [HRES.out, hsz, List.drop_eq_nil_of_le (by rw [← HN.out]; omega)]; rfl
      have HB := hid hbel
      clear hsz hbel
      go_wp2_with fail
      go_ret
      exact ⟨by rw [e]; rfl, HB.out⟩

end Go.Proofs.Ytceomkoecidoiaa
