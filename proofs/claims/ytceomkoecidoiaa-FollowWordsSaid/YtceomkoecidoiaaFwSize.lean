/-
  Size of the program's core at any place, walked.
-/
import Derived.Test.YtceomkoecidoiaaFolFine
namespace Go.Proofs.Ytceomkoecidoiaa
open Go.RowKit

def SzRel3 (N : List (Int × Int)) (a : Nat) (o i : Value) : Prop :=
  ∃ m j : Nat, o = .int .i64 m ∧ i = .int .i64 j ∧ a + j ≤ N.length ∧ 1 ≤ m ∧ m ≤ j + 1 ∧ szGo 1 (N.drop a) = (szGo m (N.drop (a + j))).map (· + j)

set_option maxHeartbeats 2000000 in
theorem csize_at {w : World} {ok : Nat → Prop} {v : Value} {N : List (Int × Int)} (h : NodesAt w ok v N) (hb : N.length ≤ 250) (a : Nat) (ha : a < N.length) :
    Calls Try.prog 34 #[v, .int .i64 a] w fun e w' => e = .returned (.int .i64 ((szGo 1 (N.drop a)).getD 0 : Nat)) ∧ Fr (fun _ => False) w w' := by
  obtain ⟨ao, c, rfl, hc, hm, hp⟩ := h
  obtain ⟨n, hn⟩ : ∃ n, n = N.length := ⟨_, rfl⟩
  rw [← hn] at hc hp hb ha ⊢
  have HN := hid hn
  have HP := hid hp
  clear hp
  obtain ⟨res, hres⟩ : ∃ res : Nat, res = (szGo 1 (N.drop a)).getD 0 := ⟨_, rfl⟩
  rw [← hres]
  have HRES := hid hres
  clear hres
  obtain ⟨g, o, rfl, _, hgl, hcell⟩ := HP.out (by omega)
  have HC := hid hcell
  obtain ⟨q, rfl⟩ : ∃ q, n = a + q := ⟨n - a, by omega⟩
  obtain ⟨d, rfl⟩ : ∃ d, c = a + d := ⟨c - a, by omega⟩
  have hq0 : 0 < q := by omega
  have hd0 : ¬ d = 0 := by omega
  have h1 : (0 : Int) ≤ a := by omega
  have h2 : ¬ ((a : Int) < 0) := by omega
  have h3 : (a : Int) < ((a + q : Nat) : Int) := by omega
  have h5 : a ≤ a + q := by omega
  have h6 : a + q ≤ a + d := by omega
  clear hcell hn
  go_enter Try.func34, Try.ntmps34
  go_wp2_with fail
  go_loopw [5, 20] (fun o i wr => Fr (fun _ => False) w wr ∧ SzRel3 N a o i) (fun _ i _ => q - (intOf i).toNat)
  case atStart => exact ⟨Fr.refl _ _, 1, 0, rfl, rfl, by rw [← HN.out]; omega, Nat.le_refl _, by omega, by simp⟩
  case round =>
    obtain ⟨hbel, m, j, rfl, rfl, hjn, hm1, hmj, hsz⟩ := hrel
    rw [← HN.out] at hjn
    obtain ⟨m, rfl⟩ : ∃ m', m = m' + 1 := ⟨m - 1, by omega⟩
    by_cases hj : j < q
    · obtain ⟨⟨k, p⟩, hx⟩ : ∃ x, N[a + j]? = some x := ⟨_, List.getElem?_eq_getElem (by rw [← HN.out]; omega)⟩
      have c0 := hbel.cell (HC.out (a + j) _ hx).1 (fun e => e)
      have c1 := hbel.cell (HC.out (a + j) _ hx).2 (fun e => e)
      rw [show o + (a + j) * 2 = o + a * 2 + j * 2 by omega] at c0 c1
      have hst := szGo_succ m N (a + j) _ hx
      have hk2 := kidsOf_le k
      have H2 := hid (show szGo 1 (N.drop a) = (szGo (m + kidsOf k) (N.drop (a + (j + 1)))).map (· + (j + 1)) by
        rw [hsz, hst, show a + (j + 1) = a + j + 1 by omega]
        cases szGo (m + kidsOf k) (N.drop (a + j + 1)) with
        | none => rfl
        | some z => simp; omega)
      clear hsz hst hx
      have HB := hid hbel
      clear hbel
      by_cases hz : m + kidsOf k = 0
      · have e : res = j + 1 := by rw [HRES.out, H2.out, hz]; simp [szGo]
        go_wp2_with (go_at_call 43; refine (kids_ok k _).mono ?_; rintro e w' ⟨rfl, rfl⟩)
        go_ret
        exact ⟨by rw [e]; rfl, HB.out.alloc _⟩
      · go_wp2_with (go_at_call 43; refine (kids_ok k _).mono ?_; rintro e w' ⟨rfl, rfl⟩)
        go_roundw
        case rel => exact ⟨HB.out.alloc _, m + kidsOf k, j + 1, by congr 1; omega, by go_num, by rw [← HN.out]; omega, by omega, by omega, H2.out⟩
        case measure => simp [intOf]; omega
    · have e : res = 0 := by
        rw [HRES.out, hsz, List.drop_eq_nil_of_le (by rw [← HN.out]; omega)]; rfl
      have HB := hid hbel
      clear hsz hbel
      go_wp2_with fail
      go_ret
      exact ⟨by rw [e]; rfl, HB.out⟩
end Go.Proofs.Ytceomkoecidoiaa
