/-
  has, with and or of marks, walked: two numbers of 64 bits are the places of a word.
-/
import Derived.Test.YtceomkoecidoiaaFolW2
import Derived.Deep.RegionWith
import Derived.StillTailTactics
import Derived.IntWalk
namespace Go.Proofs.Ytceomkoecidoiaa
open Go.RowKit

/-- a set of places as two numbers -/
def lo (S : Nat → Bool) : Nat := msk S 64
def hi (S : Nat → Bool) : Nat := msk (fun i => S (64 + i)) 64
def mk (S : Nat → Bool) : Value := .agg #[.int .u64 (lo S), .int .u64 (hi S)]
theorem lo_lt (S : Nat → Bool) : lo S < 18446744073709551616 := msk_lt S 64
theorem hi_lt (S : Nat → Bool) : hi S < 18446744073709551616 := msk_lt _ 64
theorem has64 (x i : Nat) (hx : x < 18446744073709551616) : (Go.bits BinOp.and IntKind.u64 ((x : Int) / 2 ^ i) 1 == 1) = x.testBit i := by
  have e : ((x : Int) / 2 ^ i) = ((x / 2 ^ i : Nat) : Int) := by
    rw [Int.natCast_ediv, Int.natCast_pow]; rfl
  rw [e, show (1 : Int) = ((1 : Nat) : Int) from rfl, u64_and_nat _ _ (Nat.lt_of_le_of_lt (Nat.div_le_self _ _) hx) (by omega), Nat.and_one_is_mod, Nat.testBit_eq_decide_div_mod_eq]
  by_cases h : x / 2 ^ i % 2 = 1
  · simp [h]
  · simp only [h, decide_false, beq_eq_false_iff_ne, ne_eq]
    omega
theorem lo_bit (S : Nat → Bool) (i : Nat) (h : i < 64) : (lo S).testBit i = S i := by unfold lo; rw [testBit_msk]; simp [h]
theorem hi_bit (S : Nat → Bool) (i : Nat) (h : i < 64) : (hi S).testBit i = S (64 + i) := by unfold hi; rw [testBit_msk]; simp [h]
theorem mhas_ok (S : Nat → Bool) (i : Nat) (hi' : i < 128) (w : World) : Calls Try.prog 30 #[mk S, .int .i64 i] w fun e w' => e = .returned (.bool (S i)) ∧ Fr (fun _ => False) w w' := by
  have h1 : (0 : Int) ≤ i := by omega
  unfold mk
  by_cases hl : i < 64
  · have q1 : ((i : Int) / 64) = 0 := by omega
    have q2 : ((i : Int) % 64) = i := by omega
    have h3 := hid (has64 (lo S) i (lo_lt S))
    have h4 := hid (lo_bit S i hl)
    generalize lo S = x at *
    generalize hi S = y at *
    have q3 : (i : Int) < 64 := by omega
    go_enter Try.func30, Try.ntmps30
    go_wp2
    go_ret
    exact ⟨by rw [← h4.out, ← h3.out]; rfl, (Fr.refl _ _).alloc _⟩
  · obtain ⟨k, rfl⟩ : ∃ k, i = 64 + k := ⟨i - 64, by omega⟩
    have q1 : (((64 + k : Nat) : Int) / 64) = 1 := by omega
    have q2 : (((64 + k : Nat) : Int) % 64) = k := by omega
    have h3 := hid (has64 (hi S) k (hi_lt S))
    have h4 := hid (hi_bit S k (by omega))
    obtain ⟨z, hz⟩ : ∃ z : Int, z = ((64 + k : Nat) : Int) := ⟨_, rfl⟩
    rw [← hz] at q1 q2 h1 ⊢
    have h5 : z ≤ 127 := by omega
    clear hz
    generalize lo S = x at *
    generalize hi S = y at *
    have q3 : (k : Int) < 64 := by omega
    have q4 : (0 : Int) ≤ k := by omega
    go_enter Try.func30, Try.ntmps30
    go_wp2
    go_ret
    exact ⟨by rw [← h4.out, ← h3.out]; rfl, (Fr.refl _ _).alloc _⟩
theorem lo_or (S T : Nat → Bool) : Go.bits BinOp.or IntKind.u64 ((lo S : Nat) : Int) ((lo T : Nat) : Int) = ((lo (fun j => S j || T j) : Nat) : Int) := by
  unfold lo
  rw [u64_or_nat _ _ (msk_lt S 64) (msk_lt T 64), msk_or]
theorem hi_or (S T : Nat → Bool) : Go.bits BinOp.or IntKind.u64 ((hi S : Nat) : Int) ((hi T : Nat) : Int) = ((hi (fun j => S j || T j) : Nat) : Int) := by
  unfold hi
  rw [u64_or_nat _ _ (msk_lt _ 64) (msk_lt _ 64), msk_or]
theorem build_marks (x y : Int) (w : World) : (Instr.build 89 #[(0, .int .u64 x), (1, .int .u64 y)]).run Try.prog w = .ok (.agg #[.int .u64 x, .int .u64 y]) w := by kernel_rfl
theorem mor_ok (S T : Nat → Bool) (w : World) : Calls Try.prog 41 #[mk S, mk T] w fun e w' => e = .returned (mk fun j => S j || T j) ∧ Fr (fun _ => False) w w' := by
  have a1 := lo_or S T
  have a2 := hi_or S T
  unfold mk
  generalize (lo fun j => S j || T j) = x' at *
  generalize (hi fun j => S j || T j) = y' at *
  have b1 := build_marks x' y'
  generalize lo S = x at *
  generalize hi S = y at *
  generalize lo T = u at *
  generalize hi T = v at *
  go_enter Try.func41, Try.ntmps41
  go_wp2
  exact bodyPost_ret (v := .agg #[.int .u64 x', .int .u64 y']) (by simp [results, Try.results41, go_sem]) rfl ⟨rfl, (((Fr.refl _ _).alloc _).alloc _).alloc _⟩
/-- one place more -/
def put (S : Nat → Bool) (i : Nat) : Nat → Bool := fun j => S j || decide (i = j)
theorem lo_put (S : Nat → Bool) (i : Nat) (h : i < 64) : Go.bits BinOp.or IntKind.u64 ((lo S : Nat) : Int) ((2 ^ i : Nat) : Int) = ((lo (put S i) : Nat) : Int) := by
  unfold lo
  rw [u64_or_nat _ _ (msk_lt S 64) (Nat.pow_lt_pow_right (by omega) h), ← msk_one i 64 h, msk_or]
  rfl
theorem hi_put (S : Nat → Bool) (i : Nat) (h : i < 64) : Go.bits BinOp.or IntKind.u64 ((hi S : Nat) : Int) ((2 ^ i : Nat) : Int) = ((hi (put S (64 + i)) : Nat) : Int) := by
  unfold hi
  rw [u64_or_nat _ _ (msk_lt _ 64) (Nat.pow_lt_pow_right (by omega) h), ← msk_one i 64 h, msk_or]
  congr 1
  refine msk_congr fun j _ => ?_
  unfold put
  congr 1
  have h2 : (i = j) ↔ (64 + i = 64 + j) := by omega
  exact decide_eq_decide.2 h2
theorem hi_keep (S : Nat → Bool) (i : Nat) (h : i < 64) : hi (put S i) = hi S := by
  unfold hi
  refine msk_congr fun j _ => ?_
  unfold put
  have h2 : ¬ i = 64 + j := by omega
  rw [decide_eq_false h2, Bool.or_false]
theorem lo_keep (S : Nat → Bool) (i : Nat) : lo (put S (64 + i)) = lo S := by
  unfold lo
  refine msk_congr fun j hj => ?_
  unfold put
  have h2 : ¬ 64 + i = j := by omega
  rw [decide_eq_false h2, Bool.or_false]
theorem wrap_pow (i : Nat) (h : i < 64) : IntKind.u64.wrap ((2 : Int) ^ i) = ((2 ^ i : Nat) : Int) := by
  have h1 : 2 ^ i < 2 ^ 64 := Nat.pow_lt_pow_right (by omega) h
  have e : ((2 : Int) ^ i) = ((2 ^ i : Nat) : Int) := by rw [Int.natCast_pow]; rfl
  rw [e]
  generalize (2 ^ i : Nat) = q at h1 ⊢
  exact IntWalk.u64_in _ (by omega)
theorem mwith_ok (S : Nat → Bool) (i : Nat) (hi' : i < 128) (w : World) : Calls Try.prog 45 #[mk S, .int .i64 i] w fun e w' => e = .returned (mk (put S i)) ∧ Fr (fun _ => False) w w' := by
  have h1 : (0 : Int) ≤ i := by omega
  unfold mk
  by_cases hl : i < 64
  · have q1 : ((i : Int) / 64) = 0 := by omega
    have q2 : ((i : Int) % 64) = i := by omega
    have a1 := lo_put S i hl
    rw [← wrap_pow i hl] at a1
    rw [hi_keep S i hl]
    generalize lo (put S i) = x' at *
    generalize lo S = x at *
    generalize hi S = y at *
    have q3 : (i : Int) < 64 := by omega
    go_enter Try.func45, Try.ntmps45
    go_wp2
    go_region
    go_wp2
    exact bodyPost_ret (v := .agg #[.int .u64 x', .int .u64 y]) (by simp [results, Try.results45, go_sem]) rfl ⟨rfl, (((Fr.refl _ _).alloc _).alloc _).drew⟩
  · obtain ⟨k, rfl⟩ : ∃ k, i = 64 + k := ⟨i - 64, by omega⟩
    have q1 : (((64 + k : Nat) : Int) / 64) = 1 := by omega
    have q2 : (((64 + k : Nat) : Int) % 64) = k := by omega
    have a1 := hi_put S k (by omega)
    rw [← wrap_pow k (by omega)] at a1
    rw [lo_keep S k]
    generalize hi (put S (64 + k)) = x' at *
    obtain ⟨z, hz⟩ : ∃ z : Int, z = ((64 + k : Nat) : Int) := ⟨_, rfl⟩
    rw [← hz] at q1 q2 h1 ⊢
    have h5 : z ≤ 127 := by omega
    clear hz
    generalize lo S = x at *
    generalize hi S = y at *
    have q3 : (k : Int) < 64 := by omega
    have q4 : (0 : Int) ≤ k := by omega
    go_enter Try.func45, Try.ntmps45
    go_wp2
    go_region
    go_wp2
    exact bodyPost_ret (v := .agg #[.int .u64 x, .int .u64 x']) (by simp [results, Try.results45, go_sem]) rfl ⟨rfl, (((Fr.refl _ _).alloc _).alloc _).drew⟩
end Go.Proofs.Ytceomkoecidoiaa
