/-
  The box of messages: Fork; a box that lives, under a footprint.
-/
import Derived.Test.YtakhmommcgfoaaaMeB5
namespace Go.Proofs.Ytakhmommcgfoaaa
open Go.RowKit

theorem fork_nil (w : World) : Calls Try.prog 36 #[.pointer none] w fun e w' => e = .returned (.pointer none) ∧ w = w' := by
  go_enter Try.func36, Try.ntmps36
  go_wp2
  go_ret
  exact ⟨rfl, rfl⟩

theorem clone_ok {w : World} {B : Nat} {rv : Value} {zs : List Mq} (ho : w.ownsRow B 40 7 rv zs.length (zs.flatMap encM)) (hn : zs.length ≤ 4096) :
    Calls Try.prog 43 #[rv] w fun e w' => ∃ sp c, e = .returned (.slice sp zs.length c) ∧ w'.ownsRow w.heap.size 40 7 (.slice sp zs.length c) zs.length (zs.flatMap encM) ∧ Below w.heap.size w w' := by
  rcases owns_form ho with ⟨rfl, hz⟩ | ⟨g, cap, rfl, _⟩
  · refine (clone_nil w).mono ?_
    rintro e w' ⟨rfl, rfl⟩
    obtain rfl := List.length_eq_zero_iff.1 hz
    exact ⟨_, _, rfl, World.ownsRow_nil _ _ _ _, Below.refl _ _⟩
  · refine (clone_some g cap B zs w ho hn).mono ?_
    rintro e w' ⟨v, rfl, hown, hb⟩
    obtain ⟨sp, c, rfl, _⟩ := owns_view hown
    exact ⟨_, _, rfl, hown, hb⟩

theorem fork_ok {w : World} {B b : Nat} {rv : Value} {most h : Nat} {zs L : List Mq} (x : BoxM w B b rv most h zs L) :
    Calls Try.prog 36 #[.pointer (some ⟨b, 0, none⟩)] w fun e w' => ∃ b' rv', e = .returned (.pointer (some ⟨b', 0, none⟩)) ∧ BoxM w' w.heap.size b' rv' most h zs L ∧ Below w.heap.size w w' := by
  have h3 := x.c3
  have h2 := x.c2
  have h1 := x.c1
  have h0 := x.c0
  have hbs := lt_of_block x.blk
  have hle := x.le
  have hm := x.m1
  have X := hid x
  clear x
  go_enter Try.func36, Try.ntmps36
  go_wp2
  go_region_held3 (fun w' => w'.cell? ⟨b, 0, none⟩ = some (.int .i64 most) ∧ w'.cell? ⟨b, 1, none⟩ = some rv ∧ w'.cell? ⟨b, 2, none⟩ = some (.int .i64 h) ∧ w'.cell? ⟨b, 3, none⟩ = some (.int .i64 L.length))
    (first
      | go_keep
      | (go_split_ands; exact ⟨(hbl.cell hbs).trans (by assumption), (hbl.cell hbs).trans (by assumption), (hbl.cell hbs).trans (by assumption), (hbl.cell hbs).trans (by assumption)⟩))
    (first | (go_at_call 43; refine (clone_ok (B := B) (zs := zs) (by exact X.out.own) (by omega)).mono ?_; rintro e w1 ⟨sp, c, rfl, hown, hbl⟩))
  have R1 := hid hown
  have R2 := hid hbl
  clear hown hbl
  go_wp2
  go_ret
  have hsz := R2.out.size
  simp only [World.size_drew] at hsz
  refine ⟨_, _, rfl, ⟨hsz, heap_new _ _, R1.out.alloc _, ?_, hm, hle, X.out.ring⟩, ?_⟩
  · intro e
    have := (R1.out.lt _ e).2
    omega
  · exact ((Below.refl w.heap.size w).drew.trans R2.out).alloc hsz _

/-- Block b is a box with the messages L and room for most; all its memory lies in S. -/
structure Live (w : World) (b most : Nat) (L : List Mq) (S : Nat → Prop) : Prop where
  box : ∃ rv h zs, BoxM w 0 b rv most h zs L ∧ ∀ k, rv.ownBlock = some k → S k
  sb : S b
  lt : ∀ k, S k → k < w.heap.size

theorem BoxM.base0 {w : World} {B b : Nat} {rv : Value} {most h : Nat} {zs L : List Mq} (x : BoxM w B b rv most h zs L) : BoxM w 0 b rv most h zs L :=
  ⟨Nat.zero_le _, x.blk, ⟨x.own.1, x.own.2.elim .inl (fun ⟨g, c, cur, e, _, r⟩ => .inr ⟨g, c, cur, e, Nat.zero_le _, r⟩)⟩, x.ne, x.m1, x.le, x.ring⟩

theorem Live.fr {w w' : World} {b most : Nat} {L : List Mq} {S T : Nat → Prop} (h : Live w b most L S) (hf : Fr T w w') (hd : ∀ k, S k → ¬ T k) : Live w' b most L S := by
  obtain ⟨⟨rv, hh, zs, hb, hr⟩, sb, lt⟩ := h
  exact ⟨⟨rv, hh, zs, hb.fr hf (hd b sb) (fun k hk => hd k (hr k hk)), hr⟩, sb, fun k hk => Nat.lt_of_lt_of_le (lt k hk) hf.size⟩
theorem Live.cnt {w : World} {b most : Nat} {L : List Mq} {S : Nat → Prop} (h : Live w b most L S) : L.length ≤ most ∧ most ≤ 4096 := by
  obtain ⟨⟨rv, hh, zs, hb, hr⟩, _⟩ := h
  exact ⟨hb.cnt, hb.m1⟩

theorem push_live {w : World} {b most : Nat} {L : List Mq} {S : Nat → Prop} (h : Live w b most L S) (y : Mq) (hlt : L.length < most) :
    Calls Try.prog 32 #[.pointer (some ⟨b, 0, none⟩), msgV y] w fun e w' => e = .returned (.int .i64 0) ∧
      ∃ S', Live w' b most (L ++ [y]) S' ∧ Fr S w w' ∧ ∀ k, S' k → S k ∨ w.heap.size ≤ k := by
  obtain ⟨⟨rv, hh, zs, hb, hr⟩, sb, lt⟩ := h
  by_cases hz : L.length = zs.length
  · refine (push_grow y hb hz hlt (Nat.zero_le _)).mono ?_
    rintro e w' ⟨rfl, ⟨rv', h', zs', hb', hfresh⟩, hf'⟩
    refine ⟨rfl, fun k => S k ∨ (w.heap.size ≤ k ∧ k < w'.heap.size), ⟨⟨rv', h', zs', hb', fun k hk => .inr ⟨hfresh k hk, (hb'.own.lt k hk).2⟩⟩, .inl sb, fun k hk => ?_⟩, hf'.mono ?_, fun k hk => ?_⟩
    · rcases hk with hk | hk
      · exact Nat.lt_of_lt_of_le (lt k hk) hf'.size
      · exact hk.2
    · rintro i _ rfl; exact sb
    · rcases hk with hk | hk
      · exact .inl hk
      · exact .inr hk.1
  · have hl := hb.ring.len
    refine (push_room y hb (by omega)).mono ?_
    rintro e w' ⟨rfl, ⟨zs', hb'⟩, hf'⟩
    refine ⟨rfl, S, ⟨⟨rv, hh, zs', hb', hr⟩, sb, fun k hk => Nat.lt_of_lt_of_le (lt k hk) hf'.size⟩, hf'.mono ?_, fun k hk => .inl hk⟩
    rintro i _ (rfl | hi)
    · exact sb
    · exact hr i hi

theorem pop_live_none {w : World} {b most : Nat} {S : Nat → Prop} (h : Live w b most [] S) :
    Calls Try.prog 27 #[.pointer (some ⟨b, 0, none⟩)] w fun e w' => e = .returned (.tuple #[msgV noM, .int .i64 16]) ∧ Fr (fun _ => False) w w' := by
  obtain ⟨⟨rv, hh, zs, hb, hr⟩, _⟩ := h
  exact pop_none hb
theorem pop_live {w : World} {b most : Nat} {y : Mq} {L : List Mq} {S : Nat → Prop} (h : Live w b most (y :: L) S) :
    Calls Try.prog 27 #[.pointer (some ⟨b, 0, none⟩)] w fun e w' => e = .returned (.tuple #[msgV y, .int .i64 0]) ∧ Live w' b most L S ∧ Fr S w w' := by
  obtain ⟨⟨rv, hh, zs, hb, hr⟩, sb, lt⟩ := h
  refine (pop_some hb).mono ?_
  rintro e w' ⟨rfl, ⟨h', zs', hb'⟩, hf'⟩
  refine ⟨rfl, ⟨⟨rv, h', zs', hb', hr⟩, sb, fun k hk => Nat.lt_of_lt_of_le (lt k hk) hf'.size⟩, hf'.mono ?_⟩
  rintro i _ (rfl | hi)
  · exact sb
  · exact hr i hi
theorem len_live {w : World} {b most : Nat} {L : List Mq} {S : Nat → Prop} (h : Live w b most L S) :
    Calls Try.prog 35 #[.pointer (some ⟨b, 0, none⟩)] w fun e w' => e = .returned (.int .i64 L.length) ∧ w = w' := by
  obtain ⟨⟨rv, hh, zs, hb, hr⟩, _⟩ := h
  exact len_ok hb
theorem room_live {w : World} {b most : Nat} {L : List Mq} {S : Nat → Prop} (h : Live w b most L S) :
    Calls Try.prog 31 #[.pointer (some ⟨b, 0, none⟩)] w fun e w' => e = .returned (.int .i64 ((most : Int) - (L.length : Int))) ∧ ∃ m, w' = w.drewN m := by
  obtain ⟨⟨rv, hh, zs, hb, hr⟩, _⟩ := h
  exact room_ok hb
theorem list_live {w : World} {b most : Nat} {L : List Mq} {S : Nat → Prop} (h : Live w b most L S) :
    Calls Try.prog 34 #[.pointer (some ⟨b, 0, none⟩)] w fun e w' => ∃ v, e = .returned v ∧ w'.ownsRow w.heap.size 40 7 v L.length (L.flatMap encM) ∧ Below w.heap.size w w' := by
  obtain ⟨⟨rv, hh, zs, hb, hr⟩, _⟩ := h
  exact list_ok hb
theorem new_live (n : Nat) (w : World) (h1 : 1 ≤ n) (h2 : n ≤ 4096) :
    Calls Try.prog 24 #[.int .i64 n] w fun e w' => e = .returned (.tuple #[.pointer (some ⟨w.heap.size, 0, none⟩), .int .i64 0]) ∧ Live w' w.heap.size n [] (fun k => k = w.heap.size) ∧ Fr (fun _ => False) w w' ∧ w'.heap.size = w.heap.size + 1 := by
  refine (new_ok n w (by omega) (by omega)).mono ?_
  rintro e w' ⟨rfl, rfl⟩
  have hb : BoxM (w.alloc (.cells #[.int .i64 n, .slice none 0 0, .int .i64 0, .int .i64 0, .nilFunc] 97)) 0 w.heap.size (.slice none 0 0) n 0 [] [] := by
    refine ⟨Nat.zero_le _, ?_, World.ownsRow_nil _ _ _ _, by simp [Value.ownBlock], by omega, by simp, Ring.nil⟩
    rw [heap_new]
    simp only [List.length_nil]
    rfl
  exact ⟨rfl, ⟨⟨_, _, _, hb, fun k hk => by simp [Value.ownBlock] at hk⟩, rfl, fun k hk => by simp [hk]⟩, (Fr.refl _ w).alloc _, by simp⟩
theorem fork_live {w : World} {b most : Nat} {L : List Mq} {S : Nat → Prop} (h : Live w b most L S) :
    Calls Try.prog 36 #[.pointer (some ⟨b, 0, none⟩)] w fun e w' => ∃ b', e = .returned (.pointer (some ⟨b', 0, none⟩)) ∧ Live w' b' most L (fun k => w.heap.size ≤ k ∧ k < w'.heap.size) ∧ Fr (fun _ => False) w w' := by
  obtain ⟨⟨rv, hh, zs, hb, hr⟩, _⟩ := h
  refine (fork_ok hb).mono ?_
  rintro e w' ⟨b', rv', rfl, hb', hbl⟩
  exact ⟨b', rfl, ⟨⟨rv', hh, zs, hb'.base0, fun k hk => hb'.own.lt k hk⟩, ⟨hb'.base, lt_of_block hb'.blk⟩, fun k hk => hk.2⟩, Fr.of_below hbl (fun i h1 h2 => by omega)⟩

end Go.Proofs.Ytakhmommcgfoaaa
