/-
  Layer 24: the law ExactTouches, walked.
-/
import Derived.Test.YtnmnehgcliiofaaEyD
namespace Go.Proofs.Ytnmnehgcliiofaa
open Go.RowKit

section
variable {w : World} {ax ay dx dy b0 b1 b2 b3 : Int}
theorem sides_neg (p q r s : Int) : sidesB (-p) (-q) (-r) (-s) = sidesB p q r s := by
  unfold sidesB
  rw [Bool.eq_iff_iff]
  simp only [Bool.and_eq_true, decide_eq_true_eq]
  omega
theorem touch_swap : touchB dx dy ax ay b0 b1 b2 b3 = touchB ax ay dx dy b0 b1 b2 b3 := by
  unfold touchB
  rw [cross_swap (ax := ax) (ay := ay) (dx := dx) (dy := dy), cross_swap (ax := ax) (ay := ay) (dx := dx) (dy := dy), cross_swap (ax := ax) (ay := ay) (dx := dx) (dy := dy), cross_swap (ax := ax) (ay := ay) (dx := dx) (dy := dy), sides_neg]
  have h : apart dx dy ax ay b0 b1 b2 b3 ↔ apart ax ay dx dy b0 b1 b2 b3 := by unfold apart; omega
  by_cases h1 : apart ax ay dx dy b0 b1 b2 b3
  · rw [if_pos h1, if_pos (h.2 h1)]
  · rw [if_neg h1, if_neg (fun h2 => h1 (h.1 h2))]
theorem near_swap : nearB dx dy ax ay b0 b1 b2 b3 = nearB ax ay dx dy b0 b1 b2 b3 := by
  unfold nearB
  simp only [List.all_cons, List.all_nil]
  cases fit2 ax <;> cases fit2 ay <;> cases fit2 dx <;> cases fit2 dy <;> rfl
theorem Touch_swap : TouchB dx dy ax ay b0 b1 b2 b3 = TouchB ax ay dx dy b0 b1 b2 b3 := by
  unfold TouchB
  rw [touch_swap, near_swap]
def tBox (w : World) (ax ay dx dy b0 b1 b2 b3 : Int) : World := ((w.alloc (.cells #[.int .i64 ax, .int .i64 ay] 72)).alloc (.cells #[.int .i64 dx, .int .i64 dy] 72)).alloc (.cells #[.int .i64 b0, .int .i64 b1, .int .i64 b2, .int .i64 b3] 32)
structure Three (w W : World) (n : Nat) (ax ay dx dy b0 b1 b2 b3 : Int) : Prop where
  a : Blk W n 72 [.int .i64 ax, .int .i64 ay]
  d : Blk W (n + 1) 72 [.int .i64 dx, .int .i64 dy]
  b : Blk W (n + 2) 32 [.int .i64 b0, .int .i64 b1, .int .i64 b2, .int .i64 b3]
  bel : Below w.heap.size w W
theorem Three.keep {w W W' : World} {n : Nat} (h : Three w W n ax ay dx dy b0 b1 b2 b3) (hb : Below W.heap.size W W') : Three w W' n ax ay dx dy b0 b1 b2 b3 := ⟨h.a.keepB hb, h.d.keepB hb, h.b.keepB hb, Aft.call h.bel hb⟩
theorem Three.cells {w W : World} {n : Nat} (h : Three w W n ax ay dx dy b0 b1 b2 b3) : (W.cell? ⟨n, 0, none⟩ = some (.int .i64 ax) ∧ W.cell? ⟨n, 1, none⟩ = some (.int .i64 ay)) ∧ (W.cell? ⟨n + 1, 0, none⟩ = some (.int .i64 dx) ∧ W.cell? ⟨n + 1, 1, none⟩ = some (.int .i64 dy)) ∧ (W.cell? ⟨n + 2, 0, none⟩ = some (.int .i64 b0) ∧ W.cell? ⟨n + 2, 1, none⟩ = some (.int .i64 b1)) ∧ (W.cell? ⟨n + 2, 2, none⟩ = some (.int .i64 b2) ∧ W.cell? ⟨n + 2, 3, none⟩ = some (.int .i64 b3)) :=
  ⟨⟨h.a.cell 0, h.a.cell 1⟩, ⟨h.d.cell 0, h.d.cell 1⟩, ⟨h.b.cell 0, h.b.cell 1⟩, h.b.cell 2, h.b.cell 3⟩
theorem three_new : Three w (tBox w ax ay dx dy b0 b1 b2 b3) w.heap.size ax ay dx dy b0 b1 b2 b3 :=
  ⟨((Blk.new w 72 [.int .i64 ax, .int .i64 ay]).alloc _).alloc _, (Blk.newAt _ 72 [.int .i64 dx, .int .i64 dy] (by simp)).alloc _, Blk.newAt _ 32 [.int .i64 b0, .int .i64 b1, .int .i64 b2, .int .i64 b3] (by simp), (bel_alloc (bel_alloc (bel_alloc bel_refl))).below⟩
set_option maxRecDepth 20000 in
set_option maxHeartbeats 4000000 in
theorem ExactTouches_any : Calls Try.prog 9 #[.agg #[.int .i64 ax, .int .i64 ay], .agg #[.int .i64 dx, .int .i64 dy], .agg #[.int .i64 b0, .int .i64 b1, .int .i64 b2, .int .i64 b3]] w fun e w' => e = .returned (.bool true) ∧ Below w.heap.size w w' := by
  have K1 := fun W => Touches_any (ax := ax) (ay := ay) (dx := dx) (dy := dy) (b0 := b0) (b1 := b1) (b2 := b2) (b3 := b3) W
  have K2 := fun W => rTouches_any (ax := ax) (ay := ay) (dx := dx) (dy := dy) (b0 := b0) (b1 := b1) (b2 := b2) (b3 := b3) W
  have K3 := fun W => Touches_any (ax := dx) (ay := dy) (dx := ax) (dy := ay) (b0 := b0) (b1 := b1) (b2 := b2) (b3 := b3) W
  simp only [Touch_swap (ax := ax) (ay := ay) (dx := dx) (dy := dy)] at K3
  generalize TouchB ax ay dx dy b0 b1 b2 b3 = t at *
  replace K1 := Lib.hid K1
  replace K2 := Lib.hid K2
  replace K3 := Lib.hid K3
  have HT0 := Lib.hid (three_new (w := w) (ax := ax) (ay := ay) (dx := dx) (dy := dy) (b0 := b0) (b1 := b1) (b2 := b2) (b3 := b3))
  cases t
  all_goals
    go_enter Try.func9, Try.ntmps9
    go_wp2_with (first
      | (go_at_call 34; (with_reducible refine (K1.out _).mono ?_); rintro e w1 ⟨rfl, hb1⟩
         first
         | (have HT4 := Lib.hid (HT3.out.keep hb1); clear hb1)
         | (have HT1 := Lib.hid (HT0.out.keep hb1); clear hb1))
      | (go_at_call 29; (with_reducible refine (lives24 _).mono ?_); rintro e w2 ⟨rfl, hb1⟩
         have ht := HT1.out.keep hb1
         obtain ⟨⟨k0, k1⟩, ⟨k2, k3⟩, ⟨k4, k5⟩, k6, k7⟩ := ht.cells
         have HT2 := Lib.hid ht
         clear hb1 ht)
      | (go_at_call 35; (with_reducible refine (K2.out _).mono ?_); rintro e w3 ⟨rfl, hb1⟩
         have ht := HT2.out.keep hb1
         obtain ⟨⟨l0, l1⟩, ⟨l2, l3⟩, ⟨l4, l5⟩, l6, l7⟩ := ht.cells
         have HT3 := Lib.hid ht
         clear hb1 ht)
      | (go_at_call 34; (with_reducible refine (K3.out _).mono ?_); rintro e w4 ⟨rfl, hb1⟩
         have HT4 := Lib.hid (HT3.out.keep hb1)
         clear hb1))
    go_ret
    exact ⟨rfl, HT4.out.bel⟩
end
end Go.Proofs.Ytnmnehgcliiofaa
