/-
  Layer 22: what must come of every program.
-/
import Derived.Test.YtbjggiihbdhmbaaCoJ
import Derived.Test.YtbjggiihbdhmbaaTail
namespace Go.Proofs.Ytbjggiihbdhmbaa
open Go.RowKit Go.Shelf

theorem All_any (g : Nat) (w : World) : Calls Try.prog 19 #[.pointer (some ⟨g, 0, none⟩)] w fun e w' =>
    e = .returned (.func (.func 41) #[] #[.pointer (some ⟨w.heap.size, 0, none⟩)]) ∧ w.alloc (.cells #[.pointer (some ⟨g, 0, none⟩)] 25) = w' := by
  go_enter Try.func19, Try.ntmps19
  go_wp2
  go_ret
  exact ⟨rfl, rfl⟩
theorem All_nil (w : World) : Calls Try.prog 19 #[.pointer none] w fun e w' =>
    e = .returned (.func (.func 41) #[] #[.pointer (some ⟨w.heap.size, 0, none⟩)]) ∧ w.alloc (.cells #[.pointer none] 25) = w' := by
  go_enter Try.func19, Try.ntmps19
  go_wp2
  go_ret
  exact ⟨rfl, rfl⟩
@[go_sem ↓] theorem eql_fn (W : World) (F : Fn) (a b : Array Value) : (binOp .eql 44 (.func F a b) .nilFunc).run Try.prog W = .ok (.bool false) W := by kernel_rfl
@[go_sem ↓] theorem eql_fn2 (W : World) (F : Fn) (a b : Array Value) : (binOp .eql 48 (.func F a b) .nilFunc).run Try.prog W = .ok (.bool false) W := by kernel_rfl
def b22 : B4 := ⟨0, 0, 2, 2⟩
theorem b22_at0 : atC b22 (lineC b22 (zerC (numB b22)) (0, 0) (64, 64)) 0 0 = (64, 4096) := by kernel_rfl
theorem b22_at1 : atC b22 (lineC b22 (zerC (numB b22)) (0, 0) (64, 64)) 1 1 = (0, 0) := by kernel_rfl
theorem cell22 : cellE 0 0 2 2 = 0 := by kernel_rfl
theorem cell00 : cellE 0 0 0 0 = 1 := by kernel_rfl
theorem New_22 (w : World) : Calls Try.prog 9 #[.agg #[.int .i64 0, .int .i64 0, .int .i64 2, .int .i64 2]] w (NewYes ⟨0, 0, 2, 2⟩ w) := by
  have h := New_any ⟨0, 0, 2, 2⟩ w
  unfold NewR at h
  dsimp only at h
  simp only [cell22, if_true] at h
  exact h
theorem New_00 (w : World) : Calls Try.prog 9 #[.agg #[.int .i64 0, .int .i64 0, .int .i64 0, .int .i64 0]] w (fun e w' => e = .returned (.tuple #[.pointer none, .int .i64 1]) ∧ Below w.heap.size w w') := by
  have h := New_any ⟨0, 0, 0, 0⟩ w
  unfold NewR NewNo at h
  dsimp only at h
  simp only [cell00, show ¬ (1 : Int) = 0 by decide, if_false] at h
  exact h
theorem below_turn {A B : World} {k n : Nat} (h : Turn A B k none) (hn : n ≤ k) (hn' : n ≤ A.heap.size) : Below n A B :=
  ⟨h.os, h.tape, h.output, h.size, fun i hi => h.block i (by omega) (by omega) (fun e => by cases e)⟩
def z6 : List Ce := zerC (numB ⟨0, 0, 2, 2⟩)
def l6 : List Ce := lineC ⟨0, 0, 2, 2⟩ z6 (0, 0) (64, 64)
theorem Line_22 {w : World} {g k : Nat} (h : Cc w g k ⟨0, 0, 2, 2⟩ z6) : Calls Try.prog 14 #[.pointer (some ⟨g, 0, none⟩), .agg #[.int .i64 0, .int .i64 0], .agg #[.int .i64 64, .int .i64 64]] w (LnYes g k ⟨0, 0, 2, 2⟩ l6 w) :=
  Line_yes h (0, 0) (64, 64) (by kernel_rfl) (by kernel_rfl)
theorem Line_23 {w : World} {g k : Nat} (h : Cc w g k ⟨0, 0, 2, 2⟩ l6) : Calls Try.prog 14 #[.pointer (some ⟨g, 0, none⟩), .agg #[.int .i64 0, .int .i64 0], .agg #[.int .i64 129, .int .i64 0]] w (LnNo w) :=
  Line_no h (0, 0) (129, 0) (by kernel_rfl)
theorem at6_0 : atC ⟨0, 0, 2, 2⟩ l6 0 0 = (64, 4096) := b22_at0
theorem at6_1 : atC ⟨0, 0, 2, 2⟩ l6 1 1 = (0, 0) := b22_at1
theorem At_22 {w : World} {g k : Nat} (h : Cc w g k ⟨0, 0, 2, 2⟩ l6) : Calls Try.prog 17 #[.pointer (some ⟨g, 0, none⟩), .int .i64 0, .int .i64 0] w fun e w' => e = .returned (.tuple #[.int .i64 64, .int .i64 4096]) ∧ Below w.heap.size w w' := by
  have h := At_any h 0 0
  rw [at6_0] at h
  exact h
theorem At_23 {w : World} {g k : Nat} (h : Cc w g k ⟨0, 0, 2, 2⟩ l6) : Calls Try.prog 17 #[.pointer (some ⟨g, 0, none⟩), .int .i64 1, .int .i64 1] w fun e w' => e = .returned (.tuple #[.int .i64 0, .int .i64 0]) ∧ Below w.heap.size w w' := by
  have h := At_any h 1 1
  rw [at6_1] at h
  exact h
theorem Rows_22 (w : World) : Calls Try.prog 20 #[.agg #[.int .i64 0, .int .i64 0], .agg #[.int .i64 0, .int .i64 0]] w fun e w' =>
    e = .returned (.func (.func 42) #[] #[.pointer (some ⟨w.heap.size, 0, none⟩), .pointer (some ⟨w.heap.size + 1, 0, none⟩)]) ∧ (w.alloc (.cells #[.int .i64 0, .int .i64 0] 36)).alloc (.cells #[.int .i64 0, .int .i64 0] 36) = w' := covRows_any (0, 0) (0, 0) w
set_option maxRecDepth 20000 in
set_option maxHeartbeats 2000000 in
theorem lives_any (w : World) : Calls Try.prog 10 #[] w fun e w' => e = .returned (.bool true) ∧ Below w.heap.size w w' := by
  have HN1 := Lib.hid New_22
  have HN2 := Lib.hid New_00
  go_enter Try.func10, Try.ntmps10
  go_wp2_with (first
    | (go_at_call 9; (with_reducible refine (HN1.out _).mono ?_); rintro e w1 ⟨g, k, rfl, hcc, hg, hk, hb1⟩; have HB1 := Lib.hid hb1; have HCC := Lib.hid hcc; clear hb1 hcc)
    | (go_at_call 9; (with_reducible refine (HN2.out _).mono ?_); rintro e w2 ⟨rfl, hb2⟩; have HB2 := Lib.hid hb2; clear hb2))
  have hB2 : Below w.heap.size w w2 := HB1.out.trans (HB2.out.mono HB1.out.size)
  have hC2 : Cc w2 g k ⟨0, 0, 2, 2⟩ z6 := HCC.out.keepB HB2.out
  have H2 := Lib.hid (And.intro hB2 hC2)
  clear HB1 HB2 HCC hB2 hC2
  (go_at_call 14; (with_reducible refine (Line_22 H2.out.2).mono ?_); rintro e w3 ⟨rfl, hcc3, ht3⟩)
  have hB3 : Below w.heap.size w w3 := H2.out.1.trans (below_turn ht3 hk H2.out.1.size)
  have H3 := Lib.hid (And.intro hB3 hcc3)
  clear H2 hB3 hcc3 ht3
  go_wp2_with (first
    | (go_at_call 14; (with_reducible refine (Line_23 H3.out.2).mono ?_); rintro e w4 ⟨rfl, hb4⟩; have HB4 := Lib.hid hb4; clear hb4)
    | (go_at_call 19; (with_reducible refine (All_any _ _).mono ?_); rintro e w5 ⟨rfl, rfl⟩)
    | (go_at_call 20; (with_reducible refine (Rows_22 _).mono ?_); rintro e w6 ⟨rfl, rfl⟩)
    | (fail))
  have hB4 : Below w.heap.size w w4 := H3.out.1.trans (HB4.out.mono H3.out.1.size)
  have hC4 := H3.out.2.keepB HB4.out
  have hal := bel_alloc (o := .cells #[.int .i64 0, .int .i64 0] 36) (bel_alloc (o := .cells #[.int .i64 0, .int .i64 0] 36) (bel_alloc (o := .cells #[.pointer (some ⟨g, 0, none⟩)] 25) (bel_refl (a := w4))))
  generalize hW : ((w4.alloc (.cells #[.pointer (some ⟨g, 0, none⟩)] 25)).alloc (.cells #[.int .i64 0, .int .i64 0] 36)).alloc (.cells #[.int .i64 0, .int .i64 0] 36) = W at *
  have H5 := Lib.hid (And.intro (hB4.trans (hal.below.mono hB4.size)) (hC4.keepB hal.below))
  clear H3 HB4 hB4 hC4 hal hW
  (go_at_call 17; (with_reducible refine (At_22 H5.out.2).mono ?_); rintro e w6 ⟨rfl, hb6⟩)
  have H6 := Lib.hid (And.intro (H5.out.1.trans (hb6.mono H5.out.1.size)) (H5.out.2.keepB hb6))
  clear H5 hb6
  go_wp2_with (first
    | (go_at_call 17; (with_reducible refine (At_23 H6.out.2).mono ?_); rintro e w7 ⟨rfl, hb7⟩; have H7 := Lib.hid (And.intro (H6.out.1.trans (hb7.mono H6.out.1.size)) (H6.out.2.keepB hb7)); clear hb7)
    | (go_at_call 30; (with_reducible refine (Box_any H7.out.2).mono ?_); rintro e w8 ⟨rfl, hb8⟩; have H8 := Lib.hid (H7.out.1.trans (hb8.mono H7.out.1.size)); clear hb8)
    | (fail))
  go_ret
  exact ⟨rfl, H8.out⟩
end Go.Proofs.Ytbjggiihbdhmbaa
