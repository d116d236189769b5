/-
  Layer 24: numbers, sides of a line, what a line does to a winding number.
-/
import Derived.Test.YtnmnehgcliiofaaBs
import Derived.Test.YtnmnehgcliiofaaLists
namespace Go.Proofs.Ytnmnehgcliiofaa
open Go.RowKit

theorem ret_bool' {a b : Bool} (h : a = b) : Ending.returned (.bool a) = Ending.returned (.bool b) := by rw [h]
theorem ret_int' {a b : Int} (h : a = b) : Ending.returned (.int .i64 a) = Ending.returned (.int .i64 b) := by rw [h]
theorem mul_abs {a b : Int} {A B : Nat} (h1 : a.natAbs ≤ A) (h2 : b.natAbs ≤ B) : (a * b).natAbs ≤ A * B := by rw [Int.natAbs_mul]; exact Nat.mul_le_mul h1 h2
theorem mul_22 {a b : Int} (h1 : -4194304 ≤ a ∧ a ≤ 4194304) (h2 : -4194304 ≤ b ∧ b ≤ 4194304) : -17592186044416 ≤ a * b ∧ a * b ≤ 17592186044416 := by
  have := mul_abs (a := a) (b := b) (A := 4194304) (B := 4194304) (by omega) (by omega)
  omega

def withB (x a b : Int) : Bool := decide (min a b ≤ x) && decide (x ≤ max a b)
def farD (x : Int) : Bool := decide (x < -1048576) || decide (1048576 < x)
def fitD (x : Int) : Bool := decide (-1048576 ≤ x) && decide (x ≤ 1048576)
def fit2 (x : Int) : Bool := decide (-2097152 ≤ x) && decide (x ≤ 2097152)
theorem fitD_true {x : Int} : fitD x = true ↔ -1048576 ≤ x ∧ x ≤ 1048576 := by simp [fitD]
theorem fit2_true {x : Int} : fit2 x = true ↔ -2097152 ≤ x ∧ x ≤ 2097152 := by simp [fit2]
theorem withB_true {x a b : Int} : withB x a b = true ↔ min a b ≤ x ∧ x ≤ max a b := by simp [withB]

section
variable (x a b : Int) (w : World)
theorem within_any : Calls Try.prog 57 #[.int .i64 x, .int .i64 a, .int .i64 b] w fun e w' => e = .returned (.bool (withB x a b)) ∧ w = w' := by
  have e : withB x a b = (decide (min a b ≤ x) && decide (x ≤ max a b)) := rfl
  rcases Int.lt_or_le x (min a b) with h | h
  · rw [e, decide_eq_false (by omega)]
    go_enter Try.func57, Try.ntmps57
    go_wp2
    all_goals
      go_ret
      exact ⟨rfl, rfl⟩
  · rw [e, decide_eq_true h]
    go_enter Try.func57, Try.ntmps57
    go_wp2
    all_goals
      go_ret
      first | exact ⟨rfl, rfl⟩ | (refine ⟨ret_bool' ?_, rfl⟩; simp; done) | (refine ⟨ret_bool' ?_, rfl⟩; simp; omega)

theorem between_any : Calls Try.prog 83 #[.int .i64 x, .int .i64 a, .int .i64 b] w fun e w' => e = .returned (.bool (withB x a b)) ∧ w = w' := by
  have E := Lib.hid (withB_true (x := x) (a := a) (b := b))
  have E2 := Lib.hid (Bool.eq_false_or_eq_true (withB x a b))
  have key : (a ≤ x ∧ x ≤ b) ∨ (a ≤ x ∧ b < x ∧ x ≤ a) ∨ (a ≤ x ∧ b < x ∧ a < x) ∨ (x < a ∧ x < b) ∨ (x < a ∧ b ≤ x) := by omega
  rcases key with ⟨k1, k2⟩ | ⟨k1, k2, k3⟩ | ⟨k1, k2, k3⟩ | ⟨k1, k2⟩ | ⟨k1, k2⟩
  all_goals
    go_enter Try.func83, Try.ntmps83
    go_wp2
    go_ret
    refine ⟨ret_bool' ?_, rfl⟩
    rw [Bool.eq_iff_iff, E.out]
    first | (simp; done) | (simp; omega) | (simp only [Bool.false_eq_true, false_iff, true_iff]; omega) | omega

theorem efar_any : Calls Try.prog 32 #[.int .i64 x] w fun e w' => e = .returned (.bool (farD x)) ∧ w = w' := by
  have e : farD x = (decide (x < -1048576) || decide (1048576 < x)) := rfl
  rcases Int.lt_or_le x (-1048576) with h | h
  · rw [e, decide_eq_true h]
    go_enter Try.func32, Try.ntmps32
    go_wp2
    go_ret
    exact ⟨rfl, rfl⟩
  · rw [e, decide_eq_false (by omega)]
    go_enter Try.func32, Try.ntmps32
    go_wp2
    go_ret
    first | exact ⟨rfl, rfl⟩ | (refine ⟨ret_bool' ?_, rfl⟩; simp; done) | (refine ⟨ret_bool' ?_, rfl⟩; simp; omega)

theorem fits21_any : Calls Try.prog 59 #[.int .i64 x] w fun e w' => e = .returned (.bool (fitD x)) ∧ w = w' := by
  have e : fitD x = (decide (-1048576 ≤ x) && decide (x ≤ 1048576)) := rfl
  rcases Int.lt_or_le x (-1048576) with h | h
  · rw [e, decide_eq_false (by omega)]
    go_enter Try.func59, Try.ntmps59
    go_wp2
    go_ret
    exact ⟨rfl, rfl⟩
  · rw [e, decide_eq_true h]
    go_enter Try.func59, Try.ntmps59
    go_wp2
    go_ret
    first | exact ⟨rfl, rfl⟩ | (refine ⟨ret_bool' ?_, rfl⟩; simp; done) | (refine ⟨ret_bool' ?_, rfl⟩; simp; omega)

theorem flatWithin_any : Calls Try.prog 91 #[.int .i64 x] w fun e w' => e = .returned (.bool (fitD x)) ∧ w = w' := by
  have e : fitD x = (decide (-1048576 ≤ x) && decide (x ≤ 1048576)) := rfl
  rcases Int.lt_or_le x (-1048576) with h | h
  · rw [e, decide_eq_false (by omega)]
    go_enter Try.func91, Try.ntmps91
    go_wp2
    go_ret
    exact ⟨rfl, rfl⟩
  · rw [e, decide_eq_true h]
    go_enter Try.func91, Try.ntmps91
    go_wp2
    go_ret
    first | exact ⟨rfl, rfl⟩ | (refine ⟨ret_bool' ?_, rfl⟩; simp; done) | (refine ⟨ret_bool' ?_, rfl⟩; simp; omega)

theorem fits24_any : Calls Try.prog 64 #[.int .i64 x] w fun e w' => e = .returned (.bool (fit2 x)) ∧ w = w' := by
  have e : fit2 x = (decide (-2097152 ≤ x) && decide (x ≤ 2097152)) := rfl
  rcases Int.lt_or_le x (-2097152) with h | h
  · rw [e, decide_eq_false (by omega)]
    go_enter Try.func64, Try.ntmps64
    go_wp2
    go_ret
    exact ⟨rfl, rfl⟩
  · rw [e, decide_eq_true h]
    go_enter Try.func64, Try.ntmps64
    go_wp2
    go_ret
    first | exact ⟨rfl, rfl⟩ | (refine ⟨ret_bool' ?_, rfl⟩; simp; done) | (refine ⟨ret_bool' ?_, rfl⟩; simp; omega)
end

theorem mayDot_any (x y : Int) (w : World) : Calls Try.prog 81 #[.agg #[.int .i64 x, .int .i64 y]] w fun e w' => e = .returned (.bool (fitD x && fitD y)) ∧ Below w.heap.size w w' := by
  have K := Lib.hid flatWithin_any
  have HB0 := Lib.hid (bel_alloc (o := .cells #[.int .i64 x, .int .i64 y] 72) (bel_refl (a := w)))
  rcases Bool.eq_false_or_eq_true (fitD x) with h | h
  · have KX := Lib.hid (flatWithin_any x)
    rw [h] at KX
    go_enter Try.func81, Try.ntmps81
    go_wp2_with (first | (go_at_call 91; (with_reducible refine (KX.out _).mono ?_); rintro e w1 ⟨rfl, rfl⟩) | (go_at_call 91; (with_reducible refine (K.out y _).mono ?_); rintro e w1 ⟨rfl, rfl⟩))
    go_ret
    exact ⟨ret_bool' (by simp [h]), HB0.out.below⟩
  · have KX := Lib.hid (flatWithin_any x)
    rw [h] at KX
    go_enter Try.func81, Try.ntmps81
    go_wp2_with (first | (go_at_call 91; (with_reducible refine (KX.out _).mono ?_); rintro e w1 ⟨rfl, rfl⟩) | (go_at_call 91; (with_reducible refine (K.out y _).mono ?_); rintro e w1 ⟨rfl, rfl⟩))
    go_ret
    exact ⟨ret_bool' (by simp [h]), HB0.out.below⟩

def crossI (ax ay dx dy x y : Int) : Int := (dx - ax) * (y - ay) - (dy - ay) * (x - ax)
/-- Numbers that are not too great. -/
def Num6 (ax ay dx dy x y : Int) : Prop := (-2097152 ≤ ax ∧ ax ≤ 2097152) ∧ (-2097152 ≤ ay ∧ ay ≤ 2097152) ∧ (-2097152 ≤ dx ∧ dx ≤ 2097152) ∧ (-2097152 ≤ dy ∧ dy ≤ 2097152) ∧ (-2097152 ≤ x ∧ x ≤ 2097152) ∧ (-2097152 ≤ y ∧ y ≤ 2097152)

section
variable {ax ay dx dy x y : Int} (w : World)
theorem num6_mul (h : Num6 ax ay dx dy x y) : ∃ m n : Int, (dx - ax) * (y - ay) = m ∧ (dy - ay) * (x - ax) = n ∧ (x - ax) * (dy - ay) = n ∧ crossI ax ay dx dy x y = m - n ∧ -17592186044416 ≤ m ∧ m ≤ 17592186044416 ∧ -17592186044416 ≤ n ∧ n ≤ 17592186044416 := by
  obtain ⟨h1, h2, h3, h4, h5, h6⟩ := h
  have m1 := mul_22 (a := dx - ax) (b := y - ay) (by omega) (by omega)
  have m2 := mul_22 (a := dy - ay) (b := x - ax) (by omega) (by omega)
  exact ⟨_, _, rfl, rfl, Int.mul_comm _ _, rfl, m1.1, m1.2, m2.1, m2.2⟩

set_option maxRecDepth 20000 in
theorem cross_any (h : Num6 ax ay dx dy x y) : Calls Try.prog 84 #[.agg #[.int .i64 ax, .int .i64 ay], .agg #[.int .i64 dx, .int .i64 dy], .int .i64 x, .int .i64 y] w fun e w' => e = .returned (.int .i64 (crossI ax ay dx dy x y)) ∧ Below w.heap.size w w' := by
  obtain ⟨m, n, hm, hn, -, hc, b1, b2, b3, b4⟩ := num6_mul h
  obtain ⟨h1, h2, h3, h4, h5, h6⟩ := h
  have q1 : IntKind.i64.wrap ((dx - ax) * (y - ay)) = m := by rw [hm]; exact IntWalk.i64_in _ (by omega)
  have q2 : IntKind.i64.wrap ((dy - ay) * (x - ax)) = n := by rw [hn]; exact IntWalk.i64_in _ (by omega)
  rw [hc]
  clear hm hn hc
  go_enter Try.func84, Try.ntmps84
  go_wp2
  go_ret
  exact ⟨rfl, (bel_alloc (bel_alloc bel_refl)).below⟩
set_option maxRecDepth 20000 in
theorem rcross_any (h : Num6 ax ay dx dy x y) : Calls Try.prog 65 #[.agg #[.int .i64 ax, .int .i64 ay], .agg #[.int .i64 dx, .int .i64 dy], .int .i64 x, .int .i64 y] w fun e w' => e = .returned (.int .i64 (crossI ax ay dx dy x y)) ∧ Below w.heap.size w w' := by
  obtain ⟨m, n, hm, hn, -, hc, b1, b2, b3, b4⟩ := num6_mul h
  obtain ⟨h1, h2, h3, h4, h5, h6⟩ := h
  have q1 : IntKind.i64.wrap ((dx - ax) * (y - ay)) = m := by rw [hm]; exact IntWalk.i64_in _ (by omega)
  have q2 : IntKind.i64.wrap ((dy - ay) * (x - ax)) = n := by rw [hn]; exact IntWalk.i64_in _ (by omega)
  rw [hc]
  clear hm hn hc
  go_enter Try.func65, Try.ntmps65
  go_wp2
  go_ret
  exact ⟨rfl, (bel_alloc (bel_alloc bel_refl)).below⟩
set_option maxRecDepth 20000 in
theorem right_any (h : Num6 ax ay dx dy x y) : Calls Try.prog 61 #[.agg #[.int .i64 ax, .int .i64 ay], .agg #[.int .i64 dx, .int .i64 dy], .int .i64 x, .int .i64 y] w fun e w' => e = .returned (.bool (decide (0 < crossI ax ay dx dy x y))) ∧ Below w.heap.size w w' := by
  obtain ⟨m, n, hm, -, hn, hc, b1, b2, b3, b4⟩ := num6_mul h
  obtain ⟨h1, h2, h3, h4, h5, h6⟩ := h
  have q1 : IntKind.i64.wrap ((dx - ax) * (y - ay)) = m := by rw [hm]; exact IntWalk.i64_in _ (by omega)
  have q2 : IntKind.i64.wrap ((x - ax) * (dy - ay)) = n := by rw [hn]; exact IntWalk.i64_in _ (by omega)
  rw [hc]
  clear hm hn hc
  go_enter Try.func61, Try.ntmps61
  go_wp2
  go_ret
  refine ⟨ret_bool' ?_, (bel_alloc (bel_alloc bel_refl)).below⟩
  rw [Bool.eq_iff_iff]
  simp
/-- The other way round: the other side. -/
theorem cross_swap : crossI dx dy ax ay x y = - crossI ax ay dx dy x y := by
  unfold crossI
  have e1 : (ax - dx) * (y - dy) = -((dx - ax) * (y - ay)) + (dx - ax) * (dy - ay) := by
    rw [show ax - dx = -(dx - ax) by omega, show y - dy = (y - ay) - (dy - ay) by omega, Int.neg_mul, Int.mul_sub]; omega
  have e2 : (ay - dy) * (x - dx) = -((dy - ay) * (x - ax)) + (dx - ax) * (dy - ay) := by
    rw [show ay - dy = -(dy - ay) by omega, show x - dx = (x - ax) - (dx - ax) by omega, Int.neg_mul, Int.mul_sub, Int.mul_comm (dy - ay) (dx - ax)]; omega
  rw [e1, e2]
  omega
end
end Go.Proofs.Ytnmnehgcliiofaa
