/-
  Contracts of fixed.May, serifref01.May, serifref01.Floor, affine.May and their like: numbers and matrices that may be.
-/
import Derived.Test.YtbflncfhbmlibaaBase
namespace Go.Proofs.Ytbflncfhbmlibaa
open Go.RowKit

def fitsB (x : Int) : Bool := decide (-32768 ≤ x) && decide (x ≤ 32767)
def mayB (x : Int) : Bool := decide (-2147483648 ≤ x) && decide (x ≤ 2147483648)
theorem fitsB_true {x : Int} : fitsB x = true ↔ -32768 ≤ x ∧ x ≤ 32767 := by simp [fitsB]
theorem mayB_true {x : Int} : mayB x = true ↔ -2147483648 ≤ x ∧ x ≤ 2147483648 := by simp [mayB]
def mB (a b c d : Int) : Bool := fitsB a && fitsB b && fitsB c && fitsB d
def bB (a b c d : Int) : Bool := mayB a && mayB b && mayB c && mayB d
theorem mB_true {a b c d : Int} (h : mB a b c d = true) : (-32768 ≤ a ∧ a ≤ 32767) ∧ (-32768 ≤ b ∧ b ≤ 32767) ∧ (-32768 ≤ c ∧ c ≤ 32767) ∧ (-32768 ≤ d ∧ d ≤ 32767) := by
  simp only [mB, Bool.and_eq_true, fitsB_true] at h
  exact ⟨h.1.1.1, h.1.1.2, h.1.2, h.2⟩
theorem bB_true {a b c d : Int} (h : bB a b c d = true) : (-2147483648 ≤ a ∧ a ≤ 2147483648) ∧ (-2147483648 ≤ b ∧ b ≤ 2147483648) ∧ (-2147483648 ≤ c ∧ c ≤ 2147483648) ∧ (-2147483648 ≤ d ∧ d ≤ 2147483648) := by
  simp only [bB, Bool.and_eq_true, mayB_true] at h
  exact ⟨h.1.1.1, h.1.1.2, h.1.2, h.2⟩

theorem four (p q r s : Bool) : (p = false ∨ (p = true ∧ q = false) ∨ (p = true ∧ q = true ∧ r = false) ∨ (p = true ∧ q = true ∧ r = true ∧ s = false) ∨ (p = true ∧ q = true ∧ r = true ∧ s = true)) := by
  cases p <;> cases q <;> cases r <;> cases s <;> simp

set_option maxHeartbeats 400000 in
theorem fmay_any (x : Int) (w : World) :
    Calls Try.prog 77 #[.int .i64 x] w fun e w' => e = .returned (.bool (mayB x)) ∧ w = w' := by
  go_enter Try.func77, Try.ntmps77
  go_wp2
  all_goals go_ret
  all_goals exact ⟨ret_bool (by rw [Bool.eq_iff_iff, mayB_true]; simp; omega), rfl⟩

set_option maxHeartbeats 400000 in
theorem rmay_any (x : Int) (w : World) :
    Calls Try.prog 43 #[.int .i64 x] w fun e w' => e = .returned (.bool (mayB x)) ∧ w = w' := by
  go_enter Try.func43, Try.ntmps43
  go_wp2
  all_goals go_ret
  all_goals exact ⟨ret_bool (by rw [Bool.eq_iff_iff, mayB_true]; simp; omega), rfl⟩

set_option maxHeartbeats 1000000 in
theorem each_may (a b c d : Int) (w : World) :
    Calls Try.prog 88 #[.func (.func 77) #[] #[], .int .i64 a, .int .i64 b, .int .i64 c, .int .i64 d] w fun e w' =>
      e = .returned (.bool (mayB a && mayB b && mayB c && mayB d)) ∧ w = w' := by
  rcases four (mayB a) (mayB b) (mayB c) (mayB d) with h1 | ⟨h1, h2⟩ | ⟨h1, h2, h3⟩ | ⟨h1, h2, h3, h4⟩ | ⟨h1, h2, h3, h4⟩
  all_goals
    go_enter Try.func88, Try.ntmps88
    go_wp2_with (go_at_call 77; refine (fmay_any _ _).mono ?_; rintro e w' ⟨rfl, rfl⟩)
    go_ret
    exact ⟨by simp [*], rfl⟩

set_option maxHeartbeats 400000 in
theorem MayBox_any (a b c d : Int) (w : World) :
    Calls Try.prog 66 #[.agg #[.int .i64 a, .int .i64 b, .int .i64 c, .int .i64 d]] w fun e w' =>
      e = .returned (.bool (bB a b c d)) ∧ Below w.heap.size w w' := by
  go_enter Try.func66, Try.ntmps66
  go_wp2_with (go_at_call 88; refine (each_may _ _ _ _ _).mono ?_; rintro e w' ⟨rfl, rfl⟩)
  go_ret
  exact ⟨rfl, (Below.refl _ _).alloc (Nat.le_refl _) _⟩

set_option maxHeartbeats 1000000 in
theorem rMayBox_any (a b c d : Int) (w : World) :
    Calls Try.prog 17 #[.agg #[.int .i64 a, .int .i64 b, .int .i64 c, .int .i64 d]] w fun e w' =>
      e = .returned (.bool (bB a b c d)) ∧ Below w.heap.size w w' := by
  unfold bB
  rcases four (mayB a) (mayB b) (mayB c) (mayB d) with h1 | ⟨h1, h2⟩ | ⟨h1, h2, h3⟩ | ⟨h1, h2, h3, h4⟩ | ⟨h1, h2, h3, h4⟩
  all_goals
    go_enter Try.func17, Try.ntmps17
    go_wp2_with (go_at_call 43; refine (rmay_any _ _).mono ?_; rintro e w' ⟨rfl, rfl⟩)
    go_ret
    exact ⟨by simp [*], (Below.refl _ _).alloc (Nat.le_refl _) _⟩

theorem mul_bd {x a : Int} (h1 : -2147483648 ≤ x) (h2 : x ≤ 2147483648) (h3 : -32768 ≤ a) (h4 : a ≤ 32767) : -70368744177664 ≤ x * a ∧ x * a ≤ 70368744177664 := by
  rcases Int.le_total 0 x with hx | hx <;> rcases Int.le_total 0 a with ha | ha
  · have p1 := Int.mul_nonneg hx ha
    have p2 := Int.mul_le_mul h2 h4 ha (by omega)
    omega
  · have p1 := Int.mul_nonneg hx (Int.neg_nonneg_of_nonpos ha)
    have p2 := Int.mul_le_mul h2 (show -a ≤ 32768 by omega) (by omega) (by omega)
    rw [Int.mul_neg] at p1 p2
    omega
  · have p1 := Int.mul_nonneg (Int.neg_nonneg_of_nonpos hx) ha
    have p2 := Int.mul_le_mul (show -x ≤ 2147483648 by omega) h4 ha (by omega)
    rw [Int.neg_mul] at p1 p2
    omega
  · have p1 := Int.mul_nonneg (Int.neg_nonneg_of_nonpos hx) (Int.neg_nonneg_of_nonpos ha)
    have p2 := Int.mul_le_mul (show -x ≤ 2147483648 by omega) (show -a ≤ 32768 by omega) (by omega) (by omega)
    rw [Int.neg_mul_neg] at p1 p2
    omega

def dotI (x a y b : Int) : Int := (x * a + y * b + 8192) / 16384

set_option maxHeartbeats 400000 in
theorem Floor_any (a b : Int) (w : World) (h1 : -4611686018427387904 ≤ a) (h2 : a ≤ 4611686018427387904) (hb : 1 ≤ b) :
    Calls Try.prog 44 #[.int .i64 a, .int .i64 b] w fun e w' => e = .returned (.int .i64 (a / b)) ∧ w = w' := by
  have hb1 := (tdiv_bd a b).1
  have hb2 := (tdiv_bd a b).2
  have hb3 : -4611686018427387904 ≤ a.tdiv b := by omega
  have hb4 : a.tdiv b ≤ 4611686018427387904 := by omega
  have HF := Lib.hid (floor_eq a b hb)
  clear hb1 hb2
  go_enter Try.func44, Try.ntmps44
  go_wp2
  all_goals
    go_ret
    refine ⟨ret_int ?_, rfl⟩
    rw [HF.out]
  · rw [if_neg (by simp [*])]
  · rename_i h5
    rw [if_pos (by simpa using h5)]
  · rename_i h5
    rw [if_neg (fun hh => by
      rcases h5 with h5 | h5
      · exact hh.1 (by simpa using h5)
      · omega)]

end Go.Proofs.Ytbflncfhbmlibaa
