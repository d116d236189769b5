/-
  Layer 22: a line that goes down; whether a dot may be; whether it lies within.
-/
import Derived.Test.YtbflncfhbmlibaaCoB
import Derived.Test.YtbflncfhbmlibaaBlk
import Derived.Test.YtbflncfhbmlibaaEqB

namespace Go.Proofs.Ytbflncfhbmlibaa

open Go.RowKit

theorem ret_b {a b : Bool} (h : a = b) : Ending.returned (.bool a) = Ending.returned (.bool b) := by rw [h]

theorem ret_i {a b : Int} (h : a = b) : Ending.returned (.int .i64 a) = Ending.returned (.int .i64 b) := by rw [h]

def withinB (x a b : Int) : Bool := decide (a ≤ x) && decide (x ≤ b)

theorem withinB_true {x a b : Int} : withinB x a b = true ↔ a ≤ x ∧ x ≤ b := by simp [withinB]

def dotB (d : Dt) : Bool := withinB d.1 (-1048576) 1048576 && withinB d.2 (-1048576) 1048576

/-- A box, its four numbers. -/
structure B4 where
  x0 : Int
  y0 : Int
  x1 : Int
  y1 : Int

def inB (b : B4) (d : Dt) : Bool := withinB d.1 (64 * b.x0) (64 * b.x1) && withinB d.2 (64 * b.y0) (64 * b.y1)

def dnA (a d : Dt) : Dt := if d.2 < a.2 then d else a

def dnB (a d : Dt) : Dt := if d.2 < a.2 then a else d

def dnS (a d : Dt) : Int := if d.2 < a.2 then -1 else 1

theorem dn_le (a d : Dt) : (dnA a d).2 ≤ (dnB a d).2 := by unfold dnA dnB; split <;> omega

section

variable {w : World}

theorem cwithin_any (x a b : Int) (w : World) : Calls Try.prog 79 #[.int .i64 x, .int .i64 a, .int .i64 b] w fun e w' => e = .returned (.bool (withinB x a b)) ∧ w = w' := by
  have e : withinB x a b = (decide (a ≤ x) && decide (x ≤ b)) := rfl
  rcases Int.lt_or_le x a with h | h
  · rw [e, decide_eq_false (by omega)]
    go_enter Try.func79, Try.ntmps79
    go_wp2
    go_ret
    exact ⟨rfl, rfl⟩
  · rw [e, decide_eq_true h]
    go_enter Try.func79, Try.ntmps79
    go_wp2
    go_ret
    exact ⟨rfl, rfl⟩

theorem mayDot_any (a : Dt) (w : World) : Calls Try.prog 101 #[.agg #[.int .i64 a.1, .int .i64 a.2]] w fun e w' => e = .returned (.bool (dotB a)) ∧ Below w.heap.size w w' := by
  obtain ⟨x, y⟩ := a
  have e : dotB (x, y) = (withinB x (-1048576) 1048576 && withinB y (-1048576) 1048576) := rfl
  rw [e]
  have hx := fun w => cwithin_any x (-1048576) 1048576 w
  have hy := fun w => cwithin_any y (-1048576) 1048576 w
  cases h1 : withinB x (-1048576) 1048576 <;> cases h2 : withinB y (-1048576) 1048576 <;> rw [h1] at hx <;> rw [h2] at hy
  all_goals
    have HX := Lib.hid hx
    have HY := Lib.hid hy
    clear hx hy h1 h2 e
    go_enter Try.func101, Try.ntmps101
    go_wp2_with (first | (go_at_call 79; (with_reducible refine (HX.out _).mono ?_); rintro e w1 ⟨rfl, rfl⟩) | (go_at_call 79; (with_reducible refine (HY.out _).mono ?_); rintro e w1 ⟨rfl, rfl⟩))
    go_ret
    refine ⟨rfl, Bel.below ?_⟩
    repeat (first | with_reducible exact bel_refl | with_reducible apply bel_alloc | with_reducible apply bel_drewN | with_reducible apply bel_drew | (with_reducible refine bel_set ?_ ?_; rotate_left; · first | (simp; done) | (simp; omega) | omega) | with_reducible refine bel_call (by assumption) ?_)

theorem size_any (x : Int) (w : World) (h1 : -4611686018427387904 ≤ x) (h2 : x ≤ 4611686018427387904) : Calls Try.prog 96 #[.int .i64 x] w fun e w' => e = .returned (.int .i64 (sizeI x)) ∧ w = w' := by
  unfold sizeI
  split
  · go_enter Try.func96, Try.ntmps96
    go_wp2
    go_ret
    exact ⟨rfl, rfl⟩
  · go_enter Try.func96, Try.ntmps96
    go_wp2
    go_ret
    exact ⟨rfl, rfl⟩

theorem down_any (a d : Dt) (w : World) : Calls Try.prog 91 #[.agg #[.int .i64 a.1, .int .i64 a.2], .agg #[.int .i64 d.1, .int .i64 d.2]] w fun e w' =>
    e = .returned (.tuple #[.agg #[.int .i64 (dnA a d).1, .int .i64 (dnA a d).2], .agg #[.int .i64 (dnB a d).1, .int .i64 (dnB a d).2], .int .i64 (dnS a d)]) ∧ Below w.heap.size w w' := by
  obtain ⟨a1, a2⟩ := a
  obtain ⟨d1, d2⟩ := d
  by_cases h : d2 < a2
  · rw [show dnA (a1, a2) (d1, d2) = (d1, d2) from if_pos h, show dnB (a1, a2) (d1, d2) = (a1, a2) from if_pos h, show dnS (a1, a2) (d1, d2) = -1 from if_pos h]
    dsimp only
    go_enter Try.func91, Try.ntmps91
    go_wp2
    go_region
    all_goals
      go_wp2
      refine bodyPost_ret (v := .tuple #[.agg #[.int .i64 d1, .int .i64 d2], .agg #[.int .i64 a1, .int .i64 a2], .int .i64 (-1)]) (by simp [results, Try.results91, go_sem]) rfl ⟨rfl, Bel.below ?_⟩
      repeat (first | with_reducible exact bel_refl | with_reducible apply bel_alloc | with_reducible apply bel_drewN | with_reducible apply bel_drew | (with_reducible refine bel_set ?_ ?_; rotate_left; · first | (simp; done) | (simp; omega) | omega) | with_reducible refine bel_call (by assumption) ?_)
  · rw [show dnA (a1, a2) (d1, d2) = (a1, a2) from if_neg h, show dnB (a1, a2) (d1, d2) = (d1, d2) from if_neg h, show dnS (a1, a2) (d1, d2) = 1 from if_neg h]
    dsimp only
    go_enter Try.func91, Try.ntmps91
    go_wp2
    go_region
    all_goals
      go_wp2
      refine bodyPost_ret (v := .tuple #[.agg #[.int .i64 a1, .int .i64 a2], .agg #[.int .i64 d1, .int .i64 d2], .int .i64 1]) (by simp [results, Try.results91, go_sem]) rfl ⟨rfl, Bel.below ?_⟩
      repeat (first | with_reducible exact bel_refl | with_reducible apply bel_alloc | with_reducible apply bel_drewN | with_reducible apply bel_drew | (with_reducible refine bel_set ?_ ?_; rotate_left; · first | (simp; done) | (simp; omega) | omega) | with_reducible refine bel_call (by assumption) ?_)

end

end Go.Proofs.Ytbflncfhbmlibaa
