/-
  Layer 24: what a line does to a winding number at a place; whether the place is on it.
-/
import Derived.Test.YtnmnehgcliiofaaExA
namespace Go.Proofs.Ytnmnehgcliiofaa
open Go.RowKit

theorem ret_pair {a b : Int} {p q : Bool} (h : a = b) (h' : p = q) : Ending.returned (.tuple #[.int .i64 a, .bool p]) = Ending.returned (.tuple #[.int .i64 b, .bool q]) := by rw [h, h']
/-- Two dots that were laid as arguments, behind a call. -/
theorem dots_call {w w1 : World} {ax ay dx dy : Int} (hb : Below ((w.alloc (.cells #[.int .i64 ax, .int .i64 ay] 72)).alloc (.cells #[.int .i64 dx, .int .i64 dy] 72)).heap.size ((w.alloc (.cells #[.int .i64 ax, .int .i64 ay] 72)).alloc (.cells #[.int .i64 dx, .int .i64 dy] 72)) w1) :
    (w1.cell? ⟨w.heap.size, 0, none⟩ = some (.int .i64 ax) ∧ w1.cell? ⟨w.heap.size, 1, none⟩ = some (.int .i64 ay)) ∧ (w1.cell? ⟨w.heap.size + 1, 0, none⟩ = some (.int .i64 dx) ∧ w1.cell? ⟨w.heap.size + 1, 1, none⟩ = some (.int .i64 dy)) ∧ Bel w.heap.size w w1 := by
  have h1 := ((Blk.new w 72 [.int .i64 ax, .int .i64 ay]).alloc (.cells #[.int .i64 dx, .int .i64 dy] 72)).keepB hb
  have h2 := (Blk.newAt (n := w.heap.size + 1) (w.alloc (.cells #[.int .i64 ax, .int .i64 ay] 72)) 72 [.int .i64 dx, .int .i64 dy] (by simp)).keepB hb
  exact ⟨⟨h1.cell 0, h1.cell 1⟩, ⟨h2.cell 0, h2.cell 1⟩, bel_call hb (bel_alloc (bel_alloc bel_refl))⟩

def onB (ax ay dx dy x y : Int) : Bool := decide (crossI ax ay dx dy x y = 0) && withB x ax dx && withB y ay dy
def stepN (ax ay dx dy x y : Int) : Int := if ay ≤ y ∧ y < dy ∧ 0 < crossI ax ay dx dy x y then 1 else if dy ≤ y ∧ y < ay ∧ crossI ax ay dx dy x y < 0 then -1 else 0
theorem stepN_range (ax ay dx dy x y : Int) : -1 ≤ stepN ax ay dx dy x y ∧ stepN ax ay dx dy x y ≤ 1 := by unfold stepN; repeat split; all_goals omega

section
variable {ax ay dx dy x y : Int} (w : World)
set_option maxRecDepth 20000 in
set_option maxHeartbeats 2000000 in
theorem step_any (h : Num6 ax ay dx dy x y) : Calls Try.prog 82 #[.agg #[.int .i64 ax, .int .i64 ay], .agg #[.int .i64 dx, .int .i64 dy], .int .i64 x, .int .i64 y] w fun e w' => e = .returned (.tuple #[.int .i64 (stepN ax ay dx dy x y), .bool (!onB ax ay dx dy x y)]) ∧ Below w.heap.size w w' := by
  have KC := fun w => cross_any w h
  have KX := fun w => within_any x ax dx w
  have KY := fun w => within_any y ay dy w
  have hon : onB ax ay dx dy x y = (decide (crossI ax ay dx dy x y = 0) && withB x ax dx && withB y ay dy) := rfl
  have hst : stepN ax ay dx dy x y = if ay ≤ y ∧ y < dy ∧ 0 < crossI ax ay dx dy x y then 1 else if dy ≤ y ∧ y < ay ∧ crossI ax ay dx dy x y < 0 then -1 else 0 := rfl
  generalize crossI ax ay dx dy x y = s at *
  generalize withB x ax dx = p at *
  generalize withB y ay dy = q at *
  have HON := Lib.hid hon
  have HST := Lib.hid hst
  clear hon hst h
  have key : (0 < s ∨ s < 0 ∨ (s = 0 ∧ p = false) ∨ (s = 0 ∧ p = true ∧ q = false)) ∨ (s = 0 ∧ p = true ∧ q = true) := by
    rcases Int.lt_trichotomy s 0 with h | h | h
    · exact .inl (.inr (.inl h))
    · cases p <;> cases q <;> simp [h]
    · exact .inl (.inl h)
  have keyy : (ay ≤ y ∧ y < dy) ∨ (y < ay ∧ dy ≤ y) ∨ (ay ≤ y ∧ dy ≤ y) ∨ (y < ay ∧ y < dy) := by omega
  rcases key with key | ⟨h1, h2, h3⟩
  · rcases keyy with ⟨hy1, hy2⟩ | ⟨hy1, hy2⟩ | ⟨hy1, hy2⟩ | ⟨hy1, hy2⟩
    all_goals
      rcases key with h1 | h1 | ⟨rfl, rfl⟩ | ⟨rfl, rfl, rfl⟩
      all_goals
        replace KC := Lib.hid KC
        replace KX := Lib.hid KX
        replace KY := Lib.hid KY
        go_enter Try.func82, Try.ntmps82
        go_wp2_with (first
          | (go_at_call 84; (with_reducible refine (KC.out _).mono ?_); rintro e w1 ⟨rfl, hb1⟩; obtain ⟨⟨a0, a1⟩, ⟨d0, d1⟩, hb⟩ := dots_call hb1; have HB := Lib.hid hb; clear hb1 hb)
          | (go_at_call 57; (with_reducible refine (KX.out _).mono ?_); rintro e w1 ⟨rfl, rfl⟩) | (go_at_call 57; (with_reducible refine (KY.out _).mono ?_); rintro e w1 ⟨rfl, rfl⟩))
        go_ret2
        refine ⟨ret_pair ?_ ?_, HB.out.below⟩
        · rw [HST.out]; repeat' split
          all_goals omega
        · rw [HON.out]; first | rfl | (simp; done) | (simp; omega) | (rw [decide_eq_false]; (· simp); (· omega))
  · rw [h2] at KX
    rw [h3] at KY
    subst h1 h2 h3
    replace KC := Lib.hid KC
    replace KX := Lib.hid KX
    replace KY := Lib.hid KY
    clear keyy
    go_enter Try.func82, Try.ntmps82
    go_wp2_with (first
      | (go_at_call 84; (with_reducible refine (KC.out _).mono ?_); rintro e w1 ⟨rfl, hb1⟩; obtain ⟨⟨a0, a1⟩, ⟨d0, d1⟩, hb⟩ := dots_call hb1; have HB := Lib.hid hb; clear hb1 hb)
      | (go_at_call 57; (with_reducible refine (KX.out _).mono ?_); rintro e w1 ⟨rfl, rfl⟩) | (go_at_call 57; (with_reducible refine (KY.out _).mono ?_); rintro e w1 ⟨rfl, rfl⟩))
    go_ret2
    refine ⟨ret_pair ?_ ?_, HB.out.below⟩
    · rw [HST.out, if_neg (by omega), if_neg (by omega)]
    · rw [HON.out]; rfl

set_option maxRecDepth 20000 in
set_option maxHeartbeats 2000000 in
theorem On_any (h : Num6 ax ay dx dy x y) : Calls Try.prog 60 #[.agg #[.int .i64 ax, .int .i64 ay], .agg #[.int .i64 dx, .int .i64 dy], .int .i64 x, .int .i64 y] w fun e w' => e = .returned (.bool (onB ax ay dx dy x y)) ∧ Below w.heap.size w w' := by
  have KC := fun w => rcross_any w h
  have KX := fun w => between_any x ax dx w
  have KY := fun w => between_any y ay dy w
  have hon : onB ax ay dx dy x y = (decide (crossI ax ay dx dy x y = 0) && withB x ax dx && withB y ay dy) := rfl
  generalize crossI ax ay dx dy x y = s at *
  generalize withB x ax dx = p at *
  generalize withB y ay dy = q at *
  have HON := Lib.hid hon
  clear hon h
  by_cases h1 : s = 0
  · subst h1
    cases p
    all_goals
      replace KC := Lib.hid KC
      replace KX := Lib.hid KX
      replace KY := Lib.hid KY
      go_enter Try.func60, Try.ntmps60
      go_wp2_with (first
        | (go_at_call 65; (with_reducible refine (KC.out _).mono ?_); rintro e w1 ⟨rfl, hb1⟩; obtain ⟨⟨a0, a1⟩, ⟨d0, d1⟩, hb⟩ := dots_call hb1; have HB := Lib.hid hb; clear hb1 hb)
        | (go_at_call 83; (with_reducible refine (KX.out _).mono ?_); rintro e w1 ⟨rfl, rfl⟩) | (go_at_call 83; (with_reducible refine (KY.out _).mono ?_); rintro e w1 ⟨rfl, rfl⟩))
      go_ret
      exact ⟨ret_bool' (by rw [HON.out]; simp), HB.out.below⟩
  · replace KC := Lib.hid KC
    have h2 : (s == 0) = false := by simpa using h1
    go_enter Try.func60, Try.ntmps60
    go_wp2_with (first
      | (go_at_call 65; (with_reducible refine (KC.out _).mono ?_); rintro e w1 ⟨rfl, hb1⟩; obtain ⟨⟨a0, a1⟩, ⟨d0, d1⟩, hb⟩ := dots_call hb1; have HB := Lib.hid hb; clear hb1 hb))
    go_ret
    exact ⟨ret_bool' (by rw [HON.out, decide_eq_false h1]; rfl), HB.out.below⟩
end
end Go.Proofs.Ytnmnehgcliiofaa
