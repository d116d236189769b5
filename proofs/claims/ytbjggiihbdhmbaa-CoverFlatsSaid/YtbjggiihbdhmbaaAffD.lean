/-
  Contracts over boxes: affine.Empty, plain, pair, and the references' own.
-/
import Derived.Test.YtbjggiihbdhmbaaAffA
import Derived.Test.YtbjggiihbdhmbaaTail
namespace Go.Proofs.Ytbjggiihbdhmbaa
open Go.RowKit

structure Bx where
  x0 : Int
  y0 : Int
  x1 : Int
  y1 : Int
  deriving DecidableEq

def emptyB (a b c d : Int) : Bool := decide (c ≤ a) || decide (d ≤ b)
theorem emptyB_true {a b c d : Int} : emptyB a b c d = true ↔ c ≤ a ∨ d ≤ b := by simp [emptyB]
theorem emptyB_false {a b c d : Int} : emptyB a b c d = false ↔ a < c ∧ b < d := by simp [emptyB]
def plainF (a b c d : Int) : Bx := if emptyB a b c d = true then ⟨0, 0, 0, 0⟩ else ⟨a, b, c, d⟩

set_option maxHeartbeats 1000000 in
theorem Empty_any (a b c d : Int) (w : World) :
    Calls Try.prog 32 #[.agg #[.int .i64 a, .int .i64 b, .int .i64 c, .int .i64 d]] w fun e w' => e = .returned (.bool (emptyB a b c d)) ∧ Below w.heap.size w w' := by
  by_cases h1 : c ≤ a
  all_goals
    go_enter Try.func32, Try.ntmps32
    go_wp2
    go_ret
    refine ⟨ret_bool (by rw [Bool.eq_iff_iff, emptyB_true]; simp; try omega), Bel.below ?_⟩
    repeat (first | with_reducible exact bel_refl | with_reducible apply bel_alloc | with_reducible apply bel_drewN | with_reducible apply bel_drew | (with_reducible refine bel_set ?_ ?_; rotate_left; · first | (simp; done) | (simp; omega) | omega) | with_reducible refine bel_call (by assumption) ?_)

set_option maxHeartbeats 1000000 in
theorem rEmpty_any (a b c d : Int) (w : World) :
    Calls Try.prog 35 #[.agg #[.int .i64 a, .int .i64 b, .int .i64 c, .int .i64 d]] w fun e w' => e = .returned (.bool (emptyB a b c d)) ∧ Below w.heap.size w w' := by
  by_cases h1 : c ≤ a
  all_goals
    go_enter Try.func35, Try.ntmps35
    go_wp2
    go_ret
    refine ⟨ret_bool (by rw [Bool.eq_iff_iff, emptyB_true]; simp; try omega), Bel.below ?_⟩
    repeat (first | with_reducible exact bel_refl | with_reducible apply bel_alloc | with_reducible apply bel_drewN | with_reducible apply bel_drew | (with_reducible refine bel_set ?_ ?_; rotate_left; · first | (simp; done) | (simp; omega) | omega) | with_reducible refine bel_call (by assumption) ?_)

end Go.Proofs.Ytbjggiihbdhmbaa
