/-
  Layer 24: the document's Touches: joined.
-/
import Derived.Test.YtnmnehgcliiofaaExEa
import Derived.Test.YtnmnehgcliiofaaExEb
import Derived.Test.YtnmnehgcliiofaaExEc
import Derived.Test.YtnmnehgcliiofaaExEe
namespace Go.Proofs.Ytnmnehgcliiofaa
open Go.RowKit

theorem rTouches_any {ax ay dx dy b0 b1 b2 b3 : Int} (w : World) : Calls Try.prog 35 #[.agg #[.int .i64 ax, .int .i64 ay], .agg #[.int .i64 dx, .int .i64 dy], .agg #[.int .i64 b0, .int .i64 b1, .int .i64 b2, .int .i64 b3]] w fun e w' =>
      e = .returned (.bool (TouchB ax ay dx dy b0 b1 b2 b3)) ∧ Below w.heap.size w w' := by
  rcases Bool.eq_false_or_eq_true (nearB ax ay dx dy b0 b1 b2 b3 && decide (b0 ≤ b2) && decide (b1 ≤ b3)) with h | h
  · have h2 : b0 ≤ b2 := by
      simp only [Bool.and_eq_true, decide_eq_true_eq] at h
      exact h.1.2
    rcases Int.lt_or_le ax b0 with h1 | h1
    · rcases Int.lt_or_le dx b0 with h3 | h3
      · exact rTouches_e w h h1 h3
      · exact rTouches_c w h h1 h3 (by omega)
    · rcases Int.lt_or_le b2 ax with h3 | h3
      · exact rTouches_b w h h1 h3
      · exact rTouches_a w h h1 h3
  · exact rTouches_far w h

end Go.Proofs.Ytnmnehgcliiofaa
