/-
  Layer 22: CoverRows.
-/
import Derived.Test.YtbjggiihbdhmbaaCoU
namespace Go.Proofs.Ytbjggiihbdhmbaa
open Go.RowKit Go.Shelf
theorem coverRows_any (p q : Dt) (stop : Int) (w : World) : Calls Try.prog 6 #[.agg #[.int .i64 p.1, .int .i64 p.2], .agg #[.int .i64 q.1, .int .i64 q.2], .int .i64 stop] w fun e w' => e = .returned (.bool true) ∧ Below w.heap.size w w' := by
  cases hp : dotB p with
  | false => exact coverRows_no p q stop w (by rw [hp, Bool.false_and])
  | true =>
    cases hq : dotB q with
    | false => exact coverRows_no p q stop w (by rw [hp, hq]; rfl)
    | true =>
      rcases Int.lt_or_le 25600 ((dnB p q).2 - (dnA p q).2) with h | h
      · exact coverRows_far p q stop w hp hq h
      · exact coverRows_near p q stop w hp hq h
end Go.Proofs.Ytbjggiihbdhmbaa
