/-
  '==' and '!=' on dots: one Bool.
-/
import Derived.Test.YtbjggiihbdhmbaaBase
namespace Go.Proofs.Ytbjggiihbdhmbaa
open Go.RowKit

def dotEq (a b a' b' : Int) : Bool := decide (a = a' ∧ b = b')
@[go_sem] theorem dotEq_self (a b : Int) : dotEq a b a b = true := by simp [dotEq]
theorem dotEq_true {a b a' b' : Int} : dotEq a b a' b' = true ↔ a = a' ∧ b = b' := by simp [dotEq]
theorem eqIn_dot2 (w : World) (k : Nat) (a b a' b' : Int) : (Op.equalIn (k + 2) 36 (.agg #[.int .i64 a, .int .i64 b]) (.agg #[.int .i64 a', .int .i64 b'])).run Try.prog w = .ok (dotEq a b a' b') w := by
  unfold dotEq
  by_cases h1 : a = a'
  · by_cases h2 : b = b' <;> simp [go_sem, h1, h2]
  · simp [go_sem, h1]
@[go_sem ↓] theorem eql_dot2 (w : World) (a b a' b' : Int) : (binOp .eql 36 (.agg #[.int .i64 a, .int .i64 b]) (.agg #[.int .i64 a', .int .i64 b'])).run Try.prog w = .ok (.bool (dotEq a b a' b')) w := by
  simp only [binOp]
  simp [Op.equal, Op.maxDepth, eqIn_dot2 w 9998]
@[go_sem ↓] theorem neq_dot2 (w : World) (a b a' b' : Int) : (binOp .neq 36 (.agg #[.int .i64 a, .int .i64 b]) (.agg #[.int .i64 a', .int .i64 b'])).run Try.prog w = .ok (.bool (!dotEq a b a' b')) w := by
  simp only [binOp]
  simp [Op.equal, Op.maxDepth, eqIn_dot2 w 9998]
end Go.Proofs.Ytbjggiihbdhmbaa
