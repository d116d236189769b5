/-
  '==' and '!=' on boxes and matrices: one Bool.
-/
import Derived.Test.YtbflncfhbmlibaaBase
namespace Go.Proofs.Ytbflncfhbmlibaa
open Go.RowKit

def eq4 (a b c d a' b' c' d' : Int) : Bool := decide (a = a' ∧ b = b' ∧ c = c' ∧ d = d')
@[go_sem] theorem eq4_self (a b c d : Int) : eq4 a b c d a b c d = true := by simp [eq4]
theorem eq4_true {a b c d a' b' c' d' : Int} : eq4 a b c d a' b' c' d' = true ↔ a = a' ∧ b = b' ∧ c = c' ∧ d = d' := by simp [eq4]

set_option maxHeartbeats 1000000 in
theorem eqIn_box (w : World) (k : Nat) (a b c d a' b' c' d' : Int) : (Op.equalIn (k + 2) 26 (.agg #[.int .i64 a, .int .i64 b, .int .i64 c, .int .i64 d]) (.agg #[.int .i64 a', .int .i64 b', .int .i64 c', .int .i64 d'])).run Try.prog w = .ok (eq4 a b c d a' b' c' d') w := by
  unfold eq4
  by_cases h1 : a = a'
  · by_cases h2 : b = b'
    · by_cases h3 : c = c'
      · by_cases h4 : d = d' <;> simp [go_sem, h1, h2, h3, h4]
      · simp [go_sem, h1, h2, h3]
    · simp [go_sem, h1, h2]
  · simp [go_sem, h1]
@[go_sem ↓] theorem eql_box (w : World) (a b c d a' b' c' d' : Int) : (binOp .eql 26 (.agg #[.int .i64 a, .int .i64 b, .int .i64 c, .int .i64 d]) (.agg #[.int .i64 a', .int .i64 b', .int .i64 c', .int .i64 d'])).run Try.prog w = .ok (.bool (eq4 a b c d a' b' c' d')) w := by
  simp only [binOp]
  simp [Op.equal, Op.maxDepth, eqIn_box w 9998]
@[go_sem ↓] theorem neq_box (w : World) (a b c d a' b' c' d' : Int) : (binOp .neq 26 (.agg #[.int .i64 a, .int .i64 b, .int .i64 c, .int .i64 d]) (.agg #[.int .i64 a', .int .i64 b', .int .i64 c', .int .i64 d'])).run Try.prog w = .ok (.bool (!eq4 a b c d a' b' c' d')) w := by
  simp only [binOp]
  simp [Op.equal, Op.maxDepth, eqIn_box w 9998]

end Go.Proofs.Ytbflncfhbmlibaa
