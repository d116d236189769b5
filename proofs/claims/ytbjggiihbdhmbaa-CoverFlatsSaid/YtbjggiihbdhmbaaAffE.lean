/-
  Contracts of affine.Join, Meet, Holds, Area and of the references' own.
-/
import Derived.Test.YtbjggiihbdhmbaaAffD
namespace Go.Proofs.Ytbjggiihbdhmbaa
open Go.RowKit

def joinF (A B : Bx) : Bx :=
  if emptyB A.x0 A.y0 A.x1 A.y1 = true then plainF B.x0 B.y0 B.x1 B.y1 else if emptyB B.x0 B.y0 B.x1 B.y1 = true then A else ⟨min A.x0 B.x0, min A.y0 B.y0, max A.x1 B.x1, max A.y1 B.y1⟩
def meetF (A B : Bx) : Bx := plainF (max A.x0 B.x0) (max A.y0 B.y0) (min A.x1 B.x1) (min A.y1 B.y1)
def JoinE (A B : Bx) : Bx × Int := if (bB A.x0 A.y0 A.x1 A.y1 && bB B.x0 B.y0 B.x1 B.y1) = false then (⟨0, 0, 0, 0⟩, 10) else (joinF A B, 0)
def MeetE (A B : Bx) : Bx × Int := if (bB A.x0 A.y0 A.x1 A.y1 && bB B.x0 B.y0 B.x1 B.y1) = false then (⟨0, 0, 0, 0⟩, 10) else (meetF A B, 0)

def holdsB (a b c d x y : Int) : Bool := bB a b c d && decide (a ≤ x) && decide (x < c) && decide (b ≤ y) && decide (y < d)

def areaE (a b c d : Int) : Int × Int :=
  if bB a b c d = false then (0, 10) else if emptyB a b c d = true then (0, 0) else if 1099511627776 / (c - a) < d - b then (0, 10) else ((c - a) * (d - b), 0)

theorem mul_div_bd {w h k : Int} (hw : 0 < w) (hh : 0 ≤ h) (h2 : h ≤ k / w) : 0 ≤ w * h ∧ w * h ≤ k := by
  refine ⟨Int.mul_nonneg (by omega) hh, ?_⟩
  have h3 := Int.mul_le_mul_of_nonneg_left h2 (show 0 ≤ w by omega)
  exact Int.le_trans h3 (Int.mul_ediv_self_le (by omega))

end Go.Proofs.Ytbjggiihbdhmbaa
