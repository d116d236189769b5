/-
  Contracts of fixed.Floor26, Ceil26, affine.Pixels, Shift and of the references' own.
-/
import Derived.Test.YtbjggiihbdhmbaaAffE
import Derived.Test.YtbjggiihbdhmbaaEqB
namespace Go.Proofs.Ytbjggiihbdhmbaa
open Go.RowKit

set_option maxHeartbeats 400000 in
theorem Floor26_any (x : Int) (w : World) : Calls Try.prog 45 #[.int .i64 x] w fun e w' => e = .returned (.int .i64 (x / 64)) ∧ w = w' := by
  go_enter Try.func45, Try.ntmps45
  go_wp2
  go_ret
  exact ⟨rfl, rfl⟩

theorem and63 (x : Int) : bits .and .i64 x 63 = x % 64 := by
  show IntKind.i64.wrap ((BitVec.ofInt 64 x &&& BitVec.ofInt 64 63).toNat : Int) = _
  rw [BitVec.toNat_and]
  have h : (BitVec.ofInt 64 63).toNat = 2 ^ 6 - 1 := by decide
  rw [h, Nat.and_two_pow_sub_one_eq_mod, BitVec.toNat_ofInt, IntKind.wrap_i64]
  omega

set_option maxHeartbeats 400000 in
theorem Ceil26_any (x : Int) (w : World) (h1 : -4611686018427387904 ≤ x) (h2 : x ≤ 4611686018427387904) :
    Calls Try.prog 61 #[.int .i64 x] w fun e w' => e = .returned (.int .i64 (-(-x / 64))) ∧ w = w' := by
  have hm := and63 x
  by_cases h3 : x % 64 = 0
  · have hf : (x % 64 != 0) = false := by simp [h3]
    have hz := Lib.hid h3
    clear h3
    go_enter Try.func61, Try.ntmps61
    go_wp2
    go_ret
    exact ⟨ret_int (by have := hz.out; omega), rfl⟩
  · have hf : (x % 64 != 0) = true := by simp [h3]
    go_enter Try.func61, Try.ntmps61
    go_wp2
    go_ret
    exact ⟨ret_int (by omega), rfl⟩

def pixF (A : Bx) : Bx := if emptyB A.x0 A.y0 A.x1 A.y1 = true then ⟨0, 0, 0, 0⟩ else ⟨A.x0 / 64, A.y0 / 64, -(-A.x1 / 64), -(-A.y1 / 64)⟩
def PixE (A : Bx) : Bx × Int := if bB A.x0 A.y0 A.x1 A.y1 = false then (⟨0, 0, 0, 0⟩, 10) else (pixF A, 0)

/-- A box, shifted, if that may be. -/
def shiftF (A : Bx) (x y : Int) : Bx × Int :=
  if emptyB A.x0 A.y0 A.x1 A.y1 = true then (⟨0, 0, 0, 0⟩, 0) else
  if bB (A.x0 + x) (A.y0 + y) (A.x1 + x) (A.y1 + y) = false then (⟨0, 0, 0, 0⟩, 10) else (⟨A.x0 + x, A.y0 + y, A.x1 + x, A.y1 + y⟩, 0)
def ShiftE (A : Bx) (x y : Int) : Bx × Int := if (bB A.x0 A.y0 A.x1 A.y1 && mayB x && mayB y) = false then (⟨0, 0, 0, 0⟩, 10) else shiftF A x y

end Go.Proofs.Ytbjggiihbdhmbaa
