/-
  Numbers as bytes and back.
-/
import Derived.Test.YtejombofjakllaaRdU
import Derived.Test.YtejombofjakllaaWireF
namespace Go.Proofs.Ytejombofjakllaa
open Go.RowKit

theorem beB_1 (x : Int) : beB 1 x = [byteAt 1 0 x] := rfl
theorem beB_2 (x : Int) : beB 2 x = [byteAt 2 0 x, byteAt 2 1 x] := rfl
theorem beB_3 (x : Int) : beB 3 x = [byteAt 3 0 x, byteAt 3 1 x, byteAt 3 2 x] := rfl
theorem beB_4 (x : Int) : beB 4 x = [byteAt 4 0 x, byteAt 4 1 x, byteAt 4 2 x, byteAt 4 3 x] := rfl
theorem byteAt_nat (n i : Nat) (x : Int) : (byteAt n i x).toNat = (x / 2 ^ (8 * (n - 1 - i)) % 256).toNat := by
  unfold byteAt
  simp
  omega
theorem numB_be1 (x : Int) : (numB (beB 1 x) : Int) = x % 256 := by
  rw [beB_1]
  simp [numB, byteAt_nat]
  omega
theorem numB_be2 (x : Int) : (numB (beB 2 x) : Int) = x % 65536 := by
  rw [beB_2]
  simp [numB, byteAt_nat]
  omega
theorem numB_be3 (x : Int) : (numB (beB 3 x) : Int) = x % 16777216 := by
  rw [beB_3]
  simp [numB, byteAt_nat]
  omega
theorem numB_be4 (x : Int) : (numB (beB 4 x) : Int) = x % 4294967296 := by
  rw [beB_4]
  simp [numB, byteAt_nat]
  omega
theorem sgn16_be2 {x : Int} (h0 : -32768 ≤ x) (h1 : x ≤ 32767) : sgn16 (x % 65536) = x := by
  unfold sgn16
  split <;> omega

end Go.Proofs.Ytejombofjakllaa
