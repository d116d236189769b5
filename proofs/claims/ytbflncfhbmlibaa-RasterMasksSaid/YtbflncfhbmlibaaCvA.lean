/-
  Layer 26: numbers, bytes, sides; a row of bytes that is written.
-/
import Derived.Test.YtbflncfhbmlibaaBs
import Derived.Test.YtbflncfhbmlibaaAffF

namespace Go.Proofs.Ytbflncfhbmlibaa

open Go.RowKit

def byteB (x : Int) : Bool := decide (0 ≤ x) && decide (x ≤ 255)

def sideB (x : Int) : Bool := decide (1 ≤ x) && decide (x ≤ 4096)

def farB (x : Int) : Bool := decide (x < -1048576) || decide (1048576 < x)

theorem byteB_true {x : Int} : byteB x = true ↔ 0 ≤ x ∧ x ≤ 255 := by simp [byteB]

theorem sideB_true {x : Int} : sideB x = true ↔ 1 ≤ x ∧ x ≤ 4096 := by simp [sideB]

theorem farB_false {x : Int} : farB x = false ↔ -1048576 ≤ x ∧ x ≤ 1048576 := by simp [farB]

def mixI (d c m : Int) : Int := (d * (255 - m) + c * m + 127) / 255

theorem mul_le255 {a b : Int} (h1 : 0 ≤ a) (h2 : a ≤ 255) (h3 : 0 ≤ b) (h4 : b ≤ 255) : 0 ≤ a * b ∧ a * b ≤ 65025 := by
  have h5 : a * b ≤ a * 255 := Int.mul_le_mul_of_nonneg_left h4 h1
  exact ⟨Int.mul_nonneg h1 h3, by omega⟩

end Go.Proofs.Ytbflncfhbmlibaa
