/-
  index.offsets.
-/
import Derived.Test.YtbmflgcahbkdeaaIdxG
import Derived.Test.YtbmflgcahbkdeaaOwI
namespace Go.Proofs.Ytbmflgcahbkdeaa
open Go.RowKit

def offAt (bs : List UInt8) (pos size i : Nat) : Nat := nAt bs (pos + i * size) size
def offGood (bs : List UInt8) (pos size n : Nat) : Bool := decide (offAt bs pos size 0 = 1) && (List.range n).all fun i => decide (offAt bs pos size i ≤ offAt bs pos size (i + 1))
theorem offGood_iff (bs : List UInt8) (pos size n : Nat) : offGood bs pos size n = true ↔ offAt bs pos size 0 = 1 ∧ ∀ i, i < n → offAt bs pos size i ≤ offAt bs pos size (i + 1) := by
  simp [offGood]
def offList (bs : List UInt8) (pos size k : Nat) : List Int := (List.range k).map fun i => (offAt bs pos size i : Int)
theorem offList_next (bs : List UInt8) (pos size k : Nat) : offList bs pos size (k + 1) = offList bs pos size k ++ [(offAt bs pos size k : Int)] := by
  simp [offList, List.range_succ]
/-- What offsets answers. -/
def OffPost (w : World) (r : Nat) (bs : List UInt8) (pos size n : Nat) (A : Option Addr) (c : Nat) (e : Ending) (w' : World) : Prop :=
  Turn w w' r none ∧ ((offGood bs pos size n = true ∧ ∃ A' c', e = .returned (.tuple #[.slice A' (n + 1) c', .bool true]) ∧ OwI (w.heap.size + 1) w' A' (n + 1) c' (offList bs pos size (n + 1)) ∧ Rd w' r bs (pos + (n + 1) * size) false A c) ∨
    (offGood bs pos size n = false ∧ e = .returned (.tuple #[.slice none 0 0, .bool false])))

theorem offs_bad {bs : List UInt8} {pos size n k : Nat} (h : offGood bs pos size n = true) (hk : k ≤ n) : (k = 0 → offAt bs pos size k = 1) ∧ (∀ j, k = j + 1 → offAt bs pos size j ≤ offAt bs pos size k) := by
  obtain ⟨h0, h1⟩ := (offGood_iff bs pos size n).1 h
  exact ⟨fun e => by rw [e]; exact h0, fun j e => by rw [e]; exact h1 j (by omega)⟩

end Go.Proofs.Ytbmflgcahbkdeaa
