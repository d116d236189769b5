/-
  Contracts of serifref03's writer: Data, Bytes, U, Pad.
-/
import Derived.Test.YtoofjkhigonppaaWireD
namespace Go.Proofs.Ytoofjkhigonppaa
open Go.RowKit

/-- A writer of the document's, of state s: a call has turned its block alone. -/
structure WrN (T : TypeId) (w0 w : World) (g : Nat) (s : List UInt8 × Bool) (room : Int) (A0 A : Option Addr) (c : Nat) : Prop where
  wr : Wr T w g s.1 room s.2 A c
  turn : Turn w0 w g none
  row : rowOf A = rowOf A0 ∨ ∀ k, rowOf A = some k → w0.heap.size ≤ k
  fit : (s.1.length : Int) ≤ room

theorem grown_below {w w' : World} {B : Nat} {row : Option Nat} (h : w.grownBy w' row) (hB : B ≤ w.heap.size) (hr : ∀ k, row = some k → B ≤ k) : Below B w w' :=
  ⟨h.os, h.tape, h.output, h.size, fun k hk => h.block k (by omega) (fun e => by have := hr k e.symm; omega)⟩

theorem ownsRow_lower {w : World} {B : Nat} {e : TypeId} {size : Nat} {v : Value} {n : Nat} {xs : List Value} (h : w.ownsRow B e size v n xs) : w.ownsRow 0 e size v n xs := by
  obtain ⟨hl, hh | ⟨g, cap, cur, hv, hg, hrest⟩⟩ := h
  · exact ⟨hl, .inl hh⟩
  · exact ⟨hl, .inr ⟨g, cap, cur, hv, Nat.zero_le _, hrest⟩⟩

end Go.Proofs.Ytoofjkhigonppaa
