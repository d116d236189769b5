/-
  More on the document's reader beside a struct.
-/
import Derived.Test.YtbmflgcahbkdeaaRdH
namespace Go.Proofs.Ytbmflgcahbkdeaa
open Go.RowKit

theorem RH.glt {B : Nat} {w0 w : World} {bs : List UInt8} {s : Nat × Bool} {A : Option Addr} {c g : Nat} {T : TypeId} {cs : List Value} (h : RH B w0 w B bs s A c g T cs) : B < g := by
  have h1 := h.leg
  have h2 := h.ne
  omega
theorem below_alloc {B : Nat} {a w : World} {o : Obj} (h : Below B a w) (hB : B ≤ w.heap.size) : Below B a (w.alloc o) := h.alloc hB _

end Go.Proofs.Ytbmflgcahbkdeaa
