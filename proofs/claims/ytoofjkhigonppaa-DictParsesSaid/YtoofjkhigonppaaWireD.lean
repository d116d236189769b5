/-
  Contracts of wire's writer: To, Len, Done; slices.Clone of bytes.
-/
import Derived.Test.YtoofjkhigonppaaWireC
import Derived.Lib.SliceRun
import Derived.Test.YtoofjkhigonppaaSlice
namespace Go.Proofs.Ytoofjkhigonppaa
open Go.RowKit

@[go_sem] theorem eqlB_nil (A : Option Addr) (l c : Nat) (w : World) : (binOp .eql 22 (.slice A l c) (.slice none 0 0)).run Try.prog w = .ok (.bool A.isNone) w := Lib.run_eql_slice_nil w _ _ A l c 0 0 Try.underlying22

end Go.Proofs.Ytoofjkhigonppaa
