/-
  No cell of these rows narrows 'for every input' (looked for: loops, veiled, ifaces, maps, wideKeys, modest, calm, conditions, laid).
  DERIVED. THE GIVEN ROWS OF THIS SEAT. 6 by the template 'for every input the law returns true; each argument reads behind the call as it read before'; 0 by the template 'total and deterministic' (their statements: YtbjggiihbdhmbaaTotals.lean).
  GIVEN WITH THE SEED: the statements are not yours to turn. If you find one false, say at which input.
  Laid BY PROGRAM, IN A SANDBOX (cutbox-rows.mjs): the forced cells as the released guide's own fill.sh prints them over the translation be528b56fba46510… (all of the seat's roots in one cut). By AI agents, Wed Nov 11 2026. No macro, syntax, notation, axiom, sorry.
-/
import Derived.Test.YtbjggiihbdhmbaaChecked
import GoSem.Claim
import GoSem.ClaimJoined
import GoSem.ClaimMapViews
import Derived.JoinedTies
import Derived.KernelRfl
namespace Go.Proofs.Ytbjggiihbdhmbaa
/- THE CELL 'sum', in the pinned program and in every row, IS THE sha256 OF THE DUMP (.gsa) THAT YtbjggiihbdhmbaaProg.lean LOADS. Nothing in Lean hashes anything: it is a label: what it is worth is what the hold of that sum in a sandbox is worth. -/
noncomputable def Try.pinned : Pinned := { name := "ytbjggiihbdhmbaa", sum := "be528b56fba465104042e1dbb824678efa16b62de61c32b570c834c29f090da4", checked := Try.checked }
namespace Rows
def none {H : Type} : Left H := { results := [], args := [] }

/-- 'seriflaw22.CoverLines': WHATEVER THE INPUT: true; the input reads as it did. -/
def coverLinesSpec : ChangeSpec := { name := "coverLines", fn := fun _ => fun
  | [d1, d2, d3] => { results := [.lit (.bool true)], args := [d1, d2, d3] }
  | _ => none }
def coverLinesRow : OpenClaim := { program := "ytbjggiihbdhmbaa", sum := "be528b56fba465104042e1dbb824678efa16b62de61c32b570c834c29f090da4", func := "serif/seriflaw22.CoverLines", spec := "coverLines", unfollowed := true, recurses := true, named := ["math/bits.divideError", "math/bits.overflowError"], apart := false }
def CoverLinesSaid : Prop := coverLinesRow.holds Try.pinned (OpenSpec.ofChange coverLinesSpec)

/-- ITS FALSE NEIGHBOUR: 'it returns false'. Refute it at one input. -/
def coverLinesWrong : ChangeSpec := { name := "coverLines", fn := fun _ => fun
  | [d1, d2, d3] => { results := [.lit (.bool false)], args := [d1, d2, d3] }
  | _ => none }
def CoverLinesWrongFalsely : Prop := coverLinesRow.holds Try.pinned (OpenSpec.ofChange coverLinesWrong)

/-- 'seriflaw22.CoverBack': WHATEVER THE INPUT: true; the input reads as it did. -/
def coverBackSpec : ChangeSpec := { name := "coverBack", fn := fun _ => fun
  | [d1, d2, d3] => { results := [.lit (.bool true)], args := [d1, d2, d3] }
  | _ => none }
def coverBackRow : OpenClaim := { program := "ytbjggiihbdhmbaa", sum := "be528b56fba465104042e1dbb824678efa16b62de61c32b570c834c29f090da4", func := "serif/seriflaw22.CoverBack", spec := "coverBack", unfollowed := true, recurses := true, named := ["math/bits.divideError", "math/bits.overflowError"], apart := false }
def CoverBackSaid : Prop := coverBackRow.holds Try.pinned (OpenSpec.ofChange coverBackSpec)

/-- ITS FALSE NEIGHBOUR: 'it returns false'. Refute it at one input. -/
def coverBackWrong : ChangeSpec := { name := "coverBack", fn := fun _ => fun
  | [d1, d2, d3] => { results := [.lit (.bool false)], args := [d1, d2, d3] }
  | _ => none }
def CoverBackWrongFalsely : Prop := coverBackRow.holds Try.pinned (OpenSpec.ofChange coverBackWrong)

/-- 'seriflaw22.CoverDown': WHATEVER THE INPUT: true; the input reads as it did. -/
def coverDownSpec : ChangeSpec := { name := "coverDown", fn := fun _ => fun
  | [d1, d2, d3] => { results := [.lit (.bool true)], args := [d1, d2, d3] }
  | _ => none }
def coverDownRow : OpenClaim := { program := "ytbjggiihbdhmbaa", sum := "be528b56fba465104042e1dbb824678efa16b62de61c32b570c834c29f090da4", func := "serif/seriflaw22.CoverDown", spec := "coverDown", unfollowed := true, recurses := true, named := ["math/bits.divideError", "math/bits.overflowError"], apart := false }
def CoverDownSaid : Prop := coverDownRow.holds Try.pinned (OpenSpec.ofChange coverDownSpec)

/-- ITS FALSE NEIGHBOUR: 'it returns false'. Refute it at one input. -/
def coverDownWrong : ChangeSpec := { name := "coverDown", fn := fun _ => fun
  | [d1, d2, d3] => { results := [.lit (.bool false)], args := [d1, d2, d3] }
  | _ => none }
def CoverDownWrongFalsely : Prop := coverDownRow.holds Try.pinned (OpenSpec.ofChange coverDownWrong)

/-- 'seriflaw22.CoverRows': WHATEVER THE INPUT: true; the input reads as it did. -/
def coverRowsSpec : ChangeSpec := { name := "coverRows", fn := fun _ => fun
  | [d1, d2, d3] => { results := [.lit (.bool true)], args := [d1, d2, d3] }
  | _ => none }
def coverRowsRow : OpenClaim := { program := "ytbjggiihbdhmbaa", sum := "be528b56fba465104042e1dbb824678efa16b62de61c32b570c834c29f090da4", func := "serif/seriflaw22.CoverRows", spec := "coverRows", unfollowed := true, recurses := true, named := ["math/bits.divideError", "math/bits.overflowError"], apart := false }
def CoverRowsSaid : Prop := coverRowsRow.holds Try.pinned (OpenSpec.ofChange coverRowsSpec)

/-- ITS FALSE NEIGHBOUR: 'it returns false'. Refute it at one input. -/
def coverRowsWrong : ChangeSpec := { name := "coverRows", fn := fun _ => fun
  | [d1, d2, d3] => { results := [.lit (.bool false)], args := [d1, d2, d3] }
  | _ => none }
def CoverRowsWrongFalsely : Prop := coverRowsRow.holds Try.pinned (OpenSpec.ofChange coverRowsWrong)

/-- 'seriflaw22.CoverFlats': WHATEVER THE INPUT: true; the input reads as it did. -/
def coverFlatsSpec : ChangeSpec := { name := "coverFlats", fn := fun _ => fun
  | [d1, d2] => { results := [.lit (.bool true)], args := [d1, d2] }
  | _ => none }
def coverFlatsRow : OpenClaim := { program := "ytbjggiihbdhmbaa", sum := "be528b56fba465104042e1dbb824678efa16b62de61c32b570c834c29f090da4", func := "serif/seriflaw22.CoverFlats", spec := "coverFlats", unfollowed := true, recurses := true, named := ["math/bits.divideError", "math/bits.overflowError"], apart := false }
def CoverFlatsSaid : Prop := coverFlatsRow.holds Try.pinned (OpenSpec.ofChange coverFlatsSpec)

/-- ITS FALSE NEIGHBOUR: 'it returns false'. Refute it at one input. -/
def coverFlatsWrong : ChangeSpec := { name := "coverFlats", fn := fun _ => fun
  | [d1, d2] => { results := [.lit (.bool false)], args := [d1, d2] }
  | _ => none }
def CoverFlatsWrongFalsely : Prop := coverFlatsRow.holds Try.pinned (OpenSpec.ofChange coverFlatsWrong)

/-- 'seriflaw22.CoverNobody': WHATEVER THE INPUT: true; the input reads as it did. -/
def coverNobodySpec : ChangeSpec := { name := "coverNobody", fn := fun _ => fun
  | [d1, d2, d3, d4] => { results := [.lit (.bool true)], args := [d1, d2, d3, d4] }
  | _ => none }
def coverNobodyRow : OpenClaim := { program := "ytbjggiihbdhmbaa", sum := "be528b56fba465104042e1dbb824678efa16b62de61c32b570c834c29f090da4", func := "serif/seriflaw22.CoverNobody", spec := "coverNobody", unfollowed := true, recurses := true, named := ["math/bits.divideError", "math/bits.overflowError"], apart := false }
def CoverNobodySaid : Prop := coverNobodyRow.holds Try.pinned (OpenSpec.ofChange coverNobodySpec)

/-- ITS FALSE NEIGHBOUR: 'it returns false'. Refute it at one input. -/
def coverNobodyWrong : ChangeSpec := { name := "coverNobody", fn := fun _ => fun
  | [d1, d2, d3, d4] => { results := [.lit (.bool false)], args := [d1, d2, d3, d4] }
  | _ => none }
def CoverNobodyWrongFalsely : Prop := coverNobodyRow.holds Try.pinned (OpenSpec.ofChange coverNobodyWrong)

/- THE SECOND FORM. 'bulk': how many values and letters a reading holds, each counted each time it is reached (what is shared counts as often as it is met; a slice's spare places count too). A statement '..UptoSaid' is the law's where the arguments, and the package variables that the reading takes, are together of bulk at most 1048576: NARROWER than '..Said'. Prove '..Said' where nothing that the law and all that it calls make is longer than what came in: it says more and counts as full. Else prove '..UptoSaid'. A law counts once. -/
mutual
def uptoBulk {H : Type} : DataW H → Nat
  | .lit (.string bytes) => bytes.length + 1
  | .lit _ => 1
  | .nil => 1
  | .ptr d => uptoBulk d + 1
  | .slice elems spare => uptoBulkAll elems + uptoBulkAll spare + 1
  | .agg parts => uptoBulkAll parts + 1
  | .iface _ d => uptoBulk d + 1
  | .map entries => uptoBulkEntries entries + 1
  | .held _ => 1
def uptoBulkAll {H : Type} : List (DataW H) → Nat
  | [] => 0
  | d :: r => uptoBulk d + uptoBulkAll r
def uptoBulkEntries {H : Type} : List (Lit × DataW H) → Nat
  | [] => 0
  | x :: r => uptoBulkEntry x + uptoBulkEntries r
def uptoBulkEntry {H : Type} : Lit × DataW H → Nat
  | (.string bytes, d) => bytes.length + uptoBulk d + 1
  | (_, d) => uptoBulk d + 1
 end
def uptoSmall : (H : Type) → List (DataW H) → Bool := fun _ ds => decide (uptoBulkAll ds ≤ 1048576)
def OpenSpec.upto (s : _root_.Go.ChangeSpec) : _root_.Go.OpenSpec := { _root_.Go.OpenSpec.ofChange s with cond := some uptoSmall }

/-- 'seriflaw22.CoverLines', WHERE WHAT IT READS IS OF BULK AT MOST 1048576: true; the input reads as it did. -/
def coverLinesUptoRow : OpenClaim := { program := "ytbjggiihbdhmbaa", sum := "be528b56fba465104042e1dbb824678efa16b62de61c32b570c834c29f090da4", func := "serif/seriflaw22.CoverLines", spec := "coverLines", unfollowed := true, recurses := true, named := ["math/bits.divideError", "math/bits.overflowError"], apart := false, narrowed := true }
def CoverLinesUptoSaid : Prop := coverLinesUptoRow.holds Try.pinned (OpenSpec.upto coverLinesSpec)

/-- 'seriflaw22.CoverBack', WHERE WHAT IT READS IS OF BULK AT MOST 1048576: true; the input reads as it did. -/
def coverBackUptoRow : OpenClaim := { program := "ytbjggiihbdhmbaa", sum := "be528b56fba465104042e1dbb824678efa16b62de61c32b570c834c29f090da4", func := "serif/seriflaw22.CoverBack", spec := "coverBack", unfollowed := true, recurses := true, named := ["math/bits.divideError", "math/bits.overflowError"], apart := false, narrowed := true }
def CoverBackUptoSaid : Prop := coverBackUptoRow.holds Try.pinned (OpenSpec.upto coverBackSpec)

/-- 'seriflaw22.CoverDown', WHERE WHAT IT READS IS OF BULK AT MOST 1048576: true; the input reads as it did. -/
def coverDownUptoRow : OpenClaim := { program := "ytbjggiihbdhmbaa", sum := "be528b56fba465104042e1dbb824678efa16b62de61c32b570c834c29f090da4", func := "serif/seriflaw22.CoverDown", spec := "coverDown", unfollowed := true, recurses := true, named := ["math/bits.divideError", "math/bits.overflowError"], apart := false, narrowed := true }
def CoverDownUptoSaid : Prop := coverDownUptoRow.holds Try.pinned (OpenSpec.upto coverDownSpec)

/-- 'seriflaw22.CoverRows', WHERE WHAT IT READS IS OF BULK AT MOST 1048576: true; the input reads as it did. -/
def coverRowsUptoRow : OpenClaim := { program := "ytbjggiihbdhmbaa", sum := "be528b56fba465104042e1dbb824678efa16b62de61c32b570c834c29f090da4", func := "serif/seriflaw22.CoverRows", spec := "coverRows", unfollowed := true, recurses := true, named := ["math/bits.divideError", "math/bits.overflowError"], apart := false, narrowed := true }
def CoverRowsUptoSaid : Prop := coverRowsUptoRow.holds Try.pinned (OpenSpec.upto coverRowsSpec)

/-- 'seriflaw22.CoverFlats', WHERE WHAT IT READS IS OF BULK AT MOST 1048576: true; the input reads as it did. -/
def coverFlatsUptoRow : OpenClaim := { program := "ytbjggiihbdhmbaa", sum := "be528b56fba465104042e1dbb824678efa16b62de61c32b570c834c29f090da4", func := "serif/seriflaw22.CoverFlats", spec := "coverFlats", unfollowed := true, recurses := true, named := ["math/bits.divideError", "math/bits.overflowError"], apart := false, narrowed := true }
def CoverFlatsUptoSaid : Prop := coverFlatsUptoRow.holds Try.pinned (OpenSpec.upto coverFlatsSpec)

/-- 'seriflaw22.CoverNobody', WHERE WHAT IT READS IS OF BULK AT MOST 1048576: true; the input reads as it did. -/
def coverNobodyUptoRow : OpenClaim := { program := "ytbjggiihbdhmbaa", sum := "be528b56fba465104042e1dbb824678efa16b62de61c32b570c834c29f090da4", func := "serif/seriflaw22.CoverNobody", spec := "coverNobody", unfollowed := true, recurses := true, named := ["math/bits.divideError", "math/bits.overflowError"], apart := false, narrowed := true }
def CoverNobodyUptoSaid : Prop := coverNobodyUptoRow.holds Try.pinned (OpenSpec.upto coverNobodySpec)

end Rows
end Go.Proofs.Ytbjggiihbdhmbaa
