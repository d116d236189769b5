/-
  No cell of these rows narrows 'for every input' (looked for: loops, veiled, ifaces, maps, wideKeys, modest, calm, conditions, laid).
  DERIVED. THE GIVEN ROWS OF THIS SEAT. 7 by the template 'for every input the law returns true; each argument reads behind the call as it read before'; 0 by the template 'total and deterministic' (their statements: YtbflncfhbmlibaaTotals.lean).
  GIVEN WITH THE SEED: the statements are not yours to turn. If you find one false, say at which input.
  Laid BY PROGRAM, IN A SANDBOX (cutbox-rows.mjs): the forced cells as the released guide's own fill.sh prints them over the translation 7afc2a06c82eac13… (all of the seat's roots in one cut). By AI agents, Wed Nov 11 2026. No macro, syntax, notation, axiom, sorry.
-/
import Derived.Test.YtbflncfhbmlibaaChecked
import GoSem.Claim
import GoSem.ClaimJoined
import GoSem.ClaimMapViews
import Derived.JoinedTies
import Derived.KernelRfl
namespace Go.Proofs.Ytbflncfhbmlibaa
/- THE CELL 'sum', in the pinned program and in every row, IS THE sha256 OF THE DUMP (.gsa) THAT YtbflncfhbmlibaaProg.lean LOADS. Nothing in Lean hashes anything: it is a label: what it is worth is what the hold of that sum in a sandbox is worth. -/
noncomputable def Try.pinned : Pinned := { name := "ytbflncfhbmlibaa", sum := "7afc2a06c82eac139fbc615c022b787aae7567def28a575b0842387bddf620d5", checked := Try.checked }
namespace Rows
def none {H : Type} : Left H := { results := [], args := [] }

/-- 'seriflaw23.RasterFills': WHATEVER THE INPUT: true; the input reads as it did. -/
def rasterFillsSpec : ChangeSpec := { name := "rasterFills", fn := fun _ => fun
  | [d] => { results := [.lit (.bool true)], args := [d] }
  | _ => none }
def rasterFillsRow : OpenClaim := { program := "ytbflncfhbmlibaa", sum := "7afc2a06c82eac139fbc615c022b787aae7567def28a575b0842387bddf620d5", func := "serif/seriflaw23.RasterFills", spec := "rasterFills", unfollowed := true, recurses := true, named := ["math/bits.divideError", "math/bits.overflowError"], apart := false }
def RasterFillsSaid : Prop := rasterFillsRow.holds Try.pinned (OpenSpec.ofChange rasterFillsSpec)

/-- ITS FALSE NEIGHBOUR: 'it returns false'. Refute it at one input. -/
def rasterFillsWrong : ChangeSpec := { name := "rasterFills", fn := fun _ => fun
  | [d] => { results := [.lit (.bool false)], args := [d] }
  | _ => none }
def RasterFillsWrongFalsely : Prop := rasterFillsRow.holds Try.pinned (OpenSpec.ofChange rasterFillsWrong)

/-- 'seriflaw23.RasterTurns': WHATEVER THE INPUT: true; the input reads as it did. -/
def rasterTurnsSpec : ChangeSpec := { name := "rasterTurns", fn := fun _ => fun
  | [d1, d2] => { results := [.lit (.bool true)], args := [d1, d2] }
  | _ => none }
def rasterTurnsRow : OpenClaim := { program := "ytbflncfhbmlibaa", sum := "7afc2a06c82eac139fbc615c022b787aae7567def28a575b0842387bddf620d5", func := "serif/seriflaw23.RasterTurns", spec := "rasterTurns", unfollowed := true, recurses := true, named := ["math/bits.divideError", "math/bits.overflowError"], apart := false }
def RasterTurnsSaid : Prop := rasterTurnsRow.holds Try.pinned (OpenSpec.ofChange rasterTurnsSpec)

/-- ITS FALSE NEIGHBOUR: 'it returns false'. Refute it at one input. -/
def rasterTurnsWrong : ChangeSpec := { name := "rasterTurns", fn := fun _ => fun
  | [d1, d2] => { results := [.lit (.bool false)], args := [d1, d2] }
  | _ => none }
def RasterTurnsWrongFalsely : Prop := rasterTurnsRow.holds Try.pinned (OpenSpec.ofChange rasterTurnsWrong)

/-- 'seriflaw23.RasterMoves': WHATEVER THE INPUT: true; the input reads as it did. -/
def rasterMovesSpec : ChangeSpec := { name := "rasterMoves", fn := fun _ => fun
  | [d1, d2, d3] => { results := [.lit (.bool true)], args := [d1, d2, d3] }
  | _ => none }
def rasterMovesRow : OpenClaim := { program := "ytbflncfhbmlibaa", sum := "7afc2a06c82eac139fbc615c022b787aae7567def28a575b0842387bddf620d5", func := "serif/seriflaw23.RasterMoves", spec := "rasterMoves", unfollowed := true, recurses := true, named := ["math/bits.divideError", "math/bits.overflowError"], apart := false }
def RasterMovesSaid : Prop := rasterMovesRow.holds Try.pinned (OpenSpec.ofChange rasterMovesSpec)

/-- ITS FALSE NEIGHBOUR: 'it returns false'. Refute it at one input. -/
def rasterMovesWrong : ChangeSpec := { name := "rasterMoves", fn := fun _ => fun
  | [d1, d2, d3] => { results := [.lit (.bool false)], args := [d1, d2, d3] }
  | _ => none }
def RasterMovesWrongFalsely : Prop := rasterMovesRow.holds Try.pinned (OpenSpec.ofChange rasterMovesWrong)

/-- 'seriflaw23.RasterBoxes': WHATEVER THE INPUT: true; the input reads as it did. -/
def rasterBoxesSpec : ChangeSpec := { name := "rasterBoxes", fn := fun _ => fun
  | [d1, d2] => { results := [.lit (.bool true)], args := [d1, d2] }
  | _ => none }
def rasterBoxesRow : OpenClaim := { program := "ytbflncfhbmlibaa", sum := "7afc2a06c82eac139fbc615c022b787aae7567def28a575b0842387bddf620d5", func := "serif/seriflaw23.RasterBoxes", spec := "rasterBoxes", unfollowed := true, recurses := true, named := ["math/bits.divideError", "math/bits.overflowError"], apart := false }
def RasterBoxesSaid : Prop := rasterBoxesRow.holds Try.pinned (OpenSpec.ofChange rasterBoxesSpec)

/-- ITS FALSE NEIGHBOUR: 'it returns false'. Refute it at one input. -/
def rasterBoxesWrong : ChangeSpec := { name := "rasterBoxes", fn := fun _ => fun
  | [d1, d2] => { results := [.lit (.bool false)], args := [d1, d2] }
  | _ => none }
def RasterBoxesWrongFalsely : Prop := rasterBoxesRow.holds Try.pinned (OpenSpec.ofChange rasterBoxesWrong)

/-- 'seriflaw23.RasterTwice': WHATEVER THE INPUT: true; the input reads as it did. -/
def rasterTwiceSpec : ChangeSpec := { name := "rasterTwice", fn := fun _ => fun
  | [d] => { results := [.lit (.bool true)], args := [d] }
  | _ => none }
def rasterTwiceRow : OpenClaim := { program := "ytbflncfhbmlibaa", sum := "7afc2a06c82eac139fbc615c022b787aae7567def28a575b0842387bddf620d5", func := "serif/seriflaw23.RasterTwice", spec := "rasterTwice", unfollowed := true, recurses := true, named := ["math/bits.divideError", "math/bits.overflowError"], apart := false }
def RasterTwiceSaid : Prop := rasterTwiceRow.holds Try.pinned (OpenSpec.ofChange rasterTwiceSpec)

/-- ITS FALSE NEIGHBOUR: 'it returns false'. Refute it at one input. -/
def rasterTwiceWrong : ChangeSpec := { name := "rasterTwice", fn := fun _ => fun
  | [d] => { results := [.lit (.bool false)], args := [d] }
  | _ => none }
def RasterTwiceWrongFalsely : Prop := rasterTwiceRow.holds Try.pinned (OpenSpec.ofChange rasterTwiceWrong)

/-- 'seriflaw23.RasterMasks': WHATEVER THE INPUT: true; the input reads as it did. -/
def rasterMasksSpec : ChangeSpec := { name := "rasterMasks", fn := fun _ => fun
  | [d1, d2, d3, d4] => { results := [.lit (.bool true)], args := [d1, d2, d3, d4] }
  | _ => none }
def rasterMasksRow : OpenClaim := { program := "ytbflncfhbmlibaa", sum := "7afc2a06c82eac139fbc615c022b787aae7567def28a575b0842387bddf620d5", func := "serif/seriflaw23.RasterMasks", spec := "rasterMasks", unfollowed := true, recurses := true, named := ["math/bits.divideError", "math/bits.overflowError"], apart := false }
def RasterMasksSaid : Prop := rasterMasksRow.holds Try.pinned (OpenSpec.ofChange rasterMasksSpec)

/-- ITS FALSE NEIGHBOUR: 'it returns false'. Refute it at one input. -/
def rasterMasksWrong : ChangeSpec := { name := "rasterMasks", fn := fun _ => fun
  | [d1, d2, d3, d4] => { results := [.lit (.bool false)], args := [d1, d2, d3, d4] }
  | _ => none }
def RasterMasksWrongFalsely : Prop := rasterMasksRow.holds Try.pinned (OpenSpec.ofChange rasterMasksWrong)

/-- 'seriflaw23.RasterNone': WHATEVER THE INPUT: true; the input reads as it did. -/
def rasterNoneSpec : ChangeSpec := { name := "rasterNone", fn := fun _ => fun
  | [d] => { results := [.lit (.bool true)], args := [d] }
  | _ => none }
def rasterNoneRow : OpenClaim := { program := "ytbflncfhbmlibaa", sum := "7afc2a06c82eac139fbc615c022b787aae7567def28a575b0842387bddf620d5", func := "serif/seriflaw23.RasterNone", spec := "rasterNone", unfollowed := true, recurses := true, named := ["math/bits.divideError", "math/bits.overflowError"], apart := false }
def RasterNoneSaid : Prop := rasterNoneRow.holds Try.pinned (OpenSpec.ofChange rasterNoneSpec)

/-- ITS FALSE NEIGHBOUR: 'it returns false'. Refute it at one input. -/
def rasterNoneWrong : ChangeSpec := { name := "rasterNone", fn := fun _ => fun
  | [d] => { results := [.lit (.bool false)], args := [d] }
  | _ => none }
def RasterNoneWrongFalsely : Prop := rasterNoneRow.holds Try.pinned (OpenSpec.ofChange rasterNoneWrong)

/- THE SECOND FORM. 'bulk': how many values and letters a reading holds, each counted each time it is reached (what is shared counts as often as it is met; a slice's spare places count too). A statement '..UptoSaid' is the law's where the arguments, and the package variables that the reading takes, are together of bulk at most 1048576: NARROWER than '..Said'. Prove '..Said' where nothing that the law and all that it calls make is longer than what came in: it says more and counts as full. Else prove '..UptoSaid'. A law counts once. -/
mutual
def uptoBulk {H : Type} : DataW H → Nat
  | .lit (.string bytes) => bytes.length + 1
  | .lit _ => 1
  | .nil => 1
  | .ptr d => uptoBulk d + 1
  | .slice elems spare => uptoBulkAll elems + uptoBulkAll spare + 1
  | .agg parts => uptoBulkAll parts + 1
  | .iface _ d => uptoBulk d + 1
  | .map entries => uptoBulkEntries entries + 1
  | .held _ => 1
def uptoBulkAll {H : Type} : List (DataW H) → Nat
  | [] => 0
  | d :: r => uptoBulk d + uptoBulkAll r
def uptoBulkEntries {H : Type} : List (Lit × DataW H) → Nat
  | [] => 0
  | x :: r => uptoBulkEntry x + uptoBulkEntries r
def uptoBulkEntry {H : Type} : Lit × DataW H → Nat
  | (.string bytes, d) => bytes.length + uptoBulk d + 1
  | (_, d) => uptoBulk d + 1
 end
def uptoSmall : (H : Type) → List (DataW H) → Bool := fun _ ds => decide (uptoBulkAll ds ≤ 1048576)
def OpenSpec.upto (s : _root_.Go.ChangeSpec) : _root_.Go.OpenSpec := { _root_.Go.OpenSpec.ofChange s with cond := some uptoSmall }

/-- 'seriflaw23.RasterFills', WHERE WHAT IT READS IS OF BULK AT MOST 1048576: true; the input reads as it did. -/
def rasterFillsUptoRow : OpenClaim := { program := "ytbflncfhbmlibaa", sum := "7afc2a06c82eac139fbc615c022b787aae7567def28a575b0842387bddf620d5", func := "serif/seriflaw23.RasterFills", spec := "rasterFills", unfollowed := true, recurses := true, named := ["math/bits.divideError", "math/bits.overflowError"], apart := false, narrowed := true }
def RasterFillsUptoSaid : Prop := rasterFillsUptoRow.holds Try.pinned (OpenSpec.upto rasterFillsSpec)

/-- 'seriflaw23.RasterTurns', WHERE WHAT IT READS IS OF BULK AT MOST 1048576: true; the input reads as it did. -/
def rasterTurnsUptoRow : OpenClaim := { program := "ytbflncfhbmlibaa", sum := "7afc2a06c82eac139fbc615c022b787aae7567def28a575b0842387bddf620d5", func := "serif/seriflaw23.RasterTurns", spec := "rasterTurns", unfollowed := true, recurses := true, named := ["math/bits.divideError", "math/bits.overflowError"], apart := false, narrowed := true }
def RasterTurnsUptoSaid : Prop := rasterTurnsUptoRow.holds Try.pinned (OpenSpec.upto rasterTurnsSpec)

/-- 'seriflaw23.RasterMoves', WHERE WHAT IT READS IS OF BULK AT MOST 1048576: true; the input reads as it did. -/
def rasterMovesUptoRow : OpenClaim := { program := "ytbflncfhbmlibaa", sum := "7afc2a06c82eac139fbc615c022b787aae7567def28a575b0842387bddf620d5", func := "serif/seriflaw23.RasterMoves", spec := "rasterMoves", unfollowed := true, recurses := true, named := ["math/bits.divideError", "math/bits.overflowError"], apart := false, narrowed := true }
def RasterMovesUptoSaid : Prop := rasterMovesUptoRow.holds Try.pinned (OpenSpec.upto rasterMovesSpec)

/-- 'seriflaw23.RasterBoxes', WHERE WHAT IT READS IS OF BULK AT MOST 1048576: true; the input reads as it did. -/
def rasterBoxesUptoRow : OpenClaim := { program := "ytbflncfhbmlibaa", sum := "7afc2a06c82eac139fbc615c022b787aae7567def28a575b0842387bddf620d5", func := "serif/seriflaw23.RasterBoxes", spec := "rasterBoxes", unfollowed := true, recurses := true, named := ["math/bits.divideError", "math/bits.overflowError"], apart := false, narrowed := true }
def RasterBoxesUptoSaid : Prop := rasterBoxesUptoRow.holds Try.pinned (OpenSpec.upto rasterBoxesSpec)

/-- 'seriflaw23.RasterTwice', WHERE WHAT IT READS IS OF BULK AT MOST 1048576: true; the input reads as it did. -/
def rasterTwiceUptoRow : OpenClaim := { program := "ytbflncfhbmlibaa", sum := "7afc2a06c82eac139fbc615c022b787aae7567def28a575b0842387bddf620d5", func := "serif/seriflaw23.RasterTwice", spec := "rasterTwice", unfollowed := true, recurses := true, named := ["math/bits.divideError", "math/bits.overflowError"], apart := false, narrowed := true }
def RasterTwiceUptoSaid : Prop := rasterTwiceUptoRow.holds Try.pinned (OpenSpec.upto rasterTwiceSpec)

/-- 'seriflaw23.RasterMasks', WHERE WHAT IT READS IS OF BULK AT MOST 1048576: true; the input reads as it did. -/
def rasterMasksUptoRow : OpenClaim := { program := "ytbflncfhbmlibaa", sum := "7afc2a06c82eac139fbc615c022b787aae7567def28a575b0842387bddf620d5", func := "serif/seriflaw23.RasterMasks", spec := "rasterMasks", unfollowed := true, recurses := true, named := ["math/bits.divideError", "math/bits.overflowError"], apart := false, narrowed := true }
def RasterMasksUptoSaid : Prop := rasterMasksUptoRow.holds Try.pinned (OpenSpec.upto rasterMasksSpec)

/-- 'seriflaw23.RasterNone', WHERE WHAT IT READS IS OF BULK AT MOST 1048576: true; the input reads as it did. -/
def rasterNoneUptoRow : OpenClaim := { program := "ytbflncfhbmlibaa", sum := "7afc2a06c82eac139fbc615c022b787aae7567def28a575b0842387bddf620d5", func := "serif/seriflaw23.RasterNone", spec := "rasterNone", unfollowed := true, recurses := true, named := ["math/bits.divideError", "math/bits.overflowError"], apart := false, narrowed := true }
def RasterNoneUptoSaid : Prop := rasterNoneUptoRow.holds Try.pinned (OpenSpec.upto rasterNoneSpec)

end Rows
end Go.Proofs.Ytbflncfhbmlibaa
