/-
  No cell of these rows narrows 'for every input' (looked for: loops, veiled, ifaces, maps, wideKeys, modest, calm, conditions, laid).
  DERIVED. THE GIVEN ROWS OF THIS SEAT. 5 by the template 'for every input the law returns true; each argument reads behind the call as it read before'; 0 by the template 'total and deterministic' (their statements: YtejombofjakllaaTotals.lean).
  GIVEN WITH THE SEED: the statements are not yours to turn. If you find one false, say at which input.
  Laid BY PROGRAM, IN A SANDBOX (cutbox-rows.mjs): the forced cells as the released guide's own fill.sh prints them over the translation 9923bb602cacd96a… (all of the seat's roots in one cut). By AI agents, Wed Nov 11 2026. No macro, syntax, notation, axiom, sorry.
-/
import Derived.Test.YtejombofjakllaaChecked
import GoSem.Claim
import GoSem.ClaimJoined
import GoSem.ClaimMapViews
import Derived.JoinedTies
import Derived.KernelRfl
namespace Go.Proofs.Ytejombofjakllaa
/- THE CELL 'sum', in the pinned program and in every row, IS THE sha256 OF THE DUMP (.gsa) THAT YtejombofjakllaaProg.lean LOADS. Nothing in Lean hashes anything: it is a label: what it is worth is what the hold of that sum in a sandbox is worth. -/
noncomputable def Try.pinned : Pinned := { name := "ytejombofjakllaa", sum := "9923bb602cacd96a9e4c31f4a8d015c4bb77750942d7aac034773cde64285888", checked := Try.checked }
namespace Rows
def none {H : Type} : Left H := { results := [], args := [] }

/-- 'seriflaw04.SfntBuilds': WHATEVER THE INPUT: true; the input reads as it did. -/
def sfntBuildsSpec : ChangeSpec := { name := "sfntBuilds", fn := fun _ => fun
  | [d1, d2] => { results := [.lit (.bool true)], args := [d1, d2] }
  | _ => none }
def sfntBuildsRow : OpenClaim := { program := "ytejombofjakllaa", sum := "9923bb602cacd96a9e4c31f4a8d015c4bb77750942d7aac034773cde64285888", func := "serif/seriflaw04.SfntBuilds", spec := "sfntBuilds", unfollowed := true, recurses := true, apart := false }
def SfntBuildsSaid : Prop := sfntBuildsRow.holds Try.pinned (OpenSpec.ofChange sfntBuildsSpec)

/-- ITS FALSE NEIGHBOUR: 'it returns false'. Refute it at one input. -/
def sfntBuildsWrong : ChangeSpec := { name := "sfntBuilds", fn := fun _ => fun
  | [d1, d2] => { results := [.lit (.bool false)], args := [d1, d2] }
  | _ => none }
def SfntBuildsWrongFalsely : Prop := sfntBuildsRow.holds Try.pinned (OpenSpec.ofChange sfntBuildsWrong)

/-- 'seriflaw04.SfntBack': WHATEVER THE INPUT: true; the input reads as it did. -/
def sfntBackSpec : ChangeSpec := { name := "sfntBack", fn := fun _ => fun
  | [d1, d2] => { results := [.lit (.bool true)], args := [d1, d2] }
  | _ => none }
def sfntBackRow : OpenClaim := { program := "ytejombofjakllaa", sum := "9923bb602cacd96a9e4c31f4a8d015c4bb77750942d7aac034773cde64285888", func := "serif/seriflaw04.SfntBack", spec := "sfntBack", unfollowed := true, recurses := true, apart := false }
def SfntBackSaid : Prop := sfntBackRow.holds Try.pinned (OpenSpec.ofChange sfntBackSpec)

/-- ITS FALSE NEIGHBOUR: 'it returns false'. Refute it at one input. -/
def sfntBackWrong : ChangeSpec := { name := "sfntBack", fn := fun _ => fun
  | [d1, d2] => { results := [.lit (.bool false)], args := [d1, d2] }
  | _ => none }
def SfntBackWrongFalsely : Prop := sfntBackRow.holds Try.pinned (OpenSpec.ofChange sfntBackWrong)

/-- 'seriflaw04.SfntSums': WHATEVER THE INPUT: true; the input reads as it did. -/
def sfntSumsSpec : ChangeSpec := { name := "sfntSums", fn := fun _ => fun
  | [d1, d2, d3] => { results := [.lit (.bool true)], args := [d1, d2, d3] }
  | _ => none }
def sfntSumsRow : OpenClaim := { program := "ytejombofjakllaa", sum := "9923bb602cacd96a9e4c31f4a8d015c4bb77750942d7aac034773cde64285888", func := "serif/seriflaw04.SfntSums", spec := "sfntSums", unfollowed := true, recurses := true, apart := false }
def SfntSumsSaid : Prop := sfntSumsRow.holds Try.pinned (OpenSpec.ofChange sfntSumsSpec)

/-- ITS FALSE NEIGHBOUR: 'it returns false'. Refute it at one input. -/
def sfntSumsWrong : ChangeSpec := { name := "sfntSums", fn := fun _ => fun
  | [d1, d2, d3] => { results := [.lit (.bool false)], args := [d1, d2, d3] }
  | _ => none }
def SfntSumsWrongFalsely : Prop := sfntSumsRow.holds Try.pinned (OpenSpec.ofChange sfntSumsWrong)

/-- 'seriflaw04.SfntWhole': WHATEVER THE INPUT: true; the input reads as it did. -/
def sfntWholeSpec : ChangeSpec := { name := "sfntWhole", fn := fun _ => fun
  | [d1, d2] => { results := [.lit (.bool true)], args := [d1, d2] }
  | _ => none }
def sfntWholeRow : OpenClaim := { program := "ytejombofjakllaa", sum := "9923bb602cacd96a9e4c31f4a8d015c4bb77750942d7aac034773cde64285888", func := "serif/seriflaw04.SfntWhole", spec := "sfntWhole", unfollowed := true, recurses := true, apart := false }
def SfntWholeSaid : Prop := sfntWholeRow.holds Try.pinned (OpenSpec.ofChange sfntWholeSpec)

/-- ITS FALSE NEIGHBOUR: 'it returns false'. Refute it at one input. -/
def sfntWholeWrong : ChangeSpec := { name := "sfntWhole", fn := fun _ => fun
  | [d1, d2] => { results := [.lit (.bool false)], args := [d1, d2] }
  | _ => none }
def SfntWholeWrongFalsely : Prop := sfntWholeRow.holds Try.pinned (OpenSpec.ofChange sfntWholeWrong)

/-- 'seriflaw04.SfntOrders': WHATEVER THE INPUT: true; the input reads as it did. -/
def sfntOrdersSpec : ChangeSpec := { name := "sfntOrders", fn := fun _ => fun
  | [d1, d2, d3] => { results := [.lit (.bool true)], args := [d1, d2, d3] }
  | _ => none }
def sfntOrdersRow : OpenClaim := { program := "ytejombofjakllaa", sum := "9923bb602cacd96a9e4c31f4a8d015c4bb77750942d7aac034773cde64285888", func := "serif/seriflaw04.SfntOrders", spec := "sfntOrders", unfollowed := true, recurses := true, apart := false }
def SfntOrdersSaid : Prop := sfntOrdersRow.holds Try.pinned (OpenSpec.ofChange sfntOrdersSpec)

/-- ITS FALSE NEIGHBOUR: 'it returns false'. Refute it at one input. -/
def sfntOrdersWrong : ChangeSpec := { name := "sfntOrders", fn := fun _ => fun
  | [d1, d2, d3] => { results := [.lit (.bool false)], args := [d1, d2, d3] }
  | _ => none }
def SfntOrdersWrongFalsely : Prop := sfntOrdersRow.holds Try.pinned (OpenSpec.ofChange sfntOrdersWrong)

/- THE SECOND FORM. 'bulk': how many values and letters a reading holds, each counted each time it is reached (what is shared counts as often as it is met; a slice's spare places count too). A statement '..UptoSaid' is the law's where the arguments, and the package variables that the reading takes, are together of bulk at most 1048576: NARROWER than '..Said'. Prove '..Said' where nothing that the law and all that it calls make is longer than what came in: it says more and counts as full. Else prove '..UptoSaid'. A law counts once. -/
mutual
def uptoBulk {H : Type} : DataW H → Nat
  | .lit (.string bytes) => bytes.length + 1
  | .lit _ => 1
  | .nil => 1
  | .ptr d => uptoBulk d + 1
  | .slice elems spare => uptoBulkAll elems + uptoBulkAll spare + 1
  | .agg parts => uptoBulkAll parts + 1
  | .iface _ d => uptoBulk d + 1
  | .map entries => uptoBulkEntries entries + 1
  | .held _ => 1
def uptoBulkAll {H : Type} : List (DataW H) → Nat
  | [] => 0
  | d :: r => uptoBulk d + uptoBulkAll r
def uptoBulkEntries {H : Type} : List (Lit × DataW H) → Nat
  | [] => 0
  | x :: r => uptoBulkEntry x + uptoBulkEntries r
def uptoBulkEntry {H : Type} : Lit × DataW H → Nat
  | (.string bytes, d) => bytes.length + uptoBulk d + 1
  | (_, d) => uptoBulk d + 1
 end
def uptoSmall : (H : Type) → List (DataW H) → Bool := fun _ ds => decide (uptoBulkAll ds ≤ 1048576)
def OpenSpec.upto (s : _root_.Go.ChangeSpec) : _root_.Go.OpenSpec := { _root_.Go.OpenSpec.ofChange s with cond := some uptoSmall }

/-- 'seriflaw04.SfntBuilds', WHERE WHAT IT READS IS OF BULK AT MOST 1048576: true; the input reads as it did. -/
def sfntBuildsUptoRow : OpenClaim := { program := "ytejombofjakllaa", sum := "9923bb602cacd96a9e4c31f4a8d015c4bb77750942d7aac034773cde64285888", func := "serif/seriflaw04.SfntBuilds", spec := "sfntBuilds", unfollowed := true, recurses := true, apart := false, narrowed := true }
def SfntBuildsUptoSaid : Prop := sfntBuildsUptoRow.holds Try.pinned (OpenSpec.upto sfntBuildsSpec)

/-- 'seriflaw04.SfntBack', WHERE WHAT IT READS IS OF BULK AT MOST 1048576: true; the input reads as it did. -/
def sfntBackUptoRow : OpenClaim := { program := "ytejombofjakllaa", sum := "9923bb602cacd96a9e4c31f4a8d015c4bb77750942d7aac034773cde64285888", func := "serif/seriflaw04.SfntBack", spec := "sfntBack", unfollowed := true, recurses := true, apart := false, narrowed := true }
def SfntBackUptoSaid : Prop := sfntBackUptoRow.holds Try.pinned (OpenSpec.upto sfntBackSpec)

/-- 'seriflaw04.SfntSums', WHERE WHAT IT READS IS OF BULK AT MOST 1048576: true; the input reads as it did. -/
def sfntSumsUptoRow : OpenClaim := { program := "ytejombofjakllaa", sum := "9923bb602cacd96a9e4c31f4a8d015c4bb77750942d7aac034773cde64285888", func := "serif/seriflaw04.SfntSums", spec := "sfntSums", unfollowed := true, recurses := true, apart := false, narrowed := true }
def SfntSumsUptoSaid : Prop := sfntSumsUptoRow.holds Try.pinned (OpenSpec.upto sfntSumsSpec)

/-- 'seriflaw04.SfntWhole', WHERE WHAT IT READS IS OF BULK AT MOST 1048576: true; the input reads as it did. -/
def sfntWholeUptoRow : OpenClaim := { program := "ytejombofjakllaa", sum := "9923bb602cacd96a9e4c31f4a8d015c4bb77750942d7aac034773cde64285888", func := "serif/seriflaw04.SfntWhole", spec := "sfntWhole", unfollowed := true, recurses := true, apart := false, narrowed := true }
def SfntWholeUptoSaid : Prop := sfntWholeUptoRow.holds Try.pinned (OpenSpec.upto sfntWholeSpec)

/-- 'seriflaw04.SfntOrders', WHERE WHAT IT READS IS OF BULK AT MOST 1048576: true; the input reads as it did. -/
def sfntOrdersUptoRow : OpenClaim := { program := "ytejombofjakllaa", sum := "9923bb602cacd96a9e4c31f4a8d015c4bb77750942d7aac034773cde64285888", func := "serif/seriflaw04.SfntOrders", spec := "sfntOrders", unfollowed := true, recurses := true, apart := false, narrowed := true }
def SfntOrdersUptoSaid : Prop := sfntOrdersUptoRow.holds Try.pinned (OpenSpec.upto sfntOrdersSpec)

end Rows
end Go.Proofs.Ytejombofjakllaa
