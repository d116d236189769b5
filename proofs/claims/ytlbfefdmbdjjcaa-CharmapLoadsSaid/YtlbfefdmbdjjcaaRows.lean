/-
  No cell of these rows narrows 'for every input' (looked for: loops, veiled, ifaces, maps, wideKeys, modest, calm, conditions, laid).
  DERIVED. THE GIVEN ROWS OF THIS SEAT. 6 by the template 'for every input the law returns true; each argument reads behind the call as it read before'; 0 by the template 'total and deterministic' (their statements: YtlbfefdmbdjjcaaTotals.lean).
  GIVEN WITH THE SEED: the statements are not yours to turn. If you find one false, say at which input.
  Laid BY PROGRAM, IN A SANDBOX (cutbox-rows.mjs): the forced cells as the released guide's own fill.sh prints them over the translation bc3d1e9ac5424449… (all of the seat's roots in one cut). By AI agents, Wed Nov 11 2026. No macro, syntax, notation, axiom, sorry.
-/
import Derived.Test.YtlbfefdmbdjjcaaChecked
import GoSem.Claim
import GoSem.ClaimJoined
import GoSem.ClaimMapViews
import Derived.JoinedTies
import Derived.KernelRfl
namespace Go.Proofs.Ytlbfefdmbdjjcaa
/- THE CELL 'sum', in the pinned program and in every row, IS THE sha256 OF THE DUMP (.gsa) THAT YtlbfefdmbdjjcaaProg.lean LOADS. Nothing in Lean hashes anything: it is a label: what it is worth is what the hold of that sum in a sandbox is worth. -/
noncomputable def Try.pinned : Pinned := { name := "ytlbfefdmbdjjcaa", sum := "bc3d1e9ac5424449124a0d5545a1b13fa235b61236dead43a400dd00c10641b9", checked := Try.checked }
namespace Rows
def none {H : Type} : Left H := { results := [], args := [] }

/-- 'seriflaw08.CharmapLoads': WHATEVER THE INPUT: true; the input reads as it did. -/
def charmapLoadsSpec : ChangeSpec := { name := "charmapLoads", fn := fun _ => fun
  | [d1, d2, d3, d4] => { results := [.lit (.bool true)], args := [d1, d2, d3, d4] }
  | _ => none }
def charmapLoadsRow : OpenClaim := { program := "ytlbfefdmbdjjcaa", sum := "bc3d1e9ac5424449124a0d5545a1b13fa235b61236dead43a400dd00c10641b9", func := "serif/seriflaw08.CharmapLoads", spec := "charmapLoads", unfollowed := true, recurses := true, apart := false }
def CharmapLoadsSaid : Prop := charmapLoadsRow.holds Try.pinned (OpenSpec.ofChange charmapLoadsSpec)

/-- ITS FALSE NEIGHBOUR: 'it returns false'. Refute it at one input. -/
def charmapLoadsWrong : ChangeSpec := { name := "charmapLoads", fn := fun _ => fun
  | [d1, d2, d3, d4] => { results := [.lit (.bool false)], args := [d1, d2, d3, d4] }
  | _ => none }
def CharmapLoadsWrongFalsely : Prop := charmapLoadsRow.holds Try.pinned (OpenSpec.ofChange charmapLoadsWrong)

/-- 'seriflaw08.CharmapMakes': WHATEVER THE INPUT: true; the input reads as it did. -/
def charmapMakesSpec : ChangeSpec := { name := "charmapMakes", fn := fun _ => fun
  | [d1, d2] => { results := [.lit (.bool true)], args := [d1, d2] }
  | _ => none }
def charmapMakesRow : OpenClaim := { program := "ytlbfefdmbdjjcaa", sum := "bc3d1e9ac5424449124a0d5545a1b13fa235b61236dead43a400dd00c10641b9", func := "serif/seriflaw08.CharmapMakes", spec := "charmapMakes", unfollowed := true, recurses := true, apart := false }
def CharmapMakesSaid : Prop := charmapMakesRow.holds Try.pinned (OpenSpec.ofChange charmapMakesSpec)

/-- ITS FALSE NEIGHBOUR: 'it returns false'. Refute it at one input. -/
def charmapMakesWrong : ChangeSpec := { name := "charmapMakes", fn := fun _ => fun
  | [d1, d2] => { results := [.lit (.bool false)], args := [d1, d2] }
  | _ => none }
def CharmapMakesWrongFalsely : Prop := charmapMakesRow.holds Try.pinned (OpenSpec.ofChange charmapMakesWrong)

/-- 'seriflaw08.CharmapBack': WHATEVER THE INPUT: true; the input reads as it did. -/
def charmapBackSpec : ChangeSpec := { name := "charmapBack", fn := fun _ => fun
  | [d1, d2, d3, d4] => { results := [.lit (.bool true)], args := [d1, d2, d3, d4] }
  | _ => none }
def charmapBackRow : OpenClaim := { program := "ytlbfefdmbdjjcaa", sum := "bc3d1e9ac5424449124a0d5545a1b13fa235b61236dead43a400dd00c10641b9", func := "serif/seriflaw08.CharmapBack", spec := "charmapBack", unfollowed := true, recurses := true, apart := false }
def CharmapBackSaid : Prop := charmapBackRow.holds Try.pinned (OpenSpec.ofChange charmapBackSpec)

/-- ITS FALSE NEIGHBOUR: 'it returns false'. Refute it at one input. -/
def charmapBackWrong : ChangeSpec := { name := "charmapBack", fn := fun _ => fun
  | [d1, d2, d3, d4] => { results := [.lit (.bool false)], args := [d1, d2, d3, d4] }
  | _ => none }
def CharmapBackWrongFalsely : Prop := charmapBackRow.holds Try.pinned (OpenSpec.ofChange charmapBackWrong)

/-- 'seriflaw08.CharmapGoes': WHATEVER THE INPUT: true; the input reads as it did. -/
def charmapGoesSpec : ChangeSpec := { name := "charmapGoes", fn := fun _ => fun
  | [d1, d2, d3] => { results := [.lit (.bool true)], args := [d1, d2, d3] }
  | _ => none }
def charmapGoesRow : OpenClaim := { program := "ytlbfefdmbdjjcaa", sum := "bc3d1e9ac5424449124a0d5545a1b13fa235b61236dead43a400dd00c10641b9", func := "serif/seriflaw08.CharmapGoes", spec := "charmapGoes", unfollowed := true, recurses := true, apart := false }
def CharmapGoesSaid : Prop := charmapGoesRow.holds Try.pinned (OpenSpec.ofChange charmapGoesSpec)

/-- ITS FALSE NEIGHBOUR: 'it returns false'. Refute it at one input. -/
def charmapGoesWrong : ChangeSpec := { name := "charmapGoes", fn := fun _ => fun
  | [d1, d2, d3] => { results := [.lit (.bool false)], args := [d1, d2, d3] }
  | _ => none }
def CharmapGoesWrongFalsely : Prop := charmapGoesRow.holds Try.pinned (OpenSpec.ofChange charmapGoesWrong)

/-- 'seriflaw08.CharmapNobody': WHATEVER THE INPUT: true; the input reads as it did. -/
def charmapNobodySpec : ChangeSpec := { name := "charmapNobody", fn := fun _ => fun
  | [d] => { results := [.lit (.bool true)], args := [d] }
  | _ => none }
def charmapNobodyRow : OpenClaim := { program := "ytlbfefdmbdjjcaa", sum := "bc3d1e9ac5424449124a0d5545a1b13fa235b61236dead43a400dd00c10641b9", func := "serif/seriflaw08.CharmapNobody", spec := "charmapNobody", unfollowed := true, recurses := true, apart := false }
def CharmapNobodySaid : Prop := charmapNobodyRow.holds Try.pinned (OpenSpec.ofChange charmapNobodySpec)

/-- ITS FALSE NEIGHBOUR: 'it returns false'. Refute it at one input. -/
def charmapNobodyWrong : ChangeSpec := { name := "charmapNobody", fn := fun _ => fun
  | [d] => { results := [.lit (.bool false)], args := [d] }
  | _ => none }
def CharmapNobodyWrongFalsely : Prop := charmapNobodyRow.holds Try.pinned (OpenSpec.ofChange charmapNobodyWrong)

/-- 'seriflaw08.CharmapAlike': WHATEVER THE INPUT: true; the input reads as it did. -/
def charmapAlikeSpec : ChangeSpec := { name := "charmapAlike", fn := fun _ => fun
  | [d1, d2, d3, d4, d5] => { results := [.lit (.bool true)], args := [d1, d2, d3, d4, d5] }
  | _ => none }
def charmapAlikeRow : OpenClaim := { program := "ytlbfefdmbdjjcaa", sum := "bc3d1e9ac5424449124a0d5545a1b13fa235b61236dead43a400dd00c10641b9", func := "serif/seriflaw08.CharmapAlike", spec := "charmapAlike", unfollowed := true, recurses := true, apart := false }
def CharmapAlikeSaid : Prop := charmapAlikeRow.holds Try.pinned (OpenSpec.ofChange charmapAlikeSpec)

/-- ITS FALSE NEIGHBOUR: 'it returns false'. Refute it at one input. -/
def charmapAlikeWrong : ChangeSpec := { name := "charmapAlike", fn := fun _ => fun
  | [d1, d2, d3, d4, d5] => { results := [.lit (.bool false)], args := [d1, d2, d3, d4, d5] }
  | _ => none }
def CharmapAlikeWrongFalsely : Prop := charmapAlikeRow.holds Try.pinned (OpenSpec.ofChange charmapAlikeWrong)

/- THE SECOND FORM. 'bulk': how many values and letters a reading holds, each counted each time it is reached (what is shared counts as often as it is met; a slice's spare places count too). A statement '..UptoSaid' is the law's where the arguments, and the package variables that the reading takes, are together of bulk at most 1048576: NARROWER than '..Said'. Prove '..Said' where nothing that the law and all that it calls make is longer than what came in: it says more and counts as full. Else prove '..UptoSaid'. A law counts once. -/
mutual
def uptoBulk {H : Type} : DataW H → Nat
  | .lit (.string bytes) => bytes.length + 1
  | .lit _ => 1
  | .nil => 1
  | .ptr d => uptoBulk d + 1
  | .slice elems spare => uptoBulkAll elems + uptoBulkAll spare + 1
  | .agg parts => uptoBulkAll parts + 1
  | .iface _ d => uptoBulk d + 1
  | .map entries => uptoBulkEntries entries + 1
  | .held _ => 1
def uptoBulkAll {H : Type} : List (DataW H) → Nat
  | [] => 0
  | d :: r => uptoBulk d + uptoBulkAll r
def uptoBulkEntries {H : Type} : List (Lit × DataW H) → Nat
  | [] => 0
  | x :: r => uptoBulkEntry x + uptoBulkEntries r
def uptoBulkEntry {H : Type} : Lit × DataW H → Nat
  | (.string bytes, d) => bytes.length + uptoBulk d + 1
  | (_, d) => uptoBulk d + 1
 end
def uptoSmall : (H : Type) → List (DataW H) → Bool := fun _ ds => decide (uptoBulkAll ds ≤ 1048576)
def OpenSpec.upto (s : _root_.Go.ChangeSpec) : _root_.Go.OpenSpec := { _root_.Go.OpenSpec.ofChange s with cond := some uptoSmall }

/-- 'seriflaw08.CharmapLoads', WHERE WHAT IT READS IS OF BULK AT MOST 1048576: true; the input reads as it did. -/
def charmapLoadsUptoRow : OpenClaim := { program := "ytlbfefdmbdjjcaa", sum := "bc3d1e9ac5424449124a0d5545a1b13fa235b61236dead43a400dd00c10641b9", func := "serif/seriflaw08.CharmapLoads", spec := "charmapLoads", unfollowed := true, recurses := true, apart := false, narrowed := true }
def CharmapLoadsUptoSaid : Prop := charmapLoadsUptoRow.holds Try.pinned (OpenSpec.upto charmapLoadsSpec)

/-- 'seriflaw08.CharmapMakes', WHERE WHAT IT READS IS OF BULK AT MOST 1048576: true; the input reads as it did. -/
def charmapMakesUptoRow : OpenClaim := { program := "ytlbfefdmbdjjcaa", sum := "bc3d1e9ac5424449124a0d5545a1b13fa235b61236dead43a400dd00c10641b9", func := "serif/seriflaw08.CharmapMakes", spec := "charmapMakes", unfollowed := true, recurses := true, apart := false, narrowed := true }
def CharmapMakesUptoSaid : Prop := charmapMakesUptoRow.holds Try.pinned (OpenSpec.upto charmapMakesSpec)

/-- 'seriflaw08.CharmapBack', WHERE WHAT IT READS IS OF BULK AT MOST 1048576: true; the input reads as it did. -/
def charmapBackUptoRow : OpenClaim := { program := "ytlbfefdmbdjjcaa", sum := "bc3d1e9ac5424449124a0d5545a1b13fa235b61236dead43a400dd00c10641b9", func := "serif/seriflaw08.CharmapBack", spec := "charmapBack", unfollowed := true, recurses := true, apart := false, narrowed := true }
def CharmapBackUptoSaid : Prop := charmapBackUptoRow.holds Try.pinned (OpenSpec.upto charmapBackSpec)

/-- 'seriflaw08.CharmapGoes', WHERE WHAT IT READS IS OF BULK AT MOST 1048576: true; the input reads as it did. -/
def charmapGoesUptoRow : OpenClaim := { program := "ytlbfefdmbdjjcaa", sum := "bc3d1e9ac5424449124a0d5545a1b13fa235b61236dead43a400dd00c10641b9", func := "serif/seriflaw08.CharmapGoes", spec := "charmapGoes", unfollowed := true, recurses := true, apart := false, narrowed := true }
def CharmapGoesUptoSaid : Prop := charmapGoesUptoRow.holds Try.pinned (OpenSpec.upto charmapGoesSpec)

/-- 'seriflaw08.CharmapNobody', WHERE WHAT IT READS IS OF BULK AT MOST 1048576: true; the input reads as it did. -/
def charmapNobodyUptoRow : OpenClaim := { program := "ytlbfefdmbdjjcaa", sum := "bc3d1e9ac5424449124a0d5545a1b13fa235b61236dead43a400dd00c10641b9", func := "serif/seriflaw08.CharmapNobody", spec := "charmapNobody", unfollowed := true, recurses := true, apart := false, narrowed := true }
def CharmapNobodyUptoSaid : Prop := charmapNobodyUptoRow.holds Try.pinned (OpenSpec.upto charmapNobodySpec)

/-- 'seriflaw08.CharmapAlike', WHERE WHAT IT READS IS OF BULK AT MOST 1048576: true; the input reads as it did. -/
def charmapAlikeUptoRow : OpenClaim := { program := "ytlbfefdmbdjjcaa", sum := "bc3d1e9ac5424449124a0d5545a1b13fa235b61236dead43a400dd00c10641b9", func := "serif/seriflaw08.CharmapAlike", spec := "charmapAlike", unfollowed := true, recurses := true, apart := false, narrowed := true }
def CharmapAlikeUptoSaid : Prop := charmapAlikeUptoRow.holds Try.pinned (OpenSpec.upto charmapAlikeSpec)

end Rows
end Go.Proofs.Ytlbfefdmbdjjcaa
