/-
  For every slice of bytes and every number of rounds IndexLoads answers true and leaves its arguments as they were. No conditions.
-/
import Derived.Test.YtbmflgcahbkdeaaIdxT
import Derived.Test.YtbmflgcahbkdeaaFrame
import Derived.Test.YtbmflgcahbkdeaaFlat
namespace Go.Proofs.Ytbmflgcahbkdeaa
open Go.ChangeShapes Go.WideShapes Go.ChangeAt Go.RowKit

set_option maxRecDepth 100000 in
theorem indexLoads_lifted (os : Os) (started : os.Started) (H : Type) (enc : TypeId × Value → H) :
    ReturnsInHanded {} Try.checked os 3 .any (Rows.indexLoadsSpec.pre6 enc Try.prog Try.f3 Rows.indexLoadsRow.domain false) (Rows.indexLoadsSpec.post enc Try.prog Try.f3 false true false false) := by
  refine returnsInHanded_of_change_sized (C := Try.checked) own_none started (by kernel_rfl) Try.func3
    (ChangeSpec.witness6 (enc := enc) (C := Try.checked) false ⟨#[], #[.slice none 0 0, .int .i64 0], []⟩ 8 (by kernel_rfl) (by kernel_rfl) (by kernel_rfl) (by kernel_rfl)) ?_
  intro W base args ds gs before hval0 hW _ hwt _
  have hval : ∀ (j : Nat) t v, Try.f3.params[j]? = some t → args[j]? = some v → Value.okWide Try.prog W .any base t v := hval0
  have hW' := hW
  obtain ⟨p, q, hA0, _, _, _, _⟩ := hW
  have hA : DataW.TrodAll enc Try.prog W 0 (fun _ => true) true Try.f3.params.toList args.toList ds p := hA0
  rw [Try.params3] at hA hval
  obtain ⟨v0, v1, d0, d1, p0, p1, rfl, rfl, rfl, h0, h1⟩ := trodAll_two hA
  obtain ⟨A, n, c, rfl, k0, m0, r0, s0⟩ := open_sl (eb := 1) (ks := [.int .u8]) Try.underlying22 (by kernel_rfl) (hval 0 _ _ rfl rfl) h0 (reach_all (ts := [22, 3]) (by kernel_rfl) hwt (j := 0) rfl rfl)
  obtain ⟨stop, rfl, wstop⟩ := open_num Try.underlying3 (hval 1 _ _ rfl rfl) h1
  have bstop := bounds_i64 wstop
  clear hA0 hval0
  obtain ⟨bs, rfl, hB, hBs⟩ := arg_bytes Try.underlying22 (hval 0 _ _ rfl rfl) k0 m0 r0 s0
  refine (indexLoads_any W A bs c stop hB).mono fun e W' ⟨he, hb⟩ => ?_
  subst he
  exact ⟨_, rfl, law_post_any laid_out Try.underlying4 hW' (by kernel_rfl) rfl rfl rfl hb⟩

theorem indexLoads_holds : Rows.IndexLoadsSaid :=
  OpenClaim.holds_of_wide 3 Try.f3 rfl rfl rfl rfl rfl rfl rfl ⟨rfl, rfl, rfl, rfl, rfl⟩ rfl rfl rfl rfl rfl (by kernel_rfl) Try.func3 (by kernel_rfl)
    (of_decide_eq_true (by kernel_rfl)) (by unfold Func.isWrapper; first | (rw [if_pos (by decide +kernel)]; kernel_rfl) | (rw [if_neg (by decide +kernel)]; exact ⟨rfl, rfl⟩))
    (fun os started H enc _ => indexLoads_lifted os started H enc)

end Go.Proofs.Ytbmflgcahbkdeaa
