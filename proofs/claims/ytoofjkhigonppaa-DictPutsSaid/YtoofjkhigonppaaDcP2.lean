/-
  For every list of entries DictPuts answers true and leaves its argument as it was. No conditions.
-/
import Derived.Test.YtoofjkhigonppaaDcY
import Derived.Test.YtoofjkhigonppaaDcO1
import Derived.Test.YtoofjkhigonppaaOpn
import Derived.Test.YtoofjkhigonppaaFrame
import Derived.Test.YtoofjkhigonppaaFlat
namespace Go.Proofs.Ytoofjkhigonppaa
open Go.ChangeShapes Go.WideShapes Go.ChangeAt Go.RowKit

set_option maxRecDepth 100000 in
theorem dictPuts_lifted (os : Os) (started : os.Started) (H : Type) (enc : TypeId × Value → H) :
    ReturnsInHanded {} Try.checked os 4 .any (Rows.dictPutsSpec.pre6 enc Try.prog Try.f4 Rows.dictPutsRow.domain false) (Rows.dictPutsSpec.post enc Try.prog Try.f4 false true false false) := by
  refine returnsInHanded_of_change_sized (C := Try.checked) own_none started (by kernel_rfl) Try.func4
    (ChangeSpec.witness6 (enc := enc) (C := Try.checked) false ⟨#[], #[.slice none 0 0], []⟩ 8 (by kernel_rfl) (by kernel_rfl) (by kernel_rfl) (by kernel_rfl)) ?_
  intro W base args ds gs before hval0 hW _ hwt _
  have hval : ∀ (j : Nat) t v, Try.f4.params[j]? = some t → args[j]? = some v → Value.okWide Try.prog W .any base t v := hval0
  have hW' := hW
  obtain ⟨p, q, hA0, _, _, _, _⟩ := hW
  have hA : DataW.TrodAll enc Try.prog W 0 (fun _ => true) true Try.f4.params.toList args.toList ds p := hA0
  rw [Try.params4] at hA hval
  obtain ⟨v0, d0, rfl, rfl, h0⟩ := trodAll_one hA
  obtain ⟨A, n, c, rfl, k0, m0, r0, s0⟩ := open_sl (eb := 32) (ks := [.int .i64, .sl 8 [.int .i64]]) Try.underlying24 (by kernel_rfl) (hval 0 _ _ rfl rfl) h0 (reach_all (ts := [24]) (by kernel_rfl) hwt (j := 0) rfl rfl)
  clear hA0 hval0
  obtain ⟨es, hE, hI⟩ := ents_of s0
  refine (dictPuts_any hE hI (by omega)).mono fun e W' ⟨he, hb⟩ => ?_
  subst he
  exact ⟨_, rfl, law_post_any laid_out Try.underlying4 hW' (by kernel_rfl) rfl rfl rfl hb⟩

theorem dictPuts_holds : Rows.DictPutsSaid :=
  OpenClaim.holds_of_wide 4 Try.f4 rfl rfl rfl rfl rfl rfl rfl ⟨rfl, rfl, rfl, rfl, rfl⟩ rfl rfl rfl rfl rfl (by kernel_rfl) Try.func4 (by kernel_rfl)
    (of_decide_eq_true (by kernel_rfl)) (by unfold Func.isWrapper; first | (rw [if_pos (by decide +kernel)]; kernel_rfl) | (rw [if_neg (by decide +kernel)]; exact ⟨rfl, rfl⟩))
    (fun os started H enc _ => dictPuts_lifted os started H enc)

end Go.Proofs.Ytoofjkhigonppaa
