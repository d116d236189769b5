/-
  For every budget, every size and every number of masks LruFull answers true and leaves its arguments as they were. No conditions.
-/
import Derived.Test.YtakgeeopfclmoaaLrW
import Derived.Test.YtakgeeopfclmoaaFrame
import Derived.Test.YtakgeeopfclmoaaFlat
namespace Go.Proofs.Ytakgeeopfclmoaa
open Go.ChangeShapes Go.WideShapes Go.ChangeAt Go.RowKit

set_option maxRecDepth 100000 in
theorem lruFull_lifted (os : Os) (started : os.Started) (H : Type) (enc : TypeId × Value → H) :
    ReturnsInHanded {} Try.checked os 4 .any (Rows.lruFullSpec.pre6 enc Try.prog Try.f4 Rows.lruFullRow.domain false) (Rows.lruFullSpec.post enc Try.prog Try.f4 false true false false) := by
  refine returnsInHanded_of_change_sized (C := Try.checked) own_none started (by kernel_rfl) Try.func4
    (ChangeSpec.witness6 (enc := enc) (C := Try.checked) false ⟨#[], #[.int .i64 0, .int .i64 0, .int .i64 0], []⟩ 8 (by kernel_rfl) (by kernel_rfl) (by kernel_rfl) (by kernel_rfl)) ?_
  intro W base args ds gs before hval0 hW _ hwt _
  have hval : ∀ (j : Nat) t v, Try.f4.params[j]? = some t → args[j]? = some v → Value.okWide Try.prog W .any base t v := hval0
  have hW' := hW
  obtain ⟨p, q, hA0, _, _, _, _⟩ := hW
  have hA : DataW.TrodAll enc Try.prog W 0 (fun _ => true) true Try.f4.params.toList args.toList ds p := hA0
  rw [Try.params4] at hA hval
  obtain ⟨v0, v1, v2, d0, d1, d2, p0, p1, p2, rfl, rfl, rfl, h0, h1, h2⟩ := trodAll_three hA
  obtain ⟨bu, rfl, wbu⟩ := open_num Try.underlying3 (hval 0 _ _ rfl rfl) h0
  have bbu := bounds_i64 wbu
  obtain ⟨n, rfl, wn⟩ := open_num Try.underlying3 (hval 1 _ _ rfl rfl) h1
  have bn := bounds_i64 wn
  obtain ⟨k, rfl, wk⟩ := open_num Try.underlying3 (hval 2 _ _ rfl rfl) h2
  have bk := bounds_i64 wk
  clear hA0 hval0
  refine (lruFull_any bu n k bn bk).mono fun e W' ⟨he, hb⟩ => ?_
  subst he
  exact ⟨_, rfl, law_post_any laid_out Try.underlying4 hW' (by kernel_rfl) rfl rfl rfl hb⟩

theorem lruFull_holds : Rows.LruFullSaid :=
  OpenClaim.holds_of_wide 4 Try.f4 rfl rfl rfl rfl rfl rfl rfl ⟨rfl, rfl, rfl, rfl, rfl⟩ rfl rfl rfl rfl rfl (by kernel_rfl) Try.func4 (by kernel_rfl)
    (of_decide_eq_true (by kernel_rfl)) (by unfold Func.isWrapper; first | (rw [if_pos (by decide +kernel)]; kernel_rfl) | (rw [if_neg (by decide +kernel)]; exact ⟨rfl, rfl⟩))
    (fun os started H enc _ => lruFull_lifted os started H enc)

end Go.Proofs.Ytakgeeopfclmoaa
