/-
  For every width and height and every call CanvasStays answers true and leaves its arguments as they were. No conditions.
-/
import Derived.Test.YtdapakoicegdoaaCvW
import Derived.Test.YtdapakoicegdoaaFrame
import Derived.Test.YtdapakoicegdoaaFlat
namespace Go.Proofs.Ytdapakoicegdoaa
open Go.ChangeShapes Go.WideShapes Go.ChangeAt Go.RowKit

set_option maxRecDepth 100000 in
theorem canvasStays_lifted (os : Os) (started : os.Started) (H : Type) (enc : TypeId × Value → H) :
    ReturnsInHanded {} Try.checked os 3 .any (Rows.canvasStaysSpec.pre6 enc Try.prog Try.f3 Rows.canvasStaysRow.domain false) (Rows.canvasStaysSpec.post enc Try.prog Try.f3 false true false false) := by
  refine returnsInHanded_of_change_sized (C := Try.checked) own_none started (by kernel_rfl) Try.func3
    (ChangeSpec.witness6 (enc := enc) (C := Try.checked) false ⟨#[], #[.int .i64 0, .int .i64 0, .agg #[.int .i64 0, .int .i64 0, .int .i64 0, .int .i64 0, .int .i64 0, .slice none 0 0, .int .i64 0, .int .i64 0, .int .i64 0, .int .i64 0, .int .i64 0, .int .i64 0, .int .i64 0]], []⟩ 8 (by kernel_rfl) (by kernel_rfl) (by kernel_rfl) (by kernel_rfl)) ?_
  intro W base args ds gs before hval0 hW _ hwt _
  have hval : ∀ (j : Nat) t v, Try.f3.params[j]? = some t → args[j]? = some v → Value.okWide Try.prog W .any base t v := hval0
  have hW' := hW
  obtain ⟨p, q, hA0, _, _, _, _⟩ := hW
  have hA : DataW.TrodAll enc Try.prog W 0 (fun _ => true) true Try.f3.params.toList args.toList ds p := hA0
  rw [Try.params3] at hA hval
  obtain ⟨v0, v1, v2, d0, d1, d2, p0, p1, p2, rfl, rfl, rfl, h0, h1, h2⟩ := trodAll_three hA
  obtain ⟨wi, rfl, wwi⟩ := open_num Try.underlying3 (hval 0 _ _ rfl rfl) h0
  have bwi := bounds_i64 wwi
  obtain ⟨he, rfl, whe⟩ := open_num Try.underlying3 (hval 1 _ _ rfl rfl) h1
  have bhe := bounds_i64 whe
  obtain ⟨cs2, rfl, l2, s2⟩ := open_st (ks := [.int .i64, .int .i64, .int .i64, .int .i64, .int .i64, .sl 1 [.int .u8], .int .i64, .int .i64, .int .i64, .int .i64, .int .i64, .int .i64, .int .i64]) Try.underlying28 (by kernel_rfl) (by kernel_rfl) (hval 2 _ _ rfl rfl) h2 (reach_all (ts := [3, 3, 28]) (by kernel_rfl) hwt (j := 2) rfl rfl)
  clear hA0 hval0
  obtain ⟨a, rfl, hM2⟩ := call_of l2 s2
  refine (canvasStays_any hM2).mono fun e W' ⟨hx, hb⟩ => ?_
  have he := hx
  subst he
  exact ⟨_, rfl, law_post_any laid_out Try.underlying4 hW' (by kernel_rfl) rfl rfl rfl hb⟩

theorem canvasStays_holds : Rows.CanvasStaysSaid :=
  OpenClaim.holds_of_wide 3 Try.f3 rfl rfl rfl rfl rfl rfl rfl ⟨rfl, rfl, rfl, rfl, rfl⟩ rfl rfl rfl rfl rfl (by kernel_rfl) Try.func3 (by kernel_rfl)
    (of_decide_eq_true (by kernel_rfl)) (by unfold Func.isWrapper; first | (rw [if_pos (by decide +kernel)]; kernel_rfl) | (rw [if_neg (by decide +kernel)]; exact ⟨rfl, rfl⟩))
    (fun os started H enc _ => canvasStays_lifted os started H enc)

end Go.Proofs.Ytdapakoicegdoaa
