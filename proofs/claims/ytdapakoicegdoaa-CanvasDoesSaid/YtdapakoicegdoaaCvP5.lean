/-
  For every width, height and byte and every list of calls CanvasDoes answers true and leaves its arguments as they were. No conditions.
-/
import Derived.Test.YtdapakoicegdoaaCxJ
import Derived.Test.YtdapakoicegdoaaFrame
import Derived.Test.YtdapakoicegdoaaFlat
namespace Go.Proofs.Ytdapakoicegdoaa
open Go.ChangeShapes Go.WideShapes Go.ChangeAt Go.RowKit

set_option maxRecDepth 100000 in
theorem canvasDoes_lifted (os : Os) (started : os.Started) (H : Type) (enc : TypeId × Value → H) :
    ReturnsInHanded {} Try.checked os 6 .any (Rows.canvasDoesSpec.pre6 enc Try.prog Try.f6 Rows.canvasDoesRow.domain false) (Rows.canvasDoesSpec.post enc Try.prog Try.f6 false true false false) := by
  refine returnsInHanded_of_change_sized (C := Try.checked) own_none started (by kernel_rfl) Try.func6
    (ChangeSpec.witness6 (enc := enc) (C := Try.checked) false ⟨#[], #[.int .i64 0, .int .i64 0, .int .i64 0, .slice none 0 0], []⟩ 8 (by kernel_rfl) (by kernel_rfl) (by kernel_rfl) (by kernel_rfl)) ?_
  intro W base args ds gs before hval0 hW _ hwt _
  have hval : ∀ (j : Nat) t v, Try.f6.params[j]? = some t → args[j]? = some v → Value.okWide Try.prog W .any base t v := hval0
  have hW' := hW
  obtain ⟨p, q, hA0, _, _, _, _⟩ := hW
  have hA : DataW.TrodAll enc Try.prog W 0 (fun _ => true) true Try.f6.params.toList args.toList ds p := hA0
  rw [Try.params6] at hA hval
  obtain ⟨v0, v1, v2, v3, d0, d1, d2, d3, p0, p1, p2, p3, rfl, rfl, rfl, h0, h1, h2, h3⟩ := trodAll_four hA
  obtain ⟨wi, rfl, wwi⟩ := open_num Try.underlying3 (hval 0 _ _ rfl rfl) h0
  have bwi := bounds_i64 wwi
  obtain ⟨he, rfl, whe⟩ := open_num Try.underlying3 (hval 1 _ _ rfl rfl) h1
  have bhe := bounds_i64 whe
  obtain ⟨co, rfl, wco⟩ := open_num Try.underlying3 (hval 2 _ _ rfl rfl) h2
  have bco := bounds_i64 wco
  obtain ⟨A, n, c, rfl, k3, m3, r3, s3⟩ := open_sl (eb := 120) (ks := [.int .i64, .int .i64, .int .i64, .int .i64, .int .i64, .sl 1 [.int .u8], .int .i64, .int .i64, .int .i64, .int .i64, .int .i64, .int .i64, .int .i64]) Try.underlying48 (by kernel_rfl) (hval 3 _ _ rfl rfl) h3 (reach_all (ts := [3, 3, 3, 48]) (by kernel_rfl) hwt (j := 3) rfl rfl)
  clear hA0 hval0
  obtain ⟨os', hol, hoc⟩ := calls_of s3
  refine (canvasDoes_any hol hoc).mono fun e W' ⟨hx, hb⟩ => ?_
  have he := hx
  subst he
  exact ⟨_, rfl, law_post_any laid_out Try.underlying4 hW' (by kernel_rfl) rfl rfl rfl hb⟩

theorem canvasDoes_holds : Rows.CanvasDoesSaid :=
  OpenClaim.holds_of_wide 6 Try.f6 rfl rfl rfl rfl rfl rfl rfl ⟨rfl, rfl, rfl, rfl, rfl⟩ rfl rfl rfl rfl rfl (by kernel_rfl) Try.func6 (by kernel_rfl)
    (of_decide_eq_true (by kernel_rfl)) (by unfold Func.isWrapper; first | (rw [if_pos (by decide +kernel)]; kernel_rfl) | (rw [if_neg (by decide +kernel)]; exact ⟨rfl, rfl⟩))
    (fun os started H enc _ => canvasDoes_lifted os started H enc)

end Go.Proofs.Ytdapakoicegdoaa
