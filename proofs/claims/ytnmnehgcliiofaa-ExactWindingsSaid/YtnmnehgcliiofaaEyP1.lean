/-
  For all closed lines and every place ExactWindings answers true and leaves its arguments as they were. No conditions.
-/
import Derived.Test.YtnmnehgcliiofaaEyD
import Derived.Test.YtnmnehgcliiofaaFrame
import Derived.Test.YtnmnehgcliiofaaFlat
namespace Go.Proofs.Ytnmnehgcliiofaa
open Go.ChangeShapes Go.WideShapes Go.ChangeAt Go.RowKit

set_option maxRecDepth 100000 in
theorem exactWindings_lifted (os : Os) (started : os.Started) (H : Type) (enc : TypeId × Value → H) :
    ReturnsInHanded {} Try.checked os 8 .any (Rows.exactWindingsSpec.pre6 enc Try.prog Try.f8 Rows.exactWindingsRow.domain false) (Rows.exactWindingsSpec.post enc Try.prog Try.f8 false true false false) := by
  refine returnsInHanded_of_change_sized (C := Try.checked) own_none started (by kernel_rfl) Try.func8
    (ChangeSpec.witness6 (enc := enc) (C := Try.checked) false ⟨#[], #[.slice none 0 0, .int .i64 0, .int .i64 0], []⟩ 8 (by kernel_rfl) (by kernel_rfl) (by kernel_rfl) (by kernel_rfl)) ?_
  intro W base args ds gs before hval0 hW _ hwt _
  have hval : ∀ (j : Nat) t v, Try.f8.params[j]? = some t → args[j]? = some v → Value.okWide Try.prog W .any base t v := hval0
  have hW' := hW
  obtain ⟨p, q, hA0, _, _, _, _⟩ := hW
  have hA : DataW.TrodAll enc Try.prog W 0 (fun _ => true) true Try.f8.params.toList args.toList ds p := hA0
  rw [Try.params8] at hA hval
  obtain ⟨v0, v1, v2, d0, d1, d2, p0, p1, p2, rfl, rfl, rfl, h0, h1, h2⟩ := trodAll_three hA
  obtain ⟨A, n, c, rfl, k0, m0, r0, s0⟩ := open_sl (eb := 24) (ks := [.sl 16 [.int .i64, .int .i64]]) Try.underlying63 (by kernel_rfl) (hval 0 _ _ rfl rfl) h0 (reach_all (ts := [63, 3, 3]) (by kernel_rfl) hwt (j := 0) rfl rfl)
  obtain ⟨px, rfl, wpx⟩ := open_num Try.underlying3 (hval 1 _ _ rfl rfl) h1
  have bpx := bounds_i64 wpx
  obtain ⟨py, rfl, wpy⟩ := open_num Try.underlying3 (hval 2 _ _ rfl rfl) h2
  have bpy := bounds_i64 wpy
  clear hA0 hval0
  obtain ⟨ls, rfl, hls⟩ := lines_of s0
  refine (ExactWindings_any (w := W) (x := px) (y := py) hls).mono fun e W' ⟨he, hb⟩ => ?_
  subst he
  exact ⟨_, rfl, law_post_any laid_out Try.underlying4 hW' (by kernel_rfl) rfl rfl rfl hb⟩

theorem exactWindings_holds : Rows.ExactWindingsSaid :=
  OpenClaim.holds_of_wide 8 Try.f8 rfl rfl rfl rfl rfl rfl rfl ⟨rfl, rfl, rfl, rfl, rfl⟩ rfl rfl rfl rfl rfl (by kernel_rfl) Try.func8 (by kernel_rfl)
    (of_decide_eq_true (by kernel_rfl)) (by unfold Func.isWrapper; first | (rw [if_pos (by decide +kernel)]; kernel_rfl) | (rw [if_neg (by decide +kernel)]; exact ⟨rfl, rfl⟩))
    (fun os started H enc _ => exactWindings_lifted os started H enc)

end Go.Proofs.Ytnmnehgcliiofaa
