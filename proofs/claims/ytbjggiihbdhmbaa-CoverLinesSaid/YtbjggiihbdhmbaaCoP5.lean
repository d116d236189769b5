/-
  For every box, all dots and every stop CoverLines answers true and leaves its arguments as they were. No conditions.
-/
import Derived.Test.YtbjggiihbdhmbaaCqL
import Derived.Test.YtbjggiihbdhmbaaOpn
import Derived.Test.YtbjggiihbdhmbaaFrame
import Derived.Test.YtbjggiihbdhmbaaFlat
namespace Go.Proofs.Ytbjggiihbdhmbaa
open Go.ChangeShapes Go.WideShapes Go.ChangeAt Go.RowKit

set_option maxRecDepth 100000 in
theorem coverLines_lifted (os : Os) (started : os.Started) (H : Type) (enc : TypeId × Value → H) :
    ReturnsInHanded {} Try.checked os 3 .any (Rows.coverLinesSpec.pre6 enc Try.prog Try.f3 Rows.coverLinesRow.domain false) (Rows.coverLinesSpec.post enc Try.prog Try.f3 false true false false) := by
  refine returnsInHanded_of_change_sized (C := Try.checked) own_none started (by kernel_rfl) Try.func3
    (ChangeSpec.witness6 (enc := enc) (C := Try.checked) false ⟨#[], #[.agg #[.int .i64 0, .int .i64 0, .int .i64 0, .int .i64 0], .slice none 0 0, .int .i64 0], []⟩ 8 (by kernel_rfl) (by kernel_rfl) (by kernel_rfl) (by kernel_rfl)) ?_
  intro W base args ds gs before hval0 hW _ hwt _
  have hval : ∀ (j : Nat) t v, Try.f3.params[j]? = some t → args[j]? = some v → Value.okWide Try.prog W .any base t v := hval0
  have hW' := hW
  obtain ⟨p, q, hA0, _, _, _, _⟩ := hW
  have hA : DataW.TrodAll enc Try.prog W 0 (fun _ => true) true Try.f3.params.toList args.toList ds p := hA0
  rw [Try.params3] at hA hval
  obtain ⟨v0, v1, v2, d0, d1, d2, p0, p1, p2, rfl, rfl, rfl, h0, h1, h2⟩ := trodAll_three hA
  obtain ⟨cs0, rfl, l0, s0⟩ := open_st (ks := [.int .i64, .int .i64, .int .i64, .int .i64]) Try.underlying23 (by kernel_rfl) (by kernel_rfl) (hval 0 _ _ rfl rfl) h0 (reach_all (ts := [23, 24, 3]) (by kernel_rfl) hwt (j := 0) rfl rfl)
  obtain ⟨A, n, c, rfl, k1, m1, r1, s1⟩ := open_sl (eb := 16) (ks := [.int .i64, .int .i64]) Try.underlying24 (by kernel_rfl) (hval 1 _ _ rfl rfl) h1 (reach_all (ts := [23, 24, 3]) (by kernel_rfl) hwt (j := 1) rfl rfl)
  obtain ⟨stop, rfl, wstop⟩ := open_num Try.underlying3 (hval 2 _ _ rfl rfl) h2
  have bstop := bounds_i64 wstop
  clear hA0 hval0
  obtain ⟨x0, y0, x1, y1, rfl⟩ := box_of l0 s0
  obtain ⟨ds, rfl, hds⟩ := dots_of s1
  refine (coverLines_any ⟨x0, y0, x1, y1⟩ A ds c stop W hds (by omega)).mono fun e W' ⟨he, hb⟩ => ?_
  subst he
  exact ⟨_, rfl, law_post_any laid_out Try.underlying4 hW' (by kernel_rfl) rfl rfl rfl hb⟩

theorem coverLines_holds : Rows.CoverLinesSaid :=
  OpenClaim.holds_of_wide 3 Try.f3 rfl rfl rfl rfl rfl rfl rfl ⟨rfl, rfl, rfl, rfl, rfl⟩ rfl rfl rfl rfl rfl (by kernel_rfl) Try.func3 (by kernel_rfl)
    (of_decide_eq_true (by kernel_rfl)) (by unfold Func.isWrapper; first | (rw [if_pos (by decide +kernel)]; kernel_rfl) | (rw [if_neg (by decide +kernel)]; exact ⟨rfl, rfl⟩))
    (fun os started H enc _ => coverLines_lifted os started H enc)

end Go.Proofs.Ytbjggiihbdhmbaa
