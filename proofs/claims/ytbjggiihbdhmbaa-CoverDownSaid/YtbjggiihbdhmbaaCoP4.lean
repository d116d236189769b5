/-
  For every box and every two dots CoverDown answers true and leaves its arguments as they were. No conditions.
-/
import Derived.Test.YtbjggiihbdhmbaaCpF
import Derived.Test.YtbjggiihbdhmbaaOpn
import Derived.Test.YtbjggiihbdhmbaaFrame
import Derived.Test.YtbjggiihbdhmbaaFlat
namespace Go.Proofs.Ytbjggiihbdhmbaa
open Go.ChangeShapes Go.WideShapes Go.ChangeAt Go.RowKit

set_option maxRecDepth 100000 in
theorem coverDown_lifted (os : Os) (started : os.Started) (H : Type) (enc : TypeId × Value → H) :
    ReturnsInHanded {} Try.checked os 5 .any (Rows.coverDownSpec.pre6 enc Try.prog Try.f5 Rows.coverDownRow.domain false) (Rows.coverDownSpec.post enc Try.prog Try.f5 false true false false) := by
  refine returnsInHanded_of_change_sized (C := Try.checked) own_none started (by kernel_rfl) Try.func5
    (ChangeSpec.witness6 (enc := enc) (C := Try.checked) false ⟨#[], #[.agg #[.int .i64 0, .int .i64 0, .int .i64 0, .int .i64 0], .agg #[.int .i64 0, .int .i64 0], .agg #[.int .i64 0, .int .i64 0]], []⟩ 8 (by kernel_rfl) (by kernel_rfl) (by kernel_rfl) (by kernel_rfl)) ?_
  intro W base args ds gs before hval0 hW _ hwt _
  have hval : ∀ (j : Nat) t v, Try.f5.params[j]? = some t → args[j]? = some v → Value.okWide Try.prog W .any base t v := hval0
  have hW' := hW
  obtain ⟨p, q, hA0, _, _, _, _⟩ := hW
  have hA : DataW.TrodAll enc Try.prog W 0 (fun _ => true) true Try.f5.params.toList args.toList ds p := hA0
  rw [Try.params5] at hA hval
  obtain ⟨v0, v1, v2, d0, d1, d2, p0, p1, p2, rfl, rfl, rfl, h0, h1, h2⟩ := trodAll_three hA
  obtain ⟨cs0, rfl, l0, s0⟩ := open_st (ks := [.int .i64, .int .i64, .int .i64, .int .i64]) Try.underlying23 (by kernel_rfl) (by kernel_rfl) (hval 0 _ _ rfl rfl) h0 (reach_all (ts := [23, 36, 36]) (by kernel_rfl) hwt (j := 0) rfl rfl)
  obtain ⟨cs1, rfl, l1, s1⟩ := open_st (ks := [.int .i64, .int .i64]) Try.underlying36 (by kernel_rfl) (by kernel_rfl) (hval 1 _ _ rfl rfl) h1 (reach_all (ts := [23, 36, 36]) (by kernel_rfl) hwt (j := 1) rfl rfl)
  obtain ⟨cs2, rfl, l2, s2⟩ := open_st (ks := [.int .i64, .int .i64]) Try.underlying36 (by kernel_rfl) (by kernel_rfl) (hval 2 _ _ rfl rfl) h2 (reach_all (ts := [23, 36, 36]) (by kernel_rfl) hwt (j := 2) rfl rfl)
  clear hA0 hval0
  obtain ⟨x0, y0, x1, y1, rfl⟩ := box_of l0 s0
  obtain ⟨px, py, rfl⟩ := dot_of l1 s1
  obtain ⟨qx, qy, rfl⟩ := dot_of l2 s2
  refine (coverDown_any ⟨x0, y0, x1, y1⟩ (px, py) (qx, qy) W).mono fun e W' ⟨he, hb⟩ => ?_
  subst he
  exact ⟨_, rfl, law_post_any laid_out Try.underlying4 hW' (by kernel_rfl) rfl rfl rfl hb⟩

theorem coverDown_holds : Rows.CoverDownSaid :=
  OpenClaim.holds_of_wide 5 Try.f5 rfl rfl rfl rfl rfl rfl rfl ⟨rfl, rfl, rfl, rfl, rfl⟩ rfl rfl rfl rfl rfl (by kernel_rfl) Try.func5 (by kernel_rfl)
    (of_decide_eq_true (by kernel_rfl)) (by unfold Func.isWrapper; first | (rw [if_pos (by decide +kernel)]; kernel_rfl) | (rw [if_neg (by decide +kernel)]; exact ⟨rfl, rfl⟩))
    (fun os started H enc _ => coverDown_lifted os started H enc)

end Go.Proofs.Ytbjggiihbdhmbaa
