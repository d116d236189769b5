/-
  For every dot, all lines and every pixel CoverNobody answers true and leaves its arguments as they were. No conditions.
-/
import Derived.Test.YtbjggiihbdhmbaaCoM
import Derived.Test.YtbjggiihbdhmbaaOpn
import Derived.Test.YtbjggiihbdhmbaaFrame
import Derived.Test.YtbjggiihbdhmbaaFlat
namespace Go.Proofs.Ytbjggiihbdhmbaa
open Go.ChangeShapes Go.WideShapes Go.ChangeAt Go.RowKit

set_option maxRecDepth 100000 in
theorem coverNobody_lifted (os : Os) (started : os.Started) (H : Type) (enc : TypeId × Value → H) :
    ReturnsInHanded {} Try.checked os 8 .any (Rows.coverNobodySpec.pre6 enc Try.prog Try.f8 Rows.coverNobodyRow.domain false) (Rows.coverNobodySpec.post enc Try.prog Try.f8 false true false false) := by
  refine returnsInHanded_of_change_sized (C := Try.checked) own_none started (by kernel_rfl) Try.func8
    (ChangeSpec.witness6 (enc := enc) (C := Try.checked) false ⟨#[], #[.agg #[.int .i64 0, .int .i64 0], .slice none 0 0, .int .i64 0, .int .i64 0], []⟩ 8 (by kernel_rfl) (by kernel_rfl) (by kernel_rfl) (by kernel_rfl)) ?_
  intro W base args ds gs before hval0 hW _ hwt _
  have hval : ∀ (j : Nat) t v, Try.f8.params[j]? = some t → args[j]? = some v → Value.okWide Try.prog W .any base t v := hval0
  have hW' := hW
  obtain ⟨p, q, hA0, _, _, _, _⟩ := hW
  have hA : DataW.TrodAll enc Try.prog W 0 (fun _ => true) true Try.f8.params.toList args.toList ds p := hA0
  rw [Try.params8] at hA hval
  obtain ⟨v0, v1, v2, v3, d0, d1, d2, d3, p0, p1, p2, p3, rfl, rfl, rfl, h0, h1, h2, h3⟩ := trodAll_four hA
  obtain ⟨cs0, rfl, l0, s0⟩ := open_st (ks := [.int .i64, .int .i64]) Try.underlying36 (by kernel_rfl) (by kernel_rfl) (hval 0 _ _ rfl rfl) h0 (reach_all (ts := [36, 60, 3, 3]) (by kernel_rfl) hwt (j := 0) rfl rfl)
  obtain ⟨A, n, c, rfl, k1, m1, r1, s1⟩ := open_sl (eb := 24) (ks := [.sl 16 [.int .i64, .int .i64]]) Try.underlying60 (by kernel_rfl) (hval 1 _ _ rfl rfl) h1 (reach_all (ts := [36, 60, 3, 3]) (by kernel_rfl) hwt (j := 1) rfl rfl)
  obtain ⟨px0, rfl, wpx0⟩ := open_num Try.underlying3 (hval 2 _ _ rfl rfl) h2
  have bpx0 := bounds_i64 wpx0
  obtain ⟨py0, rfl, wpy0⟩ := open_num Try.underlying3 (hval 3 _ _ rfl rfl) h3
  have bpy0 := bounds_i64 wpy0
  clear hA0 hval0
  obtain ⟨px, py, rfl⟩ := dot_of l0 s0
  refine (coverNobody_any (px, py) A n c px0 py0 W).mono fun e W' ⟨he, hb⟩ => ?_
  subst he
  exact ⟨_, rfl, law_post_any laid_out Try.underlying4 hW' (by kernel_rfl) rfl rfl rfl hb⟩

theorem coverNobody_holds : Rows.CoverNobodySaid :=
  OpenClaim.holds_of_wide 8 Try.f8 rfl rfl rfl rfl rfl rfl rfl ⟨rfl, rfl, rfl, rfl, rfl⟩ rfl rfl rfl rfl rfl (by kernel_rfl) Try.func8 (by kernel_rfl)
    (of_decide_eq_true (by kernel_rfl)) (by unfold Func.isWrapper; first | (rw [if_pos (by decide +kernel)]; kernel_rfl) | (rw [if_neg (by decide +kernel)]; exact ⟨rfl, rfl⟩))
    (fun os started H enc _ => coverNobody_lifted os started H enc)

end Go.Proofs.Ytbjggiihbdhmbaa
