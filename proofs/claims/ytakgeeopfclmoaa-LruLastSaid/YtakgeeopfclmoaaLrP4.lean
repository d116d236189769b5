/-
  For every budget, every list of calls and every key LruLast answers true and leaves its arguments as they were. No conditions.
-/
import Derived.Test.YtakgeeopfclmoaaLrXb
import Derived.Test.YtakgeeopfclmoaaFrame
import Derived.Test.YtakgeeopfclmoaaFlat
namespace Go.Proofs.Ytakgeeopfclmoaa
open Go.ChangeShapes Go.WideShapes Go.ChangeAt Go.RowKit

set_option maxRecDepth 100000 in
theorem lruLast_lifted (os : Os) (started : os.Started) (H : Type) (enc : TypeId × Value → H) :
    ReturnsInHanded {} Try.checked os 3 .any (Rows.lruLastSpec.pre6 enc Try.prog Try.f3 Rows.lruLastRow.domain false) (Rows.lruLastSpec.post enc Try.prog Try.f3 false true false false) := by
  refine returnsInHanded_of_change_sized (C := Try.checked) own_none started (by kernel_rfl) Try.func3
    (ChangeSpec.witness6 (enc := enc) (C := Try.checked) false ⟨#[], #[.int .i64 0, .slice none 0 0, .agg #[.int .i64 0, .int .i64 0, .int .i64 0, .int .i64 0]], []⟩ 8 (by kernel_rfl) (by kernel_rfl) (by kernel_rfl) (by kernel_rfl)) ?_
  intro W base args ds gs before hval0 hW _ hwt _
  have hval : ∀ (j : Nat) t v, Try.f3.params[j]? = some t → args[j]? = some v → Value.okWide Try.prog W .any base t v := hval0
  have hW' := hW
  obtain ⟨p, q, hA0, _, _, _, _⟩ := hW
  have hA : DataW.TrodAll enc Try.prog W 0 (fun _ => true) true Try.f3.params.toList args.toList ds p := hA0
  rw [Try.params3] at hA hval
  obtain ⟨v0, v1, v2, d0, d1, d2, p0, p1, p2, rfl, rfl, rfl, h0, h1, h2⟩ := trodAll_three hA
  obtain ⟨bu, rfl, wbu⟩ := open_num Try.underlying3 (hval 0 _ _ rfl rfl) h0
  have bbu := bounds_i64 wbu
  obtain ⟨A, n, c, rfl, k1, m1, r1, s1⟩ := open_sl (eb := 104) (ks := [.int .i64, .int .i64, .int .i64, .int .i64, .int .i64, .int .i64, .int .i64, .int .i64, .int .i64, .sl 1 [.int .u8], .int .i64]) Try.underlying22 (by kernel_rfl) (hval 1 _ _ rfl rfl) h1 (reach_all (ts := [3, 22, 24]) (by kernel_rfl) hwt (j := 1) rfl rfl)
  obtain ⟨cs2, rfl, l2, s2⟩ := open_st (ks := [.int .i64, .int .i64, .int .i64, .int .i64]) Try.underlying24 (by kernel_rfl) (by kernel_rfl) (hval 2 _ _ rfl rfl) h2 (reach_all (ts := [3, 22, 24]) (by kernel_rfl) hwt (j := 2) rfl rfl)
  clear hA0 hval0
  obtain ⟨os', hol, hoc⟩ := calls_of s1
  obtain ⟨k, rfl, hkw⟩ := key_of l2 s2
  refine (lruLast_any bu hol hoc k1 k hkw).mono fun e W' ⟨he, hb⟩ => ?_
  subst he
  exact ⟨_, rfl, law_post_any laid_out Try.underlying4 hW' (by kernel_rfl) rfl rfl rfl hb⟩

theorem lruLast_holds : Rows.LruLastSaid :=
  OpenClaim.holds_of_wide 3 Try.f3 rfl rfl rfl rfl rfl rfl rfl ⟨rfl, rfl, rfl, rfl, rfl⟩ rfl rfl rfl rfl rfl (by kernel_rfl) Try.func3 (by kernel_rfl)
    (of_decide_eq_true (by kernel_rfl)) (by unfold Func.isWrapper; first | (rw [if_pos (by decide +kernel)]; kernel_rfl) | (rw [if_neg (by decide +kernel)]; exact ⟨rfl, rfl⟩))
    (fun os started H enc _ => lruLast_lifted os started H enc)

end Go.Proofs.Ytakgeeopfclmoaa
