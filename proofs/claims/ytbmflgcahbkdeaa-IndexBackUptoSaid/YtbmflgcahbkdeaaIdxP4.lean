/-
  For all lists, all bytes behind them and every number of rounds, together of bulk at most 1048576, IndexBack answers true and leaves its arguments as they were.
-/
import Derived.Test.YtbmflgcahbkdeaaIdxT
import Derived.Test.YtbmflgcahbkdeaaFrame
import Derived.Test.YtbmflgcahbkdeaaFlat
import Derived.Test.YtbmflgcahbkdeaaBulk
import Derived.JoinedCond
import Derived.Deep.CondSized
namespace Go.Proofs.Ytbmflgcahbkdeaa
open Go.ChangeShapes Go.WideShapes Go.ChangeAt Go.RowKit

set_option maxRecDepth 100000 in
theorem indexBack_lifted (os : Os) (started : os.Started) (H : Type) (enc : TypeId × Value → H) (F : Stop.Interp) :
    ReturnsInHanded {} Try.checked os 5 .any ((Rows.OpenSpec.upto Rows.indexBackSpec).pre6 enc Try.prog Try.f5 Rows.indexBackUptoRow.domain false) (((Rows.OpenSpec.upto Rows.indexBackSpec).at F).post enc Try.prog Try.f5 false true false false) := by
  refine returnsInHanded_of_cond_sized (C := Try.checked) (s := Rows.OpenSpec.upto Rows.indexBackSpec) (k := Rows.uptoSmall) rfl own_none started (by kernel_rfl) Try.func5
    (OpenSpec.witness (enc := enc) (C := Try.checked) (s := Rows.OpenSpec.upto Rows.indexBackSpec) (k := Rows.uptoSmall) rfl false ⟨#[], #[.slice none 0 0, .slice none 0 0, .int .i64 0], []⟩ 8 (by kernel_rfl) (by kernel_rfl) (by kernel_rfl) (x := ([.nil, .nil, .lit (.int .i64 0)], [], [])) (by kernel_rfl) rfl (by kernel_rfl)) ?_
  intro W base args ds gs before hval0 hW _ hk hwt _
  have hval : ∀ (j : Nat) t v, Try.f5.params[j]? = some t → args[j]? = some v → Value.okWide Try.prog W .any base t v := hval0
  have hW' := hW
  obtain ⟨p, q, hA0, _, _, _, _⟩ := hW
  have hA : DataW.TrodAll enc Try.prog W 0 (fun _ => true) true Try.f5.params.toList args.toList ds p := hA0
  rw [Try.params5] at hA hval
  obtain ⟨v0, v1, v2, d0, d1, d2, p0, p1, p2, rfl, rfl, rfl, h0, h1, h2⟩ := trodAll_three hA
  obtain ⟨A, n, c, rfl, k0, m0, r0, s0⟩ := open_sl (eb := 24) (ks := [.sl 1 [.int .u8]]) Try.underlying28 (by kernel_rfl) (hval 0 _ _ rfl rfl) h0 (reach_all (ts := [28, 22, 3]) (by kernel_rfl) hwt (j := 0) rfl rfl)
  obtain ⟨Ab, m, cb, rfl, k1, m1, r1, s1⟩ := open_sl (eb := 1) (ks := [.int .u8]) Try.underlying22 (by kernel_rfl) (hval 1 _ _ rfl rfl) h1 (reach_all (ts := [28, 22, 3]) (by kernel_rfl) hwt (j := 1) rfl rfl)
  obtain ⟨stop, rfl, wstop⟩ := open_num Try.underlying3 (hval 2 _ _ rfl rfl) h2
  have bstop := bounds_i64 wstop
  clear hA0 hval0
  obtain ⟨ls, rfl, hls⟩ := arg_lists s0
  have hbulk := Nat.le_trans (bulk_sl Try.underlying22 h1) (bulk_arg hk (i := 1) rfl)
  obtain ⟨bs, rfl, hB, hBs⟩ := arg_bytes Try.underlying22 (hval 1 _ _ rfl rfl) k1 m1 r1 s1
  refine (indexBack_any W A Ab ls bs c cb stop hls hB (by omega)).mono fun e W' ⟨he, hb⟩ => ?_
  subst he
  exact ⟨_, rfl, law_post_any laid_out Try.underlying4 hW' (by kernel_rfl) rfl rfl rfl hb⟩

theorem indexBack_holds : Rows.IndexBackUptoSaid :=
  OpenClaim.holds_of_cond 5 Try.f5 rfl rfl rfl rfl rfl rfl rfl ⟨rfl, rfl, rfl, rfl, rfl⟩ rfl rfl rfl rfl rfl (by kernel_rfl) Try.func5 (by kernel_rfl)
    (of_decide_eq_true (by kernel_rfl)) (by unfold Func.isWrapper; first | (rw [if_pos (by decide +kernel)]; kernel_rfl) | (rw [if_neg (by decide +kernel)]; exact ⟨rfl, rfl⟩))
    (fun os started H enc _ F => indexBack_lifted os started H enc F)

end Go.Proofs.Ytbmflgcahbkdeaa
