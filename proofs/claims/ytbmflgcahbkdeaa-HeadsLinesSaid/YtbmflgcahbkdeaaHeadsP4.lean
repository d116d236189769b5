/-
  For all lines and every slice of bytes HeadsLines answers true and leaves its arguments as they were. No conditions.
-/
import Derived.Test.YtbmflgcahbkdeaaHeadsAD
import Derived.Test.YtbmflgcahbkdeaaFrame
import Derived.Test.YtbmflgcahbkdeaaFlat
import Derived.Test.YtbmflgcahbkdeaaLists
namespace Go.Proofs.Ytbmflgcahbkdeaa
open Go.ChangeShapes Go.WideShapes Go.ChangeAt Go.RowKit

set_option maxRecDepth 100000 in
theorem headsLines_lifted (os : Os) (started : os.Started) (H : Type) (enc : TypeId × Value → H) :
    ReturnsInHanded {} Try.checked os 10 .any (Rows.headsLinesSpec.pre6 enc Try.prog Try.f10 Rows.headsLinesRow.domain false) (Rows.headsLinesSpec.post enc Try.prog Try.f10 false true false false) := by
  refine returnsInHanded_of_change_sized (C := Try.checked) own_none started (by kernel_rfl) Try.func10
    (ChangeSpec.witness6 (enc := enc) (C := Try.checked) false ⟨#[], #[.agg #[.int .i64 0, .int .i64 0, .int .i64 0, .int .i64 0], .slice none 0 0], []⟩ 8 (by kernel_rfl) (by kernel_rfl) (by kernel_rfl) (by kernel_rfl)) ?_
  intro W base args ds gs before hval0 hW _ hwt _
  have hval : ∀ (j : Nat) t v, Try.f10.params[j]? = some t → args[j]? = some v → Value.okWide Try.prog W .any base t v := hval0
  have hW' := hW
  obtain ⟨p, q, hA0, _, _, _, _⟩ := hW
  have hA : DataW.TrodAll enc Try.prog W 0 (fun _ => true) true Try.f10.params.toList args.toList ds p := hA0
  rw [Try.params10] at hA hval
  obtain ⟨v0, v1, d0, d1, p0, p1, rfl, rfl, rfl, h0, h1⟩ := trodAll_two hA
  obtain ⟨cs0, rfl, l0, s0⟩ := open_st (ks := [.int .i64, .int .i64, .int .i64, .int .i64]) Try.underlying69 (by kernel_rfl) (by kernel_rfl) (hval 0 _ _ rfl rfl) h0 (reach_all (ts := [69, 22]) (by kernel_rfl) hwt (j := 0) rfl rfl)
  obtain ⟨A, n, c, rfl, k1, m1, r1, s1⟩ := open_sl (eb := 1) (ks := [.int .u8]) Try.underlying22 (by kernel_rfl) (hval 1 _ _ rfl rfl) h1 (reach_all (ts := [69, 22]) (by kernel_rfl) hwt (j := 1) rfl rfl)
  clear hA0 hval0
  simp only [CellsOk, CellOk, and_true] at s0
  obtain ⟨⟨x0, q0, la, rfl, _⟩, ⟨x1, q1, ld, rfl, _⟩, ⟨x2, q2, lg, rfl, _⟩, ⟨x3, q3, lm, rfl, _⟩⟩ := s0
  obtain rfl : cs0 = [.int .i64 la, .int .i64 ld, .int .i64 lg, .int .i64 lm] := by
    have e := l0
    simp only [List.length_cons, List.length_nil, Nat.zero_add, Nat.reduceAdd] at e
    refine list_4 e ?_
    exact ⟨q0, q1, q2, q3⟩
  obtain ⟨bs, rfl, hB, hBs⟩ := arg_bytes Try.underlying22 (hval 1 _ _ rfl rfl) k1 m1 r1 s1
  refine (lines_any W la ld lg lm A bs c hB hBs).mono fun e W' ⟨he, hb⟩ => ?_
  subst he
  exact ⟨_, rfl, law_post_any laid_out Try.underlying4 hW' (by kernel_rfl) rfl rfl rfl hb⟩

theorem headsLines_holds : Rows.HeadsLinesSaid :=
  OpenClaim.holds_of_wide 10 Try.f10 rfl rfl rfl rfl rfl rfl rfl ⟨rfl, rfl, rfl, rfl, rfl⟩ rfl rfl rfl rfl rfl (by kernel_rfl) Try.func10 (by kernel_rfl)
    (of_decide_eq_true (by kernel_rfl)) (by unfold Func.isWrapper; first | (rw [if_pos (by decide +kernel)]; kernel_rfl) | (rw [if_neg (by decide +kernel)]; exact ⟨rfl, rfl⟩))
    (fun os started H enc _ => headsLines_lifted os started H enc)

end Go.Proofs.Ytbmflgcahbkdeaa
