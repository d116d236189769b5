/-
  For all dots and boxes ExactTouches answers true and leaves its arguments as they were. No conditions.
-/
import Derived.Test.YtnmnehgcliiofaaEyF
import Derived.Test.YtnmnehgcliiofaaFrame
import Derived.Test.YtnmnehgcliiofaaFlat
namespace Go.Proofs.Ytnmnehgcliiofaa
open Go.ChangeShapes Go.WideShapes Go.ChangeAt Go.RowKit

theorem dot_of {W : World} {cs : List Value} (hl : cs.length = 2) (h : CellsOk W [.int .i64, .int .i64] (fun j => cs[j]?)) : ∃ a b, cs = [.int .i64 a, .int .i64 b] := by
  simp only [CellsOk, and_true, Nat.add_zero] at h
  obtain ⟨⟨u, hu, ku⟩, v, hv, kv⟩ := h
  simp only [CellOk] at ku kv
  obtain ⟨x, rfl, -⟩ := ku
  obtain ⟨y, rfl, -⟩ := kv
  match cs, hl with
  | [p, q], _ =>
    simp at hu hv
    exact ⟨x, y, by rw [hu, hv]⟩
theorem box_of {W : World} {cs : List Value} (hl : cs.length = 4) (h : CellsOk W [.int .i64, .int .i64, .int .i64, .int .i64] (fun j => cs[j]?)) : ∃ a b c d, cs = [.int .i64 a, .int .i64 b, .int .i64 c, .int .i64 d] := by
  simp only [CellsOk, and_true, Nat.add_zero] at h
  obtain ⟨⟨u, hu, ku⟩, ⟨v, hv, kv⟩, ⟨s, hs, ks⟩, t, ht, kt⟩ := h
  simp only [CellOk] at ku kv ks kt
  obtain ⟨x, rfl, -⟩ := ku
  obtain ⟨y, rfl, -⟩ := kv
  obtain ⟨z, rfl, -⟩ := ks
  obtain ⟨o, rfl, -⟩ := kt
  match cs, hl with
  | [p, q, r, m], _ =>
    simp at hu hv hs ht
    exact ⟨x, y, z, o, by rw [hu, hv, hs, ht]⟩

set_option maxRecDepth 100000 in
theorem exactTouches_lifted (os : Os) (started : os.Started) (H : Type) (enc : TypeId × Value → H) :
    ReturnsInHanded {} Try.checked os 9 .any (Rows.exactTouchesSpec.pre6 enc Try.prog Try.f9 Rows.exactTouchesRow.domain false) (Rows.exactTouchesSpec.post enc Try.prog Try.f9 false true false false) := by
  refine returnsInHanded_of_change_sized (C := Try.checked) own_none started (by kernel_rfl) Try.func9
    (ChangeSpec.witness6 (enc := enc) (C := Try.checked) false ⟨#[], #[.agg #[.int .i64 0, .int .i64 0], .agg #[.int .i64 0, .int .i64 0], .agg #[.int .i64 0, .int .i64 0, .int .i64 0, .int .i64 0]], []⟩ 8 (by kernel_rfl) (by kernel_rfl) (by kernel_rfl) (by kernel_rfl)) ?_
  intro W base args ds gs before hval0 hW _ hwt _
  have hval : ∀ (j : Nat) t v, Try.f9.params[j]? = some t → args[j]? = some v → Value.okWide Try.prog W .any base t v := hval0
  have hW' := hW
  obtain ⟨p, q, hA0, _, _, _, _⟩ := hW
  have hA : DataW.TrodAll enc Try.prog W 0 (fun _ => true) true Try.f9.params.toList args.toList ds p := hA0
  rw [Try.params9] at hA hval
  obtain ⟨v0, v1, v2, d0, d1, d2, p0, p1, p2, rfl, rfl, rfl, h0, h1, h2⟩ := trodAll_three hA
  obtain ⟨cs0, rfl, l0, s0⟩ := open_st (ks := [.int .i64, .int .i64]) Try.underlying72 (by kernel_rfl) (by kernel_rfl) (hval 0 _ _ rfl rfl) h0 (reach_all (ts := [72, 72, 32]) (by kernel_rfl) hwt (j := 0) rfl rfl)
  obtain ⟨cs1, rfl, l1, s1⟩ := open_st (ks := [.int .i64, .int .i64]) Try.underlying72 (by kernel_rfl) (by kernel_rfl) (hval 1 _ _ rfl rfl) h1 (reach_all (ts := [72, 72, 32]) (by kernel_rfl) hwt (j := 1) rfl rfl)
  obtain ⟨cs2, rfl, l2, s2⟩ := open_st (ks := [.int .i64, .int .i64, .int .i64, .int .i64]) Try.underlying32 (by kernel_rfl) (by kernel_rfl) (hval 2 _ _ rfl rfl) h2 (reach_all (ts := [72, 72, 32]) (by kernel_rfl) hwt (j := 2) rfl rfl)
  clear hA0 hval0
  obtain ⟨ax, ay, rfl⟩ := dot_of l0 s0
  obtain ⟨dx, dy, rfl⟩ := dot_of l1 s1
  obtain ⟨b0, b1, b2, b3, rfl⟩ := box_of l2 s2
  refine (ExactTouches_any (w := W) (ax := ax) (ay := ay) (dx := dx) (dy := dy) (b0 := b0) (b1 := b1) (b2 := b2) (b3 := b3)).mono fun e W' ⟨he, hb⟩ => ?_
  subst he
  exact ⟨_, rfl, law_post_any laid_out Try.underlying4 hW' (by kernel_rfl) rfl rfl rfl hb⟩

theorem exactTouches_holds : Rows.ExactTouchesSaid :=
  OpenClaim.holds_of_wide 9 Try.f9 rfl rfl rfl rfl rfl rfl rfl ⟨rfl, rfl, rfl, rfl, rfl⟩ rfl rfl rfl rfl rfl (by kernel_rfl) Try.func9 (by kernel_rfl)
    (of_decide_eq_true (by kernel_rfl)) (by unfold Func.isWrapper; first | (rw [if_pos (by decide +kernel)]; kernel_rfl) | (rw [if_neg (by decide +kernel)]; exact ⟨rfl, rfl⟩))
    (fun os started H enc _ => exactTouches_lifted os started H enc)

end Go.Proofs.Ytnmnehgcliiofaa
