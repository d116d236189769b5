/-
  For every number and every list of tables SfntWhole answers true and leaves its arguments as they were. No conditions.
  Layer 04: the law SfntWhole, walked.
-/
import Derived.Test.YtejombofjakllaaSfGm
import Derived.Test.YtejombofjakllaaBs
namespace Go.Proofs.Ytejombofjakllaa
open Go.RowKit Go.Shelf

set_option maxRecDepth 20000 in
set_option maxHeartbeats 2000000 in
theorem whole_law {w : World} {A : Option Addr} {n c : Nat} {es : List Bm} (v : Int) (h : BlL w A n es) (hm : n ≤ 140737488355328) :
    Calls Try.prog 6 #[.int .i64 v, .slice A n c] w fun e w' => e = .returned (.bool true) ∧ Below w.heap.size w w' := by
  have HL := Lib.hid (large_any (c := c) h)
  rcases Bool.eq_false_or_eq_true (largeB (es.map bmS)) with hL | hL
  · rw [hL] at HL
    clear hL h
    go_enter Try.func6, Try.ntmps6
    go_wp2_with (first
      | (go_at_call 8; (with_reducible refine HL.out.mono ?_); rintro e w1 ⟨rfl, rfl⟩)
      | (go_at_call 9; (with_reducible refine (lives_any _).mono ?_); rintro e w3 ⟨rfl, hb⟩; have HB := Lib.hid hb; clear hb)
      | fail)
    go_ret
    exact ⟨rfl, HB.out⟩
  rw [hL] at HL
  have hbd := Build_any (c := c) v h hm
  obtain ⟨l, hll⟩ : ∃ l, es.map bmS = l := ⟨_, rfl⟩
  rw [hll] at hbd
  clear hL hll h
  by_cases h0 : chkS v l = 0
  case neg =>
    obtain ⟨x, hx⟩ : ∃ x, chkS v l = x := ⟨_, rfl⟩
    have hx0 : (x != 0) = true := by simp; rw [← hx]; exact h0
    have hx1 : (x == 0) = false := by simp; rw [← hx]; exact h0
    have hN : buildS v l = [] := by unfold buildS; rw [if_neg h0]
    rw [hN, hx] at hbd
    have HBD : Hid (Calls Try.prog 10 #[.int .i64 v, .slice A n c] w fun e w' => ∃ A' c', e = .returned (.tuple #[.slice A' 0 c', .int .i64 x]) ∧ Below w.heap.size w w') := Lib.hid (hbd.mono fun e w' ⟨A', c', he, _, _, hb⟩ => ⟨A', c', he, hb⟩)
    have HF : Hid (∀ (W : World) (A' : Option Addr) (c' : Nat), Calls Try.prog 14 #[.slice A' 0 c', .string ⟨#[104, 101, 97, 100]⟩] W fun e w' => e = .returned (.tuple #[.slice none 0 0, .int .i64 30]) ∧ W = w') := Lib.hid fun (W : World) (A' : Option Addr) (c' : Nat) => Find_short (w := W) (A := A') (c := c') (tag := headT) (n := 0) (by omega)
    clear hbd hN hx h0
    go_enter Try.func6, Try.ntmps6
    go_wp2_with (first
      | (go_at_call 8; (with_reducible refine HL.out.mono ?_); rintro e w1 ⟨rfl, rfl⟩)
      | (go_at_call 10; (with_reducible refine HBD.out.mono ?_); rintro e w2 ⟨A', c', rfl, hb⟩; have HB2 := Lib.hid hb; clear hb)
      | (go_at_call 14; (with_reducible refine (HF.out _ _ _).mono ?_); rintro e w3 ⟨rfl, rfl⟩)
      | (go_at_call 9; (with_reducible refine (lives_any w2).mono ?_); rintro e w3 ⟨rfl, hb⟩; have HB3 := Lib.hid (HB2.out.trans (hb.mono HB2.out.size)); clear hb)
      | (go_at_call 9; (with_reducible refine (lives_any w3).mono ?_); rintro e w4 ⟨rfl, hb⟩; have HB4 := Lib.hid (HB3.out.trans (hb.mono HB3.out.size)); clear hb)
      | fail)
    go_ret
    exact ⟨rfl, HB4.out⟩
  case pos =>
    obtain ⟨N, hN⟩ : ∃ N, buildS v l = N := ⟨_, rfl⟩
    have hFH := fun (W : World) (A : Option Addr) (n c : Nat) => find_head (W := W) (A := A) (n := n) (c := c) h0
    rw [hN] at hFH hbd
    rw [h0] at hbd
    obtain ⟨m, hml⟩ : ∃ m, N.length = m := ⟨_, rfl⟩
    have hmb : m ≤ 1048576 := by
      rw [← hml, ← hN]
      exact (good_build h0).1.big
    have HFH := Lib.hid hFH
    have HBD : Hid (Calls Try.prog 10 #[.int .i64 v, .slice A n c] w fun e w' => ∃ A' c', e = .returned (.tuple #[.slice A' m c', .int .i64 0]) ∧ SlAt w' A' m (N.map byteV) ∧ m ≤ c' ∧ (∀ k, rowOf A' = some k → k < w'.heap.size) ∧ Below w.heap.size w w') := Lib.hid (hbd.mono fun e w' ⟨A', c', he, hs, _, hb⟩ => by
      have hsl := hs.sl
      have hcap := hs.cap
      rw [hml] at hsl hcap he
      refine ⟨A', c', he, hsl, hcap, fun k hk => ?_, hb⟩
      rcases Nat.eq_zero_or_pos m with hm0 | hm0
      · have := hs.row
        exact this k hk
      · obtain ⟨b, o, hA, hlt, _⟩ := hsl.2 0 hm0
        rw [hA] at hk
        injection hk with hk
        subst hk
        exact hlt)
    have HML := Lib.hid hml
    clear hbd hN h0 hml hFH
    go_enter Try.func6, Try.ntmps6
    go_wp2_with (first
      | (go_at_call 8; (with_reducible refine HL.out.mono ?_); rintro e w1 ⟨rfl, rfl⟩)
      | (go_at_call 10; (with_reducible refine HBD.out.mono ?_); rintro e w2 ⟨A', c', rfl, hs, hc, hA, hb⟩; have HS2 := Lib.hid hs; have HB2 := Lib.hid hb; clear hs hb)
      | (go_at_call 14; (with_reducible refine (HFH.out _ _ _ _ HML.out HS2.out hc hA).mono ?_); rintro e w3 ⟨A3, m3, c3, x3, rfl, hx, hb⟩; have HX := Lib.hid hx; have HB3 := Lib.hid (HB2.out.trans (hb.mono HB2.out.size)); have HS3 := Lib.hid (HS2.out.keep hb); clear hb hx)
      | (go_at_call 9; (with_reducible refine (lives_any w3).mono ?_); rintro e w4 ⟨rfl, hb⟩; have HB4 := Lib.hid (HB3.out.trans (hb.mono HB3.out.size)); have HS4 := Lib.hid (HS3.out.keep hb); clear hb)
      | (go_at_call 9; (with_reducible refine (lives_any w4).mono ?_); rintro e w5 ⟨rfl, hb⟩; have HB5 := Lib.hid (HB4.out.trans (hb.mono HB4.out.size)); clear hb)
      | (go_at_call 15; ((with_reducible refine (Sum_any HS4.out HML.out hc (by omega)).mono ?_); rintro e w5 ⟨he, hb⟩; have hq := HX.out (by first | assumption | omega) (by omega); rw [hq] at he; subst he; have HB5 := Lib.hid (HB4.out.trans (hb.mono HB4.out.size)); clear hb))
      | fail)
    all_goals
      go_ret
      exact ⟨rfl, HB5.out⟩
end Go.Proofs.Ytejombofjakllaa

namespace Go.Proofs.Ytejombofjakllaa
open Go.ChangeShapes Go.WideShapes Go.ChangeAt Go.RowKit

set_option maxRecDepth 100000 in
theorem sfntWhole_lifted (os : Os) (started : os.Started) (H : Type) (enc : TypeId × Value → H) :
    ReturnsInHanded {} Try.checked os 6 .any (Rows.sfntWholeSpec.pre6 enc Try.prog Try.f6 Rows.sfntWholeRow.domain false) (Rows.sfntWholeSpec.post enc Try.prog Try.f6 false true false false) := by
  refine returnsInHanded_of_change_sized (C := Try.checked) own_none started (by kernel_rfl) Try.func6
    (ChangeSpec.witness6 (enc := enc) (C := Try.checked) false ⟨#[], #[.int .i64 0, .slice none 0 0], []⟩ 8 (by kernel_rfl) (by kernel_rfl) (by kernel_rfl) (by kernel_rfl)) ?_
  intro W base args ds gs before hval0 hW _ hwt _
  have hval : ∀ (j : Nat) t v, Try.f6.params[j]? = some t → args[j]? = some v → Value.okWide Try.prog W .any base t v := hval0
  have hW' := hW
  obtain ⟨p, q, hA0, _, _, _, _⟩ := hW
  have hA : DataW.TrodAll enc Try.prog W 0 (fun _ => true) true Try.f6.params.toList args.toList ds p := hA0
  rw [Try.params6] at hA hval
  obtain ⟨v0, v1, d0, d1, p0, p1, rfl, rfl, rfl, h0, h1⟩ := trodAll_two hA
  obtain ⟨v, rfl, wv⟩ := open_num Try.underlying3 (hval 0 _ _ rfl rfl) h0
  have bv := bounds_i64 wv
  obtain ⟨A, n, c, rfl, k1, m1, r1, s1⟩ := open_sl (eb := 40) (ks := [.str, .sl 1 [.int .u8]]) Try.underlying22 (by kernel_rfl) (hval 1 _ _ rfl rfl) h1 (reach_all (ts := [3, 22]) (by kernel_rfl) hwt (j := 1) rfl rfl)
  clear hA0 hval0
  obtain ⟨es, hB⟩ := blobs_of s1
  refine (whole_law v hB (by omega)).mono fun e W' ⟨he, hb⟩ => ?_
  subst he
  exact ⟨_, rfl, law_post_any laid_out Try.underlying4 hW' (by kernel_rfl) rfl rfl rfl hb⟩

theorem sfntWhole_holds : Rows.SfntWholeSaid :=
  OpenClaim.holds_of_wide 6 Try.f6 rfl rfl rfl rfl rfl rfl rfl ⟨rfl, rfl, rfl, rfl, rfl⟩ rfl rfl rfl rfl rfl (by kernel_rfl) Try.func6 (by kernel_rfl)
    (of_decide_eq_true (by kernel_rfl)) (by unfold Func.isWrapper; first | (rw [if_pos (by decide +kernel)]; kernel_rfl) | (rw [if_neg (by decide +kernel)]; exact ⟨rfl, rfl⟩))
    (fun os started H enc _ => sfntWhole_lifted os started H enc)

end Go.Proofs.Ytejombofjakllaa
