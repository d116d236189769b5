/-
  For all bytes, twice, and every text SfntSums answers true and leaves its arguments as they were. No conditions.
  Layer 04: the law SfntSums, walked.
-/
import Derived.Test.YtejombofjakllaaSfGm
import Derived.Test.YtejombofjakllaaBs
namespace Go.Proofs.Ytejombofjakllaa
open Go.RowKit Go.Shelf

theorem aft_more {W u u' : World} (h : Aft W u) (hb : Below u.heap.size u u') : Aft W u' := Below.trans h (hb.mono (Below.size h))
set_option maxRecDepth 20000 in
set_option maxHeartbeats 4000000 in
theorem sums_law {w : World} {A B : Option Addr} {n c m d : Nat} {xs bs s : List UInt8} (ha : SlAt w A n (xs.map byteV)) (hb : SlAt w B m (bs.map byteV)) (hla : xs.length = n) (hlb : bs.length = m) (hc : n ≤ c) (hd : m ≤ d) (hn : n ≤ 140737488355328) (hm : m ≤ 140737488355328) (hs : s.length ≤ 140737488355328) :
    Calls Try.prog 5 #[.slice A n c, .slice B m d, .string (strB s)] w fun e w' => e = .returned (.bool true) ∧ Below w.heap.size w w' := by
  by_cases h1 : n ≤ 65536 ∧ m ≤ 65536
  · obtain ⟨h1, h2⟩ := h1
    have HA := Lib.hid ha
    have HB := Lib.hid hb
    have d1 : decide ((65536 : Int) < n) = false := by simp; omega
    have d2 : decide ((65536 : Int) < m) = false := by simp; omega
    obtain ⟨i0, hi0, hz0, hz1, hz2⟩ := info_parts u8_info
    have hk0 : n / 4 * 4 ≤ n := by omega
    have htk : SlAt w A (n / 4 * 4) ((xs.take (n / 4 * 4)).map byteV) := by
      have := ha.sub 0 (n / 4 * 4) (by omega)
      rw [List.drop_zero, ← List.map_take] at this
      cases A with
      | none => simpa using this
      | some a => simpa [Addr.add] using this
    have HK := Lib.hid htk
    have HR := Lib.hid ((htk.keep (w' := w.alloc (.cells #[] 5)) (bel_alloc bel_refl).below).reads)
    have hw0 : (n : Int).tdiv 4 = ((n / 4 : Nat) : Int) := by rw [Int.tdiv_eq_ediv_of_nonneg (by omega)]; omega
    have htl : (xs.take (n / 4 * 4)).length = n / 4 * 4 := by rw [List.length_take]; omega
    have hkc : n / 4 * 4 ≤ c := by omega
    have hkm : n / 4 * 4 ≤ 140737488355328 := by omega
    have hll : (xs.take (n / 4 * 4) ++ bs).length = n / 4 * 4 + m := by rw [List.length_append, htl, hlb]
    have hlm : n / 4 * 4 + m ≤ 140737488355328 := by omega
    have hsum := sumS_append (a := xs.take (n / 4 * 4)) (b := bs) (by rw [htl]; omega)
    have hs1 := sumS_bd (xs.take (n / 4 * 4))
    have hs2 := sumS_bd bs
    have f1 : IntKind.i64.wrap (sumS (xs.take (n / 4 * 4)) + sumS bs) = sumS (xs.take (n / 4 * 4)) + sumS bs := IntWalk.i64_in _ (by omega)
    have f2 : (sumS (xs.take (n / 4 * 4)) + sumS bs).tmod 4294967296 = (sumS (xs.take (n / 4 * 4)) + sumS bs) % 4294967296 := Int.tmod_eq_emod_of_nonneg (by omega)
    clear ha hb htk
    go_enter Try.func5, Try.ntmps5
    go_wp2_with (first
      | (at_builtin; refine wpList_append_any _ (by rfl) (.tmp 22) (.tmp 25) _ (by rfl) w.heap.size 5 i0 _ 1 1 Try.underlying25 hi0 hz0 hz1 hz2 rfl (by omega) _ 0 [] (by rfl) (own_empty w _) _ _ _ _ _ (by rfl) HR.out (bytes_one _) (by unfold maxLen; omega) (by omega) (by simp) ?_; intro v1 w1 hown hgrow hat; rw [Nat.zero_add, List.nil_append] at hown; obtain ⟨A1, c1, rfl, hs1, hge1, hcap1⟩ := of_ownC hown; have HO1 := Lib.hid hown; have hbw1 : Below w.heap.size w w1 := ((bel_alloc (o := .cells #[] 5) (bel_refl (a := w))).below.trans ⟨hgrow.os, hgrow.tape, hgrow.output, hgrow.size, (fun k hk => hgrow.block k (by simp; omega) (by simp [Value.ownBlock]; omega))⟩); have HB1 := Lib.hid hbw1; have HR1 := Lib.hid (HB.out.keep hbw1).reads; have hsz1 := hbw1.size; clear hown hgrow hat hs1 hge1 hbw1)
      | (at_builtin; refine wpList_append_any _ (by rfl) (.tmp 26) (.tmp 27) _ (by rfl) w.heap.size 5 i0 _ 1 1 Try.underlying25 hi0 hz0 hz1 hz2 rfl (by omega) _ _ _ (by rfl) HO1.out _ _ _ _ _ (by rfl) HR1.out (bytes_one _) (by unfold maxLen; omega) (by omega) hsz1 ?_; intro v2 w2 hown hgrow hat; rw [← List.map_append] at hown; obtain ⟨A2, c2, rfl, hs2, hge2, hcap2⟩ := of_ownC hown; have HB2 := Lib.hid (HB1.out.trans (grown_belowF hgrow hsz1 (fun k hk => (own_lt HO1.out k hk).1))); have HS2 := Lib.hid hs2; clear hown hgrow hat hs2 hge2 HO1 HR1 HR)
      | fail)
    have HBd := Lib.hid HB2.out.drew
    have HSd : Hid (SlAt w2.drew A2 (n / 4 * 4 + m) ((xs.take (n / 4 * 4) ++ bs).map byteV)) := Lib.hid HS2.out
    have HD2 : Hid (Aft w2 w2.drew) := Lib.hid aft_drew
    go_region_held (fun u => Aft w2 u) (first | (with_reducible exact HD2.out) | (with_reducible exact HD3.out) | (with_reducible exact HD4.out) | (with_reducible exact HD5.out) | (with_reducible exact HD6.out) | (with_reducible exact HD7.out) | (with_reducible exact HD8.out) | (with_reducible exact HD9.out) | (with_reducible exact HD10.out)) (first
        | (go_at_call 9; (with_reducible refine (lives_any _).mono ?_); rintro e w3 ⟨rfl, hb⟩; have HS3 := Lib.hid (HSd.out.keep hb); have HB3 := Lib.hid (HBd.out.trans (hb.mono HBd.out.size)); have HD3 := Lib.hid (aft_more HD2.out hb); clear hb)
        | (go_at_call 15; (with_reducible refine (Sum_any (HA.out.keep HB3.out) hla hc hn).mono ?_); rintro e w4 ⟨rfl, hb⟩; have HS4 := Lib.hid (HS3.out.keep hb); have HB4 := Lib.hid (HB3.out.trans (hb.mono HB3.out.size)); have HD4 := Lib.hid (aft_more HD3.out hb); clear hb)
        | (go_at_call 16; (with_reducible refine (rSum_any (HA.out.keep HB4.out) hla hn).mono ?_); rintro e w5 ⟨rfl, hb⟩; have HS5 := Lib.hid (HS4.out.keep hb); have HB5 := Lib.hid (HB4.out.trans (hb.mono HB4.out.size)); have HD5 := Lib.hid (aft_more HD4.out hb); clear hb)
        | (go_at_call 15; (with_reducible refine (Sum_any HS5.out hll hcap2 hlm).mono ?_); rintro e w6 ⟨rfl, hb⟩; have HB6 := Lib.hid (HB5.out.trans (hb.mono HB5.out.size)); have HD6 := Lib.hid (aft_more HD5.out hb); clear hb)
        | (go_at_call 15; (with_reducible refine (Sum_any (HK.out.keep HB6.out) htl hkc hkm).mono ?_); rintro e w7 ⟨rfl, hb⟩; have HB7 := Lib.hid (HB6.out.trans (hb.mono HB6.out.size)); have HD7 := Lib.hid (aft_more HD6.out hb); clear hb)
        | (go_at_call 15; (with_reducible refine (Sum_any (HB.out.keep HB7.out) hlb hd hm).mono ?_); rintro e w8 ⟨rfl, hb⟩; have HB8 := Lib.hid (HB7.out.trans (hb.mono HB7.out.size)); have HD8 := Lib.hid (aft_more HD7.out hb); clear hb)
        | (go_at_call 17; (with_reducible refine (isTag_any s hs _).mono ?_); rintro e w9 ⟨rfl, hb⟩; have HB9 := Lib.hid (HB8.out.trans (hb.mono HB8.out.size)); have HD9 := Lib.hid (aft_more HD8.out hb); clear hb)
        | (go_at_call 18; (with_reducible refine (rIsTag_any s hs _).mono ?_); rintro e w10 ⟨rfl, hb⟩; have HB10 := Lib.hid (HB9.out.trans (hb.mono HB9.out.size)); have HD10 := Lib.hid (aft_more HD9.out hb); clear hb))
    all_goals
      go_wp2_with fail
      go_ret
      exact ⟨rfl, HB10.out⟩
  · have hh : decide ((65536 : Int) < n) = true ∨ (decide ((65536 : Int) < n) = false ∧ decide ((65536 : Int) < m) = true) := by simp; omega
    clear ha hb
    rcases hh with d1 | ⟨d1, d2⟩
    all_goals
      go_enter Try.func5, Try.ntmps5
      go_wp2_with (first
        | (go_at_call 9; (with_reducible refine (lives_any _).mono ?_); rintro e w1 ⟨rfl, hb⟩; have HB1 := Lib.hid hb; clear hb)
        | fail)
      go_ret
      exact ⟨rfl, HB1.out⟩
end Go.Proofs.Ytejombofjakllaa

namespace Go.Proofs.Ytejombofjakllaa
open Go.ChangeShapes Go.WideShapes Go.ChangeAt Go.RowKit

set_option maxRecDepth 100000 in
theorem sfntSums_lifted (os : Os) (started : os.Started) (H : Type) (enc : TypeId × Value → H) :
    ReturnsInHanded {} Try.checked os 5 .any (Rows.sfntSumsSpec.pre6 enc Try.prog Try.f5 Rows.sfntSumsRow.domain false) (Rows.sfntSumsSpec.post enc Try.prog Try.f5 false true false false) := by
  refine returnsInHanded_of_change_sized (C := Try.checked) own_none started (by kernel_rfl) Try.func5
    (ChangeSpec.witness6 (enc := enc) (C := Try.checked) false ⟨#[], #[.slice none 0 0, .slice none 0 0, .string ⟨#[]⟩], []⟩ 8 (by kernel_rfl) (by kernel_rfl) (by kernel_rfl) (by kernel_rfl)) ?_
  intro W base args ds gs before hval0 hW _ hwt _
  have hval : ∀ (j : Nat) t v, Try.f5.params[j]? = some t → args[j]? = some v → Value.okWide Try.prog W .any base t v := hval0
  have hW' := hW
  obtain ⟨p, q, hA0, _, _, _, _⟩ := hW
  have hA : DataW.TrodAll enc Try.prog W 0 (fun _ => true) true Try.f5.params.toList args.toList ds p := hA0
  rw [Try.params5] at hA hval
  obtain ⟨v0, v1, v2, d0, d1, d2, p0, p1, p2, rfl, rfl, rfl, h0, h1, h2⟩ := trodAll_three hA
  obtain ⟨A, n, c, rfl, k0, m0, r0, s0⟩ := open_sl (eb := 1) (ks := [.int .u8]) Try.underlying25 (by kernel_rfl) (hval 0 _ _ rfl rfl) h0 (reach_all (ts := [25, 25, 9]) (by kernel_rfl) hwt (j := 0) rfl rfl)
  obtain ⟨B, m, d, rfl, k1, m1, r1, s1⟩ := open_sl (eb := 1) (ks := [.int .u8]) Try.underlying25 (by kernel_rfl) (hval 1 _ _ rfl rfl) h1 (reach_all (ts := [25, 25, 9]) (by kernel_rfl) hwt (j := 1) rfl rfl)
  obtain ⟨tx, rfl, b2⟩ := open_str Try.underlying9 h2 (hval 2 _ _ rfl rfl) (reach_all (ts := [25, 25, 9]) (by kernel_rfl) hwt (j := 2) rfl rfl)
  clear hA0 hval0
  obtain ⟨xs, hl0, hB0, -⟩ := arg_bytes Try.underlying25 (hval 0 _ _ rfl rfl) k0 m0 r0 s0
  obtain ⟨bs, hl1, hB1, -⟩ := arg_bytes Try.underlying25 (hval 1 _ _ rfl rfl) k1 m1 r1 s1
  have hs0 := hB0.sl
  have hs1 := hB1.sl
  rw [hl0] at hs0
  rw [hl1] at hs1
  refine (sums_law hs0 hs1 hl0 hl1 k0 k1 (by omega) (by omega) (by omega)).mono fun e W' ⟨he, hb⟩ => ?_
  subst he
  exact ⟨_, rfl, law_post_any laid_out Try.underlying4 hW' (by kernel_rfl) rfl rfl rfl hb⟩

theorem sfntSums_holds : Rows.SfntSumsSaid :=
  OpenClaim.holds_of_wide 5 Try.f5 rfl rfl rfl rfl rfl rfl rfl ⟨rfl, rfl, rfl, rfl, rfl⟩ rfl rfl rfl rfl rfl (by kernel_rfl) Try.func5 (by kernel_rfl)
    (of_decide_eq_true (by kernel_rfl)) (by unfold Func.isWrapper; first | (rw [if_pos (by decide +kernel)]; kernel_rfl) | (rw [if_neg (by decide +kernel)]; exact ⟨rfl, rfl⟩))
    (fun os started H enc _ => sfntSums_lifted os started H enc)

end Go.Proofs.Ytejombofjakllaa
