/-
  Law HeadsLines: the table of any lines.
-/
import Derived.Test.YtbmflgcahbkdeaaHeadsAB
namespace Go.Proofs.Ytbmflgcahbkdeaa
open Go.RowKit

set_option maxHeartbeats 2000000 in
theorem lines_bad (w : World) (a d g m : Int) (A : Option Addr) (n c : Nat) (hm : lMay ⟨a, d, g, m⟩ = false) :
    Calls Try.prog 10 #[.agg #[.int .i64 a, .int .i64 d, .int .i64 g, .int .i64 m], .slice A n c] w fun e w' => e = .returned (.bool true) ∧ Below w.heap.size w w' := by
  have KM : mayLinesB a d g m = false := hm
  have K2 := fun w => rMayLines_any w a d g m
  rw [KM] at K2
  have K1 := fun w => PutLines_bad w _ hm
  simp only [lCells] at K1
  replace K1 := Lib.hid K1
  replace K2 := Lib.hid K2
  clear KM hm
  have HB0 := Lib.hid (bel_alloc (o := .cells #[.int .i64 a, .int .i64 d, .int .i64 g, .int .i64 m] 69) (bel_refl (a := w)))
  have HX0 := Lib.hid (Blk.new w 69 [.int .i64 a, .int .i64 d, .int .i64 g, .int .i64 m])
  go_enter Try.func10, Try.ntmps10
  go_wp2_with (first
    | (go_at_call 34; (with_reducible refine (K1.out _).mono ?_); rintro e w1 ⟨rfl, hb1⟩
       have HB1 := Lib.hid (bel_call hb1 HB0.out)
       have HX1 := Lib.hid (HX0.out.keepB hb1)
       clear hb1)
    | (go_at_call 24; (with_reducible refine (lives5_any _).mono ?_); rintro e w2 ⟨rfl, hb2⟩
       have HB2 := Lib.hid (bel_call hb2 HB1.out)
       have hx := HX1.out.keepB hb2
       have k0 := hx.cell 0
       have k1 := hx.cell 1
       have k2 := hx.cell 2
       have k3 := hx.cell 3
       simp at k0 k1 k2 k3
       clear hx hb2)
    | (go_at_call 35; (with_reducible refine (K2.out _).mono ?_); rintro e w3 ⟨rfl, hb3⟩
       have HB3 := Lib.hid (bel_call hb3 HB2.out)
       clear hb3))
  go_ret
  exact ⟨rfl, HB3.out.below⟩

set_option maxHeartbeats 4000000 in
theorem lines_ok (w : World) (a d g m : Int) (A : Option Addr) (bs : List UInt8) (c : Nat) (h : Bs w A bs c) (hs : bs.length ≤ 140737488351232) (hm : lMay ⟨a, d, g, m⟩ = true) :
    Calls Try.prog 10 #[.agg #[.int .i64 a, .int .i64 d, .int .i64 g, .int .i64 m], .slice A bs.length c] w fun e w' => e = .returned (.bool true) ∧ Below w.heap.size w w' := by
  obtain ⟨i0, hi0, hz0, hz1, hz2⟩ := info_parts u8_info
  have KM : mayLinesB a d g m = true := hm
  have K2 := fun w => rMayLines_any w a d g m
  rw [KM] at K2
  have K1 := fun w => PutLines_ok w _ hm
  have K3 := fun w A c h => Lines_any w A (lineB ⟨a, d, g, m⟩ ++ bs) c h
  have K4 := fun w => rPutLines_any w a d g m
  simp only [lineG_put hm, lineV_put hm, reduceIte] at K3
  simp only [lCells] at K1 K3
  have HL : 36 + bs.length = (lineB ⟨a, d, g, m⟩ ++ bs).length := by simp [lineB_len]
  have hl := lineB_len ⟨a, d, g, m⟩
  generalize lineB ⟨a, d, g, m⟩ = hb at K1 K3 K4 HL hl
  rw [← HL] at K3
  replace HL := Lib.hid HL
  have Hl := Lib.hid hl
  replace K1 := Lib.hid K1
  replace K2 := Lib.hid K2
  replace K3 := Lib.hid K3
  replace K4 := Lib.hid K4
  have HS0 := Lib.hid h
  clear KM hm hl h
  have HB0 := Lib.hid (bel_alloc (o := .cells #[.int .i64 a, .int .i64 d, .int .i64 g, .int .i64 m] 69) (bel_refl (a := w)))
  have HX0 := Lib.hid (Blk.new w 69 [.int .i64 a, .int .i64 d, .int .i64 g, .int .i64 m])
  go_enter Try.func10, Try.ntmps10
  go_wp2_with (first
    | (go_at_call 34; (with_reducible refine (K1.out _).mono ?_); rintro e w1 ⟨A1, c1, rfl, hs1, hb1, hr1, hc1⟩
       have HB1 := Lib.hid (bel_call hb1 HB0.out)
       have HX1 := Lib.hid (HX0.out.keepB hb1)
       have HS1 := Lib.hid hs1
       have HC1 := Lib.hid hc1
       have HR1 := Lib.hid hr1
       clear hb1 hs1 hc1 hr1)
    | (go_at_call 24; (with_reducible refine (lives5_any _).mono ?_); rintro e w2 ⟨rfl, hb2⟩
       have HB2 := Lib.hid (bel_call hb2 HB1.out)
       have hx := HX1.out.keepB hb2
       have HX2 := Lib.hid hx
       have HS2 := Lib.hid (HS1.out.keep hb2)
       have k0 := hx.cell 0
       have k1 := hx.cell 1
       have k2 := hx.cell 2
       have k3 := hx.cell 3
       simp at k0 k1 k2 k3
       clear hx hb2)
    | (go_at_call 35; (with_reducible refine (K2.out _).mono ?_); rintro e w3 ⟨rfl, hb3⟩
       have HB3 := Lib.hid (bel_call hb3 HB2.out)
       have HX3 := Lib.hid (HX2.out.keepB hb3)
       have HS3 := Lib.hid (HS2.out.keep hb3)
       have HR3 := Lib.hid ((HS3.out.keep (w' := w3.alloc (.cells #[] 5)) (bel_alloc bel_refl).below).reads)
       clear hb3)
    | (at_builtin; refine wpList_append_any _ (by rfl) (.tmp 27) (.tmp 28) _ (by rfl) w3.heap.size 5 i0 _ 1 1 Try.underlying22 hi0 hz0 hz1 hz2 rfl (by omega) _ 0 [] (by rfl) (own_empty w3 _) _ _ _ _ _ (by rfl) HR3.out (bytes_one _) (by unfold maxLen; omega) (by omega) (by simp) ?_; intro v' w4 hown hgrow hat
       have hk4 := own_at rfl (by simp) hat
       have HO4 := Lib.hid hown
       have hb4 := grow_below rfl hgrow
       have HB4 := Lib.hid (bel_call hb4 HB3.out)
       have HX4 := Lib.hid (HX3.out.keepB hb4)
       have HS4 := Lib.hid (HS3.out.keep hb4)
       have HR4 := Lib.hid ((HS0.out.keep HB4.out.below).sl.reads)
       have HG4 := Lib.hid hb4
       have HK4 := Lib.hid hk4
       clear hown hgrow hat hb4 hk4)
    | (at_builtin; refine wpList_append_any _ (by rfl) (.tmp 29) (.tmp 30) _ (by rfl) w3.heap.size 5 i0 _ 1 1 Try.underlying22 hi0 hz0 hz1 hz2 rfl (by omega) _ _ _ (by rfl) HO4.out _ _ _ _ _ (by rfl) HR4.out (bytes_one _) (by unfold maxLen; omega) (by omega) HG4.out.size ?_; intro v'' w5 hown hgrow hat
       rw [List.nil_append, ← List.map_append] at hown
       obtain ⟨A5, c5, rfl, hs5⟩ := own_bs hown (by omega)
       rw [← HL.out]
       have hb5 := HG4.out.grown hgrow HG4.out.size HK4.out
       have HS5 := Lib.hid hs5
       have HB5 := Lib.hid (bel_call hb5 HB3.out)
       have HX5 := Lib.hid (HX3.out.keepB hb5)
       have HT5 := Lib.hid (HS3.out.keep hb5)
       clear hown hgrow hat hb5 hs5)
    | (go_at_call 36; (with_reducible refine (K3.out _ _ _ HS5.out).mono ?_); rintro e w6 ⟨rfl, hb6⟩
       have HB6 := Lib.hid (bel_alloc (o := (.cells #[.int .i64 a, .int .i64 d, .int .i64 g, .int .i64 m] 69)) (bel_call hb6 HB5.out))
       have HX6 := Lib.hid ((HX5.out.keepB hb6).alloc (.cells #[.int .i64 a, .int .i64 d, .int .i64 g, .int .i64 m] 69))
       have HZ6 := Lib.hid (Blk.new w6 69 [.int .i64 a, .int .i64 d, .int .i64 g, .int .i64 m])
       have HT6 := Lib.hid ((HT5.out.keep hb6).keep (bel_alloc (o := (.cells #[.int .i64 a, .int .i64 d, .int .i64 g, .int .i64 m] 69)) (bel_refl (a := w6))).below)
       clear hb6))
  obtain ⟨W, hW⟩ : ∃ W, w6.alloc (.cells #[.int .i64 a, .int .i64 d, .int .i64 g, .int .i64 m] 69) = W := ⟨_, rfl⟩
  rw [hW] at HB6 HX6 HZ6 HT6 ⊢
  clear hW
  have hcx := HX6.out.aft
  have hcz := HZ6.out.aft
  have hcv := HT6.out.aft
  go_region_held (fun u => Aft W u) (first | (with_reducible exact aft_drew) | (with_reducible exact HA.out)) (first | (go_at_call 37; (with_reducible refine (K4.out _).mono ?_); rintro e w7 ⟨A7, c7, rfl, hs7, hb7, hr7⟩; have HA := Lib.hid (aft_drew.call hb7); have hq7 := hs7.aft _ (aft_refl (W := w7)); clear hs7 hb7 hr7))
  go_wp2
  go_ret
  exact ⟨rfl, (Aft.bel (by assumption) HB6.out).below⟩

theorem lines_any (w : World) (a d g m : Int) (A : Option Addr) (bs : List UInt8) (c : Nat) (h : Bs w A bs c) (hs : bs.length ≤ 140737488351232) :
    Calls Try.prog 10 #[.agg #[.int .i64 a, .int .i64 d, .int .i64 g, .int .i64 m], .slice A bs.length c] w fun e w' => e = .returned (.bool true) ∧ Below w.heap.size w w' := by
  rcases Bool.eq_false_or_eq_true (lMay ⟨a, d, g, m⟩) with hm | hm
  · exact lines_ok w a d g m A bs c h hs hm
  · exact lines_bad w a d g m A _ c hm

end Go.Proofs.Ytbmflgcahbkdeaa
