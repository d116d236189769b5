/-
  For all glyphs and every slice of bytes HeadsGlyphs answers true and leaves its arguments as they were. No conditions.
  Law HeadsGlyphs: the table of any glyphs.
  Law HeadsLines: the table of any lines.
  Law HeadsHeads: the table of any head.
-/
import Derived.Test.YtbmflgcahbkdeaaHeadsAA
import Derived.Test.YtbmflgcahbkdeaaHeadsO
import Derived.Test.YtbmflgcahbkdeaaHeadsQ
import Derived.Test.YtbmflgcahbkdeaaFrame
import Derived.Test.YtbmflgcahbkdeaaFlat
import Derived.Test.YtbmflgcahbkdeaaLists
namespace Go.Proofs.Ytbmflgcahbkdeaa
open Go.RowKit

theorem rPutHead_any (w : World) (u fl x0 y0 x1 y1 st le : Int) (long : Bool) :
    Calls Try.prog 27 #[.agg #[.int .i64 u, .int .i64 fl, .int .i64 x0, .int .i64 y0, .int .i64 x1, .int .i64 y1, .int .i64 st, .int .i64 le, .bool long]] w fun e w' => ∃ A' c', e = .returned (.slice A' 54 c') ∧ SlAt w' A' 54 ((headB ⟨u, fl, x0, y0, x1, y1, st, le, long⟩).map byteV) ∧ Below w.heap.size w w' ∧ (∀ k, rowOf A' = some k → w.heap.size ≤ k) := by
  cases long
  · exact rPutHead_false w u fl x0 y0 x1 y1 st le
  · exact rPutHead_true w u fl x0 y0 x1 y1 st le

set_option maxHeartbeats 2000000 in
theorem heads_bad (w : World) (u fl x0 y0 x1 y1 st le : Int) (long : Bool) (A : Option Addr) (n c : Nat) (hm : hMay ⟨u, fl, x0, y0, x1, y1, st, le, long⟩ = false) :
    Calls Try.prog 7 #[.agg #[.int .i64 u, .int .i64 fl, .int .i64 x0, .int .i64 y0, .int .i64 x1, .int .i64 y1, .int .i64 st, .int .i64 le, .bool long], .slice A n c] w fun e w' => e = .returned (.bool true) ∧ Below w.heap.size w w' := by
  have KM : mayHeadB u fl x0 y0 x1 y1 st le = false := hm
  have K2 := fun w => rMayHead_any w u fl x0 y0 x1 y1 st le long
  rw [KM] at K2
  have K1 := fun w => PutHead_bad w _ hm
  simp only [hCells] at K1
  replace K1 := Lib.hid K1
  replace K2 := Lib.hid K2
  clear KM hm
  have HB0 := Lib.hid (bel_alloc (o := .cells #[.int .i64 u, .int .i64 fl, .int .i64 x0, .int .i64 y0, .int .i64 x1, .int .i64 y1, .int .i64 st, .int .i64 le, .bool long] 48) (bel_refl (a := w)))
  have HX0 := Lib.hid (Blk.new w 48 [.int .i64 u, .int .i64 fl, .int .i64 x0, .int .i64 y0, .int .i64 x1, .int .i64 y1, .int .i64 st, .int .i64 le, .bool long])
  go_enter Try.func7, Try.ntmps7
  go_wp2_with (first
    | (go_at_call 23; (with_reducible refine (K1.out _).mono ?_); rintro e w1 ⟨rfl, hb1⟩
       have HB1 := Lib.hid (bel_call hb1 HB0.out)
       have HX1 := Lib.hid (HX0.out.keepB hb1)
       clear hb1)
    | (go_at_call 24; (with_reducible refine (lives5_any _).mono ?_); rintro e w2 ⟨rfl, hb2⟩
       have HB2 := Lib.hid (bel_call hb2 HB1.out)
       have hx := HX1.out.keepB hb2
       have k0 := hx.cell 0
       have k1 := hx.cell 1
       have k2 := hx.cell 2
       have k3 := hx.cell 3
       have k4 := hx.cell 4
       have k5 := hx.cell 5
       have k6 := hx.cell 6
       have k7 := hx.cell 7
       have k8 := hx.cell 8
       simp at k0 k1 k2 k3 k4 k5 k6 k7 k8
       clear hx hb2)
    | (go_at_call 25; (with_reducible refine (K2.out _).mono ?_); rintro e w3 ⟨rfl, hb3⟩
       have HB3 := Lib.hid (bel_call hb3 HB2.out)
       clear hb3))
  go_ret
  exact ⟨rfl, HB3.out.below⟩

set_option maxHeartbeats 4000000 in
theorem heads_ok (w : World) (u fl x0 y0 x1 y1 st le : Int) (long : Bool) (A : Option Addr) (bs : List UInt8) (c : Nat) (h : Bs w A bs c) (hs : bs.length ≤ 140737488351232) (hm : hMay ⟨u, fl, x0, y0, x1, y1, st, le, long⟩ = true) :
    Calls Try.prog 7 #[.agg #[.int .i64 u, .int .i64 fl, .int .i64 x0, .int .i64 y0, .int .i64 x1, .int .i64 y1, .int .i64 st, .int .i64 le, .bool long], .slice A bs.length c] w fun e w' => e = .returned (.bool true) ∧ Below w.heap.size w w' := by
  obtain ⟨i0, hi0, hz0, hz1, hz2⟩ := info_parts u8_info
  have KM : mayHeadB u fl x0 y0 x1 y1 st le = true := hm
  have K2 := fun w => rMayHead_any w u fl x0 y0 x1 y1 st le long
  rw [KM] at K2
  have K1 := fun w => PutHead_ok w _ hm
  have K3 := fun w A c h => Head_any w A (headB ⟨u, fl, x0, y0, x1, y1, st, le, long⟩ ++ bs) c h
  have K4 := fun w => rPutHead_any w u fl x0 y0 x1 y1 st le long
  simp only [headG_put hm, headV_put hm, reduceIte] at K3
  simp only [hCells] at K1 K3
  have HL : 54 + bs.length = (headB ⟨u, fl, x0, y0, x1, y1, st, le, long⟩ ++ bs).length := by simp [headB_len]
  have hl := headB_len ⟨u, fl, x0, y0, x1, y1, st, le, long⟩
  generalize headB ⟨u, fl, x0, y0, x1, y1, st, le, long⟩ = hb at K1 K3 K4 HL hl
  rw [← HL] at K3
  replace HL := Lib.hid HL
  have Hl := Lib.hid hl
  replace K1 := Lib.hid K1
  replace K2 := Lib.hid K2
  replace K3 := Lib.hid K3
  replace K4 := Lib.hid K4
  have HS0 := Lib.hid h
  clear KM hm hl h
  have HB0 := Lib.hid (bel_alloc (o := .cells #[.int .i64 u, .int .i64 fl, .int .i64 x0, .int .i64 y0, .int .i64 x1, .int .i64 y1, .int .i64 st, .int .i64 le, .bool long] 48) (bel_refl (a := w)))
  have HX0 := Lib.hid (Blk.new w 48 [.int .i64 u, .int .i64 fl, .int .i64 x0, .int .i64 y0, .int .i64 x1, .int .i64 y1, .int .i64 st, .int .i64 le, .bool long])
  go_enter Try.func7, Try.ntmps7
  go_wp2_with (first
    | (go_at_call 23; (with_reducible refine (K1.out _).mono ?_); rintro e w1 ⟨A1, c1, rfl, hs1, hb1, hr1, hc1⟩
       have HB1 := Lib.hid (bel_call hb1 HB0.out)
       have HX1 := Lib.hid (HX0.out.keepB hb1)
       have HS1 := Lib.hid hs1
       have HC1 := Lib.hid hc1
       have HR1 := Lib.hid hr1
       clear hb1 hs1 hc1 hr1)
    | (go_at_call 24; (with_reducible refine (lives5_any _).mono ?_); rintro e w2 ⟨rfl, hb2⟩
       have HB2 := Lib.hid (bel_call hb2 HB1.out)
       have hx := HX1.out.keepB hb2
       have HX2 := Lib.hid hx
       have HS2 := Lib.hid (HS1.out.keep hb2)
       have k0 := hx.cell 0
       have k1 := hx.cell 1
       have k2 := hx.cell 2
       have k3 := hx.cell 3
       have k4 := hx.cell 4
       have k5 := hx.cell 5
       have k6 := hx.cell 6
       have k7 := hx.cell 7
       have k8 := hx.cell 8
       simp at k0 k1 k2 k3 k4 k5 k6 k7 k8
       clear hx hb2)
    | (go_at_call 25; (with_reducible refine (K2.out _).mono ?_); rintro e w3 ⟨rfl, hb3⟩
       have HB3 := Lib.hid (bel_call hb3 HB2.out)
       have HX3 := Lib.hid (HX2.out.keepB hb3)
       have HS3 := Lib.hid (HS2.out.keep hb3)
       have HR3 := Lib.hid ((HS3.out.keep (w' := w3.alloc (.cells #[] 5)) (bel_alloc bel_refl).below).reads)
       clear hb3)
    | (at_builtin; refine wpList_append_any _ (by rfl) (.tmp 27) (.tmp 28) _ (by rfl) w3.heap.size 5 i0 _ 1 1 Try.underlying22 hi0 hz0 hz1 hz2 rfl (by omega) _ 0 [] (by rfl) (own_empty w3 _) _ _ _ _ _ (by rfl) HR3.out (bytes_one _) (by unfold maxLen; omega) (by omega) (by simp) ?_; intro v' w4 hown hgrow hat
       have hk4 := own_at rfl (by simp) hat
       have HO4 := Lib.hid hown
       have hb4 := grow_below rfl hgrow
       have HB4 := Lib.hid (bel_call hb4 HB3.out)
       have HX4 := Lib.hid (HX3.out.keepB hb4)
       have HS4 := Lib.hid (HS3.out.keep hb4)
       have HR4 := Lib.hid ((HS0.out.keep HB4.out.below).sl.reads)
       have HG4 := Lib.hid hb4
       have HK4 := Lib.hid hk4
       clear hown hgrow hat hb4 hk4)
    | (at_builtin; refine wpList_append_any _ (by rfl) (.tmp 29) (.tmp 30) _ (by rfl) w3.heap.size 5 i0 _ 1 1 Try.underlying22 hi0 hz0 hz1 hz2 rfl (by omega) _ _ _ (by rfl) HO4.out _ _ _ _ _ (by rfl) HR4.out (bytes_one _) (by unfold maxLen; omega) (by omega) HG4.out.size ?_; intro v'' w5 hown hgrow hat
       rw [List.nil_append, ← List.map_append] at hown
       obtain ⟨A5, c5, rfl, hs5⟩ := own_bs hown (by omega)
       rw [← HL.out]
       have hb5 := HG4.out.grown hgrow HG4.out.size HK4.out
       have HS5 := Lib.hid hs5
       have HB5 := Lib.hid (bel_call hb5 HB3.out)
       have HX5 := Lib.hid (HX3.out.keepB hb5)
       have HT5 := Lib.hid (HS3.out.keep hb5)
       clear hown hgrow hat hb5 hs5)
    | (go_at_call 26; (with_reducible refine (K3.out _ _ _ HS5.out).mono ?_); rintro e w6 ⟨rfl, hb6⟩
       have HB6 := Lib.hid (bel_alloc (o := (.cells #[.int .i64 u, .int .i64 fl, .int .i64 x0, .int .i64 y0, .int .i64 x1, .int .i64 y1, .int .i64 st, .int .i64 le, .bool long] 48)) (bel_call hb6 HB5.out))
       have HX6 := Lib.hid ((HX5.out.keepB hb6).alloc (.cells #[.int .i64 u, .int .i64 fl, .int .i64 x0, .int .i64 y0, .int .i64 x1, .int .i64 y1, .int .i64 st, .int .i64 le, .bool long] 48))
       have HZ6 := Lib.hid (Blk.new w6 48 [.int .i64 u, .int .i64 fl, .int .i64 x0, .int .i64 y0, .int .i64 x1, .int .i64 y1, .int .i64 st, .int .i64 le, .bool long])
       have HT6 := Lib.hid ((HT5.out.keep hb6).keep (bel_alloc (o := (.cells #[.int .i64 u, .int .i64 fl, .int .i64 x0, .int .i64 y0, .int .i64 x1, .int .i64 y1, .int .i64 st, .int .i64 le, .bool long] 48)) (bel_refl (a := w6))).below)
       clear hb6))
  obtain ⟨W, hW⟩ : ∃ W, w6.alloc (.cells #[.int .i64 u, .int .i64 fl, .int .i64 x0, .int .i64 y0, .int .i64 x1, .int .i64 y1, .int .i64 st, .int .i64 le, .bool long] 48) = W := ⟨_, rfl⟩
  rw [hW] at HB6 HX6 HZ6 HT6 ⊢
  clear hW
  have hcx := HX6.out.aft
  have hcz := HZ6.out.aft
  have hcv := HT6.out.aft
  go_region_held (fun u => Aft W u) (first | (with_reducible exact aft_drew) | (with_reducible exact HA.out)) (first | (go_at_call 27; (with_reducible refine (K4.out _).mono ?_); rintro e w7 ⟨A7, c7, rfl, hs7, hb7, hr7⟩; have HA := Lib.hid (aft_drew.call hb7); have hq7 := hs7.aft _ (aft_refl (W := w7)); clear hs7 hb7 hr7))
  go_wp2
  go_ret
  exact ⟨rfl, (Aft.bel (by assumption) HB6.out).below⟩

theorem heads_any (w : World) (u fl x0 y0 x1 y1 st le : Int) (long : Bool) (A : Option Addr) (bs : List UInt8) (c : Nat) (h : Bs w A bs c) (hs : bs.length ≤ 140737488351232) :
    Calls Try.prog 7 #[.agg #[.int .i64 u, .int .i64 fl, .int .i64 x0, .int .i64 y0, .int .i64 x1, .int .i64 y1, .int .i64 st, .int .i64 le, .bool long], .slice A bs.length c] w fun e w' => e = .returned (.bool true) ∧ Below w.heap.size w w' := by
  rcases Bool.eq_false_or_eq_true (hMay ⟨u, fl, x0, y0, x1, y1, st, le, long⟩) with hm | hm
  · exact heads_ok w u fl x0 y0 x1 y1 st le long A bs c h hs hm
  · exact heads_bad w u fl x0 y0 x1 y1 st le long A _ c hm

end Go.Proofs.Ytbmflgcahbkdeaa

namespace Go.Proofs.Ytbmflgcahbkdeaa
open Go.RowKit

set_option maxHeartbeats 2000000 in
theorem lines_bad (w : World) (a d g m : Int) (A : Option Addr) (n c : Nat) (hm : lMay ⟨a, d, g, m⟩ = false) :
    Calls Try.prog 10 #[.agg #[.int .i64 a, .int .i64 d, .int .i64 g, .int .i64 m], .slice A n c] w fun e w' => e = .returned (.bool true) ∧ Below w.heap.size w w' := by
  have KM : mayLinesB a d g m = false := hm
  have K2 := fun w => rMayLines_any w a d g m
  rw [KM] at K2
  have K1 := fun w => PutLines_bad w _ hm
  simp only [lCells] at K1
  replace K1 := Lib.hid K1
  replace K2 := Lib.hid K2
  clear KM hm
  have HB0 := Lib.hid (bel_alloc (o := .cells #[.int .i64 a, .int .i64 d, .int .i64 g, .int .i64 m] 69) (bel_refl (a := w)))
  have HX0 := Lib.hid (Blk.new w 69 [.int .i64 a, .int .i64 d, .int .i64 g, .int .i64 m])
  go_enter Try.func10, Try.ntmps10
  go_wp2_with (first
    | (go_at_call 34; (with_reducible refine (K1.out _).mono ?_); rintro e w1 ⟨rfl, hb1⟩
       have HB1 := Lib.hid (bel_call hb1 HB0.out)
       have HX1 := Lib.hid (HX0.out.keepB hb1)
       clear hb1)
    | (go_at_call 24; (with_reducible refine (lives5_any _).mono ?_); rintro e w2 ⟨rfl, hb2⟩
       have HB2 := Lib.hid (bel_call hb2 HB1.out)
       have hx := HX1.out.keepB hb2
       have k0 := hx.cell 0
       have k1 := hx.cell 1
       have k2 := hx.cell 2
       have k3 := hx.cell 3
       simp at k0 k1 k2 k3
       clear hx hb2)
    | (go_at_call 35; (with_reducible refine (K2.out _).mono ?_); rintro e w3 ⟨rfl, hb3⟩
       have HB3 := Lib.hid (bel_call hb3 HB2.out)
       clear hb3))
  go_ret
  exact ⟨rfl, HB3.out.below⟩

set_option maxHeartbeats 4000000 in
theorem lines_ok (w : World) (a d g m : Int) (A : Option Addr) (bs : List UInt8) (c : Nat) (h : Bs w A bs c) (hs : bs.length ≤ 140737488351232) (hm : lMay ⟨a, d, g, m⟩ = true) :
    Calls Try.prog 10 #[.agg #[.int .i64 a, .int .i64 d, .int .i64 g, .int .i64 m], .slice A bs.length c] w fun e w' => e = .returned (.bool true) ∧ Below w.heap.size w w' := by
  obtain ⟨i0, hi0, hz0, hz1, hz2⟩ := info_parts u8_info
  have KM : mayLinesB a d g m = true := hm
  have K2 := fun w => rMayLines_any w a d g m
  rw [KM] at K2
  have K1 := fun w => PutLines_ok w _ hm
  have K3 := fun w A c h => Lines_any w A (lineB ⟨a, d, g, m⟩ ++ bs) c h
  have K4 := fun w => rPutLines_any w a d g m
  simp only [lineG_put hm, lineV_put hm, reduceIte] at K3
  simp only [lCells] at K1 K3
  have HL : 36 + bs.length = (lineB ⟨a, d, g, m⟩ ++ bs).length := by simp [lineB_len]
  have hl := lineB_len ⟨a, d, g, m⟩
  generalize lineB ⟨a, d, g, m⟩ = hb at K1 K3 K4 HL hl
  rw [← HL] at K3
  replace HL := Lib.hid HL
  have Hl := Lib.hid hl
  replace K1 := Lib.hid K1
  replace K2 := Lib.hid K2
  replace K3 := Lib.hid K3
  replace K4 := Lib.hid K4
  have HS0 := Lib.hid h
  clear KM hm hl h
  have HB0 := Lib.hid (bel_alloc (o := .cells #[.int .i64 a, .int .i64 d, .int .i64 g, .int .i64 m] 69) (bel_refl (a := w)))
  have HX0 := Lib.hid (Blk.new w 69 [.int .i64 a, .int .i64 d, .int .i64 g, .int .i64 m])
  go_enter Try.func10, Try.ntmps10
  go_wp2_with (first
    | (go_at_call 34; (with_reducible refine (K1.out _).mono ?_); rintro e w1 ⟨A1, c1, rfl, hs1, hb1, hr1, hc1⟩
       have HB1 := Lib.hid (bel_call hb1 HB0.out)
       have HX1 := Lib.hid (HX0.out.keepB hb1)
       have HS1 := Lib.hid hs1
       have HC1 := Lib.hid hc1
       have HR1 := Lib.hid hr1
       clear hb1 hs1 hc1 hr1)
    | (go_at_call 24; (with_reducible refine (lives5_any _).mono ?_); rintro e w2 ⟨rfl, hb2⟩
       have HB2 := Lib.hid (bel_call hb2 HB1.out)
       have hx := HX1.out.keepB hb2
       have HX2 := Lib.hid hx
       have HS2 := Lib.hid (HS1.out.keep hb2)
       have k0 := hx.cell 0
       have k1 := hx.cell 1
       have k2 := hx.cell 2
       have k3 := hx.cell 3
       simp at k0 k1 k2 k3
       clear hx hb2)
    | (go_at_call 35; (with_reducible refine (K2.out _).mono ?_); rintro e w3 ⟨rfl, hb3⟩
       have HB3 := Lib.hid (bel_call hb3 HB2.out)
       have HX3 := Lib.hid (HX2.out.keepB hb3)
       have HS3 := Lib.hid (HS2.out.keep hb3)
       have HR3 := Lib.hid ((HS3.out.keep (w' := w3.alloc (.cells #[] 5)) (bel_alloc bel_refl).below).reads)
       clear hb3)
    | (at_builtin; refine wpList_append_any _ (by rfl) (.tmp 27) (.tmp 28) _ (by rfl) w3.heap.size 5 i0 _ 1 1 Try.underlying22 hi0 hz0 hz1 hz2 rfl (by omega) _ 0 [] (by rfl) (own_empty w3 _) _ _ _ _ _ (by rfl) HR3.out (bytes_one _) (by unfold maxLen; omega) (by omega) (by simp) ?_; intro v' w4 hown hgrow hat
       have hk4 := own_at rfl (by simp) hat
       have HO4 := Lib.hid hown
       have hb4 := grow_below rfl hgrow
       have HB4 := Lib.hid (bel_call hb4 HB3.out)
       have HX4 := Lib.hid (HX3.out.keepB hb4)
       have HS4 := Lib.hid (HS3.out.keep hb4)
       have HR4 := Lib.hid ((HS0.out.keep HB4.out.below).sl.reads)
       have HG4 := Lib.hid hb4
       have HK4 := Lib.hid hk4
       clear hown hgrow hat hb4 hk4)
    | (at_builtin; refine wpList_append_any _ (by rfl) (.tmp 29) (.tmp 30) _ (by rfl) w3.heap.size 5 i0 _ 1 1 Try.underlying22 hi0 hz0 hz1 hz2 rfl (by omega) _ _ _ (by rfl) HO4.out _ _ _ _ _ (by rfl) HR4.out (bytes_one _) (by unfold maxLen; omega) (by omega) HG4.out.size ?_; intro v'' w5 hown hgrow hat
       rw [List.nil_append, ← List.map_append] at hown
       obtain ⟨A5, c5, rfl, hs5⟩ := own_bs hown (by omega)
       rw [← HL.out]
       have hb5 := HG4.out.grown hgrow HG4.out.size HK4.out
       have HS5 := Lib.hid hs5
       have HB5 := Lib.hid (bel_call hb5 HB3.out)
       have HX5 := Lib.hid (HX3.out.keepB hb5)
       have HT5 := Lib.hid (HS3.out.keep hb5)
       clear hown hgrow hat hb5 hs5)
    | (go_at_call 36; (with_reducible refine (K3.out _ _ _ HS5.out).mono ?_); rintro e w6 ⟨rfl, hb6⟩
       have HB6 := Lib.hid (bel_alloc (o := (.cells #[.int .i64 a, .int .i64 d, .int .i64 g, .int .i64 m] 69)) (bel_call hb6 HB5.out))
       have HX6 := Lib.hid ((HX5.out.keepB hb6).alloc (.cells #[.int .i64 a, .int .i64 d, .int .i64 g, .int .i64 m] 69))
       have HZ6 := Lib.hid (Blk.new w6 69 [.int .i64 a, .int .i64 d, .int .i64 g, .int .i64 m])
       have HT6 := Lib.hid ((HT5.out.keep hb6).keep (bel_alloc (o := (.cells #[.int .i64 a, .int .i64 d, .int .i64 g, .int .i64 m] 69)) (bel_refl (a := w6))).below)
       clear hb6))
  obtain ⟨W, hW⟩ : ∃ W, w6.alloc (.cells #[.int .i64 a, .int .i64 d, .int .i64 g, .int .i64 m] 69) = W := ⟨_, rfl⟩
  rw [hW] at HB6 HX6 HZ6 HT6 ⊢
  clear hW
  have hcx := HX6.out.aft
  have hcz := HZ6.out.aft
  have hcv := HT6.out.aft
  go_region_held (fun u => Aft W u) (first | (with_reducible exact aft_drew) | (with_reducible exact HA.out)) (first | (go_at_call 37; (with_reducible refine (K4.out _).mono ?_); rintro e w7 ⟨A7, c7, rfl, hs7, hb7, hr7⟩; have HA := Lib.hid (aft_drew.call hb7); have hq7 := hs7.aft _ (aft_refl (W := w7)); clear hs7 hb7 hr7))
  go_wp2
  go_ret
  exact ⟨rfl, (Aft.bel (by assumption) HB6.out).below⟩

theorem lines_any (w : World) (a d g m : Int) (A : Option Addr) (bs : List UInt8) (c : Nat) (h : Bs w A bs c) (hs : bs.length ≤ 140737488351232) :
    Calls Try.prog 10 #[.agg #[.int .i64 a, .int .i64 d, .int .i64 g, .int .i64 m], .slice A bs.length c] w fun e w' => e = .returned (.bool true) ∧ Below w.heap.size w w' := by
  rcases Bool.eq_false_or_eq_true (lMay ⟨a, d, g, m⟩) with hm | hm
  · exact lines_ok w a d g m A bs c h hs hm
  · exact lines_bad w a d g m A _ c hm

end Go.Proofs.Ytbmflgcahbkdeaa

namespace Go.Proofs.Ytbmflgcahbkdeaa
open Go.RowKit

theorem PutGlyphs_good (w : World) (n : Int) (tr : Bool) (hm : allF 1 65535 [n] = true) :
    Calls Try.prog 29 #[.agg #[.int .i64 n, .bool tr]] w fun e w' => ∃ A' c', e = .returned (.tuple #[.slice A' (glyphB n tr).length c', .int .i64 0]) ∧ SlAt w' A' (glyphB n tr).length ((glyphB n tr).map byteV) ∧ Below w.heap.size w w' := by
  rw [glyphB_len]
  cases tr
  · exact (PutGlyphs_false w n hm).mono fun _ _ ⟨A', c', h1, h2, h3, _⟩ => ⟨A', c', h1, h2, h3⟩
  · exact (PutGlyphs_true w n hm).mono fun _ _ ⟨A', c', h1, h2, h3, _⟩ => ⟨A', c', h1, h2, h3⟩
theorem rPutGlyphs_any (w : World) (n : Int) (tr : Bool) :
    Calls Try.prog 33 #[.agg #[.int .i64 n, .bool tr]] w fun e w' => ∃ A' c', e = .returned (.slice A' (glyphB n tr).length c') ∧ SlAt w' A' (glyphB n tr).length ((glyphB n tr).map byteV) ∧ Below w.heap.size w w' := by
  rw [glyphB_len]
  cases tr
  · exact (rPutGlyphs_false w n).mono fun _ _ ⟨A', c', h1, h2, h3, _⟩ => ⟨A', c', h1, h2, h3⟩
  · exact (rPutGlyphs_true w n).mono fun _ _ ⟨A', c', h1, h2, h3, _⟩ => ⟨A', c', h1, h2, h3⟩

set_option maxHeartbeats 4000000 in
theorem glyphs_bad (w : World) (n : Int) (tr : Bool) (A : Option Addr) (bs : List UInt8) (c : Nat) (h : Bs w A bs c) (hs : bs.length ≤ 140737488351232) (hm : allF 1 65535 [n] = false) :
    Calls Try.prog 9 #[.agg #[.int .i64 n, .bool tr], .slice A bs.length c] w fun e w' => e = .returned (.bool true) ∧ Below w.heap.size w w' := by
  obtain ⟨i0, hi0, hz0, hz1, hz2⟩ := info_parts u8_info
  have K2 := fun w => rMayGlyphs_any w n tr
  rw [hm] at K2
  have K1 := fun w => PutGlyphs_bad w n tr hm
  have K5 := fun w A c h => Glyphs_any w A bs c h
  have K6 := fun w A c h => rGlyphs_any w A bs c h
  generalize glyphNum bs = gn at K5 K6
  generalize glyphT bs = gt at K5 K6
  generalize glyphG bs = gg at K5 K6
  clear hm
  replace K1 := Lib.hid K1
  replace K2 := Lib.hid K2
  have HB0 := Lib.hid (bel_alloc (o := .cells #[.int .i64 n, .bool tr] 59) (bel_refl (a := w)))
  have HX0 := Lib.hid (Blk.new w 59 [.int .i64 n, .bool tr])
  have HS0 := Lib.hid h
  clear h
  cases gg
  all_goals
    simp only [reduceIte, Bool.false_eq_true] at K5 K6
    replace K5 := Lib.hid K5
    replace K6 := Lib.hid K6
    go_enter Try.func9, Try.ntmps9
    go_wp2_with (first
      | (go_at_call 29; (with_reducible refine (K1.out _).mono ?_); rintro e w1 ⟨rfl, hb1⟩
         have HB1 := Lib.hid (bel_call hb1 HB0.out)
         have HX1 := Lib.hid (HX0.out.keepB hb1)
         have HR1 := Lib.hid (((HS0.out.keep HB1.out.below).sl.keep (w' := w1.alloc (.cells #[] 5)) (bel_alloc bel_refl).below).reads)
         clear hb1)
      | (at_builtin; refine wpList_append_any _ (by rfl) (.tmp 19) (.tmp 20) _ (by rfl) w1.heap.size 5 i0 _ 1 1 Try.underlying22 hi0 hz0 hz1 hz2 rfl (by omega) _ 0 [] (by rfl) (own_empty w1 _) _ _ _ _ _ (by rfl) HR1.out (bytes_one _) (by unfold maxLen; omega) (by omega) (by simp) ?_; intro v2 w2 hown hgrow hat
         obtain ⟨A2, c2, rfl, hs2⟩ := own_bs hown (by omega)
         have hb2 := grow_below rfl hgrow
         have HS2 := Lib.hid hs2
         have HB2 := Lib.hid (bel_call hb2 HB1.out)
         have HX2 := Lib.hid (HX1.out.keepB hb2)
         clear hown hgrow hat hs2 hb2)
      | (go_at_call 30; (with_reducible refine (K5.out _ _ _ HS2.out).mono ?_); rintro e w3 ⟨rfl, hb3⟩
         have HB3 := Lib.hid (bel_alloc (o := .cells #[.int .i64 gn, .bool gt] 59) (bel_call hb3 HB2.out))
         have HX3 := Lib.hid ((HX2.out.keepB hb3).alloc (.cells #[.int .i64 gn, .bool gt] 59))
         have HY3 := Lib.hid (Blk.new w3 59 [.int .i64 gn, .bool gt])
         have HSB := Lib.hid (HS0.out.keep HB3.out.below)
         clear hb3)
      | (go_at_call 31; (with_reducible refine (K6.out _ _ _ HSB.out).mono ?_); rintro e w4 ⟨rfl, hb4⟩
         have HB4 := Lib.hid (bel_alloc (o := .cells #[.int .i64 gn, .bool gt] 59) (bel_call hb4 HB3.out))
         have HX4 := Lib.hid ((HX3.out.keepB hb4).alloc (.cells #[.int .i64 gn, .bool gt] 59))
         have HY4 := Lib.hid ((HY3.out.keepB hb4).alloc (.cells #[.int .i64 gn, .bool gt] 59))
         have HZ4 := Lib.hid (Blk.new w4 59 [.int .i64 gn, .bool gt])
         clear hb4)
      | (go_at_call 24; (with_reducible refine (lives5_any _).mono ?_); rintro e w5 ⟨rfl, hb5⟩
         have HB5 := Lib.hid (bel_call hb5 HB4.out)
         have HX5 := Lib.hid (HX4.out.keepB hb5)
         have hx := HX4.out.keepB hb5
         have hy := HY4.out.keepB hb5
         have hz := HZ4.out.keepB hb5
         have k0 := hx.cell 0
         have k1 := hx.cell 1
         have y0 := hy.cell 0
         have y1 := hy.cell 1
         have z0 := hz.cell 0
         have z1 := hz.cell 1
         simp at k0 k1 y0 y1 z0 z1
         clear hx hy hz hb5)
      | (go_at_call 32; (with_reducible refine (K2.out _).mono ?_); rintro e w6 ⟨rfl, hb6⟩
         have HB6 := Lib.hid (bel_call hb6 HB5.out)
         clear hb6))
    go_ret
    exact ⟨rfl, HB6.out.below⟩

set_option maxHeartbeats 4000000 in
theorem glyphs_ok (w : World) (n : Int) (tr : Bool) (A : Option Addr) (bs : List UInt8) (c : Nat) (h : Bs w A bs c) (hs : bs.length ≤ 140737488351232) (hm : allF 1 65535 [n] = true) :
    Calls Try.prog 9 #[.agg #[.int .i64 n, .bool tr], .slice A bs.length c] w fun e w' => e = .returned (.bool true) ∧ Below w.heap.size w w' := by
  obtain ⟨i0, hi0, hz0, hz1, hz2⟩ := info_parts u8_info
  have K2 := fun w => rMayGlyphs_any w n tr
  rw [hm] at K2
  have K1 := fun w => PutGlyphs_good w n tr hm
  have K3 := fun w A c h => Glyphs_any w A (glyphB n tr ++ bs) c h
  have K4 := fun w => rPutGlyphs_any w n tr
  simp only [glyphG_put hm, glyphT_put hm, glyphNum_put hm, reduceIte] at K3
  have HL : (glyphB n tr).length + bs.length = (glyphB n tr ++ bs).length := by simp
  have hl : (glyphB n tr).length ≤ 32 := by rw [glyphB_len]; split <;> omega
  generalize glyphB n tr = hb at K1 K3 K4 HL hl
  obtain ⟨L, hL⟩ : ∃ L, hb.length = L := ⟨_, rfl⟩
  rw [hL] at K1 K4 HL hl
  rw [← HL] at K3
  replace HL := Lib.hid HL
  replace K1 := Lib.hid K1
  replace K2 := Lib.hid K2
  replace K3 := Lib.hid K3
  replace K4 := Lib.hid K4
  have K5 := fun w A c h => Glyphs_any w A bs c h
  have K6 := fun w A c h => rGlyphs_any w A bs c h
  generalize glyphNum bs = gn at K5 K6
  generalize glyphT bs = gt at K5 K6
  generalize glyphG bs = gg at K5 K6
  clear hm hL
  have HB0 := Lib.hid (bel_alloc (o := .cells #[.int .i64 n, .bool tr] 59) (bel_refl (a := w)))
  have HX0 := Lib.hid (Blk.new w 59 [.int .i64 n, .bool tr])
  have HS0 := Lib.hid h
  clear h
  cases gg
  all_goals
    simp only [reduceIte, Bool.false_eq_true] at K5 K6
    replace K5 := Lib.hid K5
    replace K6 := Lib.hid K6
    go_enter Try.func9, Try.ntmps9
    go_wp2_with (first
      | (go_at_call 29; (with_reducible refine (K1.out _).mono ?_); rintro e w1 ⟨A1, c1, rfl, hs1, hb1⟩
         have HB1 := Lib.hid (bel_call hb1 HB0.out)
         have HX1 := Lib.hid (HX0.out.keepB hb1)
         have HR1 := Lib.hid (((HS0.out.keep HB1.out.below).sl.keep (w' := w1.alloc (.cells #[] 5)) (bel_alloc bel_refl).below).reads)
         have HT1 := Lib.hid hs1; clear hs1
         clear hb1)
      | (at_builtin; refine wpList_append_any _ (by rfl) (.tmp 19) (.tmp 20) _ (by rfl) w1.heap.size 5 i0 _ 1 1 Try.underlying22 hi0 hz0 hz1 hz2 rfl (by omega) _ 0 [] (by rfl) (own_empty w1 _) _ _ _ _ _ (by rfl) HR1.out (bytes_one _) (by unfold maxLen; omega) (by omega) (by simp) ?_; intro v2 w2 hown hgrow hat
         obtain ⟨A2, c2, rfl, hs2⟩ := own_bs hown (by omega)
         have hb2 := grow_below rfl hgrow
         have HS2 := Lib.hid hs2
         have HB2 := Lib.hid (bel_call hb2 HB1.out)
         have HX2 := Lib.hid (HX1.out.keepB hb2)
         have HT2 := Lib.hid (HT1.out.keep hb2)
         clear hown hgrow hat hs2 hb2)
      | (go_at_call 30; (with_reducible refine (K5.out _ _ _ HS2.out).mono ?_); rintro e w3 ⟨rfl, hb3⟩
         have HB3 := Lib.hid (bel_alloc (o := .cells #[.int .i64 gn, .bool gt] 59) (bel_call hb3 HB2.out))
         have HX3 := Lib.hid ((HX2.out.keepB hb3).alloc (.cells #[.int .i64 gn, .bool gt] 59))
         have HY3 := Lib.hid (Blk.new w3 59 [.int .i64 gn, .bool gt])
         have HSB := Lib.hid (HS0.out.keep HB3.out.below)
         have HT3 := Lib.hid ((HT2.out.keep hb3).keep (bel_alloc (o := .cells #[.int .i64 gn, .bool gt] 59) (bel_refl (a := w3))).below)
         clear hb3)
      | (go_at_call 31; (with_reducible refine (K6.out _ _ _ HSB.out).mono ?_); rintro e w4 ⟨rfl, hb4⟩
         have HB4 := Lib.hid (bel_alloc (o := .cells #[.int .i64 gn, .bool gt] 59) (bel_call hb4 HB3.out))
         have HX4 := Lib.hid ((HX3.out.keepB hb4).alloc (.cells #[.int .i64 gn, .bool gt] 59))
         have HY4 := Lib.hid ((HY3.out.keepB hb4).alloc (.cells #[.int .i64 gn, .bool gt] 59))
         have HZ4 := Lib.hid (Blk.new w4 59 [.int .i64 gn, .bool gt])
         have HT4 := Lib.hid ((HT3.out.keep hb4).keep (bel_alloc (o := .cells #[.int .i64 gn, .bool gt] 59) (bel_refl (a := w4))).below)
         clear hb4)
      | (go_at_call 24; (with_reducible refine (lives5_any _).mono ?_); rintro e w5 ⟨rfl, hb5⟩
         have HB5 := Lib.hid (bel_call hb5 HB4.out)
         have HX5 := Lib.hid (HX4.out.keepB hb5)
         have hx := HX4.out.keepB hb5
         have hy := HY4.out.keepB hb5
         have hz := HZ4.out.keepB hb5
         have k0 := hx.cell 0
         have k1 := hx.cell 1
         have y0 := hy.cell 0
         have y1 := hy.cell 1
         have z0 := hz.cell 0
         have z1 := hz.cell 1
         simp at k0 k1 y0 y1 z0 z1
         have HT5 := Lib.hid (HT4.out.keep hb5)
         clear hx hy hz hb5)
      | (go_at_call 32; (with_reducible refine (K2.out _).mono ?_); rintro e w6 ⟨rfl, hb6⟩
         have HB6 := Lib.hid (bel_call hb6 HB5.out)
         have HT6 := Lib.hid (HT5.out.keep hb6)
         have HX6 := Lib.hid (HX5.out.keepB hb6)
         have HR6 := Lib.hid ((HT6.out.keep (w' := w6.alloc (.cells #[] 5)) (bel_alloc bel_refl).below).reads)
         clear hb6)
      | (at_builtin; refine wpList_append_any _ (by rfl) (.tmp 62) (.tmp 63) _ (by rfl) w6.heap.size 5 i0 _ 1 1 Try.underlying22 hi0 hz0 hz1 hz2 rfl (by omega) _ 0 [] (by rfl) (own_empty w6 _) _ _ _ _ _ (by rfl) HR6.out (bytes_one _) (by unfold maxLen; omega) (by omega) (by simp) ?_; intro v7 w7 hown hgrow hat
         have hk7 := own_at rfl (by simp) hat
         have HO7 := Lib.hid hown
         have hb7 := grow_below rfl hgrow
         have HB7 := Lib.hid (bel_call hb7 HB6.out)
         have HR7 := Lib.hid ((HS0.out.keep HB7.out.below).sl.reads)
         have HG7 := Lib.hid hb7
         have HK7 := Lib.hid hk7
         clear hown hgrow hat hb7 hk7)
      | (at_builtin; refine wpList_append_any _ (by rfl) (.tmp 64) (.tmp 65) _ (by rfl) w6.heap.size 5 i0 _ 1 1 Try.underlying22 hi0 hz0 hz1 hz2 rfl (by omega) _ _ _ (by rfl) HO7.out _ _ _ _ _ (by rfl) HR7.out (bytes_one _) (by unfold maxLen; omega) (by omega) HG7.out.size ?_; intro v8 w8 hown hgrow hat
         rw [List.nil_append, ← List.map_append] at hown
         obtain ⟨A8, c8, rfl, hs8⟩ := own_bs hown (by omega)
         rw [← HL.out]
         have hb8 := HG7.out.grown hgrow HG7.out.size HK7.out
         have HS8 := Lib.hid hs8
         have HB8 := Lib.hid (bel_call hb8 HB6.out)
         have HX8 := Lib.hid (HX6.out.keepB hb8)
         have HT8 := Lib.hid (HT6.out.keep hb8)
         clear hown hgrow hat hb8 hs8)
      | (go_at_call 30; (with_reducible refine (K3.out _ _ _ HS8.out).mono ?_); rintro e w9 ⟨rfl, hb9⟩
         have HB9 := Lib.hid (bel_alloc (o := .cells #[.int .i64 n, .bool tr] 59) (bel_call hb9 HB8.out))
         have HX9 := Lib.hid ((HX8.out.keepB hb9).alloc (.cells #[.int .i64 n, .bool tr] 59))
         have HZ9 := Lib.hid (Blk.new w9 59 [.int .i64 n, .bool tr])
         have HT9 := Lib.hid ((HT8.out.keep hb9).keep (bel_alloc (o := .cells #[.int .i64 n, .bool tr] 59) (bel_refl (a := w9))).below)
         clear hb9))
    obtain ⟨W, hW⟩ : ∃ W, w9.alloc (.cells #[.int .i64 n, .bool tr] 59) = W := ⟨_, rfl⟩
    rw [hW] at HB9 HX9 HZ9 HT9 ⊢
    clear hW
    have hcx := HX9.out.aft
    have hcz := HZ9.out.aft
    have hcv := HT9.out.aft
    go_region_held (fun u => Aft W u) (first | (with_reducible exact aft_drew) | (with_reducible exact HA.out)) (first | (go_at_call 33; (with_reducible refine (K4.out _).mono ?_); rintro e w10 ⟨A10, c10, rfl, hs10, hb10⟩; have HA := Lib.hid (aft_drew.call hb10); have hq10 := hs10.aft _ (aft_refl (W := w10)); clear hs10 hb10))
    go_wp2
    go_ret
    exact ⟨rfl, (Aft.bel (by assumption) HB9.out).below⟩

theorem glyphs_any (w : World) (n : Int) (tr : Bool) (A : Option Addr) (bs : List UInt8) (c : Nat) (h : Bs w A bs c) (hs : bs.length ≤ 140737488351232) :
    Calls Try.prog 9 #[.agg #[.int .i64 n, .bool tr], .slice A bs.length c] w fun e w' => e = .returned (.bool true) ∧ Below w.heap.size w w' := by
  rcases Bool.eq_false_or_eq_true (allF 1 65535 [n]) with hm | hm
  · exact glyphs_ok w n tr A bs c h hs hm
  · exact glyphs_bad w n tr A bs c h hs hm

end Go.Proofs.Ytbmflgcahbkdeaa

namespace Go.Proofs.Ytbmflgcahbkdeaa
open Go.ChangeShapes Go.WideShapes Go.ChangeAt Go.RowKit

set_option maxRecDepth 100000 in
theorem headsGlyphs_lifted (os : Os) (started : os.Started) (H : Type) (enc : TypeId × Value → H) :
    ReturnsInHanded {} Try.checked os 9 .any (Rows.headsGlyphsSpec.pre6 enc Try.prog Try.f9 Rows.headsGlyphsRow.domain false) (Rows.headsGlyphsSpec.post enc Try.prog Try.f9 false true false false) := by
  refine returnsInHanded_of_change_sized (C := Try.checked) own_none started (by kernel_rfl) Try.func9
    (ChangeSpec.witness6 (enc := enc) (C := Try.checked) false ⟨#[], #[.agg #[.int .i64 0, .bool false], .slice none 0 0], []⟩ 8 (by kernel_rfl) (by kernel_rfl) (by kernel_rfl) (by kernel_rfl)) ?_
  intro W base args ds gs before hval0 hW _ hwt _
  have hval : ∀ (j : Nat) t v, Try.f9.params[j]? = some t → args[j]? = some v → Value.okWide Try.prog W .any base t v := hval0
  have hW' := hW
  obtain ⟨p, q, hA0, _, _, _, _⟩ := hW
  have hA : DataW.TrodAll enc Try.prog W 0 (fun _ => true) true Try.f9.params.toList args.toList ds p := hA0
  rw [Try.params9] at hA hval
  obtain ⟨v0, v1, d0, d1, p0, p1, rfl, rfl, rfl, h0, h1⟩ := trodAll_two hA
  obtain ⟨cs0, rfl, l0, s0⟩ := open_st (ks := [.int .i64, .bool]) Try.underlying59 (by kernel_rfl) (by kernel_rfl) (hval 0 _ _ rfl rfl) h0 (reach_all (ts := [59, 22]) (by kernel_rfl) hwt (j := 0) rfl rfl)
  obtain ⟨A, n, c, rfl, k1, m1, r1, s1⟩ := open_sl (eb := 1) (ks := [.int .u8]) Try.underlying22 (by kernel_rfl) (hval 1 _ _ rfl rfl) h1 (reach_all (ts := [59, 22]) (by kernel_rfl) hwt (j := 1) rfl rfl)
  clear hA0 hval0
  simp only [CellsOk, CellOk, and_true] at s0
  obtain ⟨⟨x0, q0, gn, rfl, _⟩, ⟨x1, q1, gt, rfl⟩⟩ := s0
  obtain rfl : cs0 = [.int .i64 gn, .bool gt] := by
    have e := l0
    simp only [List.length_cons, List.length_nil, Nat.zero_add, Nat.reduceAdd] at e
    refine list_2 e ?_
    exact ⟨q0, q1⟩
  obtain ⟨bs, rfl, hB, hBs⟩ := arg_bytes Try.underlying22 (hval 1 _ _ rfl rfl) k1 m1 r1 s1
  refine (glyphs_any W gn gt A bs c hB hBs).mono fun e W' ⟨he, hb⟩ => ?_
  subst he
  exact ⟨_, rfl, law_post_any laid_out Try.underlying4 hW' (by kernel_rfl) rfl rfl rfl hb⟩

theorem headsGlyphs_holds : Rows.HeadsGlyphsSaid :=
  OpenClaim.holds_of_wide 9 Try.f9 rfl rfl rfl rfl rfl rfl rfl ⟨rfl, rfl, rfl, rfl, rfl⟩ rfl rfl rfl rfl rfl (by kernel_rfl) Try.func9 (by kernel_rfl)
    (of_decide_eq_true (by kernel_rfl)) (by unfold Func.isWrapper; first | (rw [if_pos (by decide +kernel)]; kernel_rfl) | (rw [if_neg (by decide +kernel)]; exact ⟨rfl, rfl⟩))
    (fun os started H enc _ => headsGlyphs_lifted os started H enc)

end Go.Proofs.Ytbmflgcahbkdeaa
