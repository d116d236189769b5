/-
  Law HeadsHeadReads: what any bytes are as a head.
-/
import Derived.Test.YtbmflgcahbkdeaaHeadsX
import Derived.Test.YtbmflgcahbkdeaaHeadsZ
namespace Go.Proofs.Ytbmflgcahbkdeaa
open Go.RowKit

set_option maxHeartbeats 2000000 in
theorem headReads_any (w : World) (A : Option Addr) (bs : List UInt8) (c : Nat) (h : Bs w A bs c) :
    Calls Try.prog 8 #[.slice A bs.length c] w fun e w' => e = .returned (.bool true) ∧ Below w.heap.size w w' := by
  obtain ⟨i0, hi0, hz0, hz1, hz2⟩ := info_parts u8_info
  have HB0 := Lib.hid h
  have HR := Lib.hid ((h.sl.keep (w' := w.alloc (.cells #[] 5)) (bel_alloc bel_refl).below).reads)
  have hsm := h.small
  clear h
  have K1 := fun w A c h => Head_any w A bs c h
  have K2 := fun w A c h => rHead_any w A bs c h
  generalize headV bs = v at K1 K2
  generalize headG bs = g at K1 K2
  obtain ⟨a0, a1, a2, a3, a4, a5, a6, a7, a8⟩ := v
  simp only [hCells] at K1 K2
  cases g
  all_goals
    simp only [reduceIte, Bool.false_eq_true] at K1 K2
    replace K1 := Lib.hid K1
    replace K2 := Lib.hid K2
    go_enter Try.func8, Try.ntmps8
    go_wp2_with (first
      | (at_builtin; refine wpList_append_any _ (by rfl) (.tmp 8) (.tmp 9) _ (by rfl) w.heap.size 5 i0 _ 1 1 Try.underlying22 hi0 hz0 hz1 hz2 rfl (by omega) _ 0 [] (by rfl) (own_empty w _) _ _ _ _ _ (by rfl) HR.out (bytes_one _) (by unfold maxLen; omega) (by omega) (by simp) ?_; intro v' w1 hown hgrow hat
         obtain ⟨A1, c1, rfl, hs1⟩ := own_bs hown (by omega)
         have hb1 := grow_below rfl hgrow
         have HS1 := Lib.hid hs1
         have HB1 := Lib.hid (Bel.mk hb1 hb1.size)
         have HBB := Lib.hid (HB0.out.keep hb1)
         clear hown hgrow hat hs1 hb1)
      | (go_at_call 26; (with_reducible refine (K1.out _ _ _ HS1.out).mono ?_); rintro e w2 ⟨rfl, hb2⟩
         have HB2 := Lib.hid (bel_alloc (o := .cells #[.int .i64 a0, .int .i64 a1, .int .i64 a2, .int .i64 a3, .int .i64 a4, .int .i64 a5, .int .i64 a6, .int .i64 a7, .bool a8] 48) (bel_call hb2 HB1.out))
         have HX := Lib.hid (Blk.new w2 48 [.int .i64 a0, .int .i64 a1, .int .i64 a2, .int .i64 a3, .int .i64 a4, .int .i64 a5, .int .i64 a6, .int .i64 a7, .bool a8])
         have HBC := Lib.hid ((HBB.out.keep hb2).keep (bel_alloc (o := .cells #[.int .i64 a0, .int .i64 a1, .int .i64 a2, .int .i64 a3, .int .i64 a4, .int .i64 a5, .int .i64 a6, .int .i64 a7, .bool a8] 48) (bel_refl (a := w2))).below)
         clear hb2)
      | (go_at_call 28; (with_reducible refine (K2.out _ _ _ HBC.out).mono ?_); rintro e w3 ⟨rfl, hb3⟩
         have HB3 := Lib.hid (bel_alloc (o := .cells #[.int .i64 a0, .int .i64 a1, .int .i64 a2, .int .i64 a3, .int .i64 a4, .int .i64 a5, .int .i64 a6, .int .i64 a7, .bool a8] 48) (bel_call hb3 HB2.out))
         have HX3 := Lib.hid ((HX.out.keepB hb3).alloc (.cells #[.int .i64 a0, .int .i64 a1, .int .i64 a2, .int .i64 a3, .int .i64 a4, .int .i64 a5, .int .i64 a6, .int .i64 a7, .bool a8] 48))
         have HY := Lib.hid (Blk.new w3 48 [.int .i64 a0, .int .i64 a1, .int .i64 a2, .int .i64 a3, .int .i64 a4, .int .i64 a5, .int .i64 a6, .int .i64 a7, .bool a8])
         clear hb3)
      | (go_at_call 24; (with_reducible refine (lives5_any _).mono ?_); rintro e w4 ⟨rfl, hb4⟩
         have HB4 := Lib.hid (bel_call hb4 HB3.out)
         have hx := HX3.out.keepB hb4
         have hy := HY.out.keepB hb4
         have x0 := hx.cell 0
         have x1 := hx.cell 1
         have x2 := hx.cell 2
         have x3 := hx.cell 3
         have x4 := hx.cell 4
         have x5 := hx.cell 5
         have x6 := hx.cell 6
         have x7 := hx.cell 7
         have x8 := hx.cell 8
         have y0 := hy.cell 0
         have y1 := hy.cell 1
         have y2 := hy.cell 2
         have y3 := hy.cell 3
         have y4 := hy.cell 4
         have y5 := hy.cell 5
         have y6 := hy.cell 6
         have y7 := hy.cell 7
         have y8 := hy.cell 8
         simp at x0 x1 x2 x3 x4 x5 x6 x7 x8 y0 y1 y2 y3 y4 y5 y6 y7 y8
         clear hx hy hb4))
    go_ret
    exact ⟨rfl, HB4.out.below⟩

end Go.Proofs.Ytbmflgcahbkdeaa
