/-
  do of layer 26: a box that is filled.
-/
import Derived.Test.YtdapakoicegdoaaCxD
namespace Go.Proofs.Ytdapakoicegdoaa
open Go.RowKit Go.Shelf

theorem turn_drewL {w w' : World} {g : Nat} {row : Option Nat} (h : Turn w.drew w' g row) : Turn w w' g row := ⟨h.os, h.tape, h.output, h.size, h.block⟩

set_option maxRecDepth 20000 in
set_option maxHeartbeats 4000000 in
theorem do_fillok {w : World} {g k W H c g' k' c' : Nat} {bs : List UInt8} {o : Cl} (hv : Cv 102 w g k W H c bs) (hx : Cv 54 w g' k' W H c' bs) (hgk : g' ≠ k) (hkg : g ≠ k') (hkk : k ≠ k') (hz : flErr o = 0) :
    Calls Try.prog 28 #[.pointer (some ⟨g, 0, none⟩), .pointer (some ⟨g', 0, none⟩), .agg #[.int .i64 2, .int .i64 o.m0, .int .i64 o.m1, .int .i64 o.m2, .int .i64 o.m3, .slice o.A o.ms.length o.cm, .int .i64 o.b0, .int .i64 o.b1, .int .i64 o.b2, .int .i64 o.b3, .int .i64 o.x, .int .i64 o.y, .int .i64 o.c]] w fun e w' =>
      e = .returned (.bool true) ∧ Cv 102 w' g k W H c (flBs W H o bs) ∧ Cv 54 w' g' k' W H c' (flBs W H o bs) ∧ Turn w w' k (some k') := by
  obtain ⟨h1, h2⟩ := flErr_zero hz
  have KF := fun (w1 : World) (h : Cv 102 w1 g k W H c bs) => Fill_any (o := o) h
  have KR := fun (w1 : World) (h : Cv 54 w1 g' k' W H c' bs) => rFill_call (o := o) h hz
  have KM := fun w => rMayBox_any o.b0 o.b1 o.b2 o.b3 w
  have KI := fun w => rIs_any o.c w
  rw [h1] at KM
  rw [h2] at KI
  rw [hz] at KF
  unfold Cl.box at KF KR
  generalize flBs W H o bs = bs' at *
  generalize flBox W H o = P at *
  obtain ⟨p0, p1, p2, p3⟩ := P
  simp only [boxA] at KF KR
  have hvl := hv.byt.lt
  have hxl := hx.byt.lt
  have HB0 := Lib.hid (bel_alloc (o := .cells #[.int .i64 2, .int .i64 o.m0, .int .i64 o.m1, .int .i64 o.m2, .int .i64 o.m3, .slice o.A o.ms.length o.cm, .int .i64 o.b0, .int .i64 o.b1, .int .i64 o.b2, .int .i64 o.b3, .int .i64 o.x, .int .i64 o.y, .int .i64 o.c] 28) (bel_refl (a := w)))
  have HX0 : Hid (Blk (w.alloc (.cells #[.int .i64 2, .int .i64 o.m0, .int .i64 o.m1, .int .i64 o.m2, .int .i64 o.m3, .slice o.A o.ms.length o.cm, .int .i64 o.b0, .int .i64 o.b1, .int .i64 o.b2, .int .i64 o.b3, .int .i64 o.x, .int .i64 o.y, .int .i64 o.c] 28)) w.heap.size 28 [.int .i64 2, .int .i64 o.m0, .int .i64 o.m1, .int .i64 o.m2, .int .i64 o.m3, .slice o.A o.ms.length o.cm, .int .i64 o.b0, .int .i64 o.b1, .int .i64 o.b2, .int .i64 o.b3, .int .i64 o.x, .int .i64 o.y, .int .i64 o.c]) := Lib.hid (Blk.new w 28 [.int .i64 2, .int .i64 o.m0, .int .i64 o.m1, .int .i64 o.m2, .int .i64 o.m3, .slice o.A o.ms.length o.cm, .int .i64 o.b0, .int .i64 o.b1, .int .i64 o.b2, .int .i64 o.b3, .int .i64 o.x, .int .i64 o.y, .int .i64 o.c])
  have HV0 := Lib.hid (hv.keep HB0.out.below)
  have HR0 := Lib.hid (hx.keep HB0.out.below)
  replace KF := Lib.hid KF
  replace KR := Lib.hid KR
  replace KM := Lib.hid KM
  replace KI := Lib.hid KI
  clear h1 h2 hz hv hx
  go_enter Try.func28, Try.ntmps28
  go_wp2_with (first
    | (go_at_call 31; (with_reducible refine (KF.out _ HV0.out).mono ?_); rintro e w1 ⟨rfl, hc1, ht1⟩
       have hx := ht1.blk HX0.out (by omega) (fun e => by cases e)
       have hxl' := hx.lt
       have x6 := hx.cell 6
       have x7 := hx.cell 7
       have x8 := hx.cell 8
       have x9 := hx.cell 9
       have x12 := hx.cell 12
       simp at x6 x7 x8 x9 x12
       have HT1 := Lib.hid ((Turn.of_below (g := k) (row := none) HB0.out.below).trans ht1 (.inl rfl))
       have HV1 := Lib.hid (hc1.keep (bel_alloc (o := .cells #[.int .i64 p0, .int .i64 p1, .int .i64 p2, .int .i64 p3] 23) (bel_refl (a := w1))).below)
       have HR1 := Lib.hid ((HR0.out.turn ht1 hgk (Ne.symm hkk)).keep (bel_alloc (o := .cells #[.int .i64 p0, .int .i64 p1, .int .i64 p2, .int .i64 p3] 23) (bel_refl (a := w1))).below)
       have HY1 := Lib.hid (Blk.new w1 23 [.int .i64 p0, .int .i64 p1, .int .i64 p2, .int .i64 p3])
       have HX1 := Lib.hid (hx.alloc (.cells #[.int .i64 p0, .int .i64 p1, .int .i64 p2, .int .i64 p3] 23))
       have hz1 := HT1.out.size
       clear hx hc1 ht1 HX0 HV0 HR0)
    | (go_at_call 69; (with_reducible refine (KM.out _).mono ?_); rintro e w2 ⟨rfl, hb2⟩
       have HT2 := Lib.hid ((HT1.out.alloc (.cells #[.int .i64 p0, .int .i64 p1, .int .i64 p2, .int .i64 p3] 23)).trans (Turn.of_below (g := k) (row := none) hb2) (.inl rfl))
       have HV2 := Lib.hid (HV1.out.keep hb2)
       have HR2 := Lib.hid (HR1.out.keep hb2)
       have HY2 := Lib.hid (HY1.out.keepB hb2)
       have hy := HY1.out.keepB hb2
       have hx := HX1.out.keepB hb2
       have hxl2 := hx.lt
       have hyl2 := hy.lt
       have z6 := hx.cell 6
       have z7 := hx.cell 7
       have z8 := hx.cell 8
       have z9 := hx.cell 9
       have z12 := hx.cell 12
       simp at z6 z7 z8 z9 z12
       have y0 := hy.cell 0
       have y1 := hy.cell 1
       have y2 := hy.cell 2
       have y3 := hy.cell 3
       simp at y0 y1 y2 y3
       clear hb2 hy hx)
    | (go_at_call 20; (with_reducible refine (KI.out _).mono ?_); rintro e w3 ⟨rfl, rfl⟩))
  have HRd := Lib.hid HR2.out.drew
  go_region_with (first
    | (go_at_call 70; (with_reducible refine (KR.out _ HRd.out).mono ?_)
       rintro e w4 ⟨rfl, hc4, ht4⟩
       have hy := ht4.blk HY2.out.drew (by omega) (fun e => by cases e)
       have v0 := hy.cell 0
       have v1 := hy.cell 1
       have v2 := hy.cell 2
       have v3 := hy.cell 3
       simp at v0 v1 v2 v3
       have HR4 := Lib.hid hc4
       have HV4 := Lib.hid (HV2.out.drew.turn ht4 hkg hkk)
       have HT4 := Lib.hid (HT2.out.wide.trans (turn_two (k := k) (turn_drewL ht4)) (.inl rfl))
       clear hc4 ht4 hy))
  all_goals
    go_wp2
    go_ret
    exact ⟨rfl, HV4.out, HR4.out, HT4.out⟩

end Go.Proofs.Ytdapakoicegdoaa
