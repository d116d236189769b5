/-
  do of layer 26: a mask that is put.
-/
import Derived.Test.YtdapakoicegdoaaCxE
namespace Go.Proofs.Ytdapakoicegdoaa
open Go.RowKit Go.Shelf

theorem Bw.turn {w w' : World} {A : Option Addr} {bs : List UInt8} {c k : Nat} (h : Bw w A bs c) (ht : Turn w w' k none) (hne : 0 < bs.length → ∀ b, rowOf A = some b → b ≠ k) : Bw w' A bs c := by
  refine ⟨⟨h.sl.1, fun i hi => ?_⟩, h.cap, h.small, fun h0 k' hk' => Nat.lt_of_lt_of_le (h.row h0 k' hk') ht.size⟩
  obtain ⟨b, o, e, hb, hc⟩ := h.sl.2 i hi
  subst e
  exact ⟨b, o, rfl, Nat.lt_of_lt_of_le hb ht.size, by rw [World.cell?_of_block (w := w) (w' := w') (ht.block b hb (hne (by omega) b rfl) (fun e => by cases e))]; exact hc⟩

set_option maxRecDepth 20000 in
set_option maxHeartbeats 4000000 in
theorem do_blendok {w : World} {g k W H c g' k' c' : Nat} {bs : List UInt8} {o : Cl} (hv : Cv 102 w g k W H c bs) (hx : Cv 54 w g' k' W H c' bs) (hgk : g' ≠ k) (hkg : g ≠ k') (hkk : k ≠ k') (hk : o.k ≠ 2) (hms : Bw w o.A o.ms o.cm) (hn : 0 < o.ms.length → ∀ b, rowOf o.A = some b → b ≠ k ∧ b ≠ k') (hz : blErr o = 0) :
    Calls Try.prog 28 #[.pointer (some ⟨g, 0, none⟩), .pointer (some ⟨g', 0, none⟩), .agg #[.int .i64 o.k, .int .i64 o.m0, .int .i64 o.m1, .int .i64 o.m2, .int .i64 o.m3, .slice o.A o.ms.length o.cm, .int .i64 o.b0, .int .i64 o.b1, .int .i64 o.b2, .int .i64 o.b3, .int .i64 o.x, .int .i64 o.y, .int .i64 o.c]] w fun e w' =>
      e = .returned (.bool true) ∧ Cv 102 w' g k W H c (blBs W H o bs) ∧ Cv 54 w' g' k' W H c' (blBs W H o bs) ∧ Turn w w' k (some k') := by
  obtain ⟨h1, h2, h3, h4⟩ := blErr_zero hz
  have KF := fun (w1 : World) (h : Cv 102 w1 g k W H c bs) (hb : Bel w.heap.size w w1) => Blend_any (o := o) h (hms.keep hb.below) (fun h0 b' hb' => (hn h0 b' hb').1)
  have KR := fun (w1 : World) (h : Cv 54 w1 g' k' W H c' bs) (hm : Bw w1 o.A o.ms o.cm) => rBlend_call (o := o) h hz hm (fun h0 b' hb' => (hn h0 b' hb').2)
  have KM := fun w => rCheck_any o.m0 o.m1 o.m2 o.m3 o.A o.ms.length o.cm hms.small w
  have KI := fun w => rIs_any o.c w
  have KX := fun w => lfar_any o.x w
  have KY := fun w => lfar_any o.y w
  rw [h1] at KM
  rw [h2] at KI
  rw [h3] at KX
  rw [h4] at KY
  rw [hz] at KF
  unfold Cl.mask at KF KR
  generalize blBs W H o bs = bs' at *
  generalize blBox W H o = P at *
  obtain ⟨p0, p1, p2, p3⟩ := P
  simp only [boxA] at KF KR
  have hvl := hv.byt.lt
  have hxl := hx.byt.lt
  have HB0 := Lib.hid (bel_alloc (o := .cells #[.int .i64 o.k, .int .i64 o.m0, .int .i64 o.m1, .int .i64 o.m2, .int .i64 o.m3, .slice o.A o.ms.length o.cm, .int .i64 o.b0, .int .i64 o.b1, .int .i64 o.b2, .int .i64 o.b3, .int .i64 o.x, .int .i64 o.y, .int .i64 o.c] 28) (bel_refl (a := w)))
  have HX0 : Hid (Blk (w.alloc (.cells #[.int .i64 o.k, .int .i64 o.m0, .int .i64 o.m1, .int .i64 o.m2, .int .i64 o.m3, .slice o.A o.ms.length o.cm, .int .i64 o.b0, .int .i64 o.b1, .int .i64 o.b2, .int .i64 o.b3, .int .i64 o.x, .int .i64 o.y, .int .i64 o.c] 28)) w.heap.size 28 [.int .i64 o.k, .int .i64 o.m0, .int .i64 o.m1, .int .i64 o.m2, .int .i64 o.m3, .slice o.A o.ms.length o.cm, .int .i64 o.b0, .int .i64 o.b1, .int .i64 o.b2, .int .i64 o.b3, .int .i64 o.x, .int .i64 o.y, .int .i64 o.c]) := Lib.hid (Blk.new w 28 [.int .i64 o.k, .int .i64 o.m0, .int .i64 o.m1, .int .i64 o.m2, .int .i64 o.m3, .slice o.A o.ms.length o.cm, .int .i64 o.b0, .int .i64 o.b1, .int .i64 o.b2, .int .i64 o.b3, .int .i64 o.x, .int .i64 o.y, .int .i64 o.c])
  have HV0 := Lib.hid (hv.keep HB0.out.below)
  have HR0 := Lib.hid (hx.keep HB0.out.below)
  replace KF := Lib.hid KF
  replace KR := Lib.hid KR
  replace KM := Lib.hid KM
  replace KI := Lib.hid KI
  replace KX := Lib.hid KX
  replace KY := Lib.hid KY
  have HMS := Lib.hid hms
  have HN := Lib.hid hn
  have hk1 : (o.k == 2) = false := by simpa using hk
  have hk2 : decide (o.k = 2) = false := by simpa using hk
  clear h1 h2 h3 h4 hz hv hx hms hn hk
  go_enter Try.func28, Try.ntmps28
  go_wp2_with (first
    | (go_at_call 16; (with_reducible refine (KF.out _ HV0.out HB0.out).mono ?_); rintro e w1 ⟨rfl, hc1, ht1⟩
       have hx := ht1.blk HX0.out (by omega) (fun e => by cases e)
       have hxl' := hx.lt
       have x1 := hx.cell 1
       have x2 := hx.cell 2
       have x3 := hx.cell 3
       have x4 := hx.cell 4
       have x5 := hx.cell 5
       have x10 := hx.cell 10
       have x11 := hx.cell 11
       have x12 := hx.cell 12
       simp at x1 x2 x3 x4 x5 x10 x11 x12
       have HT1 := Lib.hid ((Turn.of_below (g := k) (row := none) HB0.out.below).trans ht1 (.inl rfl))
       have HV1 := Lib.hid (hc1.keep (bel_alloc (o := .cells #[.int .i64 p0, .int .i64 p1, .int .i64 p2, .int .i64 p3] 23) (bel_refl (a := w1))).below)
       have HR1 := Lib.hid ((HR0.out.turn ht1 hgk (Ne.symm hkk)).keep (bel_alloc (o := .cells #[.int .i64 p0, .int .i64 p1, .int .i64 p2, .int .i64 p3] 23) (bel_refl (a := w1))).below)
       have HY1 := Lib.hid (Blk.new w1 23 [.int .i64 p0, .int .i64 p1, .int .i64 p2, .int .i64 p3])
       have HX1 := Lib.hid (hx.alloc (.cells #[.int .i64 p0, .int .i64 p1, .int .i64 p2, .int .i64 p3] 23))
       have hz1 := HT1.out.size
       clear hx hc1 ht1 HX0 HV0 HR0)
    | (go_at_call 24; (with_reducible refine (KM.out _).mono ?_); rintro e w2 ⟨rfl, hb2⟩
       have HT2 := Lib.hid ((HT1.out.alloc (.cells #[.int .i64 p0, .int .i64 p1, .int .i64 p2, .int .i64 p3] 23)).trans (Turn.of_below (g := k) (row := none) hb2) (.inl rfl))
       have HV2 := Lib.hid (HV1.out.keep hb2)
       have HR2 := Lib.hid (HR1.out.keep hb2)
       have HY2 := Lib.hid (HY1.out.keepB hb2)
       have hy := HY1.out.keepB hb2
       have hx := HX1.out.keepB hb2
       have HX2 := Lib.hid hx
       have hxl2 := hx.lt
       have hyl2 := hy.lt
       have z1 := hx.cell 1
       have z2 := hx.cell 2
       have z3 := hx.cell 3
       have z4 := hx.cell 4
       have z5 := hx.cell 5
       have z10 := hx.cell 10
       have z11 := hx.cell 11
       have z12 := hx.cell 12
       simp at z1 z2 z3 z4 z5 z10 z11 z12
       have y0 := hy.cell 0
       have y1 := hy.cell 1
       have y2 := hy.cell 2
       have y3 := hy.cell 3
       simp at y0 y1 y2 y3
       clear hb2 hy hx)
    | (go_at_call 20; (with_reducible refine (KI.out _).mono ?_); rintro e w3 ⟨rfl, rfl⟩)
    | (go_at_call 71; (with_reducible refine (KX.out _).mono ?_); rintro e w3 ⟨rfl, rfl⟩)
    | (go_at_call 71; (with_reducible refine (KY.out _).mono ?_); rintro e w3 ⟨rfl, rfl⟩))
  have HRd := Lib.hid HR2.out.drew
  have HMd : Hid (Bw w2.drew o.A o.ms o.cm) := Lib.hid ((HMS.out.turn HT2.out (fun h0 b hb => (HN.out h0 b hb).1)).keep (bel_drew bel_refl).below)
  have HTd : Hid (Turn w2 w2.drew k' none) := Lib.hid (Turn.of_below aft_drew)
  have kx := fun (u : World) (hu : Turn w2 u k' none) => (hu.blk HX2.out (by omega) (fun e => by cases e)).cell
  have ky := fun (u : World) (hu : Turn w2 u k' none) => (hu.blk HY2.out (by omega) (fun e => by cases e)).cell
  clear z1 z2 z3 z4 z5 z10 z11 z12 y0 y1 y2 y3
  go_region_held (fun u => Turn w2 u k' none) (first | (with_reducible exact HTd.out) | (with_reducible exact HA.out))
    (first
      | (go_at_call 72; (with_reducible refine (KR.out _ HRd.out HMd.out).mono ?_)
         rintro e w4 ⟨rfl, hc4, ht4⟩
         have HR4 := Lib.hid hc4
         have HA := Lib.hid (turn_drewL ht4)
         have HV4 := Lib.hid (HV2.out.drew.turn ht4 hkg hkk)
         have HT4 := Lib.hid (HT2.out.wide.trans (turn_two (k := k) (turn_drewL ht4)) (.inl rfl))
         clear hc4 ht4))
  all_goals
    go_wp2
    go_ret
    exact ⟨rfl, HV4.out, HR4.out, HT4.out⟩

end Go.Proofs.Ytdapakoicegdoaa
