/-
  do of layer 26: a mask that is refused.
-/
import Derived.Test.YtdapakoicegdoaaCxC
namespace Go.Proofs.Ytdapakoicegdoaa
open Go.RowKit Go.Shelf

theorem blErr_ne {o : Cl} (hz : blErr o ≠ 0) : (blErr o = maskE o.m0 o.m1 o.m2 o.m3 o.ms.length ∧ maskE o.m0 o.m1 o.m2 o.m3 o.ms.length ≠ 0) ∨ (maskE o.m0 o.m1 o.m2 o.m3 o.ms.length = 0 ∧ byteB o.c = false ∧ blErr o = 1) ∨ (maskE o.m0 o.m1 o.m2 o.m3 o.ms.length = 0 ∧ byteB o.c = true ∧ farB o.x = true ∧ blErr o = 10) ∨ (maskE o.m0 o.m1 o.m2 o.m3 o.ms.length = 0 ∧ byteB o.c = true ∧ farB o.x = false ∧ farB o.y = true ∧ blErr o = 10) := by
  unfold blErr blendE at hz ⊢
  by_cases h1 : maskE o.m0 o.m1 o.m2 o.m3 o.ms.length = 0
  · rcases Bool.eq_false_or_eq_true (byteB o.c) with h2 | h2
    · rcases Bool.eq_false_or_eq_true (farB o.x) with h3 | h3
      · simp [h1, h2, h3]
      · rcases Bool.eq_false_or_eq_true (farB o.y) with h4 | h4
        · simp [h1, h2, h3, h4]
        · simp [h1, h2, h3, h4] at hz
    · simp [h1, h2]
  · simp [h1]

set_option maxRecDepth 20000 in
set_option maxHeartbeats 4000000 in
theorem do_blendno0 {w : World} {g g' : Nat} {o : Cl} (hk : o.k ≠ 2) (hs : o.ms.length ≤ 140737488355328) (hz : blErr o ≠ 0) (he : (blErr o = maskE o.m0 o.m1 o.m2 o.m3 o.ms.length)) (hq : maskE o.m0 o.m1 o.m2 o.m3 o.ms.length ≠ 0) :
    Calls Try.prog 28 #[.pointer (some ⟨g, 0, none⟩), .pointer (some ⟨g', 0, none⟩), .agg #[.int .i64 o.k, .int .i64 o.m0, .int .i64 o.m1, .int .i64 o.m2, .int .i64 o.m3, .slice o.A o.ms.length o.cm, .int .i64 o.b0, .int .i64 o.b1, .int .i64 o.b2, .int .i64 o.b3, .int .i64 o.x, .int .i64 o.y, .int .i64 o.c]] w fun e w' =>
      e = .returned (.bool true) ∧ Below w.heap.size w w' := by
  have KF := fun w g => Blend_no (w := w) (g := g) (Am := o.A) (cm := o.cm) hs hz
  have KM := fun w => rCheck_any o.m0 o.m1 o.m2 o.m3 o.A o.ms.length o.cm hs w
  have KI := fun w => rIs_any o.c w
  have KX := fun w => lfar_any o.x w
  have KY := fun w => lfar_any o.y w
  have HB0 := Lib.hid (bel_alloc (o := .cells #[.int .i64 o.k, .int .i64 o.m0, .int .i64 o.m1, .int .i64 o.m2, .int .i64 o.m3, .slice o.A o.ms.length o.cm, .int .i64 o.b0, .int .i64 o.b1, .int .i64 o.b2, .int .i64 o.b3, .int .i64 o.x, .int .i64 o.y, .int .i64 o.c] 28) (bel_refl (a := w)))
  have HX0 : Hid (Blk (w.alloc (.cells #[.int .i64 o.k, .int .i64 o.m0, .int .i64 o.m1, .int .i64 o.m2, .int .i64 o.m3, .slice o.A o.ms.length o.cm, .int .i64 o.b0, .int .i64 o.b1, .int .i64 o.b2, .int .i64 o.b3, .int .i64 o.x, .int .i64 o.y, .int .i64 o.c] 28)) w.heap.size 28 [.int .i64 o.k, .int .i64 o.m0, .int .i64 o.m1, .int .i64 o.m2, .int .i64 o.m3, .slice o.A o.ms.length o.cm, .int .i64 o.b0, .int .i64 o.b1, .int .i64 o.b2, .int .i64 o.b3, .int .i64 o.x, .int .i64 o.y, .int .i64 o.c]) := Lib.hid (Blk.new w 28 [.int .i64 o.k, .int .i64 o.m0, .int .i64 o.m1, .int .i64 o.m2, .int .i64 o.m3, .slice o.A o.ms.length o.cm, .int .i64 o.b0, .int .i64 o.b1, .int .i64 o.b2, .int .i64 o.b3, .int .i64 o.x, .int .i64 o.y, .int .i64 o.c])
  unfold blErr at he
  unfold zeroBox at KF
  rw [he] at KF
  generalize maskE o.m0 o.m1 o.m2 o.m3 o.ms.length = er at *
  have hq1 : (er != 0) = true := by simpa using hq
  replace KF := Lib.hid KF
  replace KM := Lib.hid KM
  replace KI := Lib.hid KI
  replace KX := Lib.hid KX
  replace KY := Lib.hid KY
  have hk1 : (o.k == 2) = false := by simpa using hk
  have hk2 : decide (o.k = 2) = false := by simpa using hk
  clear hz he hk hq
  go_enter Try.func28, Try.ntmps28
  go_wp2_with (first
      | (go_at_call 16; (with_reducible refine (KF.out _ _).mono ?_); rintro e w1 ⟨rfl, hb1⟩
         have HB1 := Lib.hid (bel_alloc (o := .cells #[.int .i64 0, .int .i64 0, .int .i64 0, .int .i64 0] 23) (bel_call hb1 HB0.out))
         have hx := HX0.out.keepB hb1
         have hxl := hx.lt
         have x1 := hx.cell 1
         have x2 := hx.cell 2
         have x3 := hx.cell 3
         have x4 := hx.cell 4
         have x5 := hx.cell 5
         have x10 := hx.cell 10
         have x11 := hx.cell 11
         have x12 := hx.cell 12
         simp at x1 x2 x3 x4 x5 x10 x11 x12
         have HY1 := Lib.hid (Blk.new w1 23 [.int .i64 0, .int .i64 0, .int .i64 0, .int .i64 0])
         have HX1 := Lib.hid (hx.alloc (.cells #[.int .i64 0, .int .i64 0, .int .i64 0, .int .i64 0] 23))
         clear hx hb1)
      | (go_at_call 24; (with_reducible refine (KM.out _).mono ?_); rintro e w2 ⟨rfl, hb2⟩
         have HB2 := Lib.hid (bel_call hb2 HB1.out)
         have hy := HY1.out.keepB hb2
         have hx := HX1.out.keepB hb2
         have z10 := hx.cell 10
         have z11 := hx.cell 11
         have z12 := hx.cell 12
         simp at z10 z11 z12
         have y0 := hy.cell 0
         have y1 := hy.cell 1
         have y2 := hy.cell 2
         have y3 := hy.cell 3
         simp at y0 y1 y2 y3
         clear hb2 hy hx))
  go_ret
  exact ⟨rfl, HB2.out.below⟩

set_option maxRecDepth 20000 in
set_option maxHeartbeats 4000000 in
theorem do_blendno1 {w : World} {g g' : Nat} {o : Cl} (hk : o.k ≠ 2) (hs : o.ms.length ≤ 140737488355328) (hz : blErr o ≠ 0) (hm : maskE o.m0 o.m1 o.m2 o.m3 o.ms.length = 0) (hi : byteB o.c = false) (he : blErr o = 1) :
    Calls Try.prog 28 #[.pointer (some ⟨g, 0, none⟩), .pointer (some ⟨g', 0, none⟩), .agg #[.int .i64 o.k, .int .i64 o.m0, .int .i64 o.m1, .int .i64 o.m2, .int .i64 o.m3, .slice o.A o.ms.length o.cm, .int .i64 o.b0, .int .i64 o.b1, .int .i64 o.b2, .int .i64 o.b3, .int .i64 o.x, .int .i64 o.y, .int .i64 o.c]] w fun e w' =>
      e = .returned (.bool true) ∧ Below w.heap.size w w' := by
  have KF := fun w g => Blend_no (w := w) (g := g) (Am := o.A) (cm := o.cm) hs hz
  have KM := fun w => rCheck_any o.m0 o.m1 o.m2 o.m3 o.A o.ms.length o.cm hs w
  have KI := fun w => rIs_any o.c w
  have KX := fun w => lfar_any o.x w
  have KY := fun w => lfar_any o.y w
  have HB0 := Lib.hid (bel_alloc (o := .cells #[.int .i64 o.k, .int .i64 o.m0, .int .i64 o.m1, .int .i64 o.m2, .int .i64 o.m3, .slice o.A o.ms.length o.cm, .int .i64 o.b0, .int .i64 o.b1, .int .i64 o.b2, .int .i64 o.b3, .int .i64 o.x, .int .i64 o.y, .int .i64 o.c] 28) (bel_refl (a := w)))
  have HX0 : Hid (Blk (w.alloc (.cells #[.int .i64 o.k, .int .i64 o.m0, .int .i64 o.m1, .int .i64 o.m2, .int .i64 o.m3, .slice o.A o.ms.length o.cm, .int .i64 o.b0, .int .i64 o.b1, .int .i64 o.b2, .int .i64 o.b3, .int .i64 o.x, .int .i64 o.y, .int .i64 o.c] 28)) w.heap.size 28 [.int .i64 o.k, .int .i64 o.m0, .int .i64 o.m1, .int .i64 o.m2, .int .i64 o.m3, .slice o.A o.ms.length o.cm, .int .i64 o.b0, .int .i64 o.b1, .int .i64 o.b2, .int .i64 o.b3, .int .i64 o.x, .int .i64 o.y, .int .i64 o.c]) := Lib.hid (Blk.new w 28 [.int .i64 o.k, .int .i64 o.m0, .int .i64 o.m1, .int .i64 o.m2, .int .i64 o.m3, .slice o.A o.ms.length o.cm, .int .i64 o.b0, .int .i64 o.b1, .int .i64 o.b2, .int .i64 o.b3, .int .i64 o.x, .int .i64 o.y, .int .i64 o.c])
  unfold blErr at he
  unfold zeroBox at KF
  rw [he] at KF
  rw [hm] at KM
  rw [hi] at KI
  replace KF := Lib.hid KF
  replace KM := Lib.hid KM
  replace KI := Lib.hid KI
  replace KX := Lib.hid KX
  replace KY := Lib.hid KY
  have hk1 : (o.k == 2) = false := by simpa using hk
  have hk2 : decide (o.k = 2) = false := by simpa using hk
  clear hz he hk hm hi
  go_enter Try.func28, Try.ntmps28
  go_wp2_with (first
      | (go_at_call 16; (with_reducible refine (KF.out _ _).mono ?_); rintro e w1 ⟨rfl, hb1⟩
         have HB1 := Lib.hid (bel_alloc (o := .cells #[.int .i64 0, .int .i64 0, .int .i64 0, .int .i64 0] 23) (bel_call hb1 HB0.out))
         have hx := HX0.out.keepB hb1
         have hxl := hx.lt
         have x1 := hx.cell 1
         have x2 := hx.cell 2
         have x3 := hx.cell 3
         have x4 := hx.cell 4
         have x5 := hx.cell 5
         have x10 := hx.cell 10
         have x11 := hx.cell 11
         have x12 := hx.cell 12
         simp at x1 x2 x3 x4 x5 x10 x11 x12
         have HY1 := Lib.hid (Blk.new w1 23 [.int .i64 0, .int .i64 0, .int .i64 0, .int .i64 0])
         have HX1 := Lib.hid (hx.alloc (.cells #[.int .i64 0, .int .i64 0, .int .i64 0, .int .i64 0] 23))
         clear hx hb1)
      | (go_at_call 24; (with_reducible refine (KM.out _).mono ?_); rintro e w2 ⟨rfl, hb2⟩
         have HB2 := Lib.hid (bel_call hb2 HB1.out)
         have hy := HY1.out.keepB hb2
         have hx := HX1.out.keepB hb2
         have z10 := hx.cell 10
         have z11 := hx.cell 11
         have z12 := hx.cell 12
         simp at z10 z11 z12
         have y0 := hy.cell 0
         have y1 := hy.cell 1
         have y2 := hy.cell 2
         have y3 := hy.cell 3
         simp at y0 y1 y2 y3
         clear hb2 hy hx)
      | (go_at_call 20; (with_reducible refine (KI.out _).mono ?_); rintro e w3 ⟨rfl, rfl⟩))
  go_ret
  exact ⟨rfl, HB2.out.below⟩

set_option maxRecDepth 20000 in
set_option maxHeartbeats 4000000 in
theorem do_blendno2 {w : World} {g g' : Nat} {o : Cl} (hk : o.k ≠ 2) (hs : o.ms.length ≤ 140737488355328) (hz : blErr o ≠ 0) (hm : maskE o.m0 o.m1 o.m2 o.m3 o.ms.length = 0) (hi : byteB o.c = true) (hx : farB o.x = true) (he : blErr o = 10) :
    Calls Try.prog 28 #[.pointer (some ⟨g, 0, none⟩), .pointer (some ⟨g', 0, none⟩), .agg #[.int .i64 o.k, .int .i64 o.m0, .int .i64 o.m1, .int .i64 o.m2, .int .i64 o.m3, .slice o.A o.ms.length o.cm, .int .i64 o.b0, .int .i64 o.b1, .int .i64 o.b2, .int .i64 o.b3, .int .i64 o.x, .int .i64 o.y, .int .i64 o.c]] w fun e w' =>
      e = .returned (.bool true) ∧ Below w.heap.size w w' := by
  have KF := fun w g => Blend_no (w := w) (g := g) (Am := o.A) (cm := o.cm) hs hz
  have KM := fun w => rCheck_any o.m0 o.m1 o.m2 o.m3 o.A o.ms.length o.cm hs w
  have KI := fun w => rIs_any o.c w
  have KX := fun w => lfar_any o.x w
  have KY := fun w => lfar_any o.y w
  have HB0 := Lib.hid (bel_alloc (o := .cells #[.int .i64 o.k, .int .i64 o.m0, .int .i64 o.m1, .int .i64 o.m2, .int .i64 o.m3, .slice o.A o.ms.length o.cm, .int .i64 o.b0, .int .i64 o.b1, .int .i64 o.b2, .int .i64 o.b3, .int .i64 o.x, .int .i64 o.y, .int .i64 o.c] 28) (bel_refl (a := w)))
  have HX0 : Hid (Blk (w.alloc (.cells #[.int .i64 o.k, .int .i64 o.m0, .int .i64 o.m1, .int .i64 o.m2, .int .i64 o.m3, .slice o.A o.ms.length o.cm, .int .i64 o.b0, .int .i64 o.b1, .int .i64 o.b2, .int .i64 o.b3, .int .i64 o.x, .int .i64 o.y, .int .i64 o.c] 28)) w.heap.size 28 [.int .i64 o.k, .int .i64 o.m0, .int .i64 o.m1, .int .i64 o.m2, .int .i64 o.m3, .slice o.A o.ms.length o.cm, .int .i64 o.b0, .int .i64 o.b1, .int .i64 o.b2, .int .i64 o.b3, .int .i64 o.x, .int .i64 o.y, .int .i64 o.c]) := Lib.hid (Blk.new w 28 [.int .i64 o.k, .int .i64 o.m0, .int .i64 o.m1, .int .i64 o.m2, .int .i64 o.m3, .slice o.A o.ms.length o.cm, .int .i64 o.b0, .int .i64 o.b1, .int .i64 o.b2, .int .i64 o.b3, .int .i64 o.x, .int .i64 o.y, .int .i64 o.c])
  unfold blErr at he
  unfold zeroBox at KF
  rw [he] at KF
  rw [hm] at KM
  rw [hi] at KI
  rw [hx] at KX
  replace KF := Lib.hid KF
  replace KM := Lib.hid KM
  replace KI := Lib.hid KI
  replace KX := Lib.hid KX
  replace KY := Lib.hid KY
  have hk1 : (o.k == 2) = false := by simpa using hk
  have hk2 : decide (o.k = 2) = false := by simpa using hk
  clear hz he hk hm hi hx
  go_enter Try.func28, Try.ntmps28
  go_wp2_with (first
      | (go_at_call 16; (with_reducible refine (KF.out _ _).mono ?_); rintro e w1 ⟨rfl, hb1⟩
         have HB1 := Lib.hid (bel_alloc (o := .cells #[.int .i64 0, .int .i64 0, .int .i64 0, .int .i64 0] 23) (bel_call hb1 HB0.out))
         have hx := HX0.out.keepB hb1
         have hxl := hx.lt
         have x1 := hx.cell 1
         have x2 := hx.cell 2
         have x3 := hx.cell 3
         have x4 := hx.cell 4
         have x5 := hx.cell 5
         have x10 := hx.cell 10
         have x11 := hx.cell 11
         have x12 := hx.cell 12
         simp at x1 x2 x3 x4 x5 x10 x11 x12
         have HY1 := Lib.hid (Blk.new w1 23 [.int .i64 0, .int .i64 0, .int .i64 0, .int .i64 0])
         have HX1 := Lib.hid (hx.alloc (.cells #[.int .i64 0, .int .i64 0, .int .i64 0, .int .i64 0] 23))
         clear hx hb1)
      | (go_at_call 24; (with_reducible refine (KM.out _).mono ?_); rintro e w2 ⟨rfl, hb2⟩
         have HB2 := Lib.hid (bel_call hb2 HB1.out)
         have hy := HY1.out.keepB hb2
         have hx := HX1.out.keepB hb2
         have z10 := hx.cell 10
         have z11 := hx.cell 11
         have z12 := hx.cell 12
         simp at z10 z11 z12
         have y0 := hy.cell 0
         have y1 := hy.cell 1
         have y2 := hy.cell 2
         have y3 := hy.cell 3
         simp at y0 y1 y2 y3
         clear hb2 hy hx)
      | (go_at_call 20; (with_reducible refine (KI.out _).mono ?_); rintro e w3 ⟨rfl, rfl⟩)
      | (go_at_call 71; (with_reducible refine (KX.out _).mono ?_); rintro e w3 ⟨rfl, rfl⟩))
  go_ret
  exact ⟨rfl, HB2.out.below⟩

set_option maxRecDepth 20000 in
set_option maxHeartbeats 4000000 in
theorem do_blendno3 {w : World} {g g' : Nat} {o : Cl} (hk : o.k ≠ 2) (hs : o.ms.length ≤ 140737488355328) (hz : blErr o ≠ 0) (hm : maskE o.m0 o.m1 o.m2 o.m3 o.ms.length = 0) (hi : byteB o.c = true) (hx : farB o.x = false) (hy : farB o.y = true) (he : blErr o = 10) :
    Calls Try.prog 28 #[.pointer (some ⟨g, 0, none⟩), .pointer (some ⟨g', 0, none⟩), .agg #[.int .i64 o.k, .int .i64 o.m0, .int .i64 o.m1, .int .i64 o.m2, .int .i64 o.m3, .slice o.A o.ms.length o.cm, .int .i64 o.b0, .int .i64 o.b1, .int .i64 o.b2, .int .i64 o.b3, .int .i64 o.x, .int .i64 o.y, .int .i64 o.c]] w fun e w' =>
      e = .returned (.bool true) ∧ Below w.heap.size w w' := by
  have KF := fun w g => Blend_no (w := w) (g := g) (Am := o.A) (cm := o.cm) hs hz
  have KM := fun w => rCheck_any o.m0 o.m1 o.m2 o.m3 o.A o.ms.length o.cm hs w
  have KI := fun w => rIs_any o.c w
  have KX := fun w => lfar_any o.x w
  have KY := fun w => lfar_any o.y w
  have HB0 := Lib.hid (bel_alloc (o := .cells #[.int .i64 o.k, .int .i64 o.m0, .int .i64 o.m1, .int .i64 o.m2, .int .i64 o.m3, .slice o.A o.ms.length o.cm, .int .i64 o.b0, .int .i64 o.b1, .int .i64 o.b2, .int .i64 o.b3, .int .i64 o.x, .int .i64 o.y, .int .i64 o.c] 28) (bel_refl (a := w)))
  have HX0 : Hid (Blk (w.alloc (.cells #[.int .i64 o.k, .int .i64 o.m0, .int .i64 o.m1, .int .i64 o.m2, .int .i64 o.m3, .slice o.A o.ms.length o.cm, .int .i64 o.b0, .int .i64 o.b1, .int .i64 o.b2, .int .i64 o.b3, .int .i64 o.x, .int .i64 o.y, .int .i64 o.c] 28)) w.heap.size 28 [.int .i64 o.k, .int .i64 o.m0, .int .i64 o.m1, .int .i64 o.m2, .int .i64 o.m3, .slice o.A o.ms.length o.cm, .int .i64 o.b0, .int .i64 o.b1, .int .i64 o.b2, .int .i64 o.b3, .int .i64 o.x, .int .i64 o.y, .int .i64 o.c]) := Lib.hid (Blk.new w 28 [.int .i64 o.k, .int .i64 o.m0, .int .i64 o.m1, .int .i64 o.m2, .int .i64 o.m3, .slice o.A o.ms.length o.cm, .int .i64 o.b0, .int .i64 o.b1, .int .i64 o.b2, .int .i64 o.b3, .int .i64 o.x, .int .i64 o.y, .int .i64 o.c])
  unfold blErr at he
  unfold zeroBox at KF
  rw [he] at KF
  rw [hm] at KM
  rw [hi] at KI
  rw [hx] at KX
  rw [hy] at KY
  replace KF := Lib.hid KF
  replace KM := Lib.hid KM
  replace KI := Lib.hid KI
  replace KX := Lib.hid KX
  replace KY := Lib.hid KY
  have hk1 : (o.k == 2) = false := by simpa using hk
  have hk2 : decide (o.k = 2) = false := by simpa using hk
  clear hz he hk hm hi hx hy
  go_enter Try.func28, Try.ntmps28
  go_wp2_with (first
      | (go_at_call 16; (with_reducible refine (KF.out _ _).mono ?_); rintro e w1 ⟨rfl, hb1⟩
         have HB1 := Lib.hid (bel_alloc (o := .cells #[.int .i64 0, .int .i64 0, .int .i64 0, .int .i64 0] 23) (bel_call hb1 HB0.out))
         have hx := HX0.out.keepB hb1
         have hxl := hx.lt
         have x1 := hx.cell 1
         have x2 := hx.cell 2
         have x3 := hx.cell 3
         have x4 := hx.cell 4
         have x5 := hx.cell 5
         have x10 := hx.cell 10
         have x11 := hx.cell 11
         have x12 := hx.cell 12
         simp at x1 x2 x3 x4 x5 x10 x11 x12
         have HY1 := Lib.hid (Blk.new w1 23 [.int .i64 0, .int .i64 0, .int .i64 0, .int .i64 0])
         have HX1 := Lib.hid (hx.alloc (.cells #[.int .i64 0, .int .i64 0, .int .i64 0, .int .i64 0] 23))
         clear hx hb1)
      | (go_at_call 24; (with_reducible refine (KM.out _).mono ?_); rintro e w2 ⟨rfl, hb2⟩
         have HB2 := Lib.hid (bel_call hb2 HB1.out)
         have hy := HY1.out.keepB hb2
         have hx := HX1.out.keepB hb2
         have z10 := hx.cell 10
         have z11 := hx.cell 11
         have z12 := hx.cell 12
         simp at z10 z11 z12
         have y0 := hy.cell 0
         have y1 := hy.cell 1
         have y2 := hy.cell 2
         have y3 := hy.cell 3
         simp at y0 y1 y2 y3
         clear hb2 hy hx)
      | (go_at_call 20; (with_reducible refine (KI.out _).mono ?_); rintro e w3 ⟨rfl, rfl⟩)
      | (go_at_call 71; (with_reducible refine (KX.out _).mono ?_); rintro e w3 ⟨rfl, rfl⟩)
      | (go_at_call 71; (with_reducible refine (KY.out _).mono ?_); rintro e w3 ⟨rfl, rfl⟩))
  go_ret
  exact ⟨rfl, HB2.out.below⟩

theorem do_blendno {w : World} {g g' : Nat} {o : Cl} (hk : o.k ≠ 2) (hs : o.ms.length ≤ 140737488355328) (hz : blErr o ≠ 0) :
    Calls Try.prog 28 #[.pointer (some ⟨g, 0, none⟩), .pointer (some ⟨g', 0, none⟩), .agg #[.int .i64 o.k, .int .i64 o.m0, .int .i64 o.m1, .int .i64 o.m2, .int .i64 o.m3, .slice o.A o.ms.length o.cm, .int .i64 o.b0, .int .i64 o.b1, .int .i64 o.b2, .int .i64 o.b3, .int .i64 o.x, .int .i64 o.y, .int .i64 o.c]] w fun e w' =>
      e = .returned (.bool true) ∧ Below w.heap.size w w' := by
  rcases blErr_ne hz with ⟨h1, h2⟩ | ⟨h1, h2, h3⟩ | ⟨h1, h2, h3, h4⟩ | ⟨h1, h2, h3, h4, h5⟩
  · exact do_blendno0 hk hs hz h1 h2
  · exact do_blendno1 hk hs hz h1 h2 h3
  · exact do_blendno2 hk hs hz h1 h2 h3 h4
  · exact do_blendno3 hk hs hz h1 h2 h3 h4 h5

end Go.Proofs.Ytdapakoicegdoaa
