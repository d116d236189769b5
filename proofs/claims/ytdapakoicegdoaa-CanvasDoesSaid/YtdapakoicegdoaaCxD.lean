/-
  do of layer 26: one call of both.
-/
import Derived.Test.YtdapakoicegdoaaCxC
namespace Go.Proofs.Ytdapakoicegdoaa
open Go.RowKit Go.Shelf

theorem turn_two {a b : World} {k k' : Nat} (h : Turn a b k' none) : Turn a b k (some k') := ⟨h.os, h.tape, h.output, h.size, fun i hi _ h2 => h.block i hi (fun e => h2 (by rw [e])) (fun e => by cases e)⟩

set_option maxRecDepth 20000 in
set_option maxHeartbeats 4000000 in
theorem do_fillno {w : World} {g g' : Nat} {o : Cl} (hz : flErr o ≠ 0) :
    Calls Try.prog 28 #[.pointer (some ⟨g, 0, none⟩), .pointer (some ⟨g', 0, none⟩), .agg #[.int .i64 2, .int .i64 o.m0, .int .i64 o.m1, .int .i64 o.m2, .int .i64 o.m3, .slice o.A o.ms.length o.cm, .int .i64 o.b0, .int .i64 o.b1, .int .i64 o.b2, .int .i64 o.b3, .int .i64 o.x, .int .i64 o.y, .int .i64 o.c]] w fun e w' =>
      e = .returned (.bool true) ∧ Below w.heap.size w w' := by
  have key : (bB o.b0 o.b1 o.b2 o.b3 = false ∧ flErr o = 10) ∨ (bB o.b0 o.b1 o.b2 o.b3 = true ∧ byteB o.c = false ∧ flErr o = 1) := by
    unfold flErr fillE at hz ⊢
    rcases Bool.eq_false_or_eq_true (bB o.b0 o.b1 o.b2 o.b3) with h1 | h1
    · rcases Bool.eq_false_or_eq_true (byteB o.c) with h2 | h2
      · simp [h1, h2] at hz
      · simp [h1, h2]
    · simp [h1]
  have KF := fun w g => Fill_no (w := w) (g := g) hz
  have KM := fun w => rMayBox_any o.b0 o.b1 o.b2 o.b3 w
  have KI := fun w => rIs_any o.c w
  have HB0 := Lib.hid (bel_alloc (o := .cells #[.int .i64 2, .int .i64 o.m0, .int .i64 o.m1, .int .i64 o.m2, .int .i64 o.m3, .slice o.A o.ms.length o.cm, .int .i64 o.b0, .int .i64 o.b1, .int .i64 o.b2, .int .i64 o.b3, .int .i64 o.x, .int .i64 o.y, .int .i64 o.c] 28) (bel_refl (a := w)))
  have HX0 : Hid (Blk (w.alloc (.cells #[.int .i64 2, .int .i64 o.m0, .int .i64 o.m1, .int .i64 o.m2, .int .i64 o.m3, .slice o.A o.ms.length o.cm, .int .i64 o.b0, .int .i64 o.b1, .int .i64 o.b2, .int .i64 o.b3, .int .i64 o.x, .int .i64 o.y, .int .i64 o.c] 28)) w.heap.size 28 [.int .i64 2, .int .i64 o.m0, .int .i64 o.m1, .int .i64 o.m2, .int .i64 o.m3, .slice o.A o.ms.length o.cm, .int .i64 o.b0, .int .i64 o.b1, .int .i64 o.b2, .int .i64 o.b3, .int .i64 o.x, .int .i64 o.y, .int .i64 o.c]) := Lib.hid (Blk.new w 28 [.int .i64 2, .int .i64 o.m0, .int .i64 o.m1, .int .i64 o.m2, .int .i64 o.m3, .slice o.A o.ms.length o.cm, .int .i64 o.b0, .int .i64 o.b1, .int .i64 o.b2, .int .i64 o.b3, .int .i64 o.x, .int .i64 o.y, .int .i64 o.c])
  unfold flErr at key
  unfold zeroBox at KF
  rcases key with ⟨h1, h2⟩ | ⟨h1, h2, h3⟩
  · rw [h2] at KF
    rw [h1] at KM
    replace KF := Lib.hid KF
    replace KM := Lib.hid KM
    clear h1 h2 hz KI
    go_enter Try.func28, Try.ntmps28
    go_wp2_with (first
      | (go_at_call 31; (with_reducible refine (KF.out _ _).mono ?_); rintro e w1 ⟨rfl, hb1⟩
         have HB1 := Lib.hid (bel_alloc (o := .cells #[.int .i64 0, .int .i64 0, .int .i64 0, .int .i64 0] 23) (bel_call hb1 HB0.out))
         have hx := HX0.out.keepB hb1
         have hxl := hx.lt
         have x6 := hx.cell 6
         have x7 := hx.cell 7
         have x8 := hx.cell 8
         have x9 := hx.cell 9
         have x12 := hx.cell 12
         simp at x6 x7 x8 x9 x12
         have HY1 := Lib.hid (Blk.new w1 23 [.int .i64 0, .int .i64 0, .int .i64 0, .int .i64 0])
         have HX1 := Lib.hid (hx.alloc (.cells #[.int .i64 0, .int .i64 0, .int .i64 0, .int .i64 0] 23))
         clear hx hb1)
      | (go_at_call 69; (with_reducible refine (KM.out _).mono ?_); rintro e w2 ⟨rfl, hb2⟩
         have HB2 := Lib.hid (bel_call hb2 HB1.out)
         have hy := HY1.out.keepB hb2
         have hx := HX1.out.keepB hb2
         have z12 := hx.cell 12
         simp at z12
         have y0 := hy.cell 0
         have y1 := hy.cell 1
         have y2 := hy.cell 2
         have y3 := hy.cell 3
         simp at y0 y1 y2 y3
         clear hb2 hy hx)
      | (go_at_call 20; (with_reducible refine (KI.out _).mono ?_); rintro e w3 ⟨rfl, rfl⟩))
    go_ret
    exact ⟨rfl, HB2.out.below⟩
  · rw [h3] at KF
    rw [h1] at KM
    rw [h2] at KI
    replace KF := Lib.hid KF
    replace KM := Lib.hid KM
    replace KI := Lib.hid KI
    clear h1 h2 h3 hz
    go_enter Try.func28, Try.ntmps28
    go_wp2_with (first
      | (go_at_call 31; (with_reducible refine (KF.out _ _).mono ?_); rintro e w1 ⟨rfl, hb1⟩
         have HB1 := Lib.hid (bel_alloc (o := .cells #[.int .i64 0, .int .i64 0, .int .i64 0, .int .i64 0] 23) (bel_call hb1 HB0.out))
         have hx := HX0.out.keepB hb1
         have hxl := hx.lt
         have x6 := hx.cell 6
         have x7 := hx.cell 7
         have x8 := hx.cell 8
         have x9 := hx.cell 9
         have x12 := hx.cell 12
         simp at x6 x7 x8 x9 x12
         have HY1 := Lib.hid (Blk.new w1 23 [.int .i64 0, .int .i64 0, .int .i64 0, .int .i64 0])
         have HX1 := Lib.hid (hx.alloc (.cells #[.int .i64 0, .int .i64 0, .int .i64 0, .int .i64 0] 23))
         clear hx hb1)
      | (go_at_call 69; (with_reducible refine (KM.out _).mono ?_); rintro e w2 ⟨rfl, hb2⟩
         have HB2 := Lib.hid (bel_call hb2 HB1.out)
         have hy := HY1.out.keepB hb2
         have hx := HX1.out.keepB hb2
         have z12 := hx.cell 12
         simp at z12
         have y0 := hy.cell 0
         have y1 := hy.cell 1
         have y2 := hy.cell 2
         have y3 := hy.cell 3
         simp at y0 y1 y2 y3
         clear hb2 hy hx)
      | (go_at_call 20; (with_reducible refine (KI.out _).mono ?_); rintro e w3 ⟨rfl, rfl⟩))
    go_ret
    exact ⟨rfl, HB2.out.below⟩

end Go.Proofs.Ytdapakoicegdoaa
