/-
  A nil canvas; law CanvasNobody.
-/
import Derived.Test.YtdapakoicegdoaaCvL
import Derived.Test.YtdapakoicegdoaaEqB
namespace Go.Proofs.Ytdapakoicegdoaa
open Go.RowKit

def zeroBox : Value := .agg #[.int .i64 0, .int .i64 0, .int .i64 0, .int .i64 0]
theorem Size_nil (w : World) : Calls Try.prog 29 #[.pointer none] w fun e w' => e = .returned (.tuple #[.int .i64 0, .int .i64 0]) ∧ w = w' := by
  go_enter Try.func29, Try.ntmps29
  go_wp2
  go_ret2
  exact ⟨rfl, rfl⟩
theorem At_nil (x y : Int) (w : World) : Calls Try.prog 17 #[.pointer none, .int .i64 x, .int .i64 y] w fun e w' => e = .returned (.int .i64 0) ∧ w = w' := by
  go_enter Try.func17, Try.ntmps17
  go_wp2
  go_ret
  exact ⟨rfl, rfl⟩
theorem Bytes_nil (w : World) : Calls Try.prog 23 #[.pointer none] w fun e w' => e = .returned (.slice none 0 0) ∧ w = w' := by
  go_enter Try.func23, Try.ntmps23
  go_wp2
  go_ret
  exact ⟨rfl, rfl⟩
theorem Fork_nil (w : World) : Calls Try.prog 27 #[.pointer none] w fun e w' => e = .returned (.pointer none) ∧ w = w' := by
  go_enter Try.func27, Try.ntmps27
  go_wp2
  go_ret
  exact ⟨rfl, rfl⟩
theorem Blend_nil (w : World) (m0 m1 m2 m3 x y col : Int) (Am : Option Addr) (L cm : Nat) :
    Calls Try.prog 16 #[.pointer none, .agg #[.int .i64 m0, .int .i64 m1, .int .i64 m2, .int .i64 m3, .slice Am L cm], .int .i64 x, .int .i64 y, .int .i64 col] w fun e w' =>
      e = .returned (.tuple #[zeroBox, .int .i64 6]) ∧ Below w.heap.size w w' := by
  unfold zeroBox
  go_enter Try.func16, Try.ntmps16
  go_wp2_with fail
  refine bodyPost_ret (v := .tuple #[.agg #[.int .i64 0, .int .i64 0, .int .i64 0, .int .i64 0], .int .i64 6]) ?_ rfl ⟨rfl, Bel.below ?_⟩
  · simp [results, Try.results16, go_sem, *]
  · exact bel_alloc (bel_alloc (bel_alloc bel_refl))
theorem Fill_nil (w : World) (b0 b1 b2 b3 col : Int) :
    Calls Try.prog 31 #[.pointer none, .agg #[.int .i64 b0, .int .i64 b1, .int .i64 b2, .int .i64 b3], .int .i64 col] w fun e w' =>
      e = .returned (.tuple #[zeroBox, .int .i64 6]) ∧ Below w.heap.size w w' := by
  unfold zeroBox
  go_enter Try.func31, Try.ntmps31
  go_wp2_with fail
  refine bodyPost_ret (v := .tuple #[.agg #[.int .i64 0, .int .i64 0, .int .i64 0, .int .i64 0], .int .i64 6]) ?_ rfl ⟨rfl, Bel.below ?_⟩
  · simp [results, Try.results31, go_sem, *]
  · exact bel_alloc (bel_alloc bel_refl)

set_option maxRecDepth 20000 in
set_option maxHeartbeats 4000000 in
theorem canvasNobody_any (k m0 m1 m2 m3 b0 b1 b2 b3 x y col : Int) (Am : Option Addr) (L cm : Nat) (w : World) :
    Calls Try.prog 7 #[.agg #[.int .i64 k, .int .i64 m0, .int .i64 m1, .int .i64 m2, .int .i64 m3, .slice Am L cm, .int .i64 b0, .int .i64 b1, .int .i64 b2, .int .i64 b3, .int .i64 x, .int .i64 y, .int .i64 col]] w fun e w' =>
      e = .returned (.bool true) ∧ Below w.heap.size w w' := by
  have hb0 : Bel w.heap.size w (w.alloc (.cells #[.int .i64 k, .int .i64 m0, .int .i64 m1, .int .i64 m2, .int .i64 m3, .slice Am L cm, .int .i64 b0, .int .i64 b1, .int .i64 b2, .int .i64 b3, .int .i64 x, .int .i64 y, .int .i64 col] 28)) := bel_alloc bel_refl
  have hX : Blk (w.alloc (.cells #[.int .i64 k, .int .i64 m0, .int .i64 m1, .int .i64 m2, .int .i64 m3, .slice Am L cm, .int .i64 b0, .int .i64 b1, .int .i64 b2, .int .i64 b3, .int .i64 x, .int .i64 y, .int .i64 col] 28)) w.heap.size 28 [.int .i64 k, .int .i64 m0, .int .i64 m1, .int .i64 m2, .int .i64 m3, .slice Am L cm, .int .i64 b0, .int .i64 b1, .int .i64 b2, .int .i64 b3, .int .i64 x, .int .i64 y, .int .i64 col] := Blk.new w 28 _
  have HB0 := Lib.hid hb0
  have HX0 := Lib.hid hX
  clear hb0 hX
  go_enter Try.func7, Try.ntmps7
  go_wp2_with (first
    | (go_at_call 29; (with_reducible refine (Size_nil _).mono ?_); rintro e w1 ⟨rfl, rfl⟩)
    | (go_at_call 16
       with_reducible refine (Blend_nil _ m0 m1 m2 m3 x y col Am L cm).mono ?_
       rintro e w1 ⟨rfl, hb1⟩
       have HB1 := Lib.hid (bel_call hb1 HB0.out)
       have HX1 := Lib.hid (HX0.out.keepB hb1)
       have hlt1 := HX1.out.lt
       have p6 := HX1.out.cell 6
       have p7 := HX1.out.cell 7
       have p8 := HX1.out.cell 8
       have p9 := HX1.out.cell 9
       have p12 := HX1.out.cell 12
       simp at p6 p7 p8 p9 p12
       clear hb1
       unfold zeroBox)
    | (go_at_call 31
       with_reducible refine (Fill_nil _ b0 b1 b2 b3 col).mono ?_
       rintro e w2 ⟨rfl, hb2⟩
       have HB2 := Lib.hid (bel_call hb2 (bel_alloc (o := .cells #[.int .i64 0, .int .i64 0, .int .i64 0, .int .i64 0] 23) HB1.out))
       have HY2 := Lib.hid ((Blk.new w1 23 [.int .i64 0, .int .i64 0, .int .i64 0, .int .i64 0]).keepB hb2)
       have HX2 := Lib.hid ((HX1.out.alloc (.cells #[.int .i64 0, .int .i64 0, .int .i64 0, .int .i64 0] 23)).keepB hb2)
       have hlt2 := HY2.out.lt
       clear hb2 p6 p7 p8 p9 p12 HB1 HX1
       unfold zeroBox)
    | (go_at_call 14
       with_reducible refine (lives_any _).mono ?_
       rintro e w3 ⟨rfl, hb3⟩
       have HB3 := Lib.hid (bel_call hb3 (bel_alloc (o := .cells #[.int .i64 0, .int .i64 0, .int .i64 0, .int .i64 0] 23) HB2.out))
       have HZ3 := Lib.hid ((Blk.new w2 23 [.int .i64 0, .int .i64 0, .int .i64 0, .int .i64 0]).keepB hb3)
       have HY3 := Lib.hid ((HY2.out.alloc (.cells #[.int .i64 0, .int .i64 0, .int .i64 0, .int .i64 0] 23)).keepB hb3)
       have HX3 := Lib.hid ((HX2.out.alloc (.cells #[.int .i64 0, .int .i64 0, .int .i64 0, .int .i64 0] 23)).keepB hb3)
       have p10 := HX3.out.cell 10
       have p11 := HX3.out.cell 11
       simp at p10 p11
       have q0 := HY3.out.cell 0
       have q1 := HY3.out.cell 1
       have q2 := HY3.out.cell 2
       have q3 := HY3.out.cell 3
       simp at q0 q1 q2 q3
       have r0 := HZ3.out.cell 0
       have r1 := HZ3.out.cell 1
       have r2 := HZ3.out.cell 2
       have r3 := HZ3.out.cell 3
       simp at r0 r1 r2 r3
       clear hb3 HB2 HX2 HY2)
    | (go_at_call 17; (with_reducible refine (At_nil x y _).mono ?_); rintro e w4 ⟨rfl, rfl⟩)
    | (go_at_call 23; (with_reducible refine (Bytes_nil _).mono ?_); rintro e w5 ⟨rfl, rfl⟩)
    | (go_at_call 27; (with_reducible refine (Fork_nil _).mono ?_); rintro e w6 ⟨rfl, rfl⟩))
  go_ret
  exact ⟨rfl, HB3.out.below⟩

end Go.Proofs.Ytdapakoicegdoaa
