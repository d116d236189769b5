/-
  (*Canvas).Fill.
-/
import Derived.Test.YtdapakoicegdoaaCvN
import Derived.Test.YtdapakoicegdoaaCvE
namespace Go.Proofs.Ytdapakoicegdoaa
open Go.RowKit Go.Shelf

/-- What Fill says of numbers. -/
def fillE (b0 b1 b2 b3 c : Int) : Int := if bB b0 b1 b2 b3 = false then 10 else if byteB c = false then 1 else 0

set_option maxRecDepth 20000 in
set_option maxHeartbeats 4000000 in
theorem Fill_no {w : World} {g : Nat} {b0 b1 b2 b3 col : Int} (h : fillE b0 b1 b2 b3 col ≠ 0) :
    Calls Try.prog 31 #[.pointer (some ⟨g, 0, none⟩), .agg #[.int .i64 b0, .int .i64 b1, .int .i64 b2, .int .i64 b3], .int .i64 col] w fun e w' =>
      e = .returned (.tuple #[zeroBox, .int .i64 (fillE b0 b1 b2 b3 col)]) ∧ Below w.heap.size w w' := by
  have KB := fun w => isByte_new w col
  have KM := fun w => MayBox_any b0 b1 b2 b3 w
  have key : (bB b0 b1 b2 b3 = false ∧ fillE b0 b1 b2 b3 col = 10) ∨ (bB b0 b1 b2 b3 = true ∧ byteB col = false ∧ fillE b0 b1 b2 b3 col = 1) := by
    unfold fillE at h ⊢
    rcases Bool.eq_false_or_eq_true (bB b0 b1 b2 b3) with h1 | h1
    · rcases Bool.eq_false_or_eq_true (byteB col) with h2 | h2
      · simp [h1, h2] at h
      · simp [h1, h2]
    · simp [h1]
  have HB0 : Hid (Bel w.heap.size w ((w.alloc (.cells #[.int .i64 b0, .int .i64 b1, .int .i64 b2, .int .i64 b3] 23)).alloc (.cells #[.int .i64 0, .int .i64 0, .int .i64 0, .int .i64 0] 23))) := Lib.hid (bel_alloc (bel_alloc bel_refl))
  have HX7 : Hid (Blk ((w.alloc (.cells #[.int .i64 b0, .int .i64 b1, .int .i64 b2, .int .i64 b3] 23)).alloc (.cells #[.int .i64 0, .int .i64 0, .int .i64 0, .int .i64 0] 23)) (w.heap.size + 1) 23 [.int .i64 0, .int .i64 0, .int .i64 0, .int .i64 0]) :=
    Lib.hid (Blk.newAt (n := w.heap.size + 1) (w.alloc (.cells #[.int .i64 b0, .int .i64 b1, .int .i64 b2, .int .i64 b3] 23)) 23 [.int .i64 0, .int .i64 0, .int .i64 0, .int .i64 0] (by simp))
  clear h
  unfold zeroBox
  rcases key with ⟨h1, h2⟩ | ⟨h1, h2, h3⟩
  · rw [h2]
    rw [h1] at KM
    replace KM := Lib.hid KM
    clear h1 h2 KB
    go_enter Try.func31, Try.ntmps31
    go_wp2_with (first
      | (go_at_call 73; (with_reducible refine (KM.out _).mono ?_); rintro e w1 ⟨rfl, hb1⟩
         have H1 := Lib.hid (bel_call hb1 HB0.out)
         have hx := HX7.out.keepB hb1
         have z0 := hx.cell 0
         have z1 := hx.cell 1
         have z2 := hx.cell 2
         have z3 := hx.cell 3
         have f0 := hx.frozen 0
         have f1 := hx.frozen 1
         have f2 := hx.frozen 2
         have f3 := hx.frozen 3
         have hxl := hx.lt
         simp at z0 z1 z2 z3
         clear hb1 hx))
    refine bodyPost_ret (v := .tuple #[.agg #[.int .i64 0, .int .i64 0, .int .i64 0, .int .i64 0], .int .i64 10]) ?_ rfl ⟨rfl, ?_⟩
    · simp [results, Try.results31, go_sem, *]
    · exact (bel_set (bel_set (bel_set (bel_set H1.out (Nat.le_add_right _ 1)) (Nat.le_add_right _ 1)) (Nat.le_add_right _ 1)) (Nat.le_add_right _ 1)).below
  · rw [h3]
    rw [h1] at KM
    rw [h2] at KB
    replace KM := Lib.hid KM
    replace KB := Lib.hid KB
    clear h1 h2 h3
    go_enter Try.func31, Try.ntmps31
    go_wp2_with (first
      | (go_at_call 73; (with_reducible refine (KM.out _).mono ?_); rintro e w1 ⟨rfl, hb1⟩
         have H1 := Lib.hid (bel_call hb1 HB0.out)
         have hx := HX7.out.keepB hb1
         have z0 := hx.cell 0
         have z1 := hx.cell 1
         have z2 := hx.cell 2
         have z3 := hx.cell 3
         have f0 := hx.frozen 0
         have f1 := hx.frozen 1
         have f2 := hx.frozen 2
         have f3 := hx.frozen 3
         have hxl := hx.lt
         simp at z0 z1 z2 z3
         clear hb1 hx)
      | (go_at_call 55; (with_reducible refine (KB.out _).mono ?_); rintro e w2 ⟨rfl, rfl⟩))
    refine bodyPost_ret (v := .tuple #[.agg #[.int .i64 0, .int .i64 0, .int .i64 0, .int .i64 0], .int .i64 1]) ?_ rfl ⟨rfl, ?_⟩
    · simp [results, Try.results31, go_sem, *]
    · exact (bel_alloc (bel_set (bel_set (bel_set (bel_set H1.out (Nat.le_add_right _ 1)) (Nat.le_add_right _ 1)) (Nat.le_add_right _ 1)) (Nat.le_add_right _ 1))).below

end Go.Proofs.Ytdapakoicegdoaa
