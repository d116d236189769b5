/-
  (*Canvas).Blend that is refused.
-/
import Derived.Test.YtdapakoicegdoaaCvN
namespace Go.Proofs.Ytdapakoicegdoaa
open Go.RowKit Go.Shelf

/-- What Blend says of numbers. -/
def blendE (m0 m1 m2 m3 L x y c : Int) : Int := if maskE m0 m1 m2 m3 L ≠ 0 then maskE m0 m1 m2 m3 L else if byteB c = false then 1 else if farB x = true ∨ farB y = true then 10 else 0

set_option maxRecDepth 20000 in
set_option maxHeartbeats 4000000 in
theorem Blend_no {w : World} {g : Nat} {Am : Option Addr} {L cm : Nat} {m0 m1 m2 m3 x y col : Int} (hL : L ≤ 140737488355328) (h : blendE m0 m1 m2 m3 L x y col ≠ 0) :
    Calls Try.prog 16 #[.pointer (some ⟨g, 0, none⟩), .agg #[.int .i64 m0, .int .i64 m1, .int .i64 m2, .int .i64 m3, .slice Am L cm], .int .i64 x, .int .i64 y, .int .i64 col] w fun e w' =>
      e = .returned (.tuple #[zeroBox, .int .i64 (blendE m0 m1 m2 m3 L x y col)]) ∧ Below w.heap.size w w' := by
  have KC := fun w => Check_any m0 m1 m2 m3 Am L cm hL w
  have KB := fun w => isByte_new w col
  have KX := fun w => cfar_any x w
  have KY := fun w => cfar_any y w
  have key : (maskE m0 m1 m2 m3 L ≠ 0 ∧ blendE m0 m1 m2 m3 L x y col = maskE m0 m1 m2 m3 L) ∨ (maskE m0 m1 m2 m3 L = 0 ∧ byteB col = false ∧ blendE m0 m1 m2 m3 L x y col = 1) ∨
      (maskE m0 m1 m2 m3 L = 0 ∧ byteB col = true ∧ farB x = true ∧ blendE m0 m1 m2 m3 L x y col = 10) ∨ (maskE m0 m1 m2 m3 L = 0 ∧ byteB col = true ∧ farB x = false ∧ farB y = true ∧ blendE m0 m1 m2 m3 L x y col = 10) := by
    unfold blendE at h ⊢
    by_cases h1 : maskE m0 m1 m2 m3 L = 0
    · rcases Bool.eq_false_or_eq_true (byteB col) with h2 | h2
      · rcases Bool.eq_false_or_eq_true (farB x) with h3 | h3
        · simp [h1, h2, h3]
        · rcases Bool.eq_false_or_eq_true (farB y) with h4 | h4
          · simp [h1, h2, h3, h4]
          · simp [h1, h2, h3, h4] at h
      · simp [h1, h2]
    · simp [h1]
  have HB0 : Hid (Bel w.heap.size w (((w.alloc (.cells #[.int .i64 m0, .int .i64 m1, .int .i64 m2, .int .i64 m3, .slice Am L cm] 26)).alloc (.cells #[.int .i64 col] 3)).alloc (.cells #[.int .i64 0, .int .i64 0, .int .i64 0, .int .i64 0] 23))) := Lib.hid (bel_alloc (bel_alloc (bel_alloc bel_refl)))
  have HX6 : Hid (Blk (((w.alloc (.cells #[.int .i64 m0, .int .i64 m1, .int .i64 m2, .int .i64 m3, .slice Am L cm] 26)).alloc (.cells #[.int .i64 col] 3)).alloc (.cells #[.int .i64 0, .int .i64 0, .int .i64 0, .int .i64 0] 23)) (w.heap.size + 1) 3 [.int .i64 col]) :=
    Lib.hid ((Blk.newAt (n := w.heap.size + 1) (w.alloc (.cells #[.int .i64 m0, .int .i64 m1, .int .i64 m2, .int .i64 m3, .slice Am L cm] 26)) 3 [.int .i64 col] (by simp)).alloc _)
  have HX7 : Hid (Blk (((w.alloc (.cells #[.int .i64 m0, .int .i64 m1, .int .i64 m2, .int .i64 m3, .slice Am L cm] 26)).alloc (.cells #[.int .i64 col] 3)).alloc (.cells #[.int .i64 0, .int .i64 0, .int .i64 0, .int .i64 0] 23)) (w.heap.size + 1 + 1) 23 [.int .i64 0, .int .i64 0, .int .i64 0, .int .i64 0]) :=
    Lib.hid (Blk.newAt (n := w.heap.size + 1 + 1) ((w.alloc (.cells #[.int .i64 m0, .int .i64 m1, .int .i64 m2, .int .i64 m3, .slice Am L cm] 26)).alloc (.cells #[.int .i64 col] 3)) 23 [.int .i64 0, .int .i64 0, .int .i64 0, .int .i64 0] (by simp))
  clear h
  unfold zeroBox
  rcases key with ⟨h1, h2⟩ | ⟨h1, h2, h3⟩ | ⟨h1, h2, h3, h4⟩ | ⟨h1, h2, h3, h4, h5⟩
  · rw [h2]
    obtain ⟨E, hE⟩ : ∃ E, maskE m0 m1 m2 m3 L = E := ⟨_, rfl⟩
    rw [hE] at KC h1 ⊢
    have h1' : (E != 0) = true := by simpa using h1
    replace KC := Lib.hid KC
    clear KB KX KY h2 hE h1
    go_enter Try.func16, Try.ntmps16
    go_wp2_with (first
      | (go_at_call 57; (with_reducible refine (KC.out _).mono ?_); rintro e w1 ⟨rfl, hb1⟩
         have H1 := Lib.hid (bel_call hb1 HB0.out)
         have hx := HX7.out.keepB hb1
         have z0 := hx.cell 0
         have z1 := hx.cell 1
         have z2 := hx.cell 2
         have z3 := hx.cell 3
         have f0 := hx.frozen 0
         have f1 := hx.frozen 1
         have f2 := hx.frozen 2
         have f3 := hx.frozen 3
         simp at z0 z1 z2 z3
         clear hb1 hx))
    refine bodyPost_ret (v := .tuple #[.agg #[.int .i64 0, .int .i64 0, .int .i64 0, .int .i64 0], .int .i64 E]) ?_ rfl ⟨rfl, ?_⟩
    · simp [results, Try.results16, go_sem, *]
    · exact (bel_set (bel_set (bel_set (bel_set H1.out (Nat.le_add_right _ 2)) (Nat.le_add_right _ 2)) (Nat.le_add_right _ 2)) (Nat.le_add_right _ 2)).below
  · rw [h3]
    rw [h1] at KC
    rw [h2] at KB
    replace KC := Lib.hid KC
    replace KB := Lib.hid KB
    clear h1 h2 h3 KX KY
    go_enter Try.func16, Try.ntmps16
    go_wp2_with (first
      | (go_at_call 57; (with_reducible refine (KC.out _).mono ?_); rintro e w1 ⟨rfl, hb1⟩
         have H1 := Lib.hid (bel_call hb1 HB0.out)
         have HX61 := Lib.hid (HX6.out.keepB hb1)
         have j1 := HX61.out.cell 0
         have hx1 := HX61.out.lt
         have hx := HX7.out.keepB hb1
         have hx2 := (HX7.out.keepB hb1).lt
         have z0 := hx.cell 0
         have z1 := hx.cell 1
         have z2 := hx.cell 2
         have z3 := hx.cell 3
         have f0 := hx.frozen 0
         have f1 := hx.frozen 1
         have f2 := hx.frozen 2
         have f3 := hx.frozen 3
         simp at j1 z0 z1 z2 z3
         clear hb1 hx)
      | (go_at_call 55; (with_reducible refine (KB.out _).mono ?_); rintro e w2 ⟨rfl, rfl⟩))
    refine bodyPost_ret (v := .tuple #[.agg #[.int .i64 0, .int .i64 0, .int .i64 0, .int .i64 0], .int .i64 1]) ?_ rfl ⟨rfl, ?_⟩
    · simp [results, Try.results16, go_sem, *]
    · exact (bel_alloc (bel_set (bel_set (bel_set (bel_set H1.out (Nat.le_add_right _ 2)) (Nat.le_add_right _ 2)) (Nat.le_add_right _ 2)) (Nat.le_add_right _ 2))).below
  · rw [h4]
    rw [h1] at KC
    rw [h2] at KB
    rw [h3] at KX
    replace KC := Lib.hid KC
    replace KB := Lib.hid KB
    replace KX := Lib.hid KX
    clear h1 h2 h3 h4 KY
    go_enter Try.func16, Try.ntmps16
    go_wp2_with (first
      | (go_at_call 57; (with_reducible refine (KC.out _).mono ?_); rintro e w1 ⟨rfl, hb1⟩
         have H1 := Lib.hid (bel_call hb1 HB0.out)
         have HX61 := Lib.hid (HX6.out.keepB hb1)
         have j1 := HX61.out.cell 0
         have hx1 := HX61.out.lt
         have hx := HX7.out.keepB hb1
         have hx2 := (HX7.out.keepB hb1).lt
         have z0 := hx.cell 0
         have z1 := hx.cell 1
         have z2 := hx.cell 2
         have z3 := hx.cell 3
         have f0 := hx.frozen 0
         have f1 := hx.frozen 1
         have f2 := hx.frozen 2
         have f3 := hx.frozen 3
         simp at j1 z0 z1 z2 z3
         clear hb1 hx)
      | (go_at_call 55; (with_reducible refine (KB.out _).mono ?_); rintro e w2 ⟨rfl, rfl⟩)
      | (go_at_call 58; (with_reducible refine (KX.out _).mono ?_); rintro e w3 ⟨rfl, rfl⟩))
    refine bodyPost_ret (v := .tuple #[.agg #[.int .i64 0, .int .i64 0, .int .i64 0, .int .i64 0], .int .i64 10]) ?_ rfl ⟨rfl, ?_⟩
    · simp [results, Try.results16, go_sem, *]
    · exact (bel_alloc (bel_set (bel_set (bel_set (bel_set H1.out (Nat.le_add_right _ 2)) (Nat.le_add_right _ 2)) (Nat.le_add_right _ 2)) (Nat.le_add_right _ 2))).below
  · rw [h5]
    rw [h1] at KC
    rw [h2] at KB
    rw [h3] at KX
    rw [h4] at KY
    replace KC := Lib.hid KC
    replace KB := Lib.hid KB
    replace KX := Lib.hid KX
    replace KY := Lib.hid KY
    clear h1 h2 h3 h4 h5
    go_enter Try.func16, Try.ntmps16
    go_wp2_with (first
      | (go_at_call 57; (with_reducible refine (KC.out _).mono ?_); rintro e w1 ⟨rfl, hb1⟩
         have H1 := Lib.hid (bel_call hb1 HB0.out)
         have HX61 := Lib.hid (HX6.out.keepB hb1)
         have j1 := HX61.out.cell 0
         have hx1 := HX61.out.lt
         have hx := HX7.out.keepB hb1
         have hx2 := (HX7.out.keepB hb1).lt
         have z0 := hx.cell 0
         have z1 := hx.cell 1
         have z2 := hx.cell 2
         have z3 := hx.cell 3
         have f0 := hx.frozen 0
         have f1 := hx.frozen 1
         have f2 := hx.frozen 2
         have f3 := hx.frozen 3
         simp at j1 z0 z1 z2 z3
         clear hb1 hx)
      | (go_at_call 55; (with_reducible refine (KB.out _).mono ?_); rintro e w2 ⟨rfl, rfl⟩)
      | (go_at_call 58; (with_reducible refine (KX.out _).mono ?_); rintro e w3 ⟨rfl, rfl⟩)
      | (go_at_call 58; (with_reducible refine (KY.out _).mono ?_); rintro e w3 ⟨rfl, rfl⟩))
    refine bodyPost_ret (v := .tuple #[.agg #[.int .i64 0, .int .i64 0, .int .i64 0, .int .i64 0], .int .i64 10]) ?_ rfl ⟨rfl, ?_⟩
    · simp [results, Try.results16, go_sem, *]
    · exact (bel_alloc (bel_set (bel_set (bel_set (bel_set H1.out (Nat.le_add_right _ 2)) (Nat.le_add_right _ 2)) (Nat.le_add_right _ 2)) (Nat.le_add_right _ 2))).below

end Go.Proofs.Ytdapakoicegdoaa
