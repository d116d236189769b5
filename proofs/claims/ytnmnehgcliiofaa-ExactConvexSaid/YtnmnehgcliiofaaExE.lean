/-
  Layer 24: the document's Touches.
-/
import Derived.Test.YtnmnehgcliiofaaExD
import Derived.Test.YtnmnehgcliiofaaTail
import Derived.Deep.DeepCutAuto
namespace Go.Proofs.Ytnmnehgcliiofaa
open Go.RowKit

section
variable {ax ay dx dy b0 b1 b2 b3 : Int} (w : World)
theorem sidesB_all (p q r s : Int) : sidesB p q r s = (!(decide (0 < p) && decide (0 < q) && decide (0 < r) && decide (0 < s)) && !(decide (p < 0) && decide (q < 0) && decide (r < 0) && decide (s < 0))) := by
  rw [Bool.eq_iff_iff]
  simp [sidesB]
  omega

set_option maxRecDepth 20000 in
set_option maxHeartbeats 4000000 in
theorem rTouches_far (hbad : (nearB ax ay dx dy b0 b1 b2 b3 && decide (b0 ≤ b2) && decide (b1 ≤ b3)) = false) : Calls Try.prog 35 #[.agg #[.int .i64 ax, .int .i64 ay], .agg #[.int .i64 dx, .int .i64 dy], .agg #[.int .i64 b0, .int .i64 b1, .int .i64 b2, .int .i64 b3]] w fun e w' =>
      e = .returned (.bool (TouchB ax ay dx dy b0 b1 b2 b3)) ∧ Below w.heap.size w w' := by
  have K1 := Lib.hid (fits24_any ax)
  have K2 := Lib.hid (fits24_any ay)
  have K3 := Lib.hid (fits24_any dx)
  have K4 := Lib.hid (fits24_any dy)
  have K5 := Lib.hid (fits24_any b0)
  have K6 := Lib.hid (fits24_any b1)
  have K7 := Lib.hid (fits24_any b2)
  have K8 := Lib.hid (fits24_any b3)
  obtain ⟨W1, hW1⟩ : ∃ W1, (((w.alloc (.cells #[.int .i64 ax, .int .i64 ay] 72)).alloc (.cells #[.int .i64 dx, .int .i64 dy] 72)).alloc (.cells #[.int .i64 b0, .int .i64 b1, .int .i64 b2, .int .i64 b3] 32)) = W1 := ⟨_, rfl⟩
  have HB : Hid (Bel w.heap.size w W1) := Lib.hid (by rw [← hW1]; exact bel_alloc (bel_alloc (bel_alloc bel_refl)))
  have HX : Hid (Blk W1 w.heap.size 72 [.int .i64 ax, .int .i64 ay]) := Lib.hid (by rw [← hW1]; exact ((Blk.new w 72 [.int .i64 ax, .int .i64 ay]).alloc _).alloc _)
  have HY : Hid (Blk W1 (w.heap.size + 1) 72 [.int .i64 dx, .int .i64 dy]) := Lib.hid (by rw [← hW1]; exact (Blk.newAt (n := w.heap.size + 1) _ 72 [.int .i64 dx, .int .i64 dy] (by simp)).alloc _)
  have HZ : Hid (Blk W1 (w.heap.size + 1 + 1) 32 [.int .i64 b0, .int .i64 b1, .int .i64 b2, .int .i64 b3]) := Lib.hid (by rw [← hW1]; exact Blk.newAt (n := w.heap.size + 1 + 1) _ 32 [.int .i64 b0, .int .i64 b1, .int .i64 b2, .int .i64 b3] (by simp))
  go_enter Try.func35, Try.ntmps35
  go_upto_region 1 with fail
  have x0 : W1.cell? ⟨w.heap.size, 0, none⟩ = _ := HX.out.cell 0
  have x1 : W1.cell? ⟨w.heap.size, 1, none⟩ = _ := HX.out.cell 1
  have y0 : W1.cell? ⟨w.heap.size + 1, 0, none⟩ = _ := HY.out.cell 0
  have y1 : W1.cell? ⟨w.heap.size + 1, 1, none⟩ = _ := HY.out.cell 1
  have z0 : W1.cell? ⟨w.heap.size + 1 + 1, 0, none⟩ = _ := HZ.out.cell 0
  have z1 : W1.cell? ⟨w.heap.size + 1 + 1, 1, none⟩ = _ := HZ.out.cell 1
  have z2 : W1.cell? ⟨w.heap.size + 1 + 1, 2, none⟩ = _ := HZ.out.cell 2
  have z3 : W1.cell? ⟨w.heap.size + 1 + 1, 3, none⟩ = _ := HZ.out.cell 3
  simp at x0 x1 y0 y1 z0 z1 z2 z3
  clear hW1
  go_cut [70] (fun s wx => s = .bool (!(nearB ax ay dx dy b0 b1 b2 b3 && decide (b0 ≤ b2) && decide (b1 ≤ b3))) ∧ wx = W1)
  case first =>
    go_wp2_with (first
      | (go_at_call 64; (with_reducible refine (K1.out _).mono ?_); rintro e w1 ⟨rfl, rfl⟩) | (go_at_call 64; (with_reducible refine (K2.out _).mono ?_); rintro e w1 ⟨rfl, rfl⟩) | (go_at_call 64; (with_reducible refine (K3.out _).mono ?_); rintro e w1 ⟨rfl, rfl⟩) | (go_at_call 64; (with_reducible refine (K4.out _).mono ?_); rintro e w1 ⟨rfl, rfl⟩) | (go_at_call 64; (with_reducible refine (K5.out _).mono ?_); rintro e w1 ⟨rfl, rfl⟩) | (go_at_call 64; (with_reducible refine (K6.out _).mono ?_); rintro e w1 ⟨rfl, rfl⟩) | (go_at_call 64; (with_reducible refine (K7.out _).mono ?_); rintro e w1 ⟨rfl, rfl⟩) | (go_at_call 64; (with_reducible refine (K8.out _).mono ?_); rintro e w1 ⟨rfl, rfl⟩))
    all_goals go_meet
    all_goals
      refine ⟨congrArg Value.bool ?_, rfl⟩
      rw [Bool.eq_iff_iff]
      first | (simp [nearB, *]; done) | (simp [nearB, *]; omega)
  case rest =>
    obtain ⟨rfl, rfl⟩ := hcut
    have hn := nearB_num (ax := ax) (ay := ay) (dx := dx) (dy := dy) (b0 := b0) (b1 := b1) (b2 := b2) (b3 := b3)
    have he : TouchB ax ay dx dy b0 b1 b2 b3 = (nearB ax ay dx dy b0 b1 b2 b3 && decide (b0 ≤ b2) && decide (b1 ≤ b3) && touchB ax ay dx dy b0 b1 b2 b3) := rfl
    have hn2 : (nearB ax ay dx dy b0 b1 b2 b3 && decide (b0 ≤ b2) && decide (b1 ≤ b3)) = true → Num8 ax ay dx dy b0 b1 b2 b3 := fun h => by
      simp only [Bool.and_eq_true] at h
      exact hn h.1.1
    clear hn K1 K2 K3 K4 K5 K6 K7 K8
    generalize (nearB ax ay dx dy b0 b1 b2 b3 && decide (b0 ≤ b2) && decide (b1 ≤ b3)) = T at *
    cases T
    · have E := Lib.hid he
      clear he hn2
      go_wp2
      go_ret
      exact ⟨ret_bool' (by rw [E.out]; rfl), HB.out.below⟩
    · cases hbad
end
end Go.Proofs.Ytnmnehgcliiofaa
