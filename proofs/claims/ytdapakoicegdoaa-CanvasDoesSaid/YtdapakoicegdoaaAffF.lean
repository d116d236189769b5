/-
  Contracts of fixed.Floor26, Ceil26, affine.Pixels, Shift and of the references' own.
-/
import Derived.Test.YtdapakoicegdoaaAffE
import Derived.Test.YtdapakoicegdoaaEqB
namespace Go.Proofs.Ytdapakoicegdoaa
open Go.RowKit

set_option maxHeartbeats 400000 in
theorem Floor26_any (x : Int) (w : World) : Calls Try.prog 87 #[.int .i64 x] w fun e w' => e = .returned (.int .i64 (x / 64)) ∧ w = w' := by
  go_enter Try.func87, Try.ntmps87
  go_wp2
  go_ret
  exact ⟨rfl, rfl⟩

theorem and63 (x : Int) : bits .and .i64 x 63 = x % 64 := by
  show IntKind.i64.wrap ((BitVec.ofInt 64 x &&& BitVec.ofInt 64 63).toNat : Int) = _
  rw [BitVec.toNat_and]
  have h : (BitVec.ofInt 64 63).toNat = 2 ^ 6 - 1 := by decide
  rw [h, Nat.and_two_pow_sub_one_eq_mod, BitVec.toNat_ofInt, IntKind.wrap_i64]
  omega

set_option maxHeartbeats 400000 in
theorem Ceil26_any (x : Int) (w : World) (h1 : -4611686018427387904 ≤ x) (h2 : x ≤ 4611686018427387904) :
    Calls Try.prog 114 #[.int .i64 x] w fun e w' => e = .returned (.int .i64 (-(-x / 64))) ∧ w = w' := by
  have hm := and63 x
  by_cases h3 : x % 64 = 0
  · have hf : (x % 64 != 0) = false := by simp [h3]
    have hz := Lib.hid h3
    clear h3
    go_enter Try.func114, Try.ntmps114
    go_wp2
    go_ret
    exact ⟨ret_int (by have := hz.out; omega), rfl⟩
  · have hf : (x % 64 != 0) = true := by simp [h3]
    go_enter Try.func114, Try.ntmps114
    go_wp2
    go_ret
    exact ⟨ret_int (by omega), rfl⟩

def pixF (A : Bx) : Bx := if emptyB A.x0 A.y0 A.x1 A.y1 = true then ⟨0, 0, 0, 0⟩ else ⟨A.x0 / 64, A.y0 / 64, -(-A.x1 / 64), -(-A.y1 / 64)⟩
def PixE (A : Bx) : Bx × Int := if bB A.x0 A.y0 A.x1 A.y1 = false then (⟨0, 0, 0, 0⟩, 10) else (pixF A, 0)

/-- A box, shifted, if that may be. -/
def shiftF (A : Bx) (x y : Int) : Bx × Int :=
  if emptyB A.x0 A.y0 A.x1 A.y1 = true then (⟨0, 0, 0, 0⟩, 0) else
  if bB (A.x0 + x) (A.y0 + y) (A.x1 + x) (A.y1 + y) = false then (⟨0, 0, 0, 0⟩, 10) else (⟨A.x0 + x, A.y0 + y, A.x1 + x, A.y1 + y⟩, 0)
def ShiftE (A : Bx) (x y : Int) : Bx × Int := if (bB A.x0 A.y0 A.x1 A.y1 && mayB x && mayB y) = false then (⟨0, 0, 0, 0⟩, 10) else shiftF A x y

set_option maxHeartbeats 1000000 in
theorem Shift_any (a b c d x y : Int) (w : World) :
    Calls Try.prog 59 #[.agg #[.int .i64 a, .int .i64 b, .int .i64 c, .int .i64 d], .int .i64 x, .int .i64 y] w fun e w' =>
      e = .returned (.tuple #[.agg #[.int .i64 (ShiftE ⟨a, b, c, d⟩ x y).1.x0, .int .i64 (ShiftE ⟨a, b, c, d⟩ x y).1.y0, .int .i64 (ShiftE ⟨a, b, c, d⟩ x y).1.x1, .int .i64 (ShiftE ⟨a, b, c, d⟩ x y).1.y1], .int .i64 (ShiftE ⟨a, b, c, d⟩ x y).2]) ∧ Below w.heap.size w w' := by
  rcases Bool.eq_false_or_eq_true (bB a b c d) with h1 | h1
  rcases Bool.eq_false_or_eq_true (mayB x) with h2 | h2
  rcases Bool.eq_false_or_eq_true (mayB y) with h3 | h3
  · obtain ⟨⟨ha, ha'⟩, ⟨hb, hb'⟩, ⟨hc, hc'⟩, ⟨hd, hd'⟩⟩ := bB_true h1
    obtain ⟨hx, hx'⟩ := mayB_true.1 h2
    obtain ⟨hy, hy'⟩ := mayB_true.1 h3
    rcases Bool.eq_false_or_eq_true (emptyB a b c d) with h4 | h4
    · have hA := Lib.hid (show ShiftE ⟨a, b, c, d⟩ x y = _ by simp [ShiftE, shiftF, *]; rfl)
      have hp : plainF a b c d = ⟨0, 0, 0, 0⟩ := by simp [plainF, h4]
      go_enter Try.func59, Try.ntmps59
      go_wp2_with (first | (go_at_call 73; refine (MayBox_any _ _ _ _ _).mono ?_; rintro e w1 ⟨rfl, hb1⟩; obtain ⟨hc1, hf1, hz1⟩ := bcell hb1; (try simp at hz1)) | (go_at_call 95; refine (fmay_any _ _).mono ?_; rintro e w1 ⟨rfl, rfl⟩) | (go_at_call 96; refine (plain_any _ _ _ _ _).mono ?_; rintro e w1 ⟨rfl, hb1⟩; obtain ⟨hc1, hf1, hz1⟩ := bcell hb1; (try simp at hz1)) | (with_reducible refine bodyPost_ret (v := .tuple #[.agg #[.int .i64 (ShiftE ⟨a, b, c, d⟩ x y).1.x0, .int .i64 (ShiftE ⟨a, b, c, d⟩ x y).1.y0, .int .i64 (ShiftE ⟨a, b, c, d⟩ x y).1.x1, .int .i64 (ShiftE ⟨a, b, c, d⟩ x y).1.y1], .int .i64 (ShiftE ⟨a, b, c, d⟩ x y).2]) ?_ rfl ?_; (focus (rw [hA.out]; first | (simp [results, Try.results59, go_sem, *]; done) | (simp [results, Try.results59, go_sem, ↓IntWalk.iteOmega, *]; done))); (focus (refine ⟨rfl, Bel.below ?_⟩; (repeat (first | with_reducible exact bel_refl | with_reducible apply bel_alloc | with_reducible apply bel_drewN | with_reducible apply bel_drew | (with_reducible refine bel_set ?_ ?_; rotate_left; · first | (simp; done) | (simp; omega) | omega) | with_reducible refine bel_call (by assumption) ?_))))))
    · rcases Bool.eq_false_or_eq_true (bB (a + x) (b + y) (c + x) (d + y)) with h5 | h5
      all_goals
        have hA := Lib.hid (show ShiftE ⟨a, b, c, d⟩ x y = _ by simp [ShiftE, shiftF, *]; rfl)
        have hp : plainF a b c d = ⟨a, b, c, d⟩ := by simp [plainF, h4]
        obtain ⟨he, he'⟩ := emptyB_false.1 h4
        have hne : eq4 a b c d 0 0 0 0 = false := by simp [eq4]; omega
        go_enter Try.func59, Try.ntmps59
        go_wp2_with (first | (go_at_call 73; refine (MayBox_any _ _ _ _ _).mono ?_; rintro e w1 ⟨rfl, hb1⟩; obtain ⟨hc1, hf1, hz1⟩ := bcell hb1; (try simp at hz1)) | (go_at_call 95; refine (fmay_any _ _).mono ?_; rintro e w1 ⟨rfl, rfl⟩) | (go_at_call 96; refine (plain_any _ _ _ _ _).mono ?_; rintro e w1 ⟨rfl, hb1⟩; obtain ⟨hc1, hf1, hz1⟩ := bcell hb1; (try simp at hz1)) | (with_reducible refine bodyPost_ret (v := .tuple #[.agg #[.int .i64 (ShiftE ⟨a, b, c, d⟩ x y).1.x0, .int .i64 (ShiftE ⟨a, b, c, d⟩ x y).1.y0, .int .i64 (ShiftE ⟨a, b, c, d⟩ x y).1.x1, .int .i64 (ShiftE ⟨a, b, c, d⟩ x y).1.y1], .int .i64 (ShiftE ⟨a, b, c, d⟩ x y).2]) ?_ rfl ?_; (focus (rw [hA.out]; first | (simp [results, Try.results59, go_sem, *]; done) | (simp [results, Try.results59, go_sem, ↓IntWalk.iteOmega, *]; done))); (focus (refine ⟨rfl, Bel.below ?_⟩; (repeat (first | with_reducible exact bel_refl | with_reducible apply bel_alloc | with_reducible apply bel_drewN | with_reducible apply bel_drew | (with_reducible refine bel_set ?_ ?_; rotate_left; · first | (simp; done) | (simp; omega) | omega) | with_reducible refine bel_call (by assumption) ?_))))))
  all_goals
    have hA := Lib.hid (show ShiftE ⟨a, b, c, d⟩ x y = _ by simp [ShiftE, *]; rfl)
    go_enter Try.func59, Try.ntmps59
    go_wp2_with (first | (go_at_call 73; refine (MayBox_any _ _ _ _ _).mono ?_; rintro e w1 ⟨rfl, hb1⟩; obtain ⟨hc1, hf1, hz1⟩ := bcell hb1; (try simp at hz1)) | (go_at_call 95; refine (fmay_any _ _).mono ?_; rintro e w1 ⟨rfl, rfl⟩) | (go_at_call 96; refine (plain_any _ _ _ _ _).mono ?_; rintro e w1 ⟨rfl, hb1⟩; obtain ⟨hc1, hf1, hz1⟩ := bcell hb1; (try simp at hz1)) | (with_reducible refine bodyPost_ret (v := .tuple #[.agg #[.int .i64 (ShiftE ⟨a, b, c, d⟩ x y).1.x0, .int .i64 (ShiftE ⟨a, b, c, d⟩ x y).1.y0, .int .i64 (ShiftE ⟨a, b, c, d⟩ x y).1.x1, .int .i64 (ShiftE ⟨a, b, c, d⟩ x y).1.y1], .int .i64 (ShiftE ⟨a, b, c, d⟩ x y).2]) ?_ rfl ?_; (focus (rw [hA.out]; first | (simp [results, Try.results59, go_sem, *]; done) | (simp [results, Try.results59, go_sem, ↓IntWalk.iteOmega, *]; done))); (focus (refine ⟨rfl, Bel.below ?_⟩; (repeat (first | with_reducible exact bel_refl | with_reducible apply bel_alloc | with_reducible apply bel_drewN | with_reducible apply bel_drew | (with_reducible refine bel_set ?_ ?_; rotate_left; · first | (simp; done) | (simp; omega) | omega) | with_reducible refine bel_call (by assumption) ?_))))))

end Go.Proofs.Ytdapakoicegdoaa
