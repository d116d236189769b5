/-
  Contracts of fixed.Floor26, Ceil26, affine.Pixels, Shift and of the references' own.
-/
import Derived.Test.YtbflncfhbmlibaaAffE
import Derived.Test.YtbflncfhbmlibaaEqB
namespace Go.Proofs.Ytbflncfhbmlibaa
open Go.RowKit

set_option maxHeartbeats 400000 in
theorem Floor26_any (x : Int) (w : World) : Calls Try.prog 51 #[.int .i64 x] w fun e w' => e = .returned (.int .i64 (x / 64)) ∧ w = w' := by
  go_enter Try.func51, Try.ntmps51
  go_wp2
  go_ret
  exact ⟨rfl, rfl⟩

theorem and63 (x : Int) : bits .and .i64 x 63 = x % 64 := by
  show IntKind.i64.wrap ((BitVec.ofInt 64 x &&& BitVec.ofInt 64 63).toNat : Int) = _
  rw [BitVec.toNat_and]
  have h : (BitVec.ofInt 64 63).toNat = 2 ^ 6 - 1 := by decide
  rw [h, Nat.and_two_pow_sub_one_eq_mod, BitVec.toNat_ofInt, IntKind.wrap_i64]
  omega

set_option maxHeartbeats 400000 in
theorem Ceil26_any (x : Int) (w : World) (h1 : -4611686018427387904 ≤ x) (h2 : x ≤ 4611686018427387904) :
    Calls Try.prog 52 #[.int .i64 x] w fun e w' => e = .returned (.int .i64 (-(-x / 64))) ∧ w = w' := by
  have hm := and63 x
  by_cases h3 : x % 64 = 0
  · have hf : (x % 64 != 0) = false := by simp [h3]
    have hz := Lib.hid h3
    clear h3
    go_enter Try.func52, Try.ntmps52
    go_wp2
    go_ret
    exact ⟨ret_int (by have := hz.out; omega), rfl⟩
  · have hf : (x % 64 != 0) = true := by simp [h3]
    go_enter Try.func52, Try.ntmps52
    go_wp2
    go_ret
    exact ⟨ret_int (by omega), rfl⟩

def pixF (A : Bx) : Bx := if emptyB A.x0 A.y0 A.x1 A.y1 = true then ⟨0, 0, 0, 0⟩ else ⟨A.x0 / 64, A.y0 / 64, -(-A.x1 / 64), -(-A.y1 / 64)⟩
def PixE (A : Bx) : Bx × Int := if bB A.x0 A.y0 A.x1 A.y1 = false then (⟨0, 0, 0, 0⟩, 10) else (pixF A, 0)

set_option maxHeartbeats 2000000 in
theorem rPixels_any (a b c d : Int) (w : World) (h1 : bB a b c d = true) :
    Calls Try.prog 20 #[.agg #[.int .i64 a, .int .i64 b, .int .i64 c, .int .i64 d]] w fun e w' =>
      e = .returned (.agg #[.int .i64 (pixF ⟨a, b, c, d⟩).x0, .int .i64 (pixF ⟨a, b, c, d⟩).y0, .int .i64 (pixF ⟨a, b, c, d⟩).x1, .int .i64 (pixF ⟨a, b, c, d⟩).y1]) ∧ Below w.heap.size w w' := by
  obtain ⟨⟨ha, ha'⟩, ⟨hb, hb'⟩, ⟨hc, hc'⟩, ⟨hd, hd'⟩⟩ := bB_true h1
  rcases Bool.eq_false_or_eq_true (emptyB a b c d) with h2 | h2
  all_goals
    have hA := Lib.hid (show pixF ⟨a, b, c, d⟩ = _ by simp [pixF, *]; rfl)
    go_enter Try.func20, Try.ntmps20
    go_wp2_with (go_at_call 18; refine (rEmpty_any _ _ _ _ _).mono ?_; rintro e w1 ⟨rfl, hb1⟩; obtain ⟨hc1, hf1, hz1⟩ := bcell hb1; (try simp at hz1))
    try
      refine wp_region_drew_tail 16 (by kernel_rfl) (by kernel_rfl) ?_
      simp only [List.take_succ_cons, List.take_zero, List.drop_succ_cons, List.drop_zero]
      repeat (go_big_quiet_step ((go_at_call 44; exact Calls.q_left (Floor_any _ _ _ (by omega) (by omega) (by omega)))))
      refine wpQuiet_nil ?_
      rintro _ ⟨nq, rfl⟩
      go_wp2
    rw [hA.out]
    refine bodyPost_ret (v := .agg #[.int .i64 _, .int .i64 _, .int .i64 _, .int .i64 _]) (by simp [results, Try.results20, go_sem, *]) rfl ⟨rfl, Bel.below ?_⟩
    repeat (first | with_reducible exact bel_refl | with_reducible apply bel_alloc | with_reducible apply bel_drewN | with_reducible apply bel_drew | (with_reducible refine bel_set ?_ ?_; rotate_left; · first | (simp; done) | (simp; omega) | omega) | with_reducible refine bel_call (by assumption) ?_)

/-- A box, shifted, if that may be. -/
def shiftF (A : Bx) (x y : Int) : Bx × Int :=
  if emptyB A.x0 A.y0 A.x1 A.y1 = true then (⟨0, 0, 0, 0⟩, 0) else
  if bB (A.x0 + x) (A.y0 + y) (A.x1 + x) (A.y1 + y) = false then (⟨0, 0, 0, 0⟩, 10) else (⟨A.x0 + x, A.y0 + y, A.x1 + x, A.y1 + y⟩, 0)
def ShiftE (A : Bx) (x y : Int) : Bx × Int := if (bB A.x0 A.y0 A.x1 A.y1 && mayB x && mayB y) = false then (⟨0, 0, 0, 0⟩, 10) else shiftF A x y

end Go.Proofs.Ytbflncfhbmlibaa
