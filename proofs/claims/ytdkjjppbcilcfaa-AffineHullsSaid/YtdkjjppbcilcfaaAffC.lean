/-
  Contracts of serifref02.Then and affine.Det.
-/
import Derived.Test.YtdkjjppbcilcfaaAffB
namespace Go.Proofs.Ytdkjjppbcilcfaa
open Go.RowKit

theorem fits_may {x : Int} (h : -32768 ≤ x ∧ x ≤ 32767) : mayB x = true := mayB_true.2 (by omega)
theorem mul_bd2 {x a : Int} (h1 : -32768 ≤ x) (h2 : x ≤ 32767) (h3 : -32768 ≤ a) (h4 : a ≤ 32767) : -1073741824 ≤ x * a ∧ x * a ≤ 1073741824 := by
  rcases Int.le_total 0 x with hx | hx <;> rcases Int.le_total 0 a with ha | ha
  · have p1 := Int.mul_nonneg hx ha
    have p2 := Int.mul_le_mul h2 h4 ha (by omega)
    omega
  · have p1 := Int.mul_nonneg hx (Int.neg_nonneg_of_nonpos ha)
    have p2 := Int.mul_le_mul h2 (show -a ≤ 32768 by omega) (by omega) (by omega)
    rw [Int.mul_neg] at p1 p2
    omega
  · have p1 := Int.mul_nonneg (Int.neg_nonneg_of_nonpos hx) ha
    have p2 := Int.mul_le_mul (show -x ≤ 32768 by omega) h4 ha (by omega)
    rw [Int.neg_mul] at p1 p2
    omega
  · have p1 := Int.mul_nonneg (Int.neg_nonneg_of_nonpos hx) (Int.neg_nonneg_of_nonpos ha)
    have p2 := Int.mul_le_mul (show -x ≤ 32768 by omega) (show -a ≤ 32768 by omega) (by omega) (by omega)
    rw [Int.neg_mul_neg] at p1 p2
    omega
theorem dot_bd {x a y b : Int} (h1 : -1073741824 ≤ x * a ∧ x * a ≤ 1073741824) (h2 : -1073741824 ≤ y * b ∧ y * b ≤ 1073741824) : mayB (dotI x a y b) = true := by
  apply mayB_true.2
  unfold dotI
  generalize x * a = p at *
  generalize y * b = q at *
  omega
theorem applyF_fits {a b c d x y : Int} (h : mB a b c d = true) (hx : -32768 ≤ x ∧ x ≤ 32767) (hy : -32768 ≤ y ∧ y ≤ 32767) : applyF a b c d x y = (dotI x a y c, dotI x b y d, 0) := by
  obtain ⟨ha, hb, hc, hd⟩ := mB_true h
  have u := dot_bd (mul_bd2 hx.1 hx.2 ha.1 ha.2) (mul_bd2 hy.1 hy.2 hc.1 hc.2)
  have v := dot_bd (mul_bd2 hx.1 hx.2 hb.1 hb.2) (mul_bd2 hy.1 hy.2 hd.1 hd.2)
  unfold applyF
  rw [if_neg (by simp [h]), if_neg (by simp [fits_may hx, fits_may hy]), if_neg (by simp [u, v])]

theorem rApply_fits (a b c d x y : Int) (w : World) (h : mB a b c d = true) (hx : -32768 ≤ x ∧ x ≤ 32767) (hy : -32768 ≤ y ∧ y ≤ 32767) :
    Calls Try.prog 16 #[.agg #[.int .i64 a, .int .i64 b, .int .i64 c, .int .i64 d], .int .i64 x, .int .i64 y] w fun e w' =>
      e = .returned (.tuple #[.int .i64 (dotI x a y c), .int .i64 (dotI x b y d), .int .i64 0]) ∧ Below w.heap.size w w' := by
  have := rApply_any a b c d x y w
  rw [applyF_fits h hx hy] at this
  exact this

set_option maxHeartbeats 2000000 in
theorem rThen_any (a b c d a' b' c' d' : Int) (w : World) :
    Calls Try.prog 23 #[.agg #[.int .i64 a, .int .i64 b, .int .i64 c, .int .i64 d], .agg #[.int .i64 a', .int .i64 b', .int .i64 c', .int .i64 d']] w fun e w' =>
      e = .returned (.tuple #[.agg #[.int .i64 (thenF a b c d a' b' c' d').1.p, .int .i64 (thenF a b c d a' b' c' d').1.q, .int .i64 (thenF a b c d a' b' c' d').1.r, .int .i64 (thenF a b c d a' b' c' d').1.s],
        .int .i64 (thenF a b c d a' b' c' d').2]) ∧ Below w.heap.size w w' := by
  rcases Bool.eq_false_or_eq_true (mB a b c d) with h1 | h1
  rcases Bool.eq_false_or_eq_true (mB a' b' c' d') with h2 | h2
  rcases Bool.eq_false_or_eq_true (mB (dotI a a' b c') (dotI a b' b d') (dotI c a' d c') (dotI c b' d d')) with h3 | h3
  all_goals
    have hA := Lib.hid (show thenF a b c d a' b' c' d' = _ by simp [thenF, *]; rfl)
  case' inl.inl.inl | inl.inl.inr =>
    obtain ⟨ha, hb, hc, hd⟩ := mB_true h1
  all_goals
    go_enter Try.func23, Try.ntmps23
    go_wp2_with (first
      | (go_at_call 21; refine (rMay_any _ _ _ _ _).mono ?_; rintro e w1 ⟨rfl, hb1⟩; obtain ⟨hc1, hf1, hz1⟩ := bcell hb1; (try simp at hz1))
      | (go_at_call 16; refine (rApply_fits _ _ _ _ _ _ _ h2 (by assumption) (by assumption)).mono ?_; rintro e w2 ⟨rfl, hb2⟩; obtain ⟨hc2, hf2, hz2⟩ := bcell hb2; (try simp at hz2)))
    refine bodyPost_ret (v := .tuple #[.agg #[.int .i64 (thenF a b c d a' b' c' d').1.p, .int .i64 (thenF a b c d a' b' c' d').1.q, .int .i64 (thenF a b c d a' b' c' d').1.r, .int .i64 (thenF a b c d a' b' c' d').1.s],
        .int .i64 (thenF a b c d a' b' c' d').2]) (by rw [hA.out]; simp [results, Try.results23, go_sem, ↓IntWalk.iteOmega, thenRaw, *]) rfl ⟨rfl, Bel.below ?_⟩
    repeat (first | with_reducible exact bel_refl | with_reducible apply bel_alloc | with_reducible apply bel_drewN | with_reducible apply bel_drew | (with_reducible refine bel_set ?_ ?_; rotate_left; · first | (simp; done) | (simp; omega) | omega) | with_reducible refine bel_call (by assumption) ?_)

def detF (a b c d : Int) : Int := if mB a b c d = false then 0 else a * d - b * c

set_option maxHeartbeats 1000000 in
theorem Det_any (a b c d : Int) (w : World) :
    Calls Try.prog 24 #[.agg #[.int .i64 a, .int .i64 b, .int .i64 c, .int .i64 d]] w fun e w' => e = .returned (.int .i64 (detF a b c d)) ∧ Below w.heap.size w w' := by
  rcases Bool.eq_false_or_eq_true (mB a b c d) with h1 | h1
  all_goals
    have hA := Lib.hid (show detF a b c d = _ by simp [detF, h1]; rfl)
  case' inl =>
    obtain ⟨ha, hb, hc, hd⟩ := mB_true h1
    obtain ⟨m1, m1'⟩ := mul_bd2 ha.1 ha.2 hd.1 hd.2
    obtain ⟨m2, m2'⟩ := mul_bd2 hb.1 hb.2 hc.1 hc.2
  all_goals
    go_enter Try.func24, Try.ntmps24
    go_wp2_with (go_at_call 20; refine (May_any _ _ _ _ _).mono ?_; rintro e w1 ⟨rfl, hb1⟩; obtain ⟨hc1, hf1, hz1⟩ := bcell hb1; (try simp at hz1))
    go_ret
    refine ⟨by rw [hA.out]; rfl, Bel.below ?_⟩
    repeat (first | with_reducible exact bel_refl | with_reducible apply bel_alloc | with_reducible apply bel_drewN | with_reducible apply bel_drew | (with_reducible refine bel_set ?_ ?_; rotate_left; · first | (simp; done) | (simp; omega) | omega) | with_reducible refine bel_call (by assumption) ?_)

end Go.Proofs.Ytdkjjppbcilcfaa
