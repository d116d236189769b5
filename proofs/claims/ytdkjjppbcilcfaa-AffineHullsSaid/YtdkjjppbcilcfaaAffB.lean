/-
  Contracts of affine.Apply and serifref02.Apply, affine.One; the law AffineApplies's parts.
-/
import Derived.Test.YtdkjjppbcilcfaaAffA
namespace Go.Proofs.Ytdkjjppbcilcfaa
open Go.RowKit

def applyF (a b c d x y : Int) : Int × Int × Int :=
  if mB a b c d = false then (0, 0, 1) else if (mayB x && mayB y) = false then (0, 0, 10) else
  if (mayB (dotI x a y c) && mayB (dotI x b y d)) = false then (0, 0, 10) else (dotI x a y c, dotI x b y d, 0)

set_option maxHeartbeats 1000000 in
theorem Apply_any (a b c d x y : Int) (w : World) :
    Calls Try.prog 15 #[.agg #[.int .i64 a, .int .i64 b, .int .i64 c, .int .i64 d], .int .i64 x, .int .i64 y] w fun e w' =>
      e = .returned (.tuple #[.int .i64 (applyF a b c d x y).1, .int .i64 (applyF a b c d x y).2.1, .int .i64 (applyF a b c d x y).2.2]) ∧ Below w.heap.size w w' := by
  rcases Bool.eq_false_or_eq_true (mB a b c d) with h1 | h1
  rcases Bool.eq_false_or_eq_true (mayB x) with h2 | h2
  rcases Bool.eq_false_or_eq_true (mayB y) with h3 | h3
  rcases Bool.eq_false_or_eq_true (mayB (dotI x a y c)) with h4 | h4
  rcases Bool.eq_false_or_eq_true (mayB (dotI x b y d)) with h5 | h5
  all_goals
    have hA := Lib.hid (show applyF a b c d x y = _ by simp [applyF, *]; rfl)
    have hb : True := trivial
  case' inl.inl.inl.inl.inl | inl.inl.inl.inl.inr | inl.inl.inl.inr =>
    obtain ⟨ha, hb, hc, hd⟩ := mB_true h1
    have hx := mayB_true.1 h2
    have hy := mayB_true.1 h3
    have m1 := mul_bd hx.1 hx.2 ha.1 ha.2
    have m2 := mul_bd hy.1 hy.2 hc.1 hc.2
    have m3 := mul_bd hx.1 hx.2 hb.1 hb.2
    have m4 := mul_bd hy.1 hy.2 hd.1 hd.2
    clear ha hb hc hd hx hy
  all_goals
    go_enter Try.func15, Try.ntmps15
    go_wp2_with (first
      | (go_at_call 20; refine (May_any _ _ _ _ _).mono ?_; rintro e w1 ⟨rfl, hb1⟩; obtain ⟨hc1, hf1, hz1⟩ := bcell hb1; (try simp at hz1))
      | (go_at_call 57; refine (fmay_any _ _).mono ?_; rintro e w' ⟨rfl, rfl⟩)
      | (go_at_call 58; refine (turn_any _ _ _ _ _ _ _ (by assumption) (by assumption) (by assumption) (by assumption)).mono ?_; rintro e w2 ⟨rfl, hb2⟩))
    refine bodyPost_ret (results_tmp3 rfl _ _ _) rfl ⟨by rw [hA.out]; rfl, Bel.below ?_⟩
    repeat (first | with_reducible exact bel_refl | with_reducible apply bel_alloc | with_reducible apply bel_drewN | with_reducible apply bel_drew | (with_reducible refine bel_set ?_ ?_; rotate_left; · first | (simp; done) | (simp; omega) | omega) | with_reducible refine bel_call (by assumption) ?_)


set_option maxHeartbeats 1000000 in
theorem rApply_any (a b c d x y : Int) (w : World) :
    Calls Try.prog 16 #[.agg #[.int .i64 a, .int .i64 b, .int .i64 c, .int .i64 d], .int .i64 x, .int .i64 y] w fun e w' =>
      e = .returned (.tuple #[.int .i64 (applyF a b c d x y).1, .int .i64 (applyF a b c d x y).2.1, .int .i64 (applyF a b c d x y).2.2]) ∧ Below w.heap.size w w' := by
  rcases Bool.eq_false_or_eq_true (mB a b c d) with h1 | h1
  rcases Bool.eq_false_or_eq_true (mayB x) with h2 | h2
  rcases Bool.eq_false_or_eq_true (mayB y) with h3 | h3
  rcases Bool.eq_false_or_eq_true (mayB ((x * a + y * c + 8192) / 16384)) with h4 | h4
  rcases Bool.eq_false_or_eq_true (mayB ((x * b + y * d + 8192) / 16384)) with h5 | h5
  all_goals
    have hA := Lib.hid (show applyF a b c d x y = _ by simp [applyF, dotI, *]; rfl)
  case' inl.inl.inl.inl.inl | inl.inl.inl.inl.inr | inl.inl.inl.inr =>
    obtain ⟨ha, hb, hc, hd⟩ := mB_true h1
    have hx := mayB_true.1 h2
    have hy := mayB_true.1 h3
    obtain ⟨m1, m1'⟩ := mul_bd hx.1 hx.2 ha.1 ha.2
    obtain ⟨m2, m2'⟩ := mul_bd hy.1 hy.2 hc.1 hc.2
    obtain ⟨m3, m3'⟩ := mul_bd hx.1 hx.2 hb.1 hb.2
    obtain ⟨m4, m4'⟩ := mul_bd hy.1 hy.2 hd.1 hd.2
    clear ha hb hc hd hx hy
  all_goals
    go_enter Try.func16, Try.ntmps16
    go_wp2_with (first
      | (go_at_call 21; refine (rMay_any _ _ _ _ _).mono ?_; rintro e w1 ⟨rfl, hb1⟩; obtain ⟨hc1, hf1, hz1⟩ := bcell hb1; (try simp at hz1))
      | (go_at_call 18; refine (rmay_any _ _).mono ?_; rintro e w' ⟨rfl, rfl⟩))
    try go_quiet ((go_at_call 59; exact Calls.q_left (round_any _ _ (by omega) (by omega))))
    try go_wp2_with (go_at_call 18; refine (rmay_any _ _).mono ?_; rintro e w' ⟨rfl, rfl⟩)
    refine bodyPost_ret (results_tmp3 rfl _ _ _) rfl ⟨by rw [hA.out]; rfl, Bel.below ?_⟩
    repeat (first | with_reducible exact bel_refl | with_reducible apply bel_alloc | with_reducible apply bel_drewN | with_reducible apply bel_drew | (with_reducible refine bel_set ?_ ?_; rotate_left; · first | (simp; done) | (simp; omega) | omega) | with_reducible refine bel_call (by assumption) ?_)

set_option maxHeartbeats 400000 in
theorem One_any (w : World) :
    Calls Try.prog 17 #[] w fun e w' => e = .returned (.agg #[.int .i64 16384, .int .i64 0, .int .i64 0, .int .i64 16384]) ∧ Below w.heap.size w w' := by
  go_enter Try.func17, Try.ntmps17
  go_wp2
  refine bodyPost_ret (v := .agg #[.int .i64 16384, .int .i64 0, .int .i64 0, .int .i64 16384]) (by simp [results, Try.results17, go_sem]) rfl ⟨rfl, Bel.below ?_⟩
  repeat (first | with_reducible exact bel_refl | with_reducible apply bel_alloc | with_reducible apply bel_drewN | with_reducible apply bel_drew | (with_reducible refine bel_set ?_ ?_; rotate_left; · first | (simp; done) | (simp; omega) | omega) | with_reducible refine bel_call (by assumption) ?_)

/-- A matrix or a box: four numbers. -/
structure Q4 where
  p : Int
  q : Int
  r : Int
  s : Int
  deriving DecidableEq

/-- n behind m: the numbers of turn. -/
def thenRaw (a b c d a' b' c' d' : Int) : Q4 := ⟨dotI a a' b c', dotI a b' b d', dotI c a' d c', dotI c b' d d'⟩
def thenF (a b c d a' b' c' d' : Int) : Q4 × Int :=
  if (mB a b c d && mB a' b' c' d') = false then (⟨0, 0, 0, 0⟩, 1) else
  if mB (dotI a a' b c') (dotI a b' b d') (dotI c a' d c') (dotI c b' d d') = false then (⟨0, 0, 0, 0⟩, 10) else (thenRaw a b c d a' b' c' d', 0)

set_option maxHeartbeats 2000000 in
theorem Then_any (a b c d a' b' c' d' : Int) (w : World) :
    Calls Try.prog 22 #[.agg #[.int .i64 a, .int .i64 b, .int .i64 c, .int .i64 d], .agg #[.int .i64 a', .int .i64 b', .int .i64 c', .int .i64 d']] w fun e w' =>
      e = .returned (.tuple #[.agg #[.int .i64 (thenF a b c d a' b' c' d').1.p, .int .i64 (thenF a b c d a' b' c' d').1.q, .int .i64 (thenF a b c d a' b' c' d').1.r, .int .i64 (thenF a b c d a' b' c' d').1.s],
        .int .i64 (thenF a b c d a' b' c' d').2]) ∧ Below w.heap.size w w' := by
  rcases Bool.eq_false_or_eq_true (mB a b c d) with h1 | h1
  rcases Bool.eq_false_or_eq_true (mB a' b' c' d') with h2 | h2
  rcases Bool.eq_false_or_eq_true (mB (dotI a a' b c') (dotI a b' b d') (dotI c a' d c') (dotI c b' d d')) with h3 | h3
  all_goals
    have hA := Lib.hid (show thenF a b c d a' b' c' d' = _ by simp [thenF, *]; rfl)
  case' inl.inl.inl | inl.inl.inr =>
    obtain ⟨ha, hb, hc, hd⟩ := mB_true h1
    obtain ⟨ha', hb', hc', hd'⟩ := mB_true h2
    have m1 := mul_bd (x := a) (a := a') (by omega) (by omega) ha'.1 ha'.2
    have m2 := mul_bd (x := b) (a := c') (by omega) (by omega) hc'.1 hc'.2
    have m3 := mul_bd (x := a) (a := b') (by omega) (by omega) hb'.1 hb'.2
    have m4 := mul_bd (x := b) (a := d') (by omega) (by omega) hd'.1 hd'.2
    have m5 := mul_bd (x := c) (a := a') (by omega) (by omega) ha'.1 ha'.2
    have m6 := mul_bd (x := d) (a := c') (by omega) (by omega) hc'.1 hc'.2
    have m7 := mul_bd (x := c) (a := b') (by omega) (by omega) hb'.1 hb'.2
    have m8 := mul_bd (x := d) (a := d') (by omega) (by omega) hd'.1 hd'.2
    clear ha hb hc hd ha' hb' hc' hd'
  all_goals
    go_enter Try.func22, Try.ntmps22
    go_wp2_with (first
      | (go_at_call 20; refine (May_any _ _ _ _ _).mono ?_; rintro e w1 ⟨rfl, hb1⟩; obtain ⟨hc1, hf1, hz1⟩ := bcell hb1; (try simp at hz1))
      | (go_at_call 58; refine (turn_any _ _ _ _ _ _ _ (by assumption) (by assumption) (by assumption) (by assumption)).mono ?_; rintro e w2 ⟨rfl, hb2⟩; obtain ⟨hc2, hf2, hz2⟩ := bcell hb2; (try simp at hz2)))
    refine bodyPost_ret (v := .tuple #[.agg #[.int .i64 (thenF a b c d a' b' c' d').1.p, .int .i64 (thenF a b c d a' b' c' d').1.q, .int .i64 (thenF a b c d a' b' c' d').1.r, .int .i64 (thenF a b c d a' b' c' d').1.s],
        .int .i64 (thenF a b c d a' b' c' d').2]) (by rw [hA.out]; simp [results, Try.results22, go_sem, ↓IntWalk.iteOmega, thenRaw, *]) rfl ⟨rfl, Bel.below ?_⟩
    repeat (first | with_reducible exact bel_refl | with_reducible apply bel_alloc | with_reducible apply bel_drewN | with_reducible apply bel_drew | (with_reducible refine bel_set ?_ ?_; rotate_left; · first | (simp; done) | (simp; omega) | omega) | with_reducible refine bel_call (by assumption) ?_)

end Go.Proofs.Ytdkjjppbcilcfaa
