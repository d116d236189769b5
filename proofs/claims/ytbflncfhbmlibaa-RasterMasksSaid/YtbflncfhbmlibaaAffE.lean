/-
  Contracts of affine.Join, Meet, Holds, Area and of the references' own.
-/
import Derived.Test.YtbflncfhbmlibaaAffD
namespace Go.Proofs.Ytbflncfhbmlibaa
open Go.RowKit

def joinF (A B : Bx) : Bx :=
  if emptyB A.x0 A.y0 A.x1 A.y1 = true then plainF B.x0 B.y0 B.x1 B.y1 else if emptyB B.x0 B.y0 B.x1 B.y1 = true then A else ⟨min A.x0 B.x0, min A.y0 B.y0, max A.x1 B.x1, max A.y1 B.y1⟩
def meetF (A B : Bx) : Bx := plainF (max A.x0 B.x0) (max A.y0 B.y0) (min A.x1 B.x1) (min A.y1 B.y1)
def JoinE (A B : Bx) : Bx × Int := if (bB A.x0 A.y0 A.x1 A.y1 && bB B.x0 B.y0 B.x1 B.y1) = false then (⟨0, 0, 0, 0⟩, 10) else (joinF A B, 0)
def MeetE (A B : Bx) : Bx × Int := if (bB A.x0 A.y0 A.x1 A.y1 && bB B.x0 B.y0 B.x1 B.y1) = false then (⟨0, 0, 0, 0⟩, 10) else (meetF A B, 0)

set_option maxHeartbeats 4000000 in
theorem Meet_any (a b c d a' b' c' d' : Int) (w : World) :
    Calls Try.prog 45 #[.agg #[.int .i64 a, .int .i64 b, .int .i64 c, .int .i64 d], .agg #[.int .i64 a', .int .i64 b', .int .i64 c', .int .i64 d']] w fun e w' =>
      e = .returned (.tuple #[.agg #[.int .i64 (MeetE ⟨a, b, c, d⟩ ⟨a', b', c', d'⟩).1.x0, .int .i64 (MeetE ⟨a, b, c, d⟩ ⟨a', b', c', d'⟩).1.y0, .int .i64 (MeetE ⟨a, b, c, d⟩ ⟨a', b', c', d'⟩).1.x1, .int .i64 (MeetE ⟨a, b, c, d⟩ ⟨a', b', c', d'⟩).1.y1], .int .i64 (MeetE ⟨a, b, c, d⟩ ⟨a', b', c', d'⟩).2]) ∧ Below w.heap.size w w' := by
  rcases Bool.eq_false_or_eq_true (bB a b c d) with h1 | h1
  rcases Bool.eq_false_or_eq_true (bB a' b' c' d') with h2 | h2
  all_goals
    have hA := Lib.hid (show MeetE ⟨a, b, c, d⟩ ⟨a', b', c', d'⟩ = _ by simp [MeetE, meetF, *]; rfl)
    go_enter Try.func45, Try.ntmps45
    go_wp2_with (first | (go_at_call 66; refine (MayBox_any _ _ _ _ _).mono ?_; rintro e w1 ⟨rfl, hb1⟩; obtain ⟨hc1, hf1, hz1⟩ := bcell hb1; (try simp at hz1)) | (go_at_call 67; refine (plain_any _ _ _ _ _).mono ?_; rintro e w1 ⟨rfl, hb1⟩; obtain ⟨hc1, hf1, hz1⟩ := bcell hb1; (try simp at hz1)) | (go_at_call 68; refine (pair_ml _ _ _ _ _ _ _ _ _).mono ?_; rintro e w1 ⟨rfl, hb1⟩; obtain ⟨hc1, hf1, hz1⟩ := bcell hb1; (try simp at hz1)))
    rw [hA.out]
    refine bodyPost_ret (v := .tuple #[.agg #[.int .i64 _, .int .i64 _, .int .i64 _, .int .i64 _], .int .i64 _]) (by simp [results, Try.results45, go_sem, ↓IntWalk.iteOmega, *]) rfl ⟨rfl, Bel.below ?_⟩
    repeat (first | with_reducible exact bel_refl | with_reducible apply bel_alloc | with_reducible apply bel_drewN | with_reducible apply bel_drew | (with_reducible refine bel_set ?_ ?_; rotate_left; · first | (simp; done) | (simp; omega) | omega) | with_reducible refine bel_call (by assumption) ?_)

set_option maxHeartbeats 4000000 in
theorem rMeet_any (a b c d a' b' c' d' : Int) (w : World) :
    Calls Try.prog 47 #[.agg #[.int .i64 a, .int .i64 b, .int .i64 c, .int .i64 d], .agg #[.int .i64 a', .int .i64 b', .int .i64 c', .int .i64 d']] w fun e w' =>
      e = .returned (.agg #[.int .i64 (meetF ⟨a, b, c, d⟩ ⟨a', b', c', d'⟩).x0, .int .i64 (meetF ⟨a, b, c, d⟩ ⟨a', b', c', d'⟩).y0, .int .i64 (meetF ⟨a, b, c, d⟩ ⟨a', b', c', d'⟩).x1, .int .i64 (meetF ⟨a, b, c, d⟩ ⟨a', b', c', d'⟩).y1]) ∧ Below w.heap.size w w' := by
  go_enter Try.func47, Try.ntmps47
  go_wp2_with fail
  refine wp_region_drew_tail 20 (by kernel_rfl) (by kernel_rfl) ?_
  simp only [List.take_succ_cons, List.take_zero, List.drop_succ_cons, List.drop_zero]
  repeat (go_big_quiet_step (first | (go_at_call 74; exact Calls.q_left (least_any _ _ _)) | (go_at_call 73; exact Calls.q_left (most_any _ _ _))))
  refine wpQuiet_nil ?_
  rintro _ ⟨nq, rfl⟩
  go_wp2_with (go_at_call 72; refine (rPlain_any _ _ _ _ _).mono ?_; rintro e w1 ⟨rfl, hb1⟩; obtain ⟨hc1, hf1, hz1⟩ := bcell hb1; (try simp at hz1))
  unfold meetF
  refine bodyPost_ret (v := .agg #[.int .i64 _, .int .i64 _, .int .i64 _, .int .i64 _]) (by simp [results, Try.results47, go_sem, *]) rfl ⟨rfl, Bel.below ?_⟩
  repeat (first | with_reducible exact bel_refl | with_reducible apply bel_alloc | with_reducible apply bel_drewN | with_reducible apply bel_drew | (with_reducible refine bel_set ?_ ?_; rotate_left; · first | (simp; done) | (simp; omega) | omega) | with_reducible refine bel_call (by assumption) ?_)

def holdsB (a b c d x y : Int) : Bool := bB a b c d && decide (a ≤ x) && decide (x < c) && decide (b ≤ y) && decide (y < d)

set_option maxHeartbeats 4000000 in
theorem Holds_any (a b c d x y : Int) (w : World) :
    Calls Try.prog 71 #[.agg #[.int .i64 a, .int .i64 b, .int .i64 c, .int .i64 d], .int .i64 x, .int .i64 y] w fun e w' => e = .returned (.bool (holdsB a b c d x y)) ∧ Below w.heap.size w w' := by
  rcases Bool.eq_false_or_eq_true (bB a b c d) with h1 | h1
  by_cases h2 : a ≤ x
  by_cases h3 : x < c
  by_cases h4 : b ≤ y
  all_goals
    go_enter Try.func71, Try.ntmps71
    go_wp2_with (go_at_call 66; refine (MayBox_any _ _ _ _ _).mono ?_; rintro e w1 ⟨rfl, hb1⟩; obtain ⟨hc1, hf1, hz1⟩ := bcell hb1; (try simp at hz1))
    go_ret
    refine ⟨ret_bool (by rw [Bool.eq_iff_iff]; simp [holdsB, h1] <;> omega), Bel.below ?_⟩
    repeat (first | with_reducible exact bel_refl | with_reducible apply bel_alloc | with_reducible apply bel_drewN | with_reducible apply bel_drew | (with_reducible refine bel_set ?_ ?_; rotate_left; · first | (simp; done) | (simp; omega) | omega) | with_reducible refine bel_call (by assumption) ?_)

def areaE (a b c d : Int) : Int × Int :=
  if bB a b c d = false then (0, 10) else if emptyB a b c d = true then (0, 0) else if 1099511627776 / (c - a) < d - b then (0, 10) else ((c - a) * (d - b), 0)

theorem mul_div_bd {w h k : Int} (hw : 0 < w) (hh : 0 ≤ h) (h2 : h ≤ k / w) : 0 ≤ w * h ∧ w * h ≤ k := by
  refine ⟨Int.mul_nonneg (by omega) hh, ?_⟩
  have h3 := Int.mul_le_mul_of_nonneg_left h2 (show 0 ≤ w by omega)
  exact Int.le_trans h3 (Int.mul_ediv_self_le (by omega))

set_option maxHeartbeats 4000000 in
theorem Area_any (a b c d : Int) (w : World) :
    Calls Try.prog 41 #[.agg #[.int .i64 a, .int .i64 b, .int .i64 c, .int .i64 d]] w fun e w' =>
      e = .returned (.tuple #[.int .i64 (areaE a b c d).1, .int .i64 (areaE a b c d).2]) ∧ Below w.heap.size w w' := by
  rcases Bool.eq_false_or_eq_true (bB a b c d) with h1 | h1
  · rcases Bool.eq_false_or_eq_true (emptyB a b c d) with h2 | h2
    · have hA := Lib.hid (show areaE a b c d = _ by simp [areaE, *]; rfl)
      go_enter Try.func41, Try.ntmps41
      go_wp2_with (first | (go_at_call 66; refine (MayBox_any _ _ _ _ _).mono ?_; rintro e w1 ⟨rfl, hb1⟩; obtain ⟨hc1, hf1, hz1⟩ := bcell hb1; (try simp at hz1)) | (go_at_call 53; refine (Empty_any _ _ _ _ _).mono ?_; rintro e w1 ⟨rfl, hb1⟩; obtain ⟨hc1, hf1, hz1⟩ := bcell hb1; (try simp at hz1)))
      try
        go_quiet (fail)
        go_wp2
      refine bodyPost_ret (results_tmp2 rfl _ _ _) rfl ⟨by rw [hA.out]; rfl, Bel.below ?_⟩
      repeat (first | with_reducible exact bel_refl | with_reducible apply bel_alloc | with_reducible apply bel_drewN | with_reducible apply bel_drew | (with_reducible refine bel_set ?_ ?_; rotate_left; · first | (simp; done) | (simp; omega) | omega) | with_reducible refine bel_call (by assumption) ?_)
    · obtain ⟨⟨ha, ha'⟩, ⟨hb, hb'⟩, ⟨hc, hc'⟩, ⟨hd, hd'⟩⟩ := bB_true h1
      obtain ⟨he, he'⟩ := emptyB_false.1 h2
      by_cases h3 : 1099511627776 / (c - a) < d - b
      · have hA := Lib.hid (show areaE a b c d = _ by simp [areaE, *]; rfl)
        go_enter Try.func41, Try.ntmps41
        go_wp2_with (first | (go_at_call 66; refine (MayBox_any _ _ _ _ _).mono ?_; rintro e w1 ⟨rfl, hb1⟩; obtain ⟨hc1, hf1, hz1⟩ := bcell hb1; (try simp at hz1)) | (go_at_call 53; refine (Empty_any _ _ _ _ _).mono ?_; rintro e w1 ⟨rfl, hb1⟩; obtain ⟨hc1, hf1, hz1⟩ := bcell hb1; (try simp at hz1)))
        try
          go_quiet (fail)
          go_wp2
        refine bodyPost_ret (results_tmp2 rfl _ _ _) rfl ⟨by rw [hA.out]; rfl, Bel.below ?_⟩
        repeat (first | with_reducible exact bel_refl | with_reducible apply bel_alloc | with_reducible apply bel_drewN | with_reducible apply bel_drew | (with_reducible refine bel_set ?_ ?_; rotate_left; · first | (simp; done) | (simp; omega) | omega) | with_reducible refine bel_call (by assumption) ?_)
      · obtain ⟨hm, hm'⟩ := mul_div_bd (w := c - a) (h := d - b) (k := 1099511627776) (by omega) (by omega) (by omega)
        have hA := Lib.hid (show areaE a b c d = _ by simp [areaE, *]; rfl)
        go_enter Try.func41, Try.ntmps41
        go_wp2_with (first | (go_at_call 66; refine (MayBox_any _ _ _ _ _).mono ?_; rintro e w1 ⟨rfl, hb1⟩; obtain ⟨hc1, hf1, hz1⟩ := bcell hb1; (try simp at hz1)) | (go_at_call 53; refine (Empty_any _ _ _ _ _).mono ?_; rintro e w1 ⟨rfl, hb1⟩; obtain ⟨hc1, hf1, hz1⟩ := bcell hb1; (try simp at hz1)))
        try
          go_quiet (fail)
          go_wp2
        refine bodyPost_ret (results_tmp2 rfl _ _ _) rfl ⟨by rw [hA.out]; rfl, Bel.below ?_⟩
        repeat (first | with_reducible exact bel_refl | with_reducible apply bel_alloc | with_reducible apply bel_drewN | with_reducible apply bel_drew | (with_reducible refine bel_set ?_ ?_; rotate_left; · first | (simp; done) | (simp; omega) | omega) | with_reducible refine bel_call (by assumption) ?_)
  · have hA := Lib.hid (show areaE a b c d = _ by simp [areaE, *]; rfl)
    go_enter Try.func41, Try.ntmps41
    go_wp2_with (first | (go_at_call 66; refine (MayBox_any _ _ _ _ _).mono ?_; rintro e w1 ⟨rfl, hb1⟩; obtain ⟨hc1, hf1, hz1⟩ := bcell hb1; (try simp at hz1)) | (go_at_call 53; refine (Empty_any _ _ _ _ _).mono ?_; rintro e w1 ⟨rfl, hb1⟩; obtain ⟨hc1, hf1, hz1⟩ := bcell hb1; (try simp at hz1)))
    try
      go_quiet (fail)
      go_wp2
    refine bodyPost_ret (results_tmp2 rfl _ _ _) rfl ⟨by rw [hA.out]; rfl, Bel.below ?_⟩
    repeat (first | with_reducible exact bel_refl | with_reducible apply bel_alloc | with_reducible apply bel_drewN | with_reducible apply bel_drew | (with_reducible refine bel_set ?_ ?_; rotate_left; · first | (simp; done) | (simp; omega) | omega) | with_reducible refine bel_call (by assumption) ?_)

end Go.Proofs.Ytbflncfhbmlibaa
