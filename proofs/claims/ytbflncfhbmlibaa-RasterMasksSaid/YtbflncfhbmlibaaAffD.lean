/-
  Contracts over boxes: affine.Empty, plain, pair, and the references' own.
-/
import Derived.Test.YtbflncfhbmlibaaAffA
import Derived.Test.YtbflncfhbmlibaaTail
namespace Go.Proofs.Ytbflncfhbmlibaa
open Go.RowKit

structure Bx where
  x0 : Int
  y0 : Int
  x1 : Int
  y1 : Int
  deriving DecidableEq

def emptyB (a b c d : Int) : Bool := decide (c ≤ a) || decide (d ≤ b)
theorem emptyB_true {a b c d : Int} : emptyB a b c d = true ↔ c ≤ a ∨ d ≤ b := by simp [emptyB]
theorem emptyB_false {a b c d : Int} : emptyB a b c d = false ↔ a < c ∧ b < d := by simp [emptyB]
def plainF (a b c d : Int) : Bx := if emptyB a b c d = true then ⟨0, 0, 0, 0⟩ else ⟨a, b, c, d⟩

set_option maxHeartbeats 1000000 in
theorem Empty_any (a b c d : Int) (w : World) :
    Calls Try.prog 53 #[.agg #[.int .i64 a, .int .i64 b, .int .i64 c, .int .i64 d]] w fun e w' => e = .returned (.bool (emptyB a b c d)) ∧ Below w.heap.size w w' := by
  by_cases h1 : c ≤ a
  all_goals
    go_enter Try.func53, Try.ntmps53
    go_wp2
    go_ret
    refine ⟨ret_bool (by rw [Bool.eq_iff_iff, emptyB_true]; simp; try omega), Bel.below ?_⟩
    repeat (first | with_reducible exact bel_refl | with_reducible apply bel_alloc | with_reducible apply bel_drewN | with_reducible apply bel_drew | (with_reducible refine bel_set ?_ ?_; rotate_left; · first | (simp; done) | (simp; omega) | omega) | with_reducible refine bel_call (by assumption) ?_)

set_option maxHeartbeats 1000000 in
theorem rEmpty_any (a b c d : Int) (w : World) :
    Calls Try.prog 18 #[.agg #[.int .i64 a, .int .i64 b, .int .i64 c, .int .i64 d]] w fun e w' => e = .returned (.bool (emptyB a b c d)) ∧ Below w.heap.size w w' := by
  by_cases h1 : c ≤ a
  all_goals
    go_enter Try.func18, Try.ntmps18
    go_wp2
    go_ret
    refine ⟨ret_bool (by rw [Bool.eq_iff_iff, emptyB_true]; simp; try omega), Bel.below ?_⟩
    repeat (first | with_reducible exact bel_refl | with_reducible apply bel_alloc | with_reducible apply bel_drewN | with_reducible apply bel_drew | (with_reducible refine bel_set ?_ ?_; rotate_left; · first | (simp; done) | (simp; omega) | omega) | with_reducible refine bel_call (by assumption) ?_)

set_option maxHeartbeats 1000000 in
theorem plain_any (a b c d : Int) (w : World) :
    Calls Try.prog 67 #[.agg #[.int .i64 a, .int .i64 b, .int .i64 c, .int .i64 d]] w fun e w' =>
      e = .returned (.agg #[.int .i64 (plainF a b c d).x0, .int .i64 (plainF a b c d).y0, .int .i64 (plainF a b c d).x1, .int .i64 (plainF a b c d).y1]) ∧ Below w.heap.size w w' := by
  rcases Bool.eq_false_or_eq_true (emptyB a b c d) with h1 | h1
  all_goals
    have hA := Lib.hid (show plainF a b c d = _ by simp [plainF, h1]; rfl)
    go_enter Try.func67, Try.ntmps67
    go_wp2_with (go_at_call 53; refine (Empty_any _ _ _ _ _).mono ?_; rintro e w1 ⟨rfl, hb1⟩; obtain ⟨hc1, hf1, hz1⟩ := bcell hb1; (try simp at hz1))
    refine bodyPost_ret (v := .agg #[.int .i64 (plainF a b c d).x0, .int .i64 (plainF a b c d).y0, .int .i64 (plainF a b c d).x1, .int .i64 (plainF a b c d).y1])
      (by rw [hA.out]; simp [results, Try.results67, go_sem, *]) rfl ⟨rfl, Bel.below ?_⟩
    repeat (first | with_reducible exact bel_refl | with_reducible apply bel_alloc | with_reducible apply bel_drewN | with_reducible apply bel_drew | (with_reducible refine bel_set ?_ ?_; rotate_left; · first | (simp; done) | (simp; omega) | omega) | with_reducible refine bel_call (by assumption) ?_)

set_option maxHeartbeats 1000000 in
theorem rPlain_any (a b c d : Int) (w : World) :
    Calls Try.prog 72 #[.agg #[.int .i64 a, .int .i64 b, .int .i64 c, .int .i64 d]] w fun e w' =>
      e = .returned (.agg #[.int .i64 (plainF a b c d).x0, .int .i64 (plainF a b c d).y0, .int .i64 (plainF a b c d).x1, .int .i64 (plainF a b c d).y1]) ∧ Below w.heap.size w w' := by
  rcases Bool.eq_false_or_eq_true (emptyB a b c d) with h1 | h1
  all_goals
    have hA := Lib.hid (show plainF a b c d = _ by simp [plainF, h1]; rfl)
    go_enter Try.func72, Try.ntmps72
    go_wp2_with (go_at_call 18; refine (rEmpty_any _ _ _ _ _).mono ?_; rintro e w1 ⟨rfl, hb1⟩; obtain ⟨hc1, hf1, hz1⟩ := bcell hb1; (try simp at hz1))
    refine bodyPost_ret (v := .agg #[.int .i64 (plainF a b c d).x0, .int .i64 (plainF a b c d).y0, .int .i64 (plainF a b c d).x1, .int .i64 (plainF a b c d).y1])
      (by rw [hA.out]; simp [results, Try.results72, go_sem, *]) rfl ⟨rfl, Bel.below ?_⟩
    repeat (first | with_reducible exact bel_refl | with_reducible apply bel_alloc | with_reducible apply bel_drewN | with_reducible apply bel_drew | (with_reducible refine bel_set ?_ ?_; rotate_left; · first | (simp; done) | (simp; omega) | omega) | with_reducible refine bel_call (by assumption) ?_)

theorem less_any (x y : Int) (w : World) : Calls Try.prog 70 #[.int .i64 x, .int .i64 y] w fun e w' => e = .returned (.int .i64 (min x y)) ∧ w = w' := by
  go_enter Try.func70, Try.ntmps70
  go_wp2
  all_goals go_ret
  all_goals exact ⟨ret_int (by omega), rfl⟩

theorem more_any (x y : Int) (w : World) : Calls Try.prog 69 #[.int .i64 x, .int .i64 y] w fun e w' => e = .returned (.int .i64 (max x y)) ∧ w = w' := by
  go_enter Try.func69, Try.ntmps69
  go_wp2
  all_goals go_ret
  all_goals exact ⟨ret_int (by omega), rfl⟩

theorem least_any (x y : Int) (w : World) : Calls Try.prog 74 #[.int .i64 x, .int .i64 y] w fun e w' => e = .returned (.int .i64 (min x y)) ∧ w = w' := by
  go_enter Try.func74, Try.ntmps74
  go_wp2
  all_goals go_ret
  all_goals exact ⟨ret_int (by omega), rfl⟩

theorem most_any (x y : Int) (w : World) : Calls Try.prog 73 #[.int .i64 x, .int .i64 y] w fun e w' => e = .returned (.int .i64 (max x y)) ∧ w = w' := by
  go_enter Try.func73, Try.ntmps73
  go_wp2
  all_goals go_ret
  all_goals exact ⟨ret_int (by omega), rfl⟩


set_option maxHeartbeats 1000000 in
theorem pair_lm (a b c d a' b' c' d' : Int) (w : World) :
    Calls Try.prog 68 #[.agg #[.int .i64 a, .int .i64 b, .int .i64 c, .int .i64 d], .agg #[.int .i64 a', .int .i64 b', .int .i64 c', .int .i64 d'], .func (.func 70) #[] #[], .func (.func 69) #[] #[]] w fun e w' =>
      e = .returned (.agg #[.int .i64 (min a a'), .int .i64 (min b b'), .int .i64 (max c c'), .int .i64 (max d d')]) ∧ Below w.heap.size w w' := by
  go_enter Try.func68, Try.ntmps68
  go_wp2_with fail
  refine wp_region_drew_tail 24 (by kernel_rfl) (by kernel_rfl) ?_
  simp only [List.take_succ_cons, List.take_zero, List.drop_succ_cons, List.drop_zero]
  repeat (go_big_quiet_step (first | (go_at_call 70; exact Calls.q_left (less_any _ _ _)) | (go_at_call 69; exact Calls.q_left (more_any _ _ _))))
  refine wpQuiet_nil ?_
  rintro _ ⟨n, rfl⟩
  go_wp2
  refine bodyPost_ret (v := .agg #[.int .i64 (min a a'), .int .i64 (min b b'), .int .i64 (max c c'), .int .i64 (max d d')]) (by simp [results, Try.results68, go_sem, *]) rfl ⟨rfl, Bel.below ?_⟩
  repeat (first | with_reducible exact bel_refl | with_reducible apply bel_alloc | with_reducible apply bel_drewN | with_reducible apply bel_drew | (with_reducible refine bel_set ?_ ?_; rotate_left; · first | (simp; done) | (simp; omega) | omega) | with_reducible refine bel_call (by assumption) ?_)

set_option maxHeartbeats 1000000 in
theorem pair_ml (a b c d a' b' c' d' : Int) (w : World) :
    Calls Try.prog 68 #[.agg #[.int .i64 a, .int .i64 b, .int .i64 c, .int .i64 d], .agg #[.int .i64 a', .int .i64 b', .int .i64 c', .int .i64 d'], .func (.func 69) #[] #[], .func (.func 70) #[] #[]] w fun e w' =>
      e = .returned (.agg #[.int .i64 (max a a'), .int .i64 (max b b'), .int .i64 (min c c'), .int .i64 (min d d')]) ∧ Below w.heap.size w w' := by
  go_enter Try.func68, Try.ntmps68
  go_wp2_with fail
  refine wp_region_drew_tail 24 (by kernel_rfl) (by kernel_rfl) ?_
  simp only [List.take_succ_cons, List.take_zero, List.drop_succ_cons, List.drop_zero]
  repeat (go_big_quiet_step (first | (go_at_call 69; exact Calls.q_left (more_any _ _ _)) | (go_at_call 70; exact Calls.q_left (less_any _ _ _))))
  refine wpQuiet_nil ?_
  rintro _ ⟨n, rfl⟩
  go_wp2
  refine bodyPost_ret (v := .agg #[.int .i64 (max a a'), .int .i64 (max b b'), .int .i64 (min c c'), .int .i64 (min d d')]) (by simp [results, Try.results68, go_sem, *]) rfl ⟨rfl, Bel.below ?_⟩
  repeat (first | with_reducible exact bel_refl | with_reducible apply bel_alloc | with_reducible apply bel_drewN | with_reducible apply bel_drew | (with_reducible refine bel_set ?_ ?_; rotate_left; · first | (simp; done) | (simp; omega) | omega) | with_reducible refine bel_call (by assumption) ?_)

end Go.Proofs.Ytbflncfhbmlibaa
