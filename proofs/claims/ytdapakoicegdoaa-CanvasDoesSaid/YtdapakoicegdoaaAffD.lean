/-
  Contracts over boxes: affine.Empty, plain, pair, and the references' own.
-/
import Derived.Test.YtdapakoicegdoaaAffA
import Derived.Test.YtdapakoicegdoaaTail
namespace Go.Proofs.Ytdapakoicegdoaa
open Go.RowKit

structure Bx where
  x0 : Int
  y0 : Int
  x1 : Int
  y1 : Int
  deriving DecidableEq

def emptyB (a b c d : Int) : Bool := decide (c ≤ a) || decide (d ≤ b)
theorem emptyB_true {a b c d : Int} : emptyB a b c d = true ↔ c ≤ a ∨ d ≤ b := by simp [emptyB]
theorem emptyB_false {a b c d : Int} : emptyB a b c d = false ↔ a < c ∧ b < d := by simp [emptyB]
def plainF (a b c d : Int) : Bx := if emptyB a b c d = true then ⟨0, 0, 0, 0⟩ else ⟨a, b, c, d⟩

set_option maxHeartbeats 1000000 in
theorem Empty_any (a b c d : Int) (w : World) :
    Calls Try.prog 75 #[.agg #[.int .i64 a, .int .i64 b, .int .i64 c, .int .i64 d]] w fun e w' => e = .returned (.bool (emptyB a b c d)) ∧ Below w.heap.size w w' := by
  by_cases h1 : c ≤ a
  all_goals
    go_enter Try.func75, Try.ntmps75
    go_wp2
    go_ret
    refine ⟨ret_bool (by rw [Bool.eq_iff_iff, emptyB_true]; simp; try omega), Bel.below ?_⟩
    repeat (first | with_reducible exact bel_refl | with_reducible apply bel_alloc | with_reducible apply bel_drewN | with_reducible apply bel_drew | (with_reducible refine bel_set ?_ ?_; rotate_left; · first | (simp; done) | (simp; omega) | omega) | with_reducible refine bel_call (by assumption) ?_)

set_option maxHeartbeats 1000000 in
theorem rEmpty_any (a b c d : Int) (w : World) :
    Calls Try.prog 77 #[.agg #[.int .i64 a, .int .i64 b, .int .i64 c, .int .i64 d]] w fun e w' => e = .returned (.bool (emptyB a b c d)) ∧ Below w.heap.size w w' := by
  by_cases h1 : c ≤ a
  all_goals
    go_enter Try.func77, Try.ntmps77
    go_wp2
    go_ret
    refine ⟨ret_bool (by rw [Bool.eq_iff_iff, emptyB_true]; simp; try omega), Bel.below ?_⟩
    repeat (first | with_reducible exact bel_refl | with_reducible apply bel_alloc | with_reducible apply bel_drewN | with_reducible apply bel_drew | (with_reducible refine bel_set ?_ ?_; rotate_left; · first | (simp; done) | (simp; omega) | omega) | with_reducible refine bel_call (by assumption) ?_)

set_option maxHeartbeats 1000000 in
theorem plain_any (a b c d : Int) (w : World) :
    Calls Try.prog 96 #[.agg #[.int .i64 a, .int .i64 b, .int .i64 c, .int .i64 d]] w fun e w' =>
      e = .returned (.agg #[.int .i64 (plainF a b c d).x0, .int .i64 (plainF a b c d).y0, .int .i64 (plainF a b c d).x1, .int .i64 (plainF a b c d).y1]) ∧ Below w.heap.size w w' := by
  rcases Bool.eq_false_or_eq_true (emptyB a b c d) with h1 | h1
  all_goals
    have hA := Lib.hid (show plainF a b c d = _ by simp [plainF, h1]; rfl)
    go_enter Try.func96, Try.ntmps96
    go_wp2_with (go_at_call 75; refine (Empty_any _ _ _ _ _).mono ?_; rintro e w1 ⟨rfl, hb1⟩; obtain ⟨hc1, hf1, hz1⟩ := bcell hb1; (try simp at hz1))
    refine bodyPost_ret (v := .agg #[.int .i64 (plainF a b c d).x0, .int .i64 (plainF a b c d).y0, .int .i64 (plainF a b c d).x1, .int .i64 (plainF a b c d).y1])
      (by rw [hA.out]; simp [results, Try.results96, go_sem, *]) rfl ⟨rfl, Bel.below ?_⟩
    repeat (first | with_reducible exact bel_refl | with_reducible apply bel_alloc | with_reducible apply bel_drewN | with_reducible apply bel_drew | (with_reducible refine bel_set ?_ ?_; rotate_left; · first | (simp; done) | (simp; omega) | omega) | with_reducible refine bel_call (by assumption) ?_)

set_option maxHeartbeats 1000000 in
theorem rPlain_any (a b c d : Int) (w : World) :
    Calls Try.prog 65 #[.agg #[.int .i64 a, .int .i64 b, .int .i64 c, .int .i64 d]] w fun e w' =>
      e = .returned (.agg #[.int .i64 (plainF a b c d).x0, .int .i64 (plainF a b c d).y0, .int .i64 (plainF a b c d).x1, .int .i64 (plainF a b c d).y1]) ∧ Below w.heap.size w w' := by
  rcases Bool.eq_false_or_eq_true (emptyB a b c d) with h1 | h1
  all_goals
    have hA := Lib.hid (show plainF a b c d = _ by simp [plainF, h1]; rfl)
    go_enter Try.func65, Try.ntmps65
    go_wp2_with (go_at_call 77; refine (rEmpty_any _ _ _ _ _).mono ?_; rintro e w1 ⟨rfl, hb1⟩; obtain ⟨hc1, hf1, hz1⟩ := bcell hb1; (try simp at hz1))
    refine bodyPost_ret (v := .agg #[.int .i64 (plainF a b c d).x0, .int .i64 (plainF a b c d).y0, .int .i64 (plainF a b c d).x1, .int .i64 (plainF a b c d).y1])
      (by rw [hA.out]; simp [results, Try.results65, go_sem, *]) rfl ⟨rfl, Bel.below ?_⟩
    repeat (first | with_reducible exact bel_refl | with_reducible apply bel_alloc | with_reducible apply bel_drewN | with_reducible apply bel_drew | (with_reducible refine bel_set ?_ ?_; rotate_left; · first | (simp; done) | (simp; omega) | omega) | with_reducible refine bel_call (by assumption) ?_)

theorem less_any (x y : Int) (w : World) : Calls Try.prog 112 #[.int .i64 x, .int .i64 y] w fun e w' => e = .returned (.int .i64 (min x y)) ∧ w = w' := by
  go_enter Try.func112, Try.ntmps112
  go_wp2
  all_goals go_ret
  all_goals exact ⟨ret_int (by omega), rfl⟩

theorem more_any (x y : Int) (w : World) : Calls Try.prog 111 #[.int .i64 x, .int .i64 y] w fun e w' => e = .returned (.int .i64 (max x y)) ∧ w = w' := by
  go_enter Try.func111, Try.ntmps111
  go_wp2
  all_goals go_ret
  all_goals exact ⟨ret_int (by omega), rfl⟩

theorem least_any (x y : Int) (w : World) : Calls Try.prog 67 #[.int .i64 x, .int .i64 y] w fun e w' => e = .returned (.int .i64 (min x y)) ∧ w = w' := by
  go_enter Try.func67, Try.ntmps67
  go_wp2
  all_goals go_ret
  all_goals exact ⟨ret_int (by omega), rfl⟩

theorem most_any (x y : Int) (w : World) : Calls Try.prog 66 #[.int .i64 x, .int .i64 y] w fun e w' => e = .returned (.int .i64 (max x y)) ∧ w = w' := by
  go_enter Try.func66, Try.ntmps66
  go_wp2
  all_goals go_ret
  all_goals exact ⟨ret_int (by omega), rfl⟩


set_option maxHeartbeats 1000000 in
theorem pair_lm (a b c d a' b' c' d' : Int) (w : World) :
    Calls Try.prog 110 #[.agg #[.int .i64 a, .int .i64 b, .int .i64 c, .int .i64 d], .agg #[.int .i64 a', .int .i64 b', .int .i64 c', .int .i64 d'], .func (.func 112) #[] #[], .func (.func 111) #[] #[]] w fun e w' =>
      e = .returned (.agg #[.int .i64 (min a a'), .int .i64 (min b b'), .int .i64 (max c c'), .int .i64 (max d d')]) ∧ Below w.heap.size w w' := by
  go_enter Try.func110, Try.ntmps110
  go_wp2_with fail
  refine wp_region_drew_tail 24 (by kernel_rfl) (by kernel_rfl) ?_
  simp only [List.take_succ_cons, List.take_zero, List.drop_succ_cons, List.drop_zero]
  repeat (go_big_quiet_step (first | (go_at_call 112; exact Calls.q_left (less_any _ _ _)) | (go_at_call 111; exact Calls.q_left (more_any _ _ _))))
  refine wpQuiet_nil ?_
  rintro _ ⟨n, rfl⟩
  go_wp2
  refine bodyPost_ret (v := .agg #[.int .i64 (min a a'), .int .i64 (min b b'), .int .i64 (max c c'), .int .i64 (max d d')]) (by simp [results, Try.results110, go_sem, *]) rfl ⟨rfl, Bel.below ?_⟩
  repeat (first | with_reducible exact bel_refl | with_reducible apply bel_alloc | with_reducible apply bel_drewN | with_reducible apply bel_drew | (with_reducible refine bel_set ?_ ?_; rotate_left; · first | (simp; done) | (simp; omega) | omega) | with_reducible refine bel_call (by assumption) ?_)

set_option maxHeartbeats 1000000 in
theorem pair_ml (a b c d a' b' c' d' : Int) (w : World) :
    Calls Try.prog 110 #[.agg #[.int .i64 a, .int .i64 b, .int .i64 c, .int .i64 d], .agg #[.int .i64 a', .int .i64 b', .int .i64 c', .int .i64 d'], .func (.func 111) #[] #[], .func (.func 112) #[] #[]] w fun e w' =>
      e = .returned (.agg #[.int .i64 (max a a'), .int .i64 (max b b'), .int .i64 (min c c'), .int .i64 (min d d')]) ∧ Below w.heap.size w w' := by
  go_enter Try.func110, Try.ntmps110
  go_wp2_with fail
  refine wp_region_drew_tail 24 (by kernel_rfl) (by kernel_rfl) ?_
  simp only [List.take_succ_cons, List.take_zero, List.drop_succ_cons, List.drop_zero]
  repeat (go_big_quiet_step (first | (go_at_call 111; exact Calls.q_left (more_any _ _ _)) | (go_at_call 112; exact Calls.q_left (less_any _ _ _))))
  refine wpQuiet_nil ?_
  rintro _ ⟨n, rfl⟩
  go_wp2
  refine bodyPost_ret (v := .agg #[.int .i64 (max a a'), .int .i64 (max b b'), .int .i64 (min c c'), .int .i64 (min d d')]) (by simp [results, Try.results110, go_sem, *]) rfl ⟨rfl, Bel.below ?_⟩
  repeat (first | with_reducible exact bel_refl | with_reducible apply bel_alloc | with_reducible apply bel_drewN | with_reducible apply bel_drew | (with_reducible refine bel_set ?_ ?_; rotate_left; · first | (simp; done) | (simp; omega) | omega) | with_reducible refine bel_call (by assumption) ?_)

end Go.Proofs.Ytdapakoicegdoaa
