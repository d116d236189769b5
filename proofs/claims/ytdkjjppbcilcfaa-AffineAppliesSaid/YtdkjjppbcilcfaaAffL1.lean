/-
  The walks of the laws AffineApplies and AffineThens: each answers true.
-/
import Derived.Test.YtdkjjppbcilcfaaAffH
namespace Go.Proofs.Ytdkjjppbcilcfaa
open Go.RowKit

theorem apply_one {x y : Int} (hx : mayB x = true) (hy : mayB y = true) : applyF 16384 0 0 16384 x y = (x, y, 0) := by
  have h1 : dotI x 16384 y 0 = x := by unfold dotI; omega
  have h2 : dotI x 0 y 16384 = y := by unfold dotI; omega
  unfold applyF
  rw [h1, h2, if_neg (by decide), if_neg (by simp [hx, hy]), if_neg (by simp [hx, hy])]

set_option maxHeartbeats 2000000 in
theorem applies_any (a b c d x y : Int) (w : World) :
    Calls Try.prog 4 #[.agg #[.int .i64 a, .int .i64 b, .int .i64 c, .int .i64 d], .int .i64 x, .int .i64 y] w fun e w' => e = .returned (.bool true) ∧ Below w.heap.size w w' := by
  rcases Bool.eq_false_or_eq_true (mayB x) with h2 | h2
  rcases Bool.eq_false_or_eq_true (mayB y) with h3 | h3
  · have h4 := apply_one h2 h3
    go_enter Try.func4, Try.ntmps4
    go_wp2_with (first | (go_at_call 15; refine (Apply_any _ _ _ _ _ _ _).mono ?_; rintro e w1 ⟨rfl, hb1⟩; obtain ⟨hc1, hf1, hz1⟩ := bcell hb1; (try simp at hz1)) | (go_at_call 16; refine (rApply_any _ _ _ _ _ _ _).mono ?_; rintro e w1 ⟨rfl, hb1⟩; obtain ⟨hc1, hf1, hz1⟩ := bcell hb1; (try simp at hz1)) | (go_at_call 17; refine (One_any _).mono ?_; rintro e w1 ⟨rfl, hb1⟩; obtain ⟨hc1, hf1, hz1⟩ := bcell hb1; (try simp at hz1)) | (go_at_call 18; refine (rmay_any _ _).mono ?_; rintro e w1 ⟨rfl, rfl⟩))
    refine wp_region_bw_lit (by kernel_rfl) (by kernel_rfl) ?_
    repeat (go_big_quiet_step (first | (go_at_call 19; exact Calls.bw_of (lives2_any _)) | (go_at_call 20; exact Calls.bw_of (May_any _ _ _ _ _)) | (go_at_call 21; exact Calls.bw_of (rMay_any _ _ _ _ _))))
    refine wpQuiet_nil ?_
    rintro _ ⟨u, rfl⟩
    have hbu := u.prop
    have hzu := u.prop.size
    try simp at hzu
    go_wp2_with fail
    go_ret
    refine ⟨rfl, Bel.below ?_⟩
    repeat (first | with_reducible exact bel_refl | with_reducible apply bel_alloc | with_reducible apply bel_drewN | with_reducible apply bel_drew | (with_reducible refine bel_set ?_ ?_; rotate_left; · first | (simp; done) | (simp; omega) | omega) | with_reducible refine bel_call (by assumption) ?_)
  all_goals
    go_enter Try.func4, Try.ntmps4
    go_wp2_with (first | (go_at_call 15; refine (Apply_any _ _ _ _ _ _ _).mono ?_; rintro e w1 ⟨rfl, hb1⟩; obtain ⟨hc1, hf1, hz1⟩ := bcell hb1; (try simp at hz1)) | (go_at_call 16; refine (rApply_any _ _ _ _ _ _ _).mono ?_; rintro e w1 ⟨rfl, hb1⟩; obtain ⟨hc1, hf1, hz1⟩ := bcell hb1; (try simp at hz1)) | (go_at_call 17; refine (One_any _).mono ?_; rintro e w1 ⟨rfl, hb1⟩; obtain ⟨hc1, hf1, hz1⟩ := bcell hb1; (try simp at hz1)) | (go_at_call 18; refine (rmay_any _ _).mono ?_; rintro e w1 ⟨rfl, rfl⟩))
    refine wp_region_bw_lit (by kernel_rfl) (by kernel_rfl) ?_
    repeat (go_big_quiet_step (first | (go_at_call 19; exact Calls.bw_of (lives2_any _)) | (go_at_call 20; exact Calls.bw_of (May_any _ _ _ _ _)) | (go_at_call 21; exact Calls.bw_of (rMay_any _ _ _ _ _))))
    refine wpQuiet_nil ?_
    rintro _ ⟨u, rfl⟩
    have hbu := u.prop
    have hzu := u.prop.size
    try simp at hzu
    go_wp2_with fail
    go_ret
    refine ⟨rfl, Bel.below ?_⟩
    repeat (first | with_reducible exact bel_refl | with_reducible apply bel_alloc | with_reducible apply bel_drewN | with_reducible apply bel_drew | (with_reducible refine bel_set ?_ ?_; rotate_left; · first | (simp; done) | (simp; omega) | omega) | with_reducible refine bel_call (by assumption) ?_)

end Go.Proofs.Ytdkjjppbcilcfaa
