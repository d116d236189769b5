/-
  The walk of the law AffineBoxes: it answers true.
-/
import Derived.Test.YtdkjjppbcilcfaaAffH
namespace Go.Proofs.Ytdkjjppbcilcfaa
open Go.RowKit

set_option maxHeartbeats 2000000 in
theorem boxes_any (a b c d a' b' c' d' : Int) (w : World) :
    Calls Try.prog 6 #[.agg #[.int .i64 a, .int .i64 b, .int .i64 c, .int .i64 d], .agg #[.int .i64 a', .int .i64 b', .int .i64 c', .int .i64 d']] w fun e w' => e = .returned (.bool true) ∧ Below w.heap.size w w' := by
  rcases Bool.eq_false_or_eq_true (bB a b c d) with h1 | h1
  rcases Bool.eq_false_or_eq_true (bB a' b' c' d') with h2 | h2
  · have hJ : JoinE ⟨a, b, c, d⟩ ⟨a', b', c', d'⟩ = (joinF ⟨a, b, c, d⟩ ⟨a', b', c', d'⟩, 0) := by simp [JoinE, *]
    have hM : MeetE ⟨a, b, c, d⟩ ⟨a', b', c', d'⟩ = (meetF ⟨a, b, c, d⟩ ⟨a', b', c', d'⟩, 0) := by simp [MeetE, *]
    go_enter Try.func6, Try.ntmps6
    go_wp2_with (first | (go_at_call 25; refine (Join_any _ _ _ _ _ _ _ _ _).mono ?_; rintro e w1 ⟨rfl, hb1⟩; obtain ⟨hc1, hf1, hz1⟩ := bcell hb1; (try simp at hz1)) | (go_at_call 26; refine (Meet_any _ _ _ _ _ _ _ _ _).mono ?_; rintro e w1 ⟨rfl, hb1⟩; obtain ⟨hc1, hf1, hz1⟩ := bcell hb1; (try simp at hz1)))
    refine wp_region_bw_lit (by kernel_rfl) (by kernel_rfl) ?_
    repeat (go_big_quiet_step (first | (go_at_call 19; exact Calls.bw_of (lives2_any _)) | (go_at_call 27; exact Calls.bw_of (MayBox_any _ _ _ _ _)) | (go_at_call 28; exact Calls.bw_of (rMayBox_any _ _ _ _ _)) | (go_at_call 29; exact Calls.bw_of (Empty_any _ _ _ _ _)) | (go_at_call 30; exact Calls.bw_of (rEmpty_any _ _ _ _ _))))
    refine wpQuiet_nil ?_
    rintro _ ⟨u, rfl⟩
    have hbu := u.prop
    have hzu := u.prop.size
    try simp at hzu
    go_wp2_with (first | (go_at_call 28; refine (rMayBox_any _ _ _ _ _).mono ?_; rintro e w1 ⟨rfl, hb1⟩; obtain ⟨hc1, hf1, hz1⟩ := bcell hb1; (try simp at hz1)) | (with_reducible refine bodyPost_ret (results_tmp rfl _ _ _) rfl ⟨rfl, Bel.below ?_⟩; (repeat (first | with_reducible exact bel_refl | with_reducible apply bel_alloc | with_reducible apply bel_drewN | with_reducible apply bel_drew | (with_reducible refine bel_set ?_ ?_; rotate_left; · first | (simp; done) | (simp; omega) | omega) | with_reducible refine bel_call (by assumption) ?_))))
    refine wp_region_bw_lit (by kernel_rfl) (by kernel_rfl) ?_
    repeat (go_big_quiet_step (first | (go_at_call 31; exact Calls.bw_of (rJoin_any _ _ _ _ _ _ _ _ _)) | (go_at_call 32; exact Calls.bw_of (rMeet_any _ _ _ _ _ _ _ _ _))))
    refine wpQuiet_nil ?_
    rintro _ ⟨u, rfl⟩
    have hbu := u.prop
    have hzu := u.prop.size
    try simp at hzu
    go_wp2_with (with_reducible refine bodyPost_ret (results_tmp rfl _ _ _) rfl ⟨rfl, Bel.below ?_⟩; (repeat (first | with_reducible exact bel_refl | with_reducible apply bel_alloc | with_reducible apply bel_drewN | with_reducible apply bel_drew | (with_reducible refine bel_set ?_ ?_; rotate_left; · first | (simp; done) | (simp; omega) | omega) | with_reducible refine bel_call (by assumption) ?_)))
  all_goals
    have hJ : JoinE ⟨a, b, c, d⟩ ⟨a', b', c', d'⟩ = (⟨0, 0, 0, 0⟩, 10) := by simp [JoinE, *]
    have hM : MeetE ⟨a, b, c, d⟩ ⟨a', b', c', d'⟩ = (⟨0, 0, 0, 0⟩, 10) := by simp [MeetE, *]
    go_enter Try.func6, Try.ntmps6
    go_wp2_with (first | (go_at_call 25; refine (Join_any _ _ _ _ _ _ _ _ _).mono ?_; rintro e w1 ⟨rfl, hb1⟩; obtain ⟨hc1, hf1, hz1⟩ := bcell hb1; (try simp at hz1)) | (go_at_call 26; refine (Meet_any _ _ _ _ _ _ _ _ _).mono ?_; rintro e w1 ⟨rfl, hb1⟩; obtain ⟨hc1, hf1, hz1⟩ := bcell hb1; (try simp at hz1)))
    refine wp_region_bw_lit (by kernel_rfl) (by kernel_rfl) ?_
    repeat (go_big_quiet_step (first | (go_at_call 19; exact Calls.bw_of (lives2_any _)) | (go_at_call 27; exact Calls.bw_of (MayBox_any _ _ _ _ _)) | (go_at_call 28; exact Calls.bw_of (rMayBox_any _ _ _ _ _)) | (go_at_call 29; exact Calls.bw_of (Empty_any _ _ _ _ _)) | (go_at_call 30; exact Calls.bw_of (rEmpty_any _ _ _ _ _))))
    refine wpQuiet_nil ?_
    rintro _ ⟨u, rfl⟩
    have hbu := u.prop
    have hzu := u.prop.size
    try simp at hzu
    go_wp2_with (first | (go_at_call 28; refine (rMayBox_any _ _ _ _ _).mono ?_; rintro e w1 ⟨rfl, hb1⟩; obtain ⟨hc1, hf1, hz1⟩ := bcell hb1; (try simp at hz1)) | (with_reducible refine bodyPost_ret (results_tmp rfl _ _ _) rfl ⟨rfl, Bel.below ?_⟩; (repeat (first | with_reducible exact bel_refl | with_reducible apply bel_alloc | with_reducible apply bel_drewN | with_reducible apply bel_drew | (with_reducible refine bel_set ?_ ?_; rotate_left; · first | (simp; done) | (simp; omega) | omega) | with_reducible refine bel_call (by assumption) ?_))))

end Go.Proofs.Ytdkjjppbcilcfaa
