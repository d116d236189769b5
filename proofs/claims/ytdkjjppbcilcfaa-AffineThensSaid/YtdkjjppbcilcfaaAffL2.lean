/-
  The walk of the law AffineThens: it answers true.
-/
import Derived.Test.YtdkjjppbcilcfaaAffH
namespace Go.Proofs.Ytdkjjppbcilcfaa
open Go.RowKit

theorem then_one {a b c d : Int} (h : mB a b c d = true) : thenF a b c d 16384 0 0 16384 = (⟨a, b, c, d⟩, 0) := by
  have h1 : ∀ x y : Int, dotI x 16384 y 0 = x := by intro x y; unfold dotI; omega
  have h2 : ∀ x y : Int, dotI x 0 y 16384 = y := by intro x y; unfold dotI; omega
  unfold thenF thenRaw
  simp only [h1, h2]
  rw [if_neg (by rw [h]; decide), if_neg (by rw [h]; decide)]

set_option maxHeartbeats 2000000 in
theorem thens_any (a b c d a' b' c' d' : Int) (w : World) :
    Calls Try.prog 5 #[.agg #[.int .i64 a, .int .i64 b, .int .i64 c, .int .i64 d], .agg #[.int .i64 a', .int .i64 b', .int .i64 c', .int .i64 d']] w fun e w' => e = .returned (.bool true) ∧ Below w.heap.size w w' := by
  rcases Bool.eq_false_or_eq_true (mB a b c d) with h1 | h1
  · have h4 := then_one h1
    have h5 : detF a b c d = a * d - b * c := by simp [detF, h1]
    have HA := Lib.hid (mB_true h1)
    obtain ⟨ha, hb, hc, hd⟩ := HA.out
    obtain ⟨m1, m1'⟩ := mul_bd2 ha.1 ha.2 hd.1 hd.2
    obtain ⟨m2, m2'⟩ := mul_bd2 hb.1 hb.2 hc.1 hc.2
    clear ha hb hc hd
    go_enter Try.func5, Try.ntmps5
    go_wp2_with (first | (go_at_call 22; refine (Then_any _ _ _ _ _ _ _ _ _).mono ?_; rintro e w1 ⟨rfl, hb1⟩; obtain ⟨hc1, hf1, hz1⟩ := bcell hb1; (try simp at hz1)) | (go_at_call 23; refine (rThen_any _ _ _ _ _ _ _ _ _).mono ?_; rintro e w1 ⟨rfl, hb1⟩; obtain ⟨hc1, hf1, hz1⟩ := bcell hb1; (try simp at hz1)) | (go_at_call 21; refine (rMay_any _ _ _ _ _).mono ?_; rintro e w1 ⟨rfl, hb1⟩; obtain ⟨hc1, hf1, hz1⟩ := bcell hb1; (try simp at hz1)) | (go_at_call 17; refine (One_any _).mono ?_; rintro e w1 ⟨rfl, hb1⟩; obtain ⟨hc1, hf1, hz1⟩ := bcell hb1; (try simp at hz1)))
    go_region_with (first | (go_at_call 17; refine (One_any _).mono ?_; rintro e w1 ⟨rfl, hb1⟩; obtain ⟨hc1, hf1, hz1⟩ := bcell hb1; (try simp at hz1)) | (go_at_call 22; refine (Then_any _ _ _ _ _ _ _ _ _).mono ?_; rintro e w1 ⟨rfl, hb1⟩; obtain ⟨hc1, hf1, hz1⟩ := bcell hb1; (try simp at hz1)))
    all_goals go_wp2_with (first | (go_at_call 19; refine (lives2_any _).mono ?_; rintro e w1 ⟨rfl, hb1⟩; obtain ⟨hc1, hf1, hz1⟩ := bcell hb1; (try simp at hz1)) | (go_at_call 24; refine (Det_any _ _ _ _ _).mono ?_; rintro e w1 ⟨rfl, hb1⟩; obtain ⟨hc1, hf1, hz1⟩ := bcell hb1; (try simp at hz1)) | (go_at_call 21; refine (rMay_any _ _ _ _ _).mono ?_; rintro e w1 ⟨rfl, hb1⟩; obtain ⟨hc1, hf1, hz1⟩ := bcell hb1; (try simp at hz1)) | (with_reducible refine bodyPost_ret (results_tmp rfl _ _ _) rfl ⟨rfl, Bel.below ?_⟩; (repeat (first | with_reducible exact bel_refl | with_reducible apply bel_alloc | with_reducible apply bel_drewN | with_reducible apply bel_drew | (with_reducible refine bel_set ?_ ?_; rotate_left; · first | (simp; done) | (simp; omega) | omega) | with_reducible refine bel_call (by assumption) ?_))))
  · have h5 : detF a b c d = 0 := by simp [detF, h1]
    go_enter Try.func5, Try.ntmps5
    go_wp2_with (first | (go_at_call 22; refine (Then_any _ _ _ _ _ _ _ _ _).mono ?_; rintro e w1 ⟨rfl, hb1⟩; obtain ⟨hc1, hf1, hz1⟩ := bcell hb1; (try simp at hz1)) | (go_at_call 23; refine (rThen_any _ _ _ _ _ _ _ _ _).mono ?_; rintro e w1 ⟨rfl, hb1⟩; obtain ⟨hc1, hf1, hz1⟩ := bcell hb1; (try simp at hz1)) | (go_at_call 21; refine (rMay_any _ _ _ _ _).mono ?_; rintro e w1 ⟨rfl, hb1⟩; obtain ⟨hc1, hf1, hz1⟩ := bcell hb1; (try simp at hz1)) | (go_at_call 17; refine (One_any _).mono ?_; rintro e w1 ⟨rfl, hb1⟩; obtain ⟨hc1, hf1, hz1⟩ := bcell hb1; (try simp at hz1)))
    go_region_with (first | (go_at_call 17; refine (One_any _).mono ?_; rintro e w1 ⟨rfl, hb1⟩; obtain ⟨hc1, hf1, hz1⟩ := bcell hb1; (try simp at hz1)) | (go_at_call 22; refine (Then_any _ _ _ _ _ _ _ _ _).mono ?_; rintro e w1 ⟨rfl, hb1⟩; obtain ⟨hc1, hf1, hz1⟩ := bcell hb1; (try simp at hz1)))
    all_goals go_wp2_with (first | (go_at_call 19; refine (lives2_any _).mono ?_; rintro e w1 ⟨rfl, hb1⟩; obtain ⟨hc1, hf1, hz1⟩ := bcell hb1; (try simp at hz1)) | (go_at_call 24; refine (Det_any _ _ _ _ _).mono ?_; rintro e w1 ⟨rfl, hb1⟩; obtain ⟨hc1, hf1, hz1⟩ := bcell hb1; (try simp at hz1)) | (go_at_call 21; refine (rMay_any _ _ _ _ _).mono ?_; rintro e w1 ⟨rfl, hb1⟩; obtain ⟨hc1, hf1, hz1⟩ := bcell hb1; (try simp at hz1)) | (with_reducible refine bodyPost_ret (results_tmp rfl _ _ _) rfl ⟨rfl, Bel.below ?_⟩; (repeat (first | with_reducible exact bel_refl | with_reducible apply bel_alloc | with_reducible apply bel_drewN | with_reducible apply bel_drew | (with_reducible refine bel_set ?_ ?_; rotate_left; · first | (simp; done) | (simp; omega) | omega) | with_reducible refine bel_call (by assumption) ?_))))

end Go.Proofs.Ytdkjjppbcilcfaa
