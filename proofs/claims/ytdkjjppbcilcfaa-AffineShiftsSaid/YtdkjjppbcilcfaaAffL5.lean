/-
  The walk of the law AffineShifts: it answers true.
-/
import Derived.Test.YtdkjjppbcilcfaaAffH
namespace Go.Proofs.Ytdkjjppbcilcfaa
open Go.RowKit

set_option maxHeartbeats 4000000 in
theorem shifts_may (a b c d x y : Int) (w : World) (h1 : bB a b c d = true) (S : Bx × Int) (hS : ShiftE ⟨a, b, c, d⟩ x y = S) (hm : (mayB x = true ∧ mayB y = true ∧ S = shiftF ⟨a, b, c, d⟩ x y) ∨ ((mayB x = false ∨ mayB x = true ∧ mayB y = false) ∧ S = (⟨0, 0, 0, 0⟩, 10))) :
    Calls Try.prog 8 #[.agg #[.int .i64 a, .int .i64 b, .int .i64 c, .int .i64 d], .int .i64 x, .int .i64 y] w fun e w' => e = .returned (.bool true) ∧ Below w.heap.size w w' := by
  obtain ⟨⟨ha, ha'⟩, ⟨hb, hb'⟩, ⟨hc, hc'⟩, ⟨hd, hd'⟩⟩ := bB_true h1
  have hP : PixE ⟨a, b, c, d⟩ = (pixF ⟨a, b, c, d⟩, 0) := by simp [PixE, h1]
  rcases Bool.eq_false_or_eq_true (emptyB a b c d) with h4 | h4
  · have hA : areaE a b c d = (0, 0) := by simp [areaE, h1, h4]
    rcases hm with ⟨h2, h3, rfl⟩ | ⟨h2 | ⟨h2, h3⟩, rfl⟩
    all_goals
      go_enter Try.func8, Try.ntmps8
      go_wp2_with (first | (go_at_call 35; refine (Shift_any _ _ _ _ _ _ _).mono ?_; rintro e w1 ⟨rfl, hb1⟩; obtain ⟨hc1, hf1, hz1⟩ := bcell hb1; (try simp at hz1)) | (go_at_call 36; refine (Pixels_any _ _ _ _ _).mono ?_; rintro e w1 ⟨rfl, hb1⟩; obtain ⟨hc1, hf1, hz1⟩ := bcell hb1; (try simp at hz1)) | (go_at_call 37; refine (Area_any _ _ _ _ _).mono ?_; rintro e w1 ⟨rfl, hb1⟩; obtain ⟨hc1, hf1, hz1⟩ := bcell hb1; (try simp at hz1)) | (go_at_call 19; refine (lives2_any _).mono ?_; rintro e w1 ⟨rfl, hb1⟩; obtain ⟨hc1, hf1, hz1⟩ := bcell hb1; (try simp at hz1)) | (go_at_call 28; refine (rMayBox_any _ _ _ _ _).mono ?_; rintro e w1 ⟨rfl, hb1⟩; obtain ⟨hc1, hf1, hz1⟩ := bcell hb1; (try simp at hz1)) | (go_at_call 18; refine (rmay_any _ _).mono ?_; rintro e w1 ⟨rfl, rfl⟩) | (go_at_call 38; refine (rShift_any _ _ _ _ _ _ _ h1 h2 h3).mono ?_; rintro e w1 ⟨rfl, hb1⟩; obtain ⟨hc1, hf1, hz1⟩ := bcell hb1; (try simp at hz1)) | (with_reducible refine bodyPost_ret (results_tmp rfl _ _ _) rfl ⟨rfl, Bel.below ?_⟩; (repeat (first | with_reducible exact bel_refl | with_reducible apply bel_alloc | with_reducible apply bel_drewN | with_reducible apply bel_drew | (with_reducible refine bel_set ?_ ?_; rotate_left; · first | (simp; done) | (simp; omega) | omega) | with_reducible refine bel_call (by assumption) ?_))))
      try
        refine wp_region_bw_lit (by kernel_rfl) (by kernel_rfl) ?_
        repeat (go_big_quiet_step ((go_at_call 39; exact Calls.bw_of (rPixels_any _ _ _ _ _ h1))))
        refine wpQuiet_nil ?_
        rintro _ ⟨u, rfl⟩
        have hbu := u.prop
        have hzu := u.prop.size
        try simp at hzu
        go_wp2_with (first | (go_at_call 30; refine (rEmpty_any _ _ _ _ _).mono ?_; rintro e w1 ⟨rfl, hb1⟩; obtain ⟨hc1, hf1, hz1⟩ := bcell hb1; (try simp at hz1)) | (with_reducible refine bodyPost_ret (results_tmp rfl _ _ _) rfl ⟨rfl, Bel.below ?_⟩; (repeat (first | with_reducible exact bel_refl | with_reducible apply bel_alloc | with_reducible apply bel_drewN | with_reducible apply bel_drew | (with_reducible refine bel_set ?_ ?_; rotate_left; · first | (simp; done) | (simp; omega) | omega) | with_reducible refine bel_call (by assumption) ?_))))
        try
          go_quiet (fail)
          go_wp2_with (with_reducible refine bodyPost_ret (results_tmp rfl _ _ _) rfl ⟨rfl, Bel.below ?_⟩; (repeat (first | with_reducible exact bel_refl | with_reducible apply bel_alloc | with_reducible apply bel_drewN | with_reducible apply bel_drew | (with_reducible refine bel_set ?_ ?_; rotate_left; · first | (simp; done) | (simp; omega) | omega) | with_reducible refine bel_call (by assumption) ?_)))
  · obtain ⟨he, he'⟩ := emptyB_false.1 h4
    by_cases h5 : 1099511627776 / (c - a) < d - b
    · have hA : areaE a b c d = (0, 10) := by simp [areaE, h1, h4, h5]
      rcases hm with ⟨h2, h3, rfl⟩ | ⟨h2 | ⟨h2, h3⟩, rfl⟩
      all_goals
        go_enter Try.func8, Try.ntmps8
        go_wp2_with (first | (go_at_call 35; refine (Shift_any _ _ _ _ _ _ _).mono ?_; rintro e w1 ⟨rfl, hb1⟩; obtain ⟨hc1, hf1, hz1⟩ := bcell hb1; (try simp at hz1)) | (go_at_call 36; refine (Pixels_any _ _ _ _ _).mono ?_; rintro e w1 ⟨rfl, hb1⟩; obtain ⟨hc1, hf1, hz1⟩ := bcell hb1; (try simp at hz1)) | (go_at_call 37; refine (Area_any _ _ _ _ _).mono ?_; rintro e w1 ⟨rfl, hb1⟩; obtain ⟨hc1, hf1, hz1⟩ := bcell hb1; (try simp at hz1)) | (go_at_call 19; refine (lives2_any _).mono ?_; rintro e w1 ⟨rfl, hb1⟩; obtain ⟨hc1, hf1, hz1⟩ := bcell hb1; (try simp at hz1)) | (go_at_call 28; refine (rMayBox_any _ _ _ _ _).mono ?_; rintro e w1 ⟨rfl, hb1⟩; obtain ⟨hc1, hf1, hz1⟩ := bcell hb1; (try simp at hz1)) | (go_at_call 18; refine (rmay_any _ _).mono ?_; rintro e w1 ⟨rfl, rfl⟩) | (go_at_call 38; refine (rShift_any _ _ _ _ _ _ _ h1 h2 h3).mono ?_; rintro e w1 ⟨rfl, hb1⟩; obtain ⟨hc1, hf1, hz1⟩ := bcell hb1; (try simp at hz1)) | (with_reducible refine bodyPost_ret (results_tmp rfl _ _ _) rfl ⟨rfl, Bel.below ?_⟩; (repeat (first | with_reducible exact bel_refl | with_reducible apply bel_alloc | with_reducible apply bel_drewN | with_reducible apply bel_drew | (with_reducible refine bel_set ?_ ?_; rotate_left; · first | (simp; done) | (simp; omega) | omega) | with_reducible refine bel_call (by assumption) ?_))))
        try
          refine wp_region_bw_lit (by kernel_rfl) (by kernel_rfl) ?_
          repeat (go_big_quiet_step ((go_at_call 39; exact Calls.bw_of (rPixels_any _ _ _ _ _ h1))))
          refine wpQuiet_nil ?_
          rintro _ ⟨u, rfl⟩
          have hbu := u.prop
          have hzu := u.prop.size
          try simp at hzu
          go_wp2_with (first | (go_at_call 30; refine (rEmpty_any _ _ _ _ _).mono ?_; rintro e w1 ⟨rfl, hb1⟩; obtain ⟨hc1, hf1, hz1⟩ := bcell hb1; (try simp at hz1)) | (with_reducible refine bodyPost_ret (results_tmp rfl _ _ _) rfl ⟨rfl, Bel.below ?_⟩; (repeat (first | with_reducible exact bel_refl | with_reducible apply bel_alloc | with_reducible apply bel_drewN | with_reducible apply bel_drew | (with_reducible refine bel_set ?_ ?_; rotate_left; · first | (simp; done) | (simp; omega) | omega) | with_reducible refine bel_call (by assumption) ?_))))
          try
            go_quiet (fail)
            go_wp2_with (with_reducible refine bodyPost_ret (results_tmp rfl _ _ _) rfl ⟨rfl, Bel.below ?_⟩; (repeat (first | with_reducible exact bel_refl | with_reducible apply bel_alloc | with_reducible apply bel_drewN | with_reducible apply bel_drew | (with_reducible refine bel_set ?_ ?_; rotate_left; · first | (simp; done) | (simp; omega) | omega) | with_reducible refine bel_call (by assumption) ?_)))
    · have hA : areaE a b c d = ((c - a) * (d - b), 0) := by simp [areaE, h1, h4, h5]
      obtain ⟨hm1, hm2⟩ := mul_div_bd (w := c - a) (h := d - b) (k := 1099511627776) (by omega) (by omega) (by omega)
      rcases hm with ⟨h2, h3, rfl⟩ | ⟨h2 | ⟨h2, h3⟩, rfl⟩
      all_goals
        go_enter Try.func8, Try.ntmps8
        go_wp2_with (first | (go_at_call 35; refine (Shift_any _ _ _ _ _ _ _).mono ?_; rintro e w1 ⟨rfl, hb1⟩; obtain ⟨hc1, hf1, hz1⟩ := bcell hb1; (try simp at hz1)) | (go_at_call 36; refine (Pixels_any _ _ _ _ _).mono ?_; rintro e w1 ⟨rfl, hb1⟩; obtain ⟨hc1, hf1, hz1⟩ := bcell hb1; (try simp at hz1)) | (go_at_call 37; refine (Area_any _ _ _ _ _).mono ?_; rintro e w1 ⟨rfl, hb1⟩; obtain ⟨hc1, hf1, hz1⟩ := bcell hb1; (try simp at hz1)) | (go_at_call 19; refine (lives2_any _).mono ?_; rintro e w1 ⟨rfl, hb1⟩; obtain ⟨hc1, hf1, hz1⟩ := bcell hb1; (try simp at hz1)) | (go_at_call 28; refine (rMayBox_any _ _ _ _ _).mono ?_; rintro e w1 ⟨rfl, hb1⟩; obtain ⟨hc1, hf1, hz1⟩ := bcell hb1; (try simp at hz1)) | (go_at_call 18; refine (rmay_any _ _).mono ?_; rintro e w1 ⟨rfl, rfl⟩) | (go_at_call 38; refine (rShift_any _ _ _ _ _ _ _ h1 h2 h3).mono ?_; rintro e w1 ⟨rfl, hb1⟩; obtain ⟨hc1, hf1, hz1⟩ := bcell hb1; (try simp at hz1)) | (with_reducible refine bodyPost_ret (results_tmp rfl _ _ _) rfl ⟨rfl, Bel.below ?_⟩; (repeat (first | with_reducible exact bel_refl | with_reducible apply bel_alloc | with_reducible apply bel_drewN | with_reducible apply bel_drew | (with_reducible refine bel_set ?_ ?_; rotate_left; · first | (simp; done) | (simp; omega) | omega) | with_reducible refine bel_call (by assumption) ?_))))
        try
          refine wp_region_bw_lit (by kernel_rfl) (by kernel_rfl) ?_
          repeat (go_big_quiet_step ((go_at_call 39; exact Calls.bw_of (rPixels_any _ _ _ _ _ h1))))
          refine wpQuiet_nil ?_
          rintro _ ⟨u, rfl⟩
          have hbu := u.prop
          have hzu := u.prop.size
          try simp at hzu
          go_wp2_with (first | (go_at_call 30; refine (rEmpty_any _ _ _ _ _).mono ?_; rintro e w1 ⟨rfl, hb1⟩; obtain ⟨hc1, hf1, hz1⟩ := bcell hb1; (try simp at hz1)) | (with_reducible refine bodyPost_ret (results_tmp rfl _ _ _) rfl ⟨rfl, Bel.below ?_⟩; (repeat (first | with_reducible exact bel_refl | with_reducible apply bel_alloc | with_reducible apply bel_drewN | with_reducible apply bel_drew | (with_reducible refine bel_set ?_ ?_; rotate_left; · first | (simp; done) | (simp; omega) | omega) | with_reducible refine bel_call (by assumption) ?_))))
          try
            go_quiet (fail)
            go_wp2_with (with_reducible refine bodyPost_ret (results_tmp rfl _ _ _) rfl ⟨rfl, Bel.below ?_⟩; (repeat (first | with_reducible exact bel_refl | with_reducible apply bel_alloc | with_reducible apply bel_drewN | with_reducible apply bel_drew | (with_reducible refine bel_set ?_ ?_; rotate_left; · first | (simp; done) | (simp; omega) | omega) | with_reducible refine bel_call (by assumption) ?_)))

set_option maxHeartbeats 2000000 in
theorem shifts_not (a b c d x y : Int) (w : World) (h1 : bB a b c d = false) :
    Calls Try.prog 8 #[.agg #[.int .i64 a, .int .i64 b, .int .i64 c, .int .i64 d], .int .i64 x, .int .i64 y] w fun e w' => e = .returned (.bool true) ∧ Below w.heap.size w w' := by
  have hS : ShiftE ⟨a, b, c, d⟩ x y = (⟨0, 0, 0, 0⟩, 10) := by simp [ShiftE, h1]
  have hP : PixE ⟨a, b, c, d⟩ = (⟨0, 0, 0, 0⟩, 10) := by simp [PixE, h1]
  have hA : areaE a b c d = (0, 10) := by simp [areaE, h1]
  go_enter Try.func8, Try.ntmps8
  go_wp2_with (first | (go_at_call 35; refine (Shift_any _ _ _ _ _ _ _).mono ?_; rintro e w1 ⟨rfl, hb1⟩; obtain ⟨hc1, hf1, hz1⟩ := bcell hb1; (try simp at hz1)) | (go_at_call 36; refine (Pixels_any _ _ _ _ _).mono ?_; rintro e w1 ⟨rfl, hb1⟩; obtain ⟨hc1, hf1, hz1⟩ := bcell hb1; (try simp at hz1)) | (go_at_call 37; refine (Area_any _ _ _ _ _).mono ?_; rintro e w1 ⟨rfl, hb1⟩; obtain ⟨hc1, hf1, hz1⟩ := bcell hb1; (try simp at hz1)) | (go_at_call 19; refine (lives2_any _).mono ?_; rintro e w1 ⟨rfl, hb1⟩; obtain ⟨hc1, hf1, hz1⟩ := bcell hb1; (try simp at hz1)) | (go_at_call 28; refine (rMayBox_any _ _ _ _ _).mono ?_; rintro e w1 ⟨rfl, hb1⟩; obtain ⟨hc1, hf1, hz1⟩ := bcell hb1; (try simp at hz1)) | (with_reducible refine bodyPost_ret (results_tmp rfl _ _ _) rfl ⟨rfl, Bel.below ?_⟩; (repeat (first | with_reducible exact bel_refl | with_reducible apply bel_alloc | with_reducible apply bel_drewN | with_reducible apply bel_drew | (with_reducible refine bel_set ?_ ?_; rotate_left; · first | (simp; done) | (simp; omega) | omega) | with_reducible refine bel_call (by assumption) ?_))))

theorem shifts_any (a b c d x y : Int) (w : World) :
    Calls Try.prog 8 #[.agg #[.int .i64 a, .int .i64 b, .int .i64 c, .int .i64 d], .int .i64 x, .int .i64 y] w fun e w' => e = .returned (.bool true) ∧ Below w.heap.size w w' := by
  rcases Bool.eq_false_or_eq_true (bB a b c d) with h1 | h1
  · rcases Bool.eq_false_or_eq_true (mayB x) with h2 | h2
    · rcases Bool.eq_false_or_eq_true (mayB y) with h3 | h3
      · exact shifts_may a b c d x y w h1 _ rfl (.inl ⟨h2, h3, by simp [ShiftE, h1, h2, h3]⟩)
      · exact shifts_may a b c d x y w h1 _ rfl (.inr ⟨.inr ⟨h2, h3⟩, by simp [ShiftE, h1, h2, h3]⟩)
    · exact shifts_may a b c d x y w h1 _ rfl (.inr ⟨.inl h2, by simp [ShiftE, h1, h2]⟩)
  · exact shifts_not a b c d x y w h1

end Go.Proofs.Ytdkjjppbcilcfaa
