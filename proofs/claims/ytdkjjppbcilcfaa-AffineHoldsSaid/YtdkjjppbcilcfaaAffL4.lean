/-
  The walk of the law AffineHolds: it answers true.
-/
import Derived.Test.YtdkjjppbcilcfaaAffH
namespace Go.Proofs.Ytdkjjppbcilcfaa
open Go.RowKit

theorem bB_iff {a b c d : Int} : bB a b c d = true ↔ (-2147483648 ≤ a ∧ a ≤ 2147483648) ∧ (-2147483648 ≤ b ∧ b ≤ 2147483648) ∧ (-2147483648 ≤ c ∧ c ≤ 2147483648) ∧ (-2147483648 ≤ d ∧ d ≤ 2147483648) := by
  simp only [bB, Bool.and_eq_true, mayB_true, and_assoc]
theorem holdsB_iff {a b c d x y : Int} : holdsB a b c d x y = true ↔ bB a b c d = true ∧ a ≤ x ∧ x < c ∧ b ≤ y ∧ y < d := by
  simp [holdsB, and_assoc]
theorem holds_meet {a b c d a' b' c' d' x y : Int} (h1 : bB a b c d = true) (h2 : bB a' b' c' d' = true) :
    holdsB (meetF ⟨a, b, c, d⟩ ⟨a', b', c', d'⟩).x0 (meetF ⟨a, b, c, d⟩ ⟨a', b', c', d'⟩).y0 (meetF ⟨a, b, c, d⟩ ⟨a', b', c', d'⟩).x1 (meetF ⟨a, b, c, d⟩ ⟨a', b', c', d'⟩).y1 x y = (holdsB a b c d x y && holdsB a' b' c' d' x y) := by
  rw [Bool.eq_iff_iff, Bool.and_eq_true]
  simp only [holdsB_iff, bB_iff] at *
  unfold meetF plainF
  split
  · rename_i h
    rw [emptyB_true] at h
    simp only at h ⊢
    omega
  · rename_i h
    rw [emptyB_true] at h
    simp only at h ⊢
    omega
theorem holds_join {a b c d a' b' c' d' x y : Int} (h1 : bB a b c d = true) (h2 : bB a' b' c' d' = true) (h : holdsB a b c d x y = true ∨ holdsB a' b' c' d' x y = true) :
    holdsB (joinF ⟨a, b, c, d⟩ ⟨a', b', c', d'⟩).x0 (joinF ⟨a, b, c, d⟩ ⟨a', b', c', d'⟩).y0 (joinF ⟨a, b, c, d⟩ ⟨a', b', c', d'⟩).x1 (joinF ⟨a, b, c, d⟩ ⟨a', b', c', d'⟩).y1 x y = true := by
  simp only [holdsB_iff, bB_iff] at *
  unfold joinF plainF
  split
  · rename_i h3
    rw [emptyB_true] at h3
    split
    · rename_i h4
      rw [emptyB_true] at h4
      simp only at h3 h4 ⊢
      omega
    · simp only at h3 ⊢
      omega
  · split
    · rename_i h4
      rw [emptyB_true] at h4
      simp only at h4 ⊢
      omega
    · simp only
      omega

set_option maxHeartbeats 2000000 in
theorem holds_any (a b c d a' b' c' d' x y : Int) (w : World) :
    Calls Try.prog 7 #[.agg #[.int .i64 a, .int .i64 b, .int .i64 c, .int .i64 d], .agg #[.int .i64 a', .int .i64 b', .int .i64 c', .int .i64 d'], .int .i64 x, .int .i64 y] w fun e w' => e = .returned (.bool true) ∧ Below w.heap.size w w' := by
  rcases Bool.eq_false_or_eq_true (bB a b c d) with h1 | h1
  rcases Bool.eq_false_or_eq_true (bB a' b' c' d') with h2 | h2
  · have hJ : JoinE ⟨a, b, c, d⟩ ⟨a', b', c', d'⟩ = (joinF ⟨a, b, c, d⟩ ⟨a', b', c', d'⟩, 0) := by simp [JoinE, *]
    have hM : MeetE ⟨a, b, c, d⟩ ⟨a', b', c', d'⟩ = (meetF ⟨a, b, c, d⟩ ⟨a', b', c', d'⟩, 0) := by simp [MeetE, *]
    rcases Bool.eq_false_or_eq_true (holdsB a b c d x y) with h3 | h3 <;> rcases Bool.eq_false_or_eq_true (holdsB a' b' c' d' x y) with h4 | h4
    all_goals
      have hm := holds_meet (x := x) (y := y) h1 h2
      simp only [h3, h4, Bool.and_true, Bool.and_false, Bool.and_self] at hm
    case' inl.inl => have hj := holds_join h1 h2 (.inl h3)
    case' inl.inr => have hj := holds_join h1 h2 (.inl h3)
    case' inr.inl => have hj := holds_join h1 h2 (.inr h4)
    all_goals
      go_enter Try.func7, Try.ntmps7
      go_wp2_with fail
      refine wp_region_bw_lit (by kernel_rfl) (by kernel_rfl) ?_
      repeat (go_big_quiet_step ((go_at_call 33; exact Calls.bw_of (Holds_any _ _ _ _ _ _ _))))
      refine wpQuiet_nil ?_
      rintro _ ⟨u, rfl⟩
      have hbu := u.prop
      have hzu := u.prop.size
      try simp at hzu
      go_wp2_with (first | (go_at_call 25; refine (Join_any _ _ _ _ _ _ _ _ _).mono ?_; rintro e w1 ⟨rfl, hb1⟩; obtain ⟨hc1, hf1, hz1⟩ := bcell hb1; (try simp at hz1)) | (go_at_call 26; refine (Meet_any _ _ _ _ _ _ _ _ _).mono ?_; rintro e w1 ⟨rfl, hb1⟩; obtain ⟨hc1, hf1, hz1⟩ := bcell hb1; (try simp at hz1)) | (go_at_call 19; refine (lives2_any _).mono ?_; rintro e w1 ⟨rfl, hb1⟩; obtain ⟨hc1, hf1, hz1⟩ := bcell hb1; (try simp at hz1)) | (go_at_call 34; refine (rHolds_any _ _ _ _ _ _ _).mono ?_; rintro e w1 ⟨rfl, hb1⟩; obtain ⟨hc1, hf1, hz1⟩ := bcell hb1; (try simp at hz1)) | (go_at_call 33; refine (Holds_any _ _ _ _ _ _ _).mono ?_; rintro e w1 ⟨rfl, hb1⟩; obtain ⟨hc1, hf1, hz1⟩ := bcell hb1; (try simp at hz1)) | (go_at_call 28; refine (rMayBox_any _ _ _ _ _).mono ?_; rintro e w1 ⟨rfl, hb1⟩; obtain ⟨hc1, hf1, hz1⟩ := bcell hb1; (try simp at hz1)) | (with_reducible refine bodyPost_ret (results_tmp rfl _ _ _) rfl ⟨rfl, Bel.below ?_⟩; (repeat (first | with_reducible exact bel_refl | with_reducible apply bel_alloc | with_reducible apply bel_drewN | with_reducible apply bel_drew | (with_reducible refine bel_set ?_ ?_; rotate_left; · first | (simp; done) | (simp; omega) | omega) | with_reducible refine bel_call (by assumption) ?_))))
  all_goals
    go_enter Try.func7, Try.ntmps7
    go_wp2_with fail
    refine wp_region_bw_lit (by kernel_rfl) (by kernel_rfl) ?_
    repeat (go_big_quiet_step ((go_at_call 33; exact Calls.bw_of (Holds_any _ _ _ _ _ _ _))))
    refine wpQuiet_nil ?_
    rintro _ ⟨u, rfl⟩
    have hbu := u.prop
    have hzu := u.prop.size
    try simp at hzu
    go_wp2_with (first | (go_at_call 19; refine (lives2_any _).mono ?_; rintro e w1 ⟨rfl, hb1⟩; obtain ⟨hc1, hf1, hz1⟩ := bcell hb1; (try simp at hz1)) | (go_at_call 34; refine (rHolds_any _ _ _ _ _ _ _).mono ?_; rintro e w1 ⟨rfl, hb1⟩; obtain ⟨hc1, hf1, hz1⟩ := bcell hb1; (try simp at hz1)) | (go_at_call 28; refine (rMayBox_any _ _ _ _ _).mono ?_; rintro e w1 ⟨rfl, hb1⟩; obtain ⟨hc1, hf1, hz1⟩ := bcell hb1; (try simp at hz1)) | (with_reducible refine bodyPost_ret (results_tmp rfl _ _ _) rfl ⟨rfl, Bel.below ?_⟩; (repeat (first | with_reducible exact bel_refl | with_reducible apply bel_alloc | with_reducible apply bel_drewN | with_reducible apply bel_drew | (with_reducible refine bel_set ?_ ?_; rotate_left; · first | (simp; done) | (simp; omega) | omega) | with_reducible refine bel_call (by assumption) ?_))))

end Go.Proofs.Ytdkjjppbcilcfaa
