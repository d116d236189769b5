/-
  Which boxes may be a mask's, which masks may be: layer 23's Check and the document's.
-/
import Derived.Test.YtbjggiihbdhmbaaCvA
namespace Go.Proofs.Ytbjggiihbdhmbaa
open Go.RowKit

/-- What is wrong with a box of cells. -/
def cellE (a b c d : Int) : Int :=
  if bB a b c d = false then 1 else if emptyB a b c d = true then 1 else
  if a < -16384 ∨ b < -16384 ∨ 16384 < c ∨ 16384 < d ∨ 4194304 < (c - a) * (d - b) then 220 else 0
/-- What is wrong with a mask of n bytes. -/
def maskE (a b c d n : Int) : Int := if eq4 a b c d 0 0 0 0 = true then (if n = 0 then 0 else 220) else if cellE a b c d = 0 ∧ n = (c - a) * (d - b) then 0 else 220
theorem cellE_zero {a b c d : Int} : cellE a b c d = 0 ↔ bB a b c d = true ∧ a < c ∧ b < d ∧ -16384 ≤ a ∧ -16384 ≤ b ∧ c ≤ 16384 ∧ d ≤ 16384 ∧ (c - a) * (d - b) ≤ 4194304 := by
  unfold cellE
  rcases Bool.eq_false_or_eq_true (bB a b c d) with h1 | h1
  · rcases Bool.eq_false_or_eq_true (emptyB a b c d) with h2 | h2
    · have := emptyB_true.1 h2
      simp [h1, h2]; omega
    · have := emptyB_false.1 h2
      simp only [h1, h2]
      generalize (c - a) * (d - b) = m
      split
      · rename_i h; cases h
      · split
        · rename_i h; cases h
        · split <;> simp <;> omega
  · simp [h1]
theorem prod_small {a b c d : Int} (h1 : a < c) (h2 : b < d) (h3 : -16384 ≤ a) (h4 : -16384 ≤ b) (h5 : c ≤ 16384) (h6 : d ≤ 16384) : 1 ≤ (c - a) * (d - b) ∧ (c - a) * (d - b) ≤ 1073741824 := by
  have e1 : (c - a) * (d - b) ≤ (c - a) * 32768 := Int.mul_le_mul_of_nonneg_left (by omega) (by omega)
  have e2 : (c - a) * 1 ≤ (c - a) * (d - b) := Int.mul_le_mul_of_nonneg_left (by omega) (by omega)
  omega

set_option maxHeartbeats 2000000 in
theorem cellBox_any (a b c d : Int) (w : World) :
    Calls Try.prog 11 #[.agg #[.int .i64 a, .int .i64 b, .int .i64 c, .int .i64 d]] w fun e w' => e = .returned (.int .i64 (cellE a b c d)) ∧ Below w.heap.size w w' := by
  rcases Bool.eq_false_or_eq_true (bB a b c d) with h1 | h1
  rotate_left
  · have hA := Lib.hid (show cellE a b c d = 1 by simp [cellE, h1])
    go_enter Try.func11, Try.ntmps11
    go_wp2_with (first | (go_at_call 34; refine (rMayBox_any _ _ _ _ _).mono ?_; rintro e w1 ⟨rfl, hb1⟩; obtain ⟨hc1, hf1, hz1⟩ := bcell hb1; (try simp at hz1)) | (go_at_call 35; refine (rEmpty_any _ _ _ _ _).mono ?_; rintro e w1 ⟨rfl, hb1⟩; obtain ⟨hc1, hf1, hz1⟩ := bcell hb1; (try simp at hz1)))
    go_ret
    refine ⟨ret_int hA.out.symm, Bel.below ?_⟩
    repeat (first | with_reducible exact bel_refl | with_reducible apply bel_alloc | with_reducible apply bel_drewN | with_reducible apply bel_drew | (with_reducible refine bel_set ?_ ?_; rotate_left; · first | (simp; done) | (simp; omega) | omega) | with_reducible refine bel_call (by assumption) ?_)
  rcases Bool.eq_false_or_eq_true (emptyB a b c d) with h2 | h2
  · have hA := Lib.hid (show cellE a b c d = 1 by simp [cellE, h1, h2])
    go_enter Try.func11, Try.ntmps11
    go_wp2_with (first | (go_at_call 34; refine (rMayBox_any _ _ _ _ _).mono ?_; rintro e w1 ⟨rfl, hb1⟩; obtain ⟨hc1, hf1, hz1⟩ := bcell hb1; (try simp at hz1)) | (go_at_call 35; refine (rEmpty_any _ _ _ _ _).mono ?_; rintro e w1 ⟨rfl, hb1⟩; obtain ⟨hc1, hf1, hz1⟩ := bcell hb1; (try simp at hz1)))
    go_ret
    refine ⟨ret_int hA.out.symm, Bel.below ?_⟩
    repeat (first | with_reducible exact bel_refl | with_reducible apply bel_alloc | with_reducible apply bel_drewN | with_reducible apply bel_drew | (with_reducible refine bel_set ?_ ?_; rotate_left; · first | (simp; done) | (simp; omega) | omega) | with_reducible refine bel_call (by assumption) ?_)
  obtain ⟨⟨ha, ha'⟩, ⟨hb, hb'⟩, ⟨hc, hc'⟩, ⟨hd, hd'⟩⟩ := bB_true h1
  obtain ⟨he, he'⟩ := emptyB_false.1 h2
  have key : (a < -16384 ∨ (-16384 ≤ a ∧ b < -16384) ∨ (-16384 ≤ a ∧ -16384 ≤ b ∧ 16384 < c) ∨ (-16384 ≤ a ∧ -16384 ≤ b ∧ c ≤ 16384 ∧ 16384 < d)) ∨ (-16384 ≤ a ∧ -16384 ≤ b ∧ c ≤ 16384 ∧ d ≤ 16384) := by omega
  rcases key with key | ⟨k1, k2, k3, k4⟩
  · have hA := Lib.hid (show cellE a b c d = 220 by simp only [cellE, h1, h2]; rw [if_neg (by decide), if_neg (by decide), if_pos (by omega)])
    rcases key with k1 | ⟨k1, k2⟩ | ⟨k1, k2, k3⟩ | ⟨k1, k2, k3, k4⟩
    all_goals
      go_enter Try.func11, Try.ntmps11
      go_wp2_with (first | (go_at_call 34; refine (rMayBox_any _ _ _ _ _).mono ?_; rintro e w1 ⟨rfl, hb1⟩; obtain ⟨hc1, hf1, hz1⟩ := bcell hb1; (try simp at hz1)) | (go_at_call 35; refine (rEmpty_any _ _ _ _ _).mono ?_; rintro e w1 ⟨rfl, hb1⟩; obtain ⟨hc1, hf1, hz1⟩ := bcell hb1; (try simp at hz1)))
      go_ret
      refine ⟨ret_int hA.out.symm, Bel.below ?_⟩
      repeat (first | with_reducible exact bel_refl | with_reducible apply bel_alloc | with_reducible apply bel_drewN | with_reducible apply bel_drew | (with_reducible refine bel_set ?_ ?_; rotate_left; · first | (simp; done) | (simp; omega) | omega) | with_reducible refine bel_call (by assumption) ?_)
  · have hp := prod_small he he' k1 k2 k3 k4
    have hA := Lib.hid (show cellE a b c d = if 4194304 < (c - a) * (d - b) then 220 else 0 by
      simp only [cellE, h1, h2]; rw [if_neg (by decide), if_neg (by decide)]
      by_cases h : 4194304 < (c - a) * (d - b)
      · rw [if_pos (by omega), if_pos h]
      · rw [if_neg (by omega), if_neg h])
    obtain ⟨m, hm⟩ : ∃ m, (c - a) * (d - b) = m := ⟨_, rfl⟩
    rw [hm] at hA hp
    have hw : wrap64 ((c - a) * (d - b)) = m := by rw [hm]; exact IntWalk.wrap64_in _ (by omega)
    clear hm
    by_cases hgt : 4194304 < m
    · go_enter Try.func11, Try.ntmps11
      go_wp2_with (first | (go_at_call 34; refine (rMayBox_any _ _ _ _ _).mono ?_; rintro e w1 ⟨rfl, hb1⟩; obtain ⟨hc1, hf1, hz1⟩ := bcell hb1; (try simp at hz1)) | (go_at_call 35; refine (rEmpty_any _ _ _ _ _).mono ?_; rintro e w1 ⟨rfl, hb1⟩; obtain ⟨hc1, hf1, hz1⟩ := bcell hb1; (try simp at hz1)))
      go_ret
      refine ⟨ret_int (by rw [hA.out, if_pos hgt]), Bel.below ?_⟩
      repeat (first | with_reducible exact bel_refl | with_reducible apply bel_alloc | with_reducible apply bel_drewN | with_reducible apply bel_drew | (with_reducible refine bel_set ?_ ?_; rotate_left; · first | (simp; done) | (simp; omega) | omega) | with_reducible refine bel_call (by assumption) ?_)
    · go_enter Try.func11, Try.ntmps11
      go_wp2_with (first | (go_at_call 34; refine (rMayBox_any _ _ _ _ _).mono ?_; rintro e w1 ⟨rfl, hb1⟩; obtain ⟨hc1, hf1, hz1⟩ := bcell hb1; (try simp at hz1)) | (go_at_call 35; refine (rEmpty_any _ _ _ _ _).mono ?_; rintro e w1 ⟨rfl, hb1⟩; obtain ⟨hc1, hf1, hz1⟩ := bcell hb1; (try simp at hz1)))
      go_ret
      refine ⟨ret_int (by rw [hA.out, if_neg (by omega)]), Bel.below ?_⟩
      repeat (first | with_reducible exact bel_refl | with_reducible apply bel_alloc | with_reducible apply bel_drewN | with_reducible apply bel_drew | (with_reducible refine bel_set ?_ ?_; rotate_left; · first | (simp; done) | (simp; omega) | omega) | with_reducible refine bel_call (by assumption) ?_)

theorem areaE_cell {a b c d : Int} (h : cellE a b c d = 0) : areaE a b c d = ((c - a) * (d - b), 0) := by
  obtain ⟨h1, he, he', g1, g2, g3, g4, g5⟩ := cellE_zero.1 h
  have h4 : (d - b) * (c - a) ≤ 1099511627776 := by rw [Int.mul_comm]; omega
  have := Int.le_ediv_of_mul_le (by omega) h4
  have h2 : emptyB a b c d = false := emptyB_false.2 ⟨he, he'⟩
  simp only [areaE, h1, h2]
  rw [if_neg (by decide), if_neg (by decide), if_neg (by omega)]

end Go.Proofs.Ytbjggiihbdhmbaa
