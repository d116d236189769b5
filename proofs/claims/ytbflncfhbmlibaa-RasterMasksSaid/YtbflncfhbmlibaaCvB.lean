/-
  Which boxes may be a mask's, which masks may be: layer 23's Check and the document's.
-/
import Derived.Test.YtbflncfhbmlibaaCvA

namespace Go.Proofs.Ytbflncfhbmlibaa

open Go.RowKit

/-- What is wrong with a box of cells. -/
def cellE (a b c d : Int) : Int :=
  if bB a b c d = false then 1 else if emptyB a b c d = true then 1 else
  if a < -16384 ∨ b < -16384 ∨ 16384 < c ∨ 16384 < d ∨ 4194304 < (c - a) * (d - b) then 220 else 0

/-- What is wrong with a mask of n bytes. -/
def maskE (a b c d n : Int) : Int := if eq4 a b c d 0 0 0 0 = true then (if n = 0 then 0 else 220) else if cellE a b c d = 0 ∧ n = (c - a) * (d - b) then 0 else 220

theorem cellE_zero {a b c d : Int} : cellE a b c d = 0 ↔ bB a b c d = true ∧ a < c ∧ b < d ∧ -16384 ≤ a ∧ -16384 ≤ b ∧ c ≤ 16384 ∧ d ≤ 16384 ∧ (c - a) * (d - b) ≤ 4194304 := by
  unfold cellE
  rcases Bool.eq_false_or_eq_true (bB a b c d) with h1 | h1
  · rcases Bool.eq_false_or_eq_true (emptyB a b c d) with h2 | h2
    · have := emptyB_true.1 h2
      simp [h1, h2]; omega
    · have := emptyB_false.1 h2
      simp only [h1, h2]
      generalize (c - a) * (d - b) = m
      split
      · rename_i h; cases h
      · split
        · rename_i h; cases h
        · split <;> simp <;> omega
  · simp [h1]

theorem prod_small {a b c d : Int} (h1 : a < c) (h2 : b < d) (h3 : -16384 ≤ a) (h4 : -16384 ≤ b) (h5 : c ≤ 16384) (h6 : d ≤ 16384) : 1 ≤ (c - a) * (d - b) ∧ (c - a) * (d - b) ≤ 1073741824 := by
  have e1 : (c - a) * (d - b) ≤ (c - a) * 32768 := Int.mul_le_mul_of_nonneg_left (by omega) (by omega)
  have e2 : (c - a) * 1 ≤ (c - a) * (d - b) := Int.mul_le_mul_of_nonneg_left (by omega) (by omega)
  omega

set_option maxHeartbeats 2000000 in
theorem cellBox_any (a b c d : Int) (w : World) :
    Calls Try.prog 36 #[.agg #[.int .i64 a, .int .i64 b, .int .i64 c, .int .i64 d]] w fun e w' => e = .returned (.int .i64 (cellE a b c d)) ∧ Below w.heap.size w w' := by
  rcases Bool.eq_false_or_eq_true (bB a b c d) with h1 | h1
  rotate_left
  · have hA := Lib.hid (show cellE a b c d = 1 by simp [cellE, h1])
    go_enter Try.func36, Try.ntmps36
    go_wp2_with (first | (go_at_call 17; refine (rMayBox_any _ _ _ _ _).mono ?_; rintro e w1 ⟨rfl, hb1⟩; obtain ⟨hc1, hf1, hz1⟩ := bcell hb1; (try simp at hz1)) | (go_at_call 18; refine (rEmpty_any _ _ _ _ _).mono ?_; rintro e w1 ⟨rfl, hb1⟩; obtain ⟨hc1, hf1, hz1⟩ := bcell hb1; (try simp at hz1)))
    go_ret
    refine ⟨ret_int hA.out.symm, Bel.below ?_⟩
    repeat (first | with_reducible exact bel_refl | with_reducible apply bel_alloc | with_reducible apply bel_drewN | with_reducible apply bel_drew | (with_reducible refine bel_set ?_ ?_; rotate_left; · first | (simp; done) | (simp; omega) | omega) | with_reducible refine bel_call (by assumption) ?_)
  rcases Bool.eq_false_or_eq_true (emptyB a b c d) with h2 | h2
  · have hA := Lib.hid (show cellE a b c d = 1 by simp [cellE, h1, h2])
    go_enter Try.func36, Try.ntmps36
    go_wp2_with (first | (go_at_call 17; refine (rMayBox_any _ _ _ _ _).mono ?_; rintro e w1 ⟨rfl, hb1⟩; obtain ⟨hc1, hf1, hz1⟩ := bcell hb1; (try simp at hz1)) | (go_at_call 18; refine (rEmpty_any _ _ _ _ _).mono ?_; rintro e w1 ⟨rfl, hb1⟩; obtain ⟨hc1, hf1, hz1⟩ := bcell hb1; (try simp at hz1)))
    go_ret
    refine ⟨ret_int hA.out.symm, Bel.below ?_⟩
    repeat (first | with_reducible exact bel_refl | with_reducible apply bel_alloc | with_reducible apply bel_drewN | with_reducible apply bel_drew | (with_reducible refine bel_set ?_ ?_; rotate_left; · first | (simp; done) | (simp; omega) | omega) | with_reducible refine bel_call (by assumption) ?_)
  obtain ⟨⟨ha, ha'⟩, ⟨hb, hb'⟩, ⟨hc, hc'⟩, ⟨hd, hd'⟩⟩ := bB_true h1
  obtain ⟨he, he'⟩ := emptyB_false.1 h2
  have key : (a < -16384 ∨ (-16384 ≤ a ∧ b < -16384) ∨ (-16384 ≤ a ∧ -16384 ≤ b ∧ 16384 < c) ∨ (-16384 ≤ a ∧ -16384 ≤ b ∧ c ≤ 16384 ∧ 16384 < d)) ∨ (-16384 ≤ a ∧ -16384 ≤ b ∧ c ≤ 16384 ∧ d ≤ 16384) := by omega
  rcases key with key | ⟨k1, k2, k3, k4⟩
  · have hA := Lib.hid (show cellE a b c d = 220 by simp only [cellE, h1, h2]; rw [if_neg (by decide), if_neg (by decide), if_pos (by omega)])
    rcases key with k1 | ⟨k1, k2⟩ | ⟨k1, k2, k3⟩ | ⟨k1, k2, k3, k4⟩
    all_goals
      go_enter Try.func36, Try.ntmps36
      go_wp2_with (first | (go_at_call 17; refine (rMayBox_any _ _ _ _ _).mono ?_; rintro e w1 ⟨rfl, hb1⟩; obtain ⟨hc1, hf1, hz1⟩ := bcell hb1; (try simp at hz1)) | (go_at_call 18; refine (rEmpty_any _ _ _ _ _).mono ?_; rintro e w1 ⟨rfl, hb1⟩; obtain ⟨hc1, hf1, hz1⟩ := bcell hb1; (try simp at hz1)))
      go_ret
      refine ⟨ret_int hA.out.symm, Bel.below ?_⟩
      repeat (first | with_reducible exact bel_refl | with_reducible apply bel_alloc | with_reducible apply bel_drewN | with_reducible apply bel_drew | (with_reducible refine bel_set ?_ ?_; rotate_left; · first | (simp; done) | (simp; omega) | omega) | with_reducible refine bel_call (by assumption) ?_)
  · have hp := prod_small he he' k1 k2 k3 k4
    have hA := Lib.hid (show cellE a b c d = if 4194304 < (c - a) * (d - b) then 220 else 0 by
      simp only [cellE, h1, h2]; rw [if_neg (by decide), if_neg (by decide)]
      by_cases h : 4194304 < (c - a) * (d - b)
      · rw [if_pos (by omega), if_pos h]
      · rw [if_neg (by omega), if_neg h])
    obtain ⟨m, hm⟩ : ∃ m, (c - a) * (d - b) = m := ⟨_, rfl⟩
    rw [hm] at hA hp
    have hw : wrap64 ((c - a) * (d - b)) = m := by rw [hm]; exact IntWalk.wrap64_in _ (by omega)
    clear hm
    by_cases hgt : 4194304 < m
    · go_enter Try.func36, Try.ntmps36
      go_wp2_with (first | (go_at_call 17; refine (rMayBox_any _ _ _ _ _).mono ?_; rintro e w1 ⟨rfl, hb1⟩; obtain ⟨hc1, hf1, hz1⟩ := bcell hb1; (try simp at hz1)) | (go_at_call 18; refine (rEmpty_any _ _ _ _ _).mono ?_; rintro e w1 ⟨rfl, hb1⟩; obtain ⟨hc1, hf1, hz1⟩ := bcell hb1; (try simp at hz1)))
      go_ret
      refine ⟨ret_int (by rw [hA.out, if_pos hgt]), Bel.below ?_⟩
      repeat (first | with_reducible exact bel_refl | with_reducible apply bel_alloc | with_reducible apply bel_drewN | with_reducible apply bel_drew | (with_reducible refine bel_set ?_ ?_; rotate_left; · first | (simp; done) | (simp; omega) | omega) | with_reducible refine bel_call (by assumption) ?_)
    · go_enter Try.func36, Try.ntmps36
      go_wp2_with (first | (go_at_call 17; refine (rMayBox_any _ _ _ _ _).mono ?_; rintro e w1 ⟨rfl, hb1⟩; obtain ⟨hc1, hf1, hz1⟩ := bcell hb1; (try simp at hz1)) | (go_at_call 18; refine (rEmpty_any _ _ _ _ _).mono ?_; rintro e w1 ⟨rfl, hb1⟩; obtain ⟨hc1, hf1, hz1⟩ := bcell hb1; (try simp at hz1)))
      go_ret
      refine ⟨ret_int (by rw [hA.out, if_neg (by omega)]), Bel.below ?_⟩
      repeat (first | with_reducible exact bel_refl | with_reducible apply bel_alloc | with_reducible apply bel_drewN | with_reducible apply bel_drew | (with_reducible refine bel_set ?_ ?_; rotate_left; · first | (simp; done) | (simp; omega) | omega) | with_reducible refine bel_call (by assumption) ?_)

def cellB (a b c d : Int) : Bool := decide (cellE a b c d = 0)

set_option maxHeartbeats 4000000 in
theorem rasBox_any (a b c d : Int) (w : World) :
    Calls Try.prog 32 #[.agg #[.int .i64 a, .int .i64 b, .int .i64 c, .int .i64 d]] w fun e w' => e = .returned (.bool (cellB a b c d)) ∧ Below w.heap.size w w' := by
  have key : (areaE a b c d = (0, 10) ∧ cellB a b c d = false) ∨ (areaE a b c d = (0, 0) ∧ cellB a b c d = false) ∨
      ∃ m, areaE a b c d = (m, 0) ∧ 1 ≤ m ∧ m ≤ 1099511627776 ∧ cellB a b c d = decide (m ≤ 4194304 ∧ -16384 ≤ a ∧ -16384 ≤ b ∧ c ≤ 16384 ∧ d ≤ 16384) := by
    rcases Bool.eq_false_or_eq_true (bB a b c d) with h1 | h1
    rotate_left
    · exact .inl ⟨by simp [areaE, h1], by simp [cellB, cellE, h1]⟩
    rcases Bool.eq_false_or_eq_true (emptyB a b c d) with h2 | h2
    · exact .inr (.inl ⟨by simp [areaE, h1, h2], by simp [cellB, cellE, h1, h2]⟩)
    obtain ⟨he, he'⟩ := emptyB_false.1 h2
    by_cases h3 : 1099511627776 / (c - a) < d - b
    · refine .inl ⟨by simp [areaE, h1, h2, h3], ?_⟩
      have hn : cellE a b c d ≠ 0 := fun h0 => by
        obtain ⟨_, _, _, g1, g2, g3, g4, g5⟩ := cellE_zero.1 h0
        have h4 : (d - b) * (c - a) ≤ 1099511627776 := by rw [Int.mul_comm]; omega
        have := Int.le_ediv_of_mul_le (by omega) h4
        omega
      simp [cellB, hn]
    · obtain ⟨hm, hm'⟩ := mul_div_bd (w := c - a) (h := d - b) (k := 1099511627776) (by omega) (by omega) (by omega)
      have hm1 : 1 ≤ (c - a) * (d - b) := by
        have e2 : (c - a) * 1 ≤ (c - a) * (d - b) := Int.mul_le_mul_of_nonneg_left (by omega) (by omega)
        omega
      refine .inr (.inr ⟨(c - a) * (d - b), by simp [areaE, h1, h2, h3], hm1, hm', ?_⟩)
      rw [cellB, Bool.eq_iff_iff, decide_eq_true_eq, decide_eq_true_eq, cellE_zero]
      constructor
      · rintro ⟨_, _, _, g1, g2, g3, g4, g5⟩; exact ⟨g5, g1, g2, g3, g4⟩
      · rintro ⟨g5, g1, g2, g3, g4⟩; exact ⟨h1, he, he', g1, g2, g3, g4, g5⟩
  have KA := fun w => Area_any a b c d w
  rcases key with ⟨hE, hA⟩ | ⟨hE, hA⟩ | ⟨m, hE, hm1, hm2, hA⟩
  all_goals
    rw [hE] at KA
    replace KA := Lib.hid KA
    have HA := Lib.hid hA
    clear hE hA
    go_enter Try.func32, Try.ntmps32
    go_wp2_with (first | (go_at_call 41; refine (KA.out _).mono ?_; rintro e w1 ⟨rfl, hb1⟩; obtain ⟨hc1, hf1, hz1⟩ := bcell hb1; (try simp at hz1)))
    all_goals
      go_ret
      refine ⟨ret_bool ?_, Bel.below ?_⟩
      · first | (rw [HA.out]; done) | (rw [HA.out]; simp; done) | (rw [HA.out]; simp; omega) | (rw [HA.out, Bool.eq_iff_iff]; simp; omega)
      · repeat (first | with_reducible exact bel_refl | with_reducible apply bel_alloc | with_reducible apply bel_drewN | with_reducible apply bel_drew | (with_reducible refine bel_set ?_ ?_; rotate_left; · first | (simp; done) | (simp; omega) | omega) | with_reducible refine bel_call (by assumption) ?_)

theorem areaE_cell {a b c d : Int} (h : cellE a b c d = 0) : areaE a b c d = ((c - a) * (d - b), 0) := by
  obtain ⟨h1, he, he', g1, g2, g3, g4, g5⟩ := cellE_zero.1 h
  have h4 : (d - b) * (c - a) ≤ 1099511627776 := by rw [Int.mul_comm]; omega
  have := Int.le_ediv_of_mul_le (by omega) h4
  have h2 : emptyB a b c d = false := emptyB_false.2 ⟨he, he'⟩
  simp only [areaE, h1, h2]
  rw [if_neg (by decide), if_neg (by decide), if_neg (by omega)]

set_option maxHeartbeats 4000000 in
theorem Check_any (a b c d : Int) (A : Option Addr) (n k : Nat) (hn : n ≤ 140737488355328) (w : World) :
    Calls Try.prog 15 #[.agg #[.int .i64 a, .int .i64 b, .int .i64 c, .int .i64 d, .slice A n k]] w fun e w' => e = .returned (.int .i64 (maskE a b c d n)) ∧ Below w.heap.size w w' := by
  have KA := fun w => Area_any a b c d w
  have KB := fun w => rasBox_any a b c d w
  rcases Bool.eq_false_or_eq_true (eq4 a b c d 0 0 0 0) with h4 | h4
  · obtain ⟨rfl, rfl, rfl, rfl⟩ := eq4_true.1 h4
    have hE : areaE 0 0 0 0 = (0, 0) := by decide
    rw [hE] at KA
    have HK := Lib.hid KA
    have HA : Hid (maskE 0 0 0 0 n = if (n : Int) = 0 then 0 else 220) := Lib.hid (by simp [maskE, h4])
    clear KA KB hE h4
    by_cases hz : n = 0
    · subst hz
      go_enter Try.func15, Try.ntmps15
      go_wp2_with (first | (go_at_call 41; refine (HK.out _).mono ?_; rintro e w1 ⟨rfl, hb1⟩; obtain ⟨hc1, hf1, hz1⟩ := bcell hb1; (try simp at hz1)))
      go_ret
      refine ⟨ret_int (by rw [HA.out]; rfl), Bel.below ?_⟩
      repeat (first | with_reducible exact bel_refl | with_reducible apply bel_alloc | with_reducible apply bel_drewN | with_reducible apply bel_drew | (with_reducible refine bel_set ?_ ?_; rotate_left; · first | (simp; done) | (simp; omega) | omega) | with_reducible refine bel_call (by assumption) ?_)
    · have hz2 : ((n : Int) != 0) = true := by simp; omega
      go_enter Try.func15, Try.ntmps15
      go_wp2_with (first | (go_at_call 41; refine (HK.out _).mono ?_; rintro e w1 ⟨rfl, hb1⟩; obtain ⟨hc1, hf1, hz1⟩ := bcell hb1; (try simp at hz1)))
      go_ret
      refine ⟨ret_int (by rw [HA.out, if_neg (by omega)]), Bel.below ?_⟩
      repeat (first | with_reducible exact bel_refl | with_reducible apply bel_alloc | with_reducible apply bel_drewN | with_reducible apply bel_drew | (with_reducible refine bel_set ?_ ?_; rotate_left; · first | (simp; done) | (simp; omega) | omega) | with_reducible refine bel_call (by assumption) ?_)
  · by_cases hc : cellE a b c d = 0
    · have hE := areaE_cell hc
      have hp := cellE_zero.1 hc
      have hB : cellB a b c d = true := by simp [cellB, hc]
      have HA : Hid (maskE a b c d n = if (n : Int) = (c - a) * (d - b) then 0 else 220) := Lib.hid (by simp [maskE, h4, hc])
      obtain ⟨m, hm⟩ : ∃ m, (c - a) * (d - b) = m := ⟨_, rfl⟩
      rw [hm] at hE HA
      rw [hE] at KA
      rw [hB] at KB
      have HK := Lib.hid KA
      have HKB := Lib.hid KB
      clear KA KB hE hc hB hp hm
      by_cases hz : (n : Int) = m
      · subst hz
        go_enter Try.func15, Try.ntmps15
        go_wp2_with (first | (go_at_call 41; refine (HK.out _).mono ?_; rintro e w1 ⟨rfl, hb1⟩; obtain ⟨hc1, hf1, hz1⟩ := bcell hb1; (try simp at hz1)) | (go_at_call 32; refine (HKB.out _).mono ?_; rintro e w1 ⟨rfl, hb1⟩; obtain ⟨hc1, hf1, hz1⟩ := bcell hb1; (try simp at hz1)))
        go_ret
        refine ⟨ret_int (by rw [HA.out]; simp), Bel.below ?_⟩
        repeat (first | with_reducible exact bel_refl | with_reducible apply bel_alloc | with_reducible apply bel_drewN | with_reducible apply bel_drew | (with_reducible refine bel_set ?_ ?_; rotate_left; · first | (simp; done) | (simp; omega) | omega) | with_reducible refine bel_call (by assumption) ?_)
      · have hz2 : ((n : Int) != m) = true := by simp; omega
        go_enter Try.func15, Try.ntmps15
        go_wp2_with (first | (go_at_call 41; refine (HK.out _).mono ?_; rintro e w1 ⟨rfl, hb1⟩; obtain ⟨hc1, hf1, hz1⟩ := bcell hb1; (try simp at hz1)) | (go_at_call 32; refine (HKB.out _).mono ?_; rintro e w1 ⟨rfl, hb1⟩; obtain ⟨hc1, hf1, hz1⟩ := bcell hb1; (try simp at hz1)))
        go_ret
        refine ⟨ret_int (by rw [HA.out, if_neg hz]), Bel.below ?_⟩
        repeat (first | with_reducible exact bel_refl | with_reducible apply bel_alloc | with_reducible apply bel_drewN | with_reducible apply bel_drew | (with_reducible refine bel_set ?_ ?_; rotate_left; · first | (simp; done) | (simp; omega) | omega) | with_reducible refine bel_call (by assumption) ?_)
    · have hB : cellB a b c d = false := by simp [cellB, hc]
      have HA : Hid (maskE a b c d n = 220) := Lib.hid (by simp [maskE, h4, hc])
      rw [hB] at KB
      have HK := Lib.hid KA
      have HKB := Lib.hid KB
      clear KA KB hc hB
      go_enter Try.func15, Try.ntmps15
      go_wp2_with (first | (go_at_call 41; refine (HK.out _).mono ?_; rintro e w1 ⟨rfl, hb1⟩; obtain ⟨hc1, hf1, hz1⟩ := bcell hb1; (try simp at hz1)) | (go_at_call 32; refine (HKB.out _).mono ?_; rintro e w1 ⟨rfl, hb1⟩; obtain ⟨hc1, hf1, hz1⟩ := bcell hb1; (try simp at hz1)))
      go_ret
      refine ⟨ret_int HA.out.symm, Bel.below ?_⟩
      repeat (first | with_reducible exact bel_refl | with_reducible apply bel_alloc | with_reducible apply bel_drewN | with_reducible apply bel_drew | (with_reducible refine bel_set ?_ ?_; rotate_left; · first | (simp; done) | (simp; omega) | omega) | with_reducible refine bel_call (by assumption) ?_)

set_option maxHeartbeats 4000000 in
theorem rCheck_any (a b c d : Int) (A : Option Addr) (n k : Nat) (hn : n ≤ 140737488355328) (w : World) :
    Calls Try.prog 21 #[.agg #[.int .i64 a, .int .i64 b, .int .i64 c, .int .i64 d, .slice A n k]] w fun e w' => e = .returned (.int .i64 (maskE a b c d n)) ∧ Below w.heap.size w w' := by
  have KB := fun w => cellBox_any a b c d w
  rcases Bool.eq_false_or_eq_true (eq4 a b c d 0 0 0 0) with h4 | h4
  · obtain ⟨rfl, rfl, rfl, rfl⟩ := eq4_true.1 h4
    have HA : Hid (maskE 0 0 0 0 n = if (n : Int) = 0 then 0 else 220) := Lib.hid (by simp [maskE, h4])
    clear KB h4
    by_cases hz : n = 0
    · subst hz
      go_enter Try.func21, Try.ntmps21
      go_wp2
      go_ret
      refine ⟨ret_int (by rw [HA.out]; rfl), Bel.below ?_⟩
      repeat (first | with_reducible exact bel_refl | with_reducible apply bel_alloc | with_reducible apply bel_drewN | with_reducible apply bel_drew | (with_reducible refine bel_set ?_ ?_; rotate_left; · first | (simp; done) | (simp; omega) | omega) | with_reducible refine bel_call (by assumption) ?_)
    · have hz2 : ((n : Int) == 0) = false := by simp; omega
      go_enter Try.func21, Try.ntmps21
      go_wp2
      go_ret
      refine ⟨ret_int (by rw [HA.out, if_neg (by omega)]), Bel.below ?_⟩
      repeat (first | with_reducible exact bel_refl | with_reducible apply bel_alloc | with_reducible apply bel_drewN | with_reducible apply bel_drew | (with_reducible refine bel_set ?_ ?_; rotate_left; · first | (simp; done) | (simp; omega) | omega) | with_reducible refine bel_call (by assumption) ?_)
  · by_cases hc : cellE a b c d = 0
    · have hp := cellE_zero.1 hc
      obtain ⟨hp1, hp2, hp3, hp4, hp5, hp6, hp7, hp8⟩ := hp
      have hpr := prod_small hp2 hp3 hp4 hp5 hp6 hp7
      have HA : Hid (maskE a b c d n = if (n : Int) = (c - a) * (d - b) then 0 else 220) := Lib.hid (by simp [maskE, h4, hc])
      obtain ⟨m, hm⟩ : ∃ m, (c - a) * (d - b) = m := ⟨_, rfl⟩
      rw [hm] at HA hpr
      have hw : wrap64 ((c - a) * (d - b)) = m := by rw [hm]; exact IntWalk.wrap64_in _ (by omega)
      rw [hc] at KB
      have HKB := Lib.hid KB
      clear KB hc hp1 hp8 hm
      by_cases hz : (n : Int) = m
      · subst hz
        go_enter Try.func21, Try.ntmps21
        go_wp2_with (first | (go_at_call 36; refine (HKB.out _).mono ?_; rintro e w1 ⟨rfl, hb1⟩; obtain ⟨hc1, hf1, hz1⟩ := bcell hb1; (try simp at hz1)))
        go_ret
        refine ⟨ret_int (by rw [HA.out]; simp), Bel.below ?_⟩
        repeat (first | with_reducible exact bel_refl | with_reducible apply bel_alloc | with_reducible apply bel_drewN | with_reducible apply bel_drew | (with_reducible refine bel_set ?_ ?_; rotate_left; · first | (simp; done) | (simp; omega) | omega) | with_reducible refine bel_call (by assumption) ?_)
      · have hz2 : ((n : Int) != m) = true := by simp; omega
        go_enter Try.func21, Try.ntmps21
        go_wp2_with (first | (go_at_call 36; refine (HKB.out _).mono ?_; rintro e w1 ⟨rfl, hb1⟩; obtain ⟨hc1, hf1, hz1⟩ := bcell hb1; (try simp at hz1)))
        go_ret
        refine ⟨ret_int (by rw [HA.out, if_neg hz]), Bel.below ?_⟩
        repeat (first | with_reducible exact bel_refl | with_reducible apply bel_alloc | with_reducible apply bel_drewN | with_reducible apply bel_drew | (with_reducible refine bel_set ?_ ?_; rotate_left; · first | (simp; done) | (simp; omega) | omega) | with_reducible refine bel_call (by assumption) ?_)
    · have HA : Hid (maskE a b c d n = 220) := Lib.hid (by simp [maskE, h4, hc])
      have hc2 : (cellE a b c d != 0) = true := by simpa using hc
      have HKB := Lib.hid KB
      clear KB hc
      go_enter Try.func21, Try.ntmps21
      go_wp2_with (first | (go_at_call 36; refine (HKB.out _).mono ?_; rintro e w1 ⟨rfl, hb1⟩; obtain ⟨hc1, hf1, hz1⟩ := bcell hb1; (try simp at hz1)))
      go_ret
      refine ⟨ret_int HA.out.symm, Bel.below ?_⟩
      repeat (first | with_reducible exact bel_refl | with_reducible apply bel_alloc | with_reducible apply bel_drewN | with_reducible apply bel_drew | (with_reducible refine bel_set ?_ ?_; rotate_left; · first | (simp; done) | (simp; omega) | omega) | with_reducible refine bel_call (by assumption) ?_)

end Go.Proofs.Ytbflncfhbmlibaa
