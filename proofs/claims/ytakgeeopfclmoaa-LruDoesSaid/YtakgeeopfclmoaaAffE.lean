/-
  Contracts of affine.Join, Meet, Holds, Area and of the references' own.
-/
import Derived.Test.YtakgeeopfclmoaaAffD
namespace Go.Proofs.Ytakgeeopfclmoaa
open Go.RowKit

def joinF (A B : Bx) : Bx :=
  if emptyB A.x0 A.y0 A.x1 A.y1 = true then plainF B.x0 B.y0 B.x1 B.y1 else if emptyB B.x0 B.y0 B.x1 B.y1 = true then A else ⟨min A.x0 B.x0, min A.y0 B.y0, max A.x1 B.x1, max A.y1 B.y1⟩
def meetF (A B : Bx) : Bx := plainF (max A.x0 B.x0) (max A.y0 B.y0) (min A.x1 B.x1) (min A.y1 B.y1)
def JoinE (A B : Bx) : Bx × Int := if (bB A.x0 A.y0 A.x1 A.y1 && bB B.x0 B.y0 B.x1 B.y1) = false then (⟨0, 0, 0, 0⟩, 10) else (joinF A B, 0)
def MeetE (A B : Bx) : Bx × Int := if (bB A.x0 A.y0 A.x1 A.y1 && bB B.x0 B.y0 B.x1 B.y1) = false then (⟨0, 0, 0, 0⟩, 10) else (meetF A B, 0)

def holdsB (a b c d x y : Int) : Bool := bB a b c d && decide (a ≤ x) && decide (x < c) && decide (b ≤ y) && decide (y < d)

def areaE (a b c d : Int) : Int × Int :=
  if bB a b c d = false then (0, 10) else if emptyB a b c d = true then (0, 0) else if 1099511627776 / (c - a) < d - b then (0, 10) else ((c - a) * (d - b), 0)

theorem mul_div_bd {w h k : Int} (hw : 0 < w) (hh : 0 ≤ h) (h2 : h ≤ k / w) : 0 ≤ w * h ∧ w * h ≤ k := by
  refine ⟨Int.mul_nonneg (by omega) hh, ?_⟩
  have h3 := Int.mul_le_mul_of_nonneg_left h2 (show 0 ≤ w by omega)
  exact Int.le_trans h3 (Int.mul_ediv_self_le (by omega))

set_option maxHeartbeats 4000000 in
theorem Area_any (a b c d : Int) (w : World) :
    Calls Try.prog 41 #[.agg #[.int .i64 a, .int .i64 b, .int .i64 c, .int .i64 d]] w fun e w' =>
      e = .returned (.tuple #[.int .i64 (areaE a b c d).1, .int .i64 (areaE a b c d).2]) ∧ Below w.heap.size w w' := by
  rcases Bool.eq_false_or_eq_true (bB a b c d) with h1 | h1
  · rcases Bool.eq_false_or_eq_true (emptyB a b c d) with h2 | h2
    · have hA := Lib.hid (show areaE a b c d = _ by simp [areaE, *]; rfl)
      go_enter Try.func41, Try.ntmps41
      go_wp2_with (first | (go_at_call 46; refine (MayBox_any _ _ _ _ _).mono ?_; rintro e w1 ⟨rfl, hb1⟩; obtain ⟨hc1, hf1, hz1⟩ := bcell hb1; (try simp at hz1)) | (go_at_call 47; refine (Empty_any _ _ _ _ _).mono ?_; rintro e w1 ⟨rfl, hb1⟩; obtain ⟨hc1, hf1, hz1⟩ := bcell hb1; (try simp at hz1)))
      try
        go_quiet (fail)
        go_wp2
      refine bodyPost_ret (results_tmp2 rfl _ _ _) rfl ⟨by rw [hA.out]; rfl, Bel.below ?_⟩
      repeat (first | with_reducible exact bel_refl | with_reducible apply bel_alloc | with_reducible apply bel_drewN | with_reducible apply bel_drew | (with_reducible refine bel_set ?_ ?_; rotate_left; · first | (simp; done) | (simp; omega) | omega) | with_reducible refine bel_call (by assumption) ?_)
    · obtain ⟨⟨ha, ha'⟩, ⟨hb, hb'⟩, ⟨hc, hc'⟩, ⟨hd, hd'⟩⟩ := bB_true h1
      obtain ⟨he, he'⟩ := emptyB_false.1 h2
      by_cases h3 : 1099511627776 / (c - a) < d - b
      · have hA := Lib.hid (show areaE a b c d = _ by simp [areaE, *]; rfl)
        go_enter Try.func41, Try.ntmps41
        go_wp2_with (first | (go_at_call 46; refine (MayBox_any _ _ _ _ _).mono ?_; rintro e w1 ⟨rfl, hb1⟩; obtain ⟨hc1, hf1, hz1⟩ := bcell hb1; (try simp at hz1)) | (go_at_call 47; refine (Empty_any _ _ _ _ _).mono ?_; rintro e w1 ⟨rfl, hb1⟩; obtain ⟨hc1, hf1, hz1⟩ := bcell hb1; (try simp at hz1)))
        try
          go_quiet (fail)
          go_wp2
        refine bodyPost_ret (results_tmp2 rfl _ _ _) rfl ⟨by rw [hA.out]; rfl, Bel.below ?_⟩
        repeat (first | with_reducible exact bel_refl | with_reducible apply bel_alloc | with_reducible apply bel_drewN | with_reducible apply bel_drew | (with_reducible refine bel_set ?_ ?_; rotate_left; · first | (simp; done) | (simp; omega) | omega) | with_reducible refine bel_call (by assumption) ?_)
      · obtain ⟨hm, hm'⟩ := mul_div_bd (w := c - a) (h := d - b) (k := 1099511627776) (by omega) (by omega) (by omega)
        have hA := Lib.hid (show areaE a b c d = _ by simp [areaE, *]; rfl)
        go_enter Try.func41, Try.ntmps41
        go_wp2_with (first | (go_at_call 46; refine (MayBox_any _ _ _ _ _).mono ?_; rintro e w1 ⟨rfl, hb1⟩; obtain ⟨hc1, hf1, hz1⟩ := bcell hb1; (try simp at hz1)) | (go_at_call 47; refine (Empty_any _ _ _ _ _).mono ?_; rintro e w1 ⟨rfl, hb1⟩; obtain ⟨hc1, hf1, hz1⟩ := bcell hb1; (try simp at hz1)))
        try
          go_quiet (fail)
          go_wp2
        refine bodyPost_ret (results_tmp2 rfl _ _ _) rfl ⟨by rw [hA.out]; rfl, Bel.below ?_⟩
        repeat (first | with_reducible exact bel_refl | with_reducible apply bel_alloc | with_reducible apply bel_drewN | with_reducible apply bel_drew | (with_reducible refine bel_set ?_ ?_; rotate_left; · first | (simp; done) | (simp; omega) | omega) | with_reducible refine bel_call (by assumption) ?_)
  · have hA := Lib.hid (show areaE a b c d = _ by simp [areaE, *]; rfl)
    go_enter Try.func41, Try.ntmps41
    go_wp2_with (first | (go_at_call 46; refine (MayBox_any _ _ _ _ _).mono ?_; rintro e w1 ⟨rfl, hb1⟩; obtain ⟨hc1, hf1, hz1⟩ := bcell hb1; (try simp at hz1)) | (go_at_call 47; refine (Empty_any _ _ _ _ _).mono ?_; rintro e w1 ⟨rfl, hb1⟩; obtain ⟨hc1, hf1, hz1⟩ := bcell hb1; (try simp at hz1)))
    try
      go_quiet (fail)
      go_wp2
    refine bodyPost_ret (results_tmp2 rfl _ _ _) rfl ⟨by rw [hA.out]; rfl, Bel.below ?_⟩
    repeat (first | with_reducible exact bel_refl | with_reducible apply bel_alloc | with_reducible apply bel_drewN | with_reducible apply bel_drew | (with_reducible refine bel_set ?_ ?_; rotate_left; · first | (simp; done) | (simp; omega) | omega) | with_reducible refine bel_call (by assumption) ?_)

end Go.Proofs.Ytakgeeopfclmoaa
