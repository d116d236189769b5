/-
  seriflaw02.lives: it answers true.
-/
import Derived.Test.YtdkjjppbcilcfaaAffC
import Derived.Test.YtdkjjppbcilcfaaAffG
namespace Go.Proofs.Ytdkjjppbcilcfaa
open Go.RowKit

theorem IntsAt_two {w : World} {b : Nat} {x y : Int} (h0 : w.cell? ⟨b, 0, none⟩ = some (.int .i64 x)) (h1 : w.cell? ⟨b, 1, none⟩ = some (.int .i64 y)) (hb : b < w.heap.size) : IntsAt w (some ⟨b, 0, none⟩) 2 [x, y] := by
  refine ⟨rfl, fun k hk => ⟨b, 0, rfl, hb, ?_⟩⟩
  match k, hk with
  | 0, _ => simpa [at0] using h0
  | 1, _ => simpa [at0] using h1

theorem live_hull (w : World) (b b' : Nat) (h0 : w.cell? ⟨b, 0, none⟩ = some (.int .i64 3)) (h1 : w.cell? ⟨b, 1, none⟩ = some (.int .i64 (-1))) (hb : b < w.heap.size)
    (h0' : w.cell? ⟨b', 0, none⟩ = some (.int .i64 0)) (h1' : w.cell? ⟨b', 1, none⟩ = some (.int .i64 7)) (hb' : b' < w.heap.size) :
    Calls Try.prog 40 #[.slice (some ⟨b, 0, none⟩) 2 2, .slice (some ⟨b', 0, none⟩) 2 2] w fun e w' =>
      e = .returned (.tuple #[.agg #[.int .i64 (-1), .int .i64 0, .int .i64 3, .int .i64 7], .int .i64 0]) ∧ Below w.heap.size w w' :=
  Hull_any (some ⟨b, 0, none⟩) (some ⟨b', 0, none⟩) 2 2 2 [3, -1] [0, 7] w (by omega) (IntsAt_two h0 h1 hb) (IntsAt_two h0' h1' hb')

set_option maxHeartbeats 4000000 in
set_option maxRecDepth 100000 in
theorem lives2_any (w : World) : Calls Try.prog 19 #[] w fun e w' => e = .returned (.bool true) ∧ Below w.heap.size w w' := by
  have e1 : applyF 0 16384 (-16384) 0 5 3 = (-3, 5, 0) := by kernel_rfl
  have e2 : thenF 0 16384 (-16384) 0 0 16384 (-16384) 0 = (⟨-16384, 0, 0, -16384⟩, 0) := by kernel_rfl
  have e3 : JoinE ⟨1, 1, 2, 2⟩ ⟨4, 0, 5, 3⟩ = (⟨1, 0, 5, 3⟩, 0) := by kernel_rfl
  have e4 : MeetE ⟨1, 0, 5, 3⟩ ⟨2, 1, 9, 2⟩ = (⟨2, 1, 5, 2⟩, 0) := by kernel_rfl
  have e5 : PixE ⟨-1, 0, 65, 64⟩ = (⟨-1, 0, 2, 1⟩, 0) := by kernel_rfl
  have e6 : areaE 1 0 5 3 = (12, 0) := by kernel_rfl
  have e7 : ShiftE ⟨2, 1, 5, 2⟩ 1 1 = (⟨3, 2, 6, 3⟩, 0) := by kernel_rfl
  have e8 : mB 0 16384 (-16384) 0 = true := by kernel_rfl
  have e9 : detF 0 16384 (-16384) 0 = 268435456 := by kernel_rfl
  have e10 : holdsB 1 0 5 3 1 0 = true := by kernel_rfl
  have e11 : holdsB 1 0 5 3 5 0 = false := by kernel_rfl
  have e12 : bB 1 0 5 3 = true := by kernel_rfl
  have e13 : emptyB 1 0 5 3 = false := by kernel_rfl
  go_enter Try.func19, Try.ntmps19
  go_wp2_with (first
    | (go_at_call 40; refine (live_hull _ _ _ ?_ ?_ ?_ ?_ ?_ ?_).mono ?_; (iterate 6 (focus (first | (simp [go_sem]; done) | (simp; omega)))); rintro e w1 ⟨rfl, hb1⟩; obtain ⟨hc1, hf1, hz1⟩ := bcell hb1; (try simp at hz1))
    | (go_at_call 20; refine (May_any _ _ _ _ _).mono ?_; rintro e w1 ⟨rfl, hb1⟩; obtain ⟨hc1, hf1, hz1⟩ := bcell hb1; (try simp at hz1))
    | (go_at_call 17; refine (One_any _).mono ?_; rintro e w1 ⟨rfl, hb1⟩; obtain ⟨hc1, hf1, hz1⟩ := bcell hb1; (try simp at hz1))
    | (go_at_call 24; refine (Det_any _ _ _ _ _).mono ?_; rintro e w1 ⟨rfl, hb1⟩; obtain ⟨hc1, hf1, hz1⟩ := bcell hb1; (try simp at hz1))
    | (go_at_call 33; refine (Holds_any _ _ _ _ _ _ _).mono ?_; rintro e w1 ⟨rfl, hb1⟩; obtain ⟨hc1, hf1, hz1⟩ := bcell hb1; (try simp at hz1))
    | (go_at_call 27; refine (MayBox_any _ _ _ _ _).mono ?_; rintro e w1 ⟨rfl, hb1⟩; obtain ⟨hc1, hf1, hz1⟩ := bcell hb1; (try simp at hz1))
    | (go_at_call 29; refine (Empty_any _ _ _ _ _).mono ?_; rintro e w1 ⟨rfl, hb1⟩; obtain ⟨hc1, hf1, hz1⟩ := bcell hb1; (try simp at hz1))
    | (go_at_call 15; refine (Apply_any 0 16384 (-16384) 0 5 3 _).mono ?_; rintro e w1 ⟨rfl, hb1⟩; obtain ⟨hc1, hf1, hz1⟩ := bcell hb1; (try simp at hz1))
    | (go_at_call 22; refine (Then_any 0 16384 (-16384) 0 0 16384 (-16384) 0 _).mono ?_; rintro e w1 ⟨rfl, hb1⟩; obtain ⟨hc1, hf1, hz1⟩ := bcell hb1; (try simp at hz1))
    | (go_at_call 25; refine (Join_any 1 1 2 2 4 0 5 3 _).mono ?_; rintro e w1 ⟨rfl, hb1⟩; obtain ⟨hc1, hf1, hz1⟩ := bcell hb1; (try simp at hz1))
    | (go_at_call 26; refine (Meet_any 1 0 5 3 2 1 9 2 _).mono ?_; rintro e w1 ⟨rfl, hb1⟩; obtain ⟨hc1, hf1, hz1⟩ := bcell hb1; (try simp at hz1))
    | (go_at_call 36; refine (Pixels_any (-1) 0 65 64 _).mono ?_; rintro e w1 ⟨rfl, hb1⟩; obtain ⟨hc1, hf1, hz1⟩ := bcell hb1; (try simp at hz1))
    | (go_at_call 37; refine (Area_any 1 0 5 3 _).mono ?_; rintro e w1 ⟨rfl, hb1⟩; obtain ⟨hc1, hf1, hz1⟩ := bcell hb1; (try simp at hz1))
    | (go_at_call 35; refine (Shift_any 2 1 5 2 1 1 _).mono ?_; rintro e w1 ⟨rfl, hb1⟩; obtain ⟨hc1, hf1, hz1⟩ := bcell hb1; (try simp at hz1)))
  go_ret
  refine ⟨rfl, Bel.below ?_⟩
  repeat (first | with_reducible exact bel_refl | with_reducible apply bel_alloc | with_reducible apply bel_drewN | with_reducible apply bel_drew | (with_reducible refine bel_set ?_ ?_; rotate_left; · first | (simp; done) | (simp; omega) | omega) | with_reducible refine bel_call (by assumption) ?_)

end Go.Proofs.Ytdkjjppbcilcfaa
