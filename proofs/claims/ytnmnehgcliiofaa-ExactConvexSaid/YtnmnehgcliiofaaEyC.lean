/-
  Layer 24: lives.
-/
import Derived.Test.YtnmnehgcliiofaaEyB
import Derived.Test.YtnmnehgcliiofaaExT
namespace Go.Proofs.Ytnmnehgcliiofaa
open Go.RowKit

def sqL : List (List Dt) := [[(0, 0), (64, 0), (64, 64), (0, 64)]]
def sqB (w : World) : World := (w.alloc (.cells #[.int .i64 0, .int .i64 0, .int .i64 64, .int .i64 0, .int .i64 64, .int .i64 64, .int .i64 0, .int .i64 64] 72)).alloc (.cells #[.slice (some ⟨w.heap.size, 0, none⟩) 4 4] 91)
theorem sqB_dl (w : World) : Dl (sqB w) (some ⟨w.heap.size + 1, 0, none⟩) sqL := by
  intro i l hl
  obtain rfl : i = 0 := by
    have := (List.getElem?_eq_some_iff.1 hl).1
    simp [sqL] at this
    exact this
  have hl2 : l = [(0, 0), (64, 0), (64, 64), (0, 64)] := by
    have : some l = some [(0, 0), (64, 0), (64, 64), (0, 64)] := hl.symm
    injection this
  subst hl2
  have h2 : Blk (sqB w) (w.heap.size + 1) 91 [.slice (some ⟨w.heap.size, 0, none⟩) 4 4] := Blk.newAt _ _ [_] (by simp)
  have h1 : Blk (sqB w) w.heap.size 72 [.int .i64 0, .int .i64 0, .int .i64 64, .int .i64 0, .int .i64 64, .int .i64 64, .int .i64 0, .int .i64 64] := (Blk.new w 72 [.int .i64 0, .int .i64 0, .int .i64 64, .int .i64 0, .int .i64 64, .int .i64 64, .int .i64 0, .int .i64 64]).alloc _
  refine ⟨w.heap.size + 1, 0, some ⟨w.heap.size, 0, none⟩, 4, rfl, h2.lt, h2.cell 0, ?_, by decide⟩
  intro k d hd
  refine ⟨w.heap.size, 0, rfl, h1.lt, ?_, ?_⟩
  · have hk := (List.getElem?_eq_some_iff.1 hd).1
    simp at hk
    rw [h1.cell]
    rcases (show k = 0 ∨ k = 1 ∨ k = 2 ∨ k = 3 by omega) with rfl | rfl | rfl | rfl <;> (simp at hd; subst hd; rfl)
  · have hk := (List.getElem?_eq_some_iff.1 hd).1
    simp at hk
    rw [h1.cell]
    rcases (show k = 0 ∨ k = 1 ∨ k = 2 ∨ k = 3 by omega) with rfl | rfl | rfl | rfl <;> (simp at hd; subst hd; rfl)
set_option maxRecDepth 20000 in
set_option maxHeartbeats 1000000 in
theorem sq_any (w : World) : Calls Try.prog 55 #[] w fun e w' => ∃ A c, e = .returned (.slice A 1 c) ∧ Dl w' A sqL ∧ Below w.heap.size w w' := by
  go_enter Try.func55, Try.ntmps55
  go_wp2
  go_ret
  exact ⟨_, _, rfl, sqB_dl w, (bel_alloc (bel_alloc bel_refl)).below⟩
theorem sq_W1 {w : World} {A : Option Addr} {c : Nat} (h : Dl w A sqL) : Calls Try.prog 30 #[.slice A 1 c, .int .i64 30, .int .i64 30] w fun e w' => e = .returned (.tuple #[.int .i64 1, .int .i64 0]) ∧ Below w.heap.size w w' := by
  have K := Winding_any (c := c) (x := 30) (y := 30) h (by decide) (by decide)
  rw [show WindV sqL 30 30 = 1 by decide +kernel, show WindE sqL 30 30 = 0 by decide +kernel] at K
  exact K
theorem sq_W2 {w : World} {A : Option Addr} {c : Nat} (h : Dl w A sqL) : Calls Try.prog 30 #[.slice A 1 c, .int .i64 0, .int .i64 30] w fun e w' => e = .returned (.tuple #[.int .i64 0, .int .i64 4]) ∧ Below w.heap.size w w' := by
  have K := Winding_any (c := c) (x := 0) (y := 30) h (by decide) (by decide)
  rw [show WindV sqL 0 30 = 0 by decide +kernel, show WindE sqL 0 30 = 4 by decide +kernel] at K
  exact K
theorem sq_tally : TallyV sqL 0 0 = .agg #[.int .i64 60, .int .i64 196, .int .i64 1, .int .i64 1, .int .i64 4] := by
  unfold TallyV
  rw [if_pos (by decide +kernel)]
  unfold tyV
  rw [show (tallyT sqL 0 0).touched = 60 by decide +kernel, show (tallyT sqL 0 0).inside = 196 by decide +kernel, show (tallyT sqL 0 0).most = 1 by decide +kernel, show (tallyT sqL 0 0).least = 1 by decide +kernel, show (tallyT sqL 0 0).lines = 4 by decide +kernel]
theorem sq_T {w : World} {A : Option Addr} {c : Nat} (h : Dl w A sqL) : Calls Try.prog 36 #[.slice A 1 c, .int .i64 0, .int .i64 0] w fun e w' => e = .returned (.tuple #[.agg #[.int .i64 60, .int .i64 196, .int .i64 1, .int .i64 1, .int .i64 4], .int .i64 0]) ∧ Below w.heap.size w w' := by
  have K := Tally_any (c := c) (x := 0) (y := 0) h (by decide) (by decide)
  rw [sq_tally, show TallyE sqL 0 0 = 0 by decide +kernel] at K
  exact K
theorem sq_C {w : World} {A : Option Addr} {c : Nat} (h : Dl w A sqL) : Calls Try.prog 38 #[.slice A 1 c] w fun e w' => e = .returned (.bool true) ∧ Below w.heap.size w w' := by
  have K := Convex_any (cc := c) h (by decide) (by decide)
  rw [show (mayL sqL && cvB sqL) = true by decide +kernel] at K
  exact K
theorem nil_C (w : World) : Calls Try.prog 38 #[.slice none 0 0] w fun e w' => e = .returned (.bool false) ∧ Below w.heap.size w w' :=
  Convex_any (cc := 0) (ls := []) (fun i l h => by simp at h) (by decide) (by decide)
theorem sq_H (w : World) : Calls Try.prog 34 #[.agg #[.int .i64 0, .int .i64 0], .agg #[.int .i64 9, .int .i64 9], .agg #[.int .i64 9, .int .i64 9, .int .i64 9, .int .i64 9]] w fun e w' => e = .returned (.bool true) ∧ Below w.heap.size w w' := by
  have K := Touches_any (ax := 0) (ay := 0) (dx := 9) (dy := 9) (b0 := 9) (b1 := 9) (b2 := 9) (b3 := 9) w
  rw [show TouchB 0 0 9 9 9 9 9 9 = true by decide +kernel] at K
  exact K
set_option maxRecDepth 20000 in
set_option maxHeartbeats 4000000 in
theorem lives24 (w : World) : Calls Try.prog 29 #[] w fun e w' => e = .returned (.bool true) ∧ Below w.heap.size w w' := by
  have KQ := Lib.hid sq_any
  have HB := Lib.hid (Below.refl w.heap.size w)
  go_enter Try.func29, Try.ntmps29
  go_wp2_with (first
    | (go_at_call 55; (with_reducible refine (KQ.out _).mono ?_); rintro e w1 ⟨A1, c1, rfl, hd, hb1⟩
       have HD := Lib.hid hd
       have HB1 : Hid (Below w.heap.size w w1) := Lib.hid (by
         first
           | exact hb1
           | exact Aft.call HB2.out hb1
           | exact Aft.call HB5.out hb1)
       clear hd hb1)
    | (go_at_call 30; (with_reducible refine (sq_W1 HD.out).mono ?_); rintro e w2 ⟨rfl, hb1⟩
       have HB2 : Hid (Below w.heap.size w w2) := Lib.hid (Aft.call HB1.out hb1)
       clear hb1)
    | (go_at_call 30; (with_reducible refine (sq_W2 HD.out).mono ?_); rintro e w2 ⟨rfl, hb1⟩
       have HB2 : Hid (Below w.heap.size w w2) := Lib.hid (Aft.call HB1.out hb1)
       clear hb1)
    | (go_at_call 36; (with_reducible refine (sq_T HD.out).mono ?_); rintro e w4 ⟨rfl, hb1⟩
       have HB5 : Hid (Below w.heap.size w (w4.alloc (.cells #[.int .i64 60, .int .i64 196, .int .i64 1, .int .i64 1, .int .i64 4] 75))) := Lib.hid (Aft.call (Aft.call HB1.out hb1) (bel_alloc bel_refl).below)
       clear hb1)
    | (go_at_call 38; (with_reducible refine (sq_C HD.out).mono ?_); rintro e w6 ⟨rfl, hb1⟩
       have HB6 : Hid (Below w.heap.size w w6) := Lib.hid (Aft.call HB1.out hb1)
       clear hb1)
    | (go_at_call 38; (with_reducible refine (nil_C _).mono ?_); rintro e w7 ⟨rfl, hb1⟩
       have HB7 : Hid (Below w.heap.size w w7) := Lib.hid (Aft.call HB6.out hb1)
       clear hb1)
    | (go_at_call 34; (with_reducible refine (sq_H _).mono ?_); rintro e w8 ⟨rfl, hb1⟩
       have HB8 : Hid (Below w.heap.size w w8) := Lib.hid (Aft.call HB7.out hb1)
       clear hb1))
  go_ret
  exact ⟨rfl, HB8.out⟩
end Go.Proofs.Ytnmnehgcliiofaa
