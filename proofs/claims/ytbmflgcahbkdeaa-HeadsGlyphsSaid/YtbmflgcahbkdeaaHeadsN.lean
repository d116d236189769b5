/-
  The document's heads: which may be; what is put.
-/
import Derived.Test.YtbmflgcahbkdeaaHeadsI
namespace Go.Proofs.Ytbmflgcahbkdeaa
open Go.RowKit

def wordB (x : Int) : Bool := decide (0 ≤ x) && decide (x < 65536)
def signB (x : Int) : Bool := decide (-32768 ≤ x) && decide (x < 32768)
theorem mayHead_eq (u fl x0 y0 x1 y1 st le : Int) : mayHeadB u fl x0 y0 x1 y1 st le = (decide (16 ≤ u) && (decide (u ≤ 16384) && (wordB fl && (wordB st && (wordB le && (signB x0 && (signB y0 && (signB x1 && signB y1)))))))) := by
  rw [Bool.eq_iff_iff]
  simp only [mayHeadB, allF, wordB, signB, List.all_cons, List.all_nil, Bool.and_true, Bool.and_eq_true, decide_eq_true_eq]
  omega
theorem mayLines_eq (a d g m : Int) : mayLinesB a d g m = (signB a && (signB d && (signB g && (decide (1 ≤ m) && decide (m ≤ 65535))))) := by
  rw [Bool.eq_iff_iff]
  simp only [mayLinesB, allF, signB, List.all_cons, List.all_nil, Bool.and_true, Bool.and_eq_true, decide_eq_true_eq]
  omega

set_option maxHeartbeats 400000 in
theorem rword_any (x : Int) (w : World) : Calls Try.prog 62 #[.int .i64 x] w fun e w' => e = .returned (.bool (wordB x)) ∧ w = w' := by
  rcases (show x < 0 ∨ 0 ≤ x by omega) with h | h
  · have HE : Hid (wordB x = false) := Lib.hid (by simp [wordB]; omega)
    go_enter Try.func62, Try.ntmps62
    go_wp2
    go_ret
    exact ⟨ret_bool HE.out.symm, rfl⟩
  · have HE : Hid (wordB x = decide (x < 65536)) := Lib.hid (by simp [wordB, h])
    go_enter Try.func62, Try.ntmps62
    go_wp2
    go_ret
    exact ⟨ret_bool HE.out.symm, rfl⟩
set_option maxHeartbeats 400000 in
theorem rsigned_any (x : Int) (w : World) : Calls Try.prog 63 #[.int .i64 x] w fun e w' => e = .returned (.bool (signB x)) ∧ w = w' := by
  rcases (show x < -32768 ∨ -32768 ≤ x by omega) with h | h
  · have HE : Hid (signB x = false) := Lib.hid (by simp [signB]; omega)
    go_enter Try.func63, Try.ntmps63
    go_wp2
    go_ret
    exact ⟨ret_bool HE.out.symm, rfl⟩
  · have HE : Hid (signB x = decide (x < 32768)) := Lib.hid (by simp [signB, h])
    go_enter Try.func63, Try.ntmps63
    go_wp2
    go_ret
    exact ⟨ret_bool HE.out.symm, rfl⟩

set_option maxHeartbeats 4000000 in
theorem rMayHead_any (w : World) (u fl x0 y0 x1 y1 st le : Int) (long : Bool) :
    Calls Try.prog 25 #[.agg #[.int .i64 u, .int .i64 fl, .int .i64 x0, .int .i64 y0, .int .i64 x1, .int .i64 y1, .int .i64 st, .int .i64 le, .bool long]] w fun e w' =>
      e = .returned (.bool (mayHeadB u fl x0 y0 x1 y1 st le)) ∧ Below w.heap.size w w' := by
  have HE := Lib.hid (mayHead_eq u fl x0 y0 x1 y1 st le)
  go_enter Try.func25, Try.ntmps25
  go_wp2_with (first
    | (go_at_call 62; (with_reducible refine (rword_any _ _).mono ?_); rintro e w1 ⟨rfl, rfl⟩)
    | (go_at_call 63; (with_reducible refine (rsigned_any _ _).mono ?_); rintro e w1 ⟨rfl, rfl⟩))
  all_goals
    go_ret
    rw [HE.out]
    refine ⟨ret_bool ?_, (bel_alloc bel_refl).below⟩
    simp [*]
    try omega

set_option maxHeartbeats 1000000 in
theorem rMayGlyphs_any (w : World) (n : Int) (tr : Bool) :
    Calls Try.prog 32 #[.agg #[.int .i64 n, .bool tr]] w fun e w' => e = .returned (.bool (allF 1 65535 [n])) ∧ Below w.heap.size w w' := by
  have HE : Hid (allF 1 65535 [n] = (decide (1 ≤ n) && decide (n ≤ 65535))) := Lib.hid (by simp [allF])
  go_enter Try.func32, Try.ntmps32
  go_wp2_with fail
  all_goals
    go_ret
    rw [HE.out]
    refine ⟨ret_bool ?_, (bel_alloc bel_refl).below⟩
    simp [*]
    try omega

set_option maxHeartbeats 1000000 in
theorem rMayLines_any (w : World) (a d g m : Int) :
    Calls Try.prog 35 #[.agg #[.int .i64 a, .int .i64 d, .int .i64 g, .int .i64 m]] w fun e w' => e = .returned (.bool (mayLinesB a d g m)) ∧ Below w.heap.size w w' := by
  have HE := Lib.hid (mayLines_eq a d g m)
  go_enter Try.func35, Try.ntmps35
  go_wp2_with (first
    | (go_at_call 63; (with_reducible refine (rsigned_any _ _).mono ?_); rintro e w1 ⟨rfl, rfl⟩))
  all_goals
    go_ret
    rw [HE.out]
    refine ⟨ret_bool ?_, (bel_alloc bel_refl).below⟩
    simp [*]
    try omega

end Go.Proofs.Ytbmflgcahbkdeaa
