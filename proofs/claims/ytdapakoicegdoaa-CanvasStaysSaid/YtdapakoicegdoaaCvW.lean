/-
  Law CanvasStays: joined.
-/
import Derived.Test.YtdapakoicegdoaaCvV
namespace Go.Proofs.Ytdapakoicegdoaa
open Go.RowKit

set_option maxRecDepth 20000 in
set_option maxHeartbeats 4000000 in
theorem stays_bad {w : World} {W H : Int} {a : Cl} (h : W < 1 ∨ 1 ≤ W ∧ 200 < W ∨ 1 ≤ W ∧ W ≤ 200 ∧ H < 1 ∨ 1 ≤ W ∧ W ≤ 200 ∧ 1 ≤ H ∧ 200 < H ∨ 1 ≤ W ∧ W ≤ 200 ∧ 1 ≤ H ∧ H ≤ 200 ∧ 16384 < (a.ms.length : Int)) :
    Calls Try.prog 3 #[.int .i64 W, .int .i64 H, .agg #[.int .i64 a.k, .int .i64 a.m0, .int .i64 a.m1, .int .i64 a.m2, .int .i64 a.m3, .slice a.A a.ms.length a.cm, .int .i64 a.b0, .int .i64 a.b1, .int .i64 a.b2, .int .i64 a.b3, .int .i64 a.x, .int .i64 a.y, .int .i64 a.c]] w fun e w' =>
      e = .returned (.bool true) ∧ Below w.heap.size w w' := by
  have HB0 := Lib.hid (bel_alloc (o := .cells #[.int .i64 a.k, .int .i64 a.m0, .int .i64 a.m1, .int .i64 a.m2, .int .i64 a.m3, .slice a.A a.ms.length a.cm, .int .i64 a.b0, .int .i64 a.b1, .int .i64 a.b2, .int .i64 a.b3, .int .i64 a.x, .int .i64 a.y, .int .i64 a.c] 28) (bel_refl (a := w)))
  rcases h with h1 | ⟨h1, h2⟩ | ⟨h1, h2, h3⟩ | ⟨h1, h2, h3, h4⟩ | ⟨h1, h2, h3, h4, h5⟩
  all_goals
    go_enter Try.func3, Try.ntmps3
    go_wp2_with (first
      | (go_at_call 14; (with_reducible refine (lives_any _).mono ?_); rintro e w1 ⟨rfl, hb1⟩; have HB1 := Lib.hid (bel_call hb1 HB0.out); clear hb1))
    go_ret
    exact ⟨rfl, HB1.out.below⟩

theorem canvasStays_any {w : World} {W H : Int} {a : Cl} (hma : Bw w a.A a.ms a.cm) :
    Calls Try.prog 3 #[.int .i64 W, .int .i64 H, .agg #[.int .i64 a.k, .int .i64 a.m0, .int .i64 a.m1, .int .i64 a.m2, .int .i64 a.m3, .slice a.A a.ms.length a.cm, .int .i64 a.b0, .int .i64 a.b1, .int .i64 a.b2, .int .i64 a.b3, .int .i64 a.x, .int .i64 a.y, .int .i64 a.c]] w fun e w' =>
      e = .returned (.bool true) ∧ Below w.heap.size w w' := by
  by_cases h : 1 ≤ W ∧ W ≤ 200 ∧ 1 ≤ H ∧ H ≤ 200 ∧ (a.ms.length : Int) ≤ 16384
  · obtain ⟨Wn, rfl⟩ := Int.eq_ofNat_of_zero_le (show 0 ≤ W by omega)
    obtain ⟨Hn, rfl⟩ := Int.eq_ofNat_of_zero_le (show 0 ≤ H by omega)
    by_cases hm : blErr a = 0
    · exact stays_ok (by omega) (by omega) (by omega) hma hm
    · exact stays_err (by omega) (by omega) (by omega) hma hm
  · exact stays_bad (by omega)

end Go.Proofs.Ytdapakoicegdoaa
