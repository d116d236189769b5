/-
  heads: which may be; the places of a head, of glyphs, of lines.
-/
import Derived.Test.YtbmflgcahbkdeaaHeadsB
import Derived.Test.YtbmflgcahbkdeaaRowsAt
namespace Go.Proofs.Ytbmflgcahbkdeaa
open Go.RowKit

theorem slat_new (W : World) (cs : List Value) (t : TypeId) (n : Nat) (h : W.heap.size = n) : SlAt (W.alloc (.cells cs.toArray t)) (some ⟨n, 0, none⟩) cs.length cs := by
  subst h
  exact ⟨rfl, fun k hk => ⟨W.heap.size, 0, rfl, by simp, by rw [Nat.zero_add]; exact (Blk.new W t cs).cell k⟩⟩

/-- 'all' of numbers written out. -/
theorem all_lit (W : World) (lo hi : Int) (t : TypeId) (g m c : Nat) (vs : List Value) (xs : List Int) (q : Bool) (hv : vs = xs.map (Value.int .i64)) (hg : W.heap.size = g) (hm : vs.length = m) (hs : (m : Int) ≤ 1000000) (hq : allF lo hi xs = q) :
    Calls Try.prog 79 #[.int .i64 lo, .int .i64 hi, .slice (some ⟨g, 0, none⟩) m c] (W.alloc (.cells vs.toArray t)) fun e w' => e = .returned (.bool q) ∧ W.alloc (.cells vs.toArray t) = w' := by
  subst hv hm hq
  exact all_any _ lo hi _ _ c xs (slat_new W _ t g hg) hs

def mayHeadB (u fl x0 y0 x1 y1 st le : Int) : Bool := allF 16 16384 [u] && allF 0 65535 [fl, st, le] && allF (-32768) 32767 [x0, y0, x1, y1]
def mayLinesB (a d g m : Int) : Bool := allF (-32768) 32767 [a, d, g] && allF 1 65535 [m]

set_option maxHeartbeats 1000000 in
theorem mayHead_any (w : World) (u fl x0 y0 x1 y1 st le : Int) (long : Bool) :
    Calls Try.prog 59 #[.agg #[.int .i64 u, .int .i64 fl, .int .i64 x0, .int .i64 y0, .int .i64 x1, .int .i64 y1, .int .i64 st, .int .i64 le, .bool long]] w fun e w' =>
      e = .returned (.bool (mayHeadB u fl x0 y0 x1 y1 st le)) ∧ Below w.heap.size w w' := by
  rcases Bool.eq_false_or_eq_true (allF 16 16384 [u]) with h1 | h1
  · rcases Bool.eq_false_or_eq_true (allF 0 65535 [fl, st, le]) with h2 | h2
    · obtain ⟨q, hq⟩ : ∃ q, allF (-32768) 32767 [x0, y0, x1, y1] = q := ⟨_, rfl⟩
      have HE : Hid (mayHeadB u fl x0 y0 x1 y1 st le = q) := Lib.hid (by simp [mayHeadB, h1, h2, hq])
      go_enter Try.func59, Try.ntmps59
      go_wp2_with (first
        | (go_at_call 79; (with_reducible refine (all_lit _ _ _ _ _ _ _ [.int .i64 u] [u] _ ?_ ?_ ?_ ?_ h1).mono ?_); (· rfl); (· simp); (· rfl); (· simp); rintro e w1 ⟨rfl, rfl⟩)
        | (go_at_call 79; (with_reducible refine (all_lit _ _ _ _ _ _ _ [.int .i64 fl, .int .i64 st, .int .i64 le] [fl, st, le] _ ?_ ?_ ?_ ?_ h2).mono ?_); (· rfl); (· simp); (· rfl); (· simp); rintro e w1 ⟨rfl, rfl⟩)
        | (go_at_call 79; (with_reducible refine (all_lit _ _ _ _ _ _ _ [.int .i64 x0, .int .i64 y0, .int .i64 x1, .int .i64 y1] [x0, y0, x1, y1] _ ?_ ?_ ?_ ?_ hq).mono ?_); (· rfl); (· simp); (· rfl); (· simp); rintro e w1 ⟨rfl, rfl⟩))
      go_ret
      rw [HE.out]
      refine ⟨rfl, Bel.below ?_⟩
      repeat (first | with_reducible exact bel_refl | with_reducible apply bel_alloc | with_reducible apply bel_drewN | with_reducible apply bel_drew | (with_reducible refine bel_set ?_ ?_; rotate_left; · first | (simp; done) | (simp; omega) | omega) | with_reducible refine bel_call (by assumption) ?_)
    · have HE : Hid (mayHeadB u fl x0 y0 x1 y1 st le = false) := Lib.hid (by simp [mayHeadB, h1, h2])
      go_enter Try.func59, Try.ntmps59
      go_wp2_with (first
        | (go_at_call 79; (with_reducible refine (all_lit _ _ _ _ _ _ _ [.int .i64 u] [u] _ ?_ ?_ ?_ ?_ h1).mono ?_); (· rfl); (· simp); (· rfl); (· simp); rintro e w1 ⟨rfl, rfl⟩)
        | (go_at_call 79; (with_reducible refine (all_lit _ _ _ _ _ _ _ [.int .i64 fl, .int .i64 st, .int .i64 le] [fl, st, le] _ ?_ ?_ ?_ ?_ h2).mono ?_); (· rfl); (· simp); (· rfl); (· simp); rintro e w1 ⟨rfl, rfl⟩))
      go_ret
      rw [HE.out]
      refine ⟨rfl, Bel.below ?_⟩
      repeat (first | with_reducible exact bel_refl | with_reducible apply bel_alloc | with_reducible apply bel_drewN | with_reducible apply bel_drew | (with_reducible refine bel_set ?_ ?_; rotate_left; · first | (simp; done) | (simp; omega) | omega) | with_reducible refine bel_call (by assumption) ?_)
  · have HE : Hid (mayHeadB u fl x0 y0 x1 y1 st le = false) := Lib.hid (by simp [mayHeadB, h1])
    go_enter Try.func59, Try.ntmps59
    go_wp2_with (first
      | (go_at_call 79; (with_reducible refine (all_lit _ _ _ _ _ _ _ [.int .i64 u] [u] _ ?_ ?_ ?_ ?_ h1).mono ?_); (· rfl); (· simp); (· rfl); (· simp); rintro e w1 ⟨rfl, rfl⟩))
    go_ret
    rw [HE.out]
    refine ⟨rfl, Bel.below ?_⟩
    repeat (first | with_reducible exact bel_refl | with_reducible apply bel_alloc | with_reducible apply bel_drewN | with_reducible apply bel_drew | (with_reducible refine bel_set ?_ ?_; rotate_left; · first | (simp; done) | (simp; omega) | omega) | with_reducible refine bel_call (by assumption) ?_)

set_option maxHeartbeats 1000000 in
theorem mayGlyphs_any (w : World) (n : Int) (tr : Bool) :
    Calls Try.prog 69 #[.agg #[.int .i64 n, .bool tr]] w fun e w' => e = .returned (.bool (allF 1 65535 [n])) ∧ Below w.heap.size w w' := by
  go_enter Try.func69, Try.ntmps69
  go_wp2_with (first | (go_at_call 79; (with_reducible refine (all_lit _ _ _ _ _ _ _ [.int .i64 n] [n] _ ?_ ?_ ?_ ?_ rfl).mono ?_); (· rfl); (· simp); (· rfl); (· simp); rintro e w1 ⟨rfl, rfl⟩))
  go_ret
  refine ⟨rfl, Bel.below ?_⟩
  repeat (first | with_reducible exact bel_refl | with_reducible apply bel_alloc | with_reducible apply bel_drewN | with_reducible apply bel_drew | (with_reducible refine bel_set ?_ ?_; rotate_left; · first | (simp; done) | (simp; omega) | omega) | with_reducible refine bel_call (by assumption) ?_)

set_option maxHeartbeats 1000000 in
theorem mayLines_any (w : World) (a d g m : Int) :
    Calls Try.prog 71 #[.agg #[.int .i64 a, .int .i64 d, .int .i64 g, .int .i64 m]] w fun e w' => e = .returned (.bool (mayLinesB a d g m)) ∧ Below w.heap.size w w' := by
  rcases Bool.eq_false_or_eq_true (allF (-32768) 32767 [a, d, g]) with h1 | h1
  · obtain ⟨q, hq⟩ : ∃ q, allF 1 65535 [m] = q := ⟨_, rfl⟩
    have HE : Hid (mayLinesB a d g m = q) := Lib.hid (by simp [mayLinesB, h1, hq])
    go_enter Try.func71, Try.ntmps71
    go_wp2_with (first
      | (go_at_call 79; (with_reducible refine (all_lit _ _ _ _ _ _ _ [.int .i64 a, .int .i64 d, .int .i64 g] [a, d, g] _ ?_ ?_ ?_ ?_ h1).mono ?_); (· rfl); (· simp); (· rfl); (· simp); rintro e w1 ⟨rfl, rfl⟩)
      | (go_at_call 79; (with_reducible refine (all_lit _ _ _ _ _ _ _ [.int .i64 m] [m] _ ?_ ?_ ?_ ?_ hq).mono ?_); (· rfl); (· simp); (· rfl); (· simp); rintro e w1 ⟨rfl, rfl⟩))
    go_ret
    rw [HE.out]
    refine ⟨rfl, Bel.below ?_⟩
    repeat (first | with_reducible exact bel_refl | with_reducible apply bel_alloc | with_reducible apply bel_drewN | with_reducible apply bel_drew | (with_reducible refine bel_set ?_ ?_; rotate_left; · first | (simp; done) | (simp; omega) | omega) | with_reducible refine bel_call (by assumption) ?_)
  · have HE : Hid (mayLinesB a d g m = false) := Lib.hid (by simp [mayLinesB, h1])
    go_enter Try.func71, Try.ntmps71
    go_wp2_with (first
      | (go_at_call 79; (with_reducible refine (all_lit _ _ _ _ _ _ _ [.int .i64 a, .int .i64 d, .int .i64 g] [a, d, g] _ ?_ ?_ ?_ ?_ h1).mono ?_); (· rfl); (· simp); (· rfl); (· simp); rintro e w1 ⟨rfl, rfl⟩))
    go_ret
    rw [HE.out]
    refine ⟨rfl, Bel.below ?_⟩
    repeat (first | with_reducible exact bel_refl | with_reducible apply bel_alloc | with_reducible apply bel_drewN | with_reducible apply bel_drew | (with_reducible refine bel_set ?_ ?_; rotate_left; · first | (simp; done) | (simp; omega) | omega) | with_reducible refine bel_call (by assumption) ?_)

theorem anything_4 (w : World) : Calls Try.prog 82 #[.int .i64 4] w fun e w' => e = .returned (.agg (plCells ⟨none, false, false, 4, false, 0⟩).toArray) ∧ Below w.heap.size w w' := anything_any 4 w
theorem anything_16 (w : World) : Calls Try.prog 82 #[.int .i64 16] w fun e w' => e = .returned (.agg (plCells ⟨none, false, false, 16, false, 0⟩).toArray) ∧ Below w.heap.size w w' := anything_any 16 w
theorem anything_2 (w : World) : Calls Try.prog 82 #[.int .i64 2] w fun e w' => e = .returned (.agg (plCells ⟨none, false, false, 2, false, 0⟩).toArray) ∧ Below w.heap.size w w' := anything_any 2 w
theorem anything_22 (w : World) : Calls Try.prog 82 #[.int .i64 22] w fun e w' => e = .returned (.agg (plCells ⟨none, false, false, 22, false, 0⟩).toArray) ∧ Below w.heap.size w w' := anything_any 22 w
theorem anything_26 (w : World) : Calls Try.prog 82 #[.int .i64 26] w fun e w' => e = .returned (.agg (plCells ⟨none, false, false, 26, false, 0⟩).toArray) ∧ Below w.heap.size w w' := anything_any 26 w
/-- A slice of places. -/
def PlsAt (w : World) (A : Option Addr) (n : Nat) (l : List PlR) : Prop := RowsAt w A n 6 (l.map plCells)
theorem PlsAt.new (w : World) (l : List PlR) : PlsAt (w.alloc (.cells (l.flatMap plCells).toArray 121)) (some ⟨w.heap.size, 0, none⟩) l.length l := by
  have := RowsAt.of_blk (k := 6) (rows := l.map plCells) (Blk.new w 121 (l.flatMap plCells)) (fun r hr => by obtain ⟨p, _, rfl⟩ := List.mem_map.1 hr; rfl)
  simpa [PlsAt] using this
theorem PlsAt.at_ {w : World} {A : Option Addr} {n i : Nat} {l : List PlR} {p : PlR} (h : PlsAt w A n l) (hp : l[i]? = some p) : ∃ b o, A = some ⟨b, o, none⟩ ∧ b < w.heap.size ∧ w.cell? ⟨b, o + i * 6, none⟩ = some (ptrV p.to) ∧ w.cell? ⟨b, o + i * 6 + 1, none⟩ = some (.bool p.sign) ∧
    w.cell? ⟨b, o + i * 6 + 2, none⟩ = some (.bool p.wide) ∧ w.cell? ⟨b, o + i * 6 + 3, none⟩ = some (.int .i64 p.skip) ∧ w.cell? ⟨b, o + i * 6 + 4, none⟩ = some (.bool p.fixed) ∧ w.cell? ⟨b, o + i * 6 + 5, none⟩ = some (.int .i64 p.want) := by
  obtain ⟨b, o, hA, hb, hc⟩ := RowsAt.at_ h (i := i) (r := plCells p) (by simp [hp])
  exact ⟨b, o, hA, hb, by simpa using hc 0 _ rfl, hc 1 _ rfl, hc 2 _ rfl, hc 3 _ rfl, hc 4 _ rfl, hc 5 _ rfl⟩

def headPl (gh gl : Nat) : List PlR := [⟨none, false, false, 0, true, 1⟩, ⟨none, false, false, 0, true, 0⟩, ⟨none, false, false, 4, false, 0⟩, ⟨none, false, false, 4, false, 0⟩, ⟨none, false, true, 0, true, 1594834165⟩,
  ⟨some (gh, 1), false, false, 0, false, 0⟩, ⟨some (gh, 0), false, false, 0, false, 0⟩, ⟨none, false, false, 16, false, 0⟩, ⟨some (gh, 2), true, false, 0, false, 0⟩, ⟨some (gh, 3), true, false, 0, false, 0⟩, ⟨some (gh, 4), true, false, 0, false, 0⟩,
  ⟨some (gh, 5), true, false, 0, false, 0⟩, ⟨some (gh, 6), false, false, 0, false, 0⟩, ⟨some (gh, 7), false, false, 0, false, 0⟩, ⟨none, false, false, 2, false, 0⟩, ⟨some (gl, 0), false, false, 0, false, 0⟩, ⟨none, false, false, 0, true, 0⟩]

end Go.Proofs.Ytbmflgcahbkdeaa
