/-
  Layer 22: the bits of a piece, column by column: numbers.
-/
import Derived.Test.YtbflncfhbmlibaaCoD

namespace Go.Proofs.Ytbflncfhbmlibaa

open Go.RowKit Go.Shelf

section

variable {P : Program} {w : World}

@[go_sem ↓] theorem run_max_two (ts : Array TypeId) (t : TypeId) (x y : Int) : (Builtin.max_ ts t #[.int .i64 x, .int .i64 y]).run P w = .ok (.int .i64 (max x y)) w := by
  rw [run_max_int2, show (if y > x then y else x) = max x y by split <;> omega]

@[go_sem ↓] theorem run_min_two (ts : Array TypeId) (t : TypeId) (x y : Int) : (Builtin.min_ ts t #[.int .i64 x, .int .i64 y]).run P w = .ok (.int .i64 (min x y)) w := by
  rw [run_min_int2, show (if y < x then y else x) = min x y by split <;> omega]

end

/-- Where the next column ends, on the way from a to b. -/
def nx (a b : Dt) (u : Int) : Int := if b.1 < a.1 then -64 * (-u / 64 + 1) else 64 * (u / 64 + 1)

def stp (a b : Dt) : Int := if b.1 < a.1 then -64 else 64

theorem nx_cond {a b : Dt} {u : Int} (h : btw a.1 b.1 u) : (min a.1 b.1 < nx a b u ∧ nx a b u < max a.1 b.1) ↔ stepX u b.1 ≠ b.1 := by
  unfold nx stepX
  unfold btw at h
  (repeat' split) <;> constructor <;> intro <;> omega

theorem nx_step {a b : Dt} {u : Int} (h : btw a.1 b.1 u) (hs : stepX u b.1 ≠ b.1) : stepX u b.1 = nx a b u := by
  unfold nx
  unfold stepX at *
  unfold btw at h
  (repeat' split at hs) <;> (repeat' split) <;> omega

theorem nx_next {a b : Dt} {u : Int} : nx a b (nx a b u) = nx a b u + stp a b := by
  unfold nx stp
  split <;> omega

theorem size_max (x : Int) : max x (-x) = sizeI x := by unfold sizeI; split <;> omega

theorem size_max2 (x y : Int) : max (x - y) (y - x) = sizeI (x - y) := by unfold sizeI; split <;> omega

theorem nx_bd {a b : Dt} {u : Int} (h : btw a.1 b.1 u) (ha : -1048576 ≤ a.1 ∧ a.1 ≤ 1048576) (hb : -1048576 ≤ b.1 ∧ b.1 ≤ 1048576) : -1048640 ≤ nx a b u ∧ nx a b u ≤ 1048640 := by
  unfold nx
  unfold btw at h
  split <;> omega

def btV (t : Bt) : Array Value := #[.int .i64 t.col, .agg #[.int .i64 t.u, .int .i64 t.v, .int .i64 t.w, .int .i64 t.z]]

theorem columns_any (a b : Dt) (w : World) : Calls Try.prog 93 #[.agg #[.int .i64 a.1, .int .i64 a.2], .agg #[.int .i64 b.1, .int .i64 b.2]] w fun e w' =>
    e = .returned (.func (.func 103) #[] #[.pointer (some ⟨w.heap.size + 1, 0, none⟩), .pointer (some ⟨w.heap.size, 0, none⟩)]) ∧ (w.alloc (.cells #[.int .i64 a.1, .int .i64 a.2] 37)).alloc (.cells #[.int .i64 b.1, .int .i64 b.2] 37) = w' := by
  go_enter Try.func93, Try.ntmps93
  go_wp2
  go_ret
  exact ⟨rfl, rfl⟩

end Go.Proofs.Ytbflncfhbmlibaa
