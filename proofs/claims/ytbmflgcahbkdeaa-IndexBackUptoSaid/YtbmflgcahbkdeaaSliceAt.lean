/-
  A slice of a slice of bytes, its bounds known: one form.
-/
import Derived.Test.YtbmflgcahbkdeaaWire
namespace Go.Proofs.Ytbmflgcahbkdeaa
open Go.RowKit

theorem run_sl (W : World) (A : Option Addr) (len c lo hi : Nat) (x y : Int) (hx : x = lo) (hy : y = hi) (h1 : lo ≤ hi) (h2 : hi ≤ c) :
    (Instr.slice 22 (.slice A len c) (some (.int .i64 x)) (some (.int .i64 y)) none).run Try.prog W = .ok (.slice (if c = lo then A else Option.map (fun z => z.add lo) A) (hi - lo) (c - lo)) W := by
  subst hx hy
  have he : Try.prog.elem 22 = 5 := by kernel_rfl
  have hs : ∀ W, (sizeOf 5).run Try.prog W = .ok 1 W := fun _ => by kernel_rfl
  rw [run_slice_lh W 22 A len c (by rw [he]; exact Try.underlying22) .i64 .i64 _ _ (by omega) (by omega) (by omega), he, hs]
  simp [sliced, Result.andThen]

end Go.Proofs.Ytbmflgcahbkdeaa
