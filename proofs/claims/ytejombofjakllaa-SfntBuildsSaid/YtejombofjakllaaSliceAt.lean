/-
  A slice of a slice of bytes, its bounds known: one form.
-/
import Derived.Test.YtejombofjakllaaWire
namespace Go.Proofs.Ytejombofjakllaa
open Go.RowKit

theorem run_sl (W : World) (A : Option Addr) (len c lo hi : Nat) (x y : Int) (hx : x = lo) (hy : y = hi) (h1 : lo ≤ hi) (h2 : hi ≤ c) :
    (Instr.slice 25 (.slice A len c) (some (.int .i64 x)) (some (.int .i64 y)) none).run Try.prog W = .ok (.slice (if c = lo then A else Option.map (fun z => z.add lo) A) (hi - lo) (c - lo)) W := by
  subst hx hy
  have he : Try.prog.elem 25 = 5 := by kernel_rfl
  have hs : ∀ W, (sizeOf 5).run Try.prog W = .ok 1 W := fun _ => by kernel_rfl
  rw [run_slice_lh W 25 A len c (by rw [he]; exact Try.underlying25) .i64 .i64 _ _ (by omega) (by omega) (by omega), he, hs]
  simp [sliced, Result.andThen]

theorem run_sl_lo (W : World) (b o len c lo : Nat) (x : Int) (hx : x = lo) (h1 : lo ≤ len) (h2 : lo < c) :
    (Instr.slice 25 (.slice (some ⟨b, o, none⟩) len c) (some (.int .i64 x)) none none).run Try.prog W = .ok (.slice (some ⟨b, o + lo, none⟩) (len - lo) (c - lo)) W := by
  subst hx
  have he : Try.prog.elem 25 = 5 := by kernel_rfl
  have hs : ∀ W, (sizeOf 5).run Try.prog W = .ok 1 W := fun _ => by kernel_rfl
  rw [run_slice_l W 25 (some ⟨b, o, none⟩) len c (by rw [he]; exact Try.underlying25) .i64 _ (by omega) (by omega), he, hs]
  simp [sliced, Result.andThen, Addr.add_lit]
  omega
theorem run_sl_hi (W : World) (b o len c hi : Nat) (y : Int) (hy : y = hi) (h1 : hi ≤ c) :
    (Instr.slice 25 (.slice (some ⟨b, o, none⟩) len c) none (some (.int .i64 y)) none).run Try.prog W = .ok (.slice (some ⟨b, o, none⟩) hi c) W := by
  subst hy
  have he : Try.prog.elem 25 = 5 := by kernel_rfl
  have hs : ∀ W, (sizeOf 5).run Try.prog W = .ok 1 W := fun _ => by kernel_rfl
  rw [run_slice_h W 25 (some ⟨b, o, none⟩) len c (by rw [he]; exact Try.underlying25) .i64 _ (by omega) (by omega), he, hs]
  simp [sliced, Result.andThen, Addr.add_lit]
theorem run_sl_lh (W : World) (b o len c lo hi : Nat) (x y : Int) (hx : x = lo) (hy : y = hi) (h1 : lo ≤ hi) (h2 : hi ≤ c) (h3 : lo < c) :
    (Instr.slice 25 (.slice (some ⟨b, o, none⟩) len c) (some (.int .i64 x)) (some (.int .i64 y)) none).run Try.prog W = .ok (.slice (some ⟨b, o + lo, none⟩) (hi - lo) (c - lo)) W := by
  rw [run_sl W (some ⟨b, o, none⟩) len c lo hi x y hx hy h1 h2, if_neg (by omega)]
  simp [Addr.add_lit]

end Go.Proofs.Ytejombofjakllaa
