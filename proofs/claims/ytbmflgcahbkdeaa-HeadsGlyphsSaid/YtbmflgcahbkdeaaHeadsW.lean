/-
  lives of law 05: the calls.
-/
import Derived.Test.YtbmflgcahbkdeaaHeadsM
import Derived.Test.YtbmflgcahbkdeaaStr
namespace Go.Proofs.Ytbmflgcahbkdeaa
open Go.RowKit

def h0 : HeadR := ⟨1000, 0, 0, 0, 0, 0, 0, 0, true⟩
def l0 : LineR := ⟨800, -200, 0, 2⟩
theorem liveA (w : World) : Calls Try.prog 23 #[.agg #[.int .i64 1000, .int .i64 0, .int .i64 0, .int .i64 0, .int .i64 0, .int .i64 0, .int .i64 0, .int .i64 0, .bool true]] w fun e w' => ∃ A' c', e = .returned (.tuple #[.slice A' 54 c', .int .i64 0]) ∧ Bs w' A' (headB h0) c' ∧ Below w.heap.size w w' :=
  (PutHead_ok w h0 (by decide)).mono fun _ _ ⟨A', c', he, hs, hb, _, hc⟩ => ⟨A', c', he, Bs.of_sl (headB_len h0) (by omega) hs hc (by omega), hb⟩
theorem liveB (w : World) (A : Option Addr) (c : Nat) (h : Bs w A (headB h0) c) : Calls Try.prog 26 #[.slice A 54 c] w fun e w' => e = .returned (.tuple #[.agg #[.int .i64 1000, .int .i64 0, .int .i64 0, .int .i64 0, .int .i64 0, .int .i64 0, .int .i64 0, .int .i64 0, .bool true], .int .i64 0]) ∧ Below w.heap.size w w' := by
  have := Head_ok1 w A (headB h0) c h (by decide +kernel) (by decide +kernel) (by decide +kernel)
  rw [headB_len, show headR (headB h0) = h0 by kernel_rfl] at this
  exact this
theorem liveC (w : World) : Calls Try.prog 29 #[.agg #[.int .i64 3, .bool false]] w fun e w' => ∃ A' c', e = .returned (.tuple #[.slice A' 6 c', .int .i64 0]) ∧ Bs w' A' [0, 0, 80, 0, 0, 3] c' ∧ Below w.heap.size w w' :=
  (PutGlyphs_false w 3 (by decide)).mono fun _ _ ⟨A', c', he, hs, hb, _, hc⟩ => ⟨A', c', he, Bs.of_sl (n := 6) (bs := [0, 0, 80, 0, 0, 3]) rfl (by omega) (by rw [show ([0, 0, 80, 0, 0, 3] : List UInt8) = glyphB 3 false by decide +kernel]; exact hs) hc (by omega), hb⟩
theorem liveD (w : World) (A : Option Addr) (c : Nat) (h : Bs w A [0, 0, 80, 0, 0, 3] c) : Calls Try.prog 30 #[.slice A 6 c] w fun e w' => e = .returned (.tuple #[.agg #[.int .i64 3, .bool false], .int .i64 0]) ∧ Below w.heap.size w w' := by
  have := Glyphs_cff w A [0, 0, 80, 0, 0, 3] c h (by decide) (by decide +kernel) (by decide +kernel)
  rw [show wd [0, 0, 80, 0, 0, 3] 4 = 3 by kernel_rfl] at this
  exact this
theorem liveE (w : World) : Calls Try.prog 34 #[.agg #[.int .i64 800, .int .i64 (-200), .int .i64 0, .int .i64 2]] w fun e w' => ∃ A' c', e = .returned (.tuple #[.slice A' 36 c', .int .i64 0]) ∧ Bs w' A' (lineB l0) c' ∧ Below w.heap.size w w' :=
  (PutLines_ok w l0 (by decide)).mono fun _ _ ⟨A', c', he, hs, hb, _, hc⟩ => ⟨A', c', he, Bs.of_sl (lineB_len l0) (by omega) hs hc (by omega), hb⟩
theorem liveF (w : World) (A : Option Addr) (c : Nat) (h : Bs w A (lineB l0) c) : Calls Try.prog 36 #[.slice A 36 c] w fun e w' => e = .returned (.tuple #[.agg #[.int .i64 800, .int .i64 (-200), .int .i64 0, .int .i64 2], .int .i64 0]) ∧ Below w.heap.size w w' := by
  have := Lines_ok w A (lineB l0) c h (by decide +kernel) (by decide +kernel)
  rw [lineB_len, show lineR (lineB l0) = l0 by kernel_rfl] at this
  exact this
theorem liveG (w : World) : Calls Try.prog 26 #[.slice none 0 0] w fun e w' => e = .returned (.tuple #[.agg #[.int .i64 0, .int .i64 0, .int .i64 0, .int .i64 0, .int .i64 0, .int .i64 0, .int .i64 0, .int .i64 0, .bool false], .int .i64 50]) ∧ Below w.heap.size w w' :=
  Head_no w none [] 0 (Bs.nil w) (by decide)

end Go.Proofs.Ytbmflgcahbkdeaa
