/-
  write, whole.
-/
import Derived.Test.YtdkjjppbcilcfaaWireJ
namespace Go.Proofs.Ytdkjjppbcilcfaa
open Go.RowKit

theorem write_W (w : World) (B gw gx : Nat) (s : List UInt8 × Bool) (room : Int) (A A' : Option Addr) (c c' : Nat) (kind n m : Int) (bs : List UInt8) (A0 : Option Addr) (c0 : Nat) (h : Two w B gw gx s s room A A' c c')
    (hr : 0 ≤ room) (hr2 : room ≤ 1099511627776) (hs : SlAt w A0 bs.length (bs.map byteV)) (hA : 0 < bs.length → ∀ k, rowOf A0 = some k → k < B) (hsm : bs.length ≤ 140737488355328) (hn1 : -9223372036854775808 ≤ n) (hn2 : n ≤ 9223372036854775807) :
    Calls Try.prog 12 #[.pointer (some ⟨gw, 0, none⟩), .pointer (some ⟨gx, 0, none⟩), .agg #[.int .i64 kind, .int .i64 n, .int .i64 m, .slice A0 bs.length c0]] w fun e w' =>
      e = .returned (.pointer (some ⟨gw, 0, none⟩)) ∧ ∃ A2 A2' c2 c2', Two w' B gw gx (opF room s kind n bs) (opF room s kind n bs) room A2 A2' c2 c2' ∧ Below B w w' := by
  by_cases k1 : kind = 1
  · subst k1
    rw [show opF room s 1 n bs = putF room s (beB 1 n) from by simp [opF]]
    exact write_1 w B gw gx s room A A' c c' n m bs A0 c0 h hr hr2
  by_cases k2 : kind = 2
  · subst k2
    rw [show opF room s 2 n bs = putF room s (beB 2 n) from by simp [opF]]
    exact write_2 w B gw gx s room A A' c c' n m bs A0 c0 h hr hr2
  by_cases k3 : kind = 3
  · subst k3
    rw [show opF room s 3 n bs = putF room s (beB 2 n) from by simp [opF]]
    exact write_3 w B gw gx s room A A' c c' n m bs A0 c0 h hr hr2
  by_cases k4 : kind = 4
  · subst k4
    rw [show opF room s 4 n bs = putF room s (beB 4 n) from by simp [opF]]
    exact write_4 w B gw gx s room A A' c c' n m bs A0 c0 h hr hr2
  by_cases k5 : kind = 5
  · subst k5
    rw [show opF room s 5 n bs = putF room s bs from by simp [opF]]
    exact write_5 w B gw gx s room A A' c c' n m bs A0 c0 h hr hr2 hs hA hsm
  by_cases k6 : kind = 6
  · subst k6
    rw [show opF room s 6 n bs = padF room s n from by simp [opF]]
    exact write_6 w B gw gx s room A A' c c' n m bs A0 c0 h hr hr2 hn1 hn2
  rw [show opF room s kind n bs = s from by simp [opF, k1, k2, k3, k4, k5, k6]]
  exact write_no w B gw gx s room A A' c c' kind n m bs A0 c0 h k1 k2 k3 k4 k5 k6

end Go.Proofs.Ytdkjjppbcilcfaa
