/-
  write, the other kinds.
-/
import Derived.Test.YtdkjjppbcilcfaaWireH
namespace Go.Proofs.Ytdkjjppbcilcfaa
open Go.RowKit

set_option maxHeartbeats 1000000 in
theorem write_6 (w : World) (B gw gx : Nat) (s : List UInt8 × Bool) (room : Int) (A A' : Option Addr) (c c' : Nat) (n m : Int) (bs : List UInt8) (A0 : Option Addr) (c0 : Nat) (h : Two w B gw gx s s room A A' c c')
    (hr : 0 ≤ room) (hr2 : room ≤ 1099511627776) (hn1 : -9223372036854775808 ≤ n) (hn2 : n ≤ 9223372036854775807) :
    Calls Try.prog 12 #[.pointer (some ⟨gw, 0, none⟩), .pointer (some ⟨gx, 0, none⟩), .agg #[.int .i64 6, .int .i64 n, .int .i64 m, .slice A0 bs.length c0]] w fun e w' =>
      e = .returned (.pointer (some ⟨gw, 0, none⟩)) ∧ ∃ A2 A2' c2 c2', Two w' B gw gx (padF room s n) (padF room s n) room A2 A2' c2 c2' ∧ Below B w w' := by
  have hb0 : Below w.heap.size w (w.alloc (.cells #[.int .i64 6, .int .i64 n, .int .i64 m, .slice A0 bs.length c0] 32)) := (bel_alloc bel_refl).below
  have kO : (w.alloc (.cells #[.int .i64 6, .int .i64 n, .int .i64 m, .slice A0 bs.length c0] 32)).cell? ⟨w.heap.size, 1, none⟩ = some (.int .i64 n) := by rw [(Blk.new w _ [_, _, _, _]).cell 1]; rfl
  have two0 := h.keep hb0
  have hbB := hb0.mono h.size
  have hgx := h.b.blk.lt
  go_enter Try.func12, Try.ntmps12
  go_wp2_with (first
    | (go_at_call 55; refine (rpad_W _ _ _ _ _ _ _ two0.b hr hr2 two0.fb hn1 hn2).mono ?_; rintro e w1 ⟨rfl, A2', c2', h2⟩
       have k1 : w1.cell? ⟨w.heap.size, 1, none⟩ = some (.int .i64 n) := by rw [h2.cellO w.heap.size 1 (by simp) (by omega)]; exact kO
       have t1 := two0.x h2)
    | (go_at_call 48; refine (pad_W _ _ _ _ _ _ _ t1.1.a hr hr2 t1.1.fa hn1 hn2).mono ?_; rintro e w2 ⟨rfl, A2, c2, h3⟩; have t2 := t1.1.ww h3))
  go_ret
  exact ⟨rfl, A2, A2', c2, c2', t2.1, (hbB.trans t1.2).trans t2.2⟩

set_option maxHeartbeats 1000000 in
theorem write_no (w : World) (B gw gx : Nat) (s : List UInt8 × Bool) (room : Int) (A A' : Option Addr) (c c' : Nat) (kind n m : Int) (bs : List UInt8) (A0 : Option Addr) (c0 : Nat) (h : Two w B gw gx s s room A A' c c')
    (h1 : kind ≠ 1) (h2 : kind ≠ 2) (h3 : kind ≠ 3) (h4 : kind ≠ 4) (h5 : kind ≠ 5) (h6 : kind ≠ 6) :
    Calls Try.prog 12 #[.pointer (some ⟨gw, 0, none⟩), .pointer (some ⟨gx, 0, none⟩), .agg #[.int .i64 kind, .int .i64 n, .int .i64 m, .slice A0 bs.length c0]] w fun e w' =>
      e = .returned (.pointer (some ⟨gw, 0, none⟩)) ∧ ∃ A2 A2' c2 c2', Two w' B gw gx s s room A2 A2' c2 c2' ∧ Below B w w' := by
  have hb0 : Below w.heap.size w (w.alloc (.cells #[.int .i64 kind, .int .i64 n, .int .i64 m, .slice A0 bs.length c0] 32)) := (bel_alloc bel_refl).below
  have two0 := h.keep hb0
  have hbB := hb0.mono h.size
  have e1 : (kind == 1) = false := by simpa using h1
  have e2 : (kind == 2) = false := by simpa using h2
  have e3 : (kind == 3) = false := by simpa using h3
  have e4 : (kind == 4) = false := by simpa using h4
  have e5 : (kind == 5) = false := by simpa using h5
  have e6 : (kind == 6) = false := by simpa using h6
  clear h1 h2 h3 h4 h5 h6
  go_enter Try.func12, Try.ntmps12
  go_wp2
  go_ret
  exact ⟨rfl, A, A', c, c', two0, hbB⟩

end Go.Proofs.Ytdkjjppbcilcfaa
