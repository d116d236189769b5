/-
  Two writers side by side: wire's and the document's.
-/
import Derived.Test.YtdkjjppbcilcfaaWireG
namespace Go.Proofs.Ytdkjjppbcilcfaa
open Go.RowKit

structure Two (w : World) (B gw gx : Nat) (sw sx : List UInt8 × Bool) (room : Int) (A A' : Option Addr) (c c' : Nat) : Prop where
  a : Wr 72 w gw sw.1 room sw.2 A c
  b : Wr 29 w gx sx.1 room sx.2 A' c'
  ne : gw ≠ gx
  r1 : rowOf A ≠ some gx
  r2 : rowOf A' ≠ some gw
  rr : ∀ k, rowOf A = some k → rowOf A' ≠ some k
  fa : (sw.1.length : Int) ≤ room
  fb : (sx.1.length : Int) ≤ room
  lw : B ≤ gw
  lx : B ≤ gx
  la : ∀ k, rowOf A = some k → B ≤ k
  lb : ∀ k, rowOf A' = some k → B ≤ k

section
variable {w w' : World} {B gw gx : Nat} {sw sx s' : List UInt8 × Bool} {room : Int} {A A' A2 : Option Addr} {c c' c2 : Nat}
theorem Two.size (h : Two w B gw gx sw sx room A A' c c') : B ≤ w.heap.size := Nat.le_trans h.lw (Nat.le_of_lt h.a.blk.lt)
theorem Two.keep (h : Two w B gw gx sw sx room A A' c c') (hb : Below w.heap.size w w') : Two w' B gw gx sw sx room A A' c c' :=
  { h with a := h.a.keep hb, b := h.b.keep hb }
/-- A call of the document's writer. -/
theorem Two.x (h : Two w B gw gx sw sx room A A' c c') (hx : WrN 29 w w' gx s' room A' A2 c2) : Two w' B gw gx sw s' room A A2 c c2 ∧ Below B w w' := by
  have hs := h.size
  have hlt := h.a.blk.lt
  refine ⟨⟨h.a.frame fun k hk => ?_, hx.wr, h.ne, h.r1, ?_, ?_, h.fa, hx.fit, h.lw, h.lx, h.la, ?_⟩, hx.turn.below hs h.lx (fun k e => by cases e)⟩
  · rcases hk with rfl | hk
    · exact hx.turn.block _ hlt h.ne (fun e => by cases e)
    · exact hx.turn.block _ (h.a.row_lt k hk) (fun e => h.r1 (by rw [hk, e])) (fun e => by cases e)
  · rcases hx.row with e | e
    · rw [e]; exact h.r2
    · intro e2; have := e _ e2; omega
  · intro k hk
    rcases hx.row with e | e
    · rw [e]; exact h.rr k hk
    · intro e2; have := e _ e2; have := h.a.row_lt k hk; omega
  · intro k hk
    rcases hx.row with e | e
    · exact h.lb k (e ▸ hk)
    · exact Nat.le_trans hs (e k hk)
/-- A call of wire's writer. -/
theorem Two.ww (h : Two w B gw gx sw sx room A A' c c') (hx : WrS 72 w w' gw s' room (rowOf A) A2 c2) : Two w' B gw gx s' sx room A2 A' c2 c' ∧ Below B w w' := by
  have hs := h.size
  have hlt := h.b.blk.lt
  refine ⟨⟨hx.wr, h.b.frame fun k hk => ?_, h.ne, ?_, h.r2, ?_, hx.fit, h.fb, h.lw, h.lx, ?_, h.lb⟩, hx.turn.below hs h.lw h.la⟩
  · rcases hk with rfl | hk
    · exact hx.turn.block _ hlt (Ne.symm h.ne) (fun e => h.r1 e.symm)
    · exact hx.turn.block _ (h.b.row_lt k hk) (fun e => h.r2 (by rw [hk, e])) (fun e => h.rr k e.symm hk)
  · rcases hx.row with e | e
    · rw [e]; exact h.r1
    · intro e2; have := e _ e2; omega
  · intro k hk
    rcases hx.row with e | e
    · exact h.rr k (e ▸ hk)
    · intro e2; have := e _ hk; have := h.b.row_lt k e2; omega
  · intro k hk
    rcases hx.row with e | e
    · exact h.la k (e ▸ hk)
    · exact Nat.le_trans hs (e k hk)
end

/-- One call of a writer. -/
def opF (room : Int) (s : List UInt8 × Bool) (kind n : Int) (b : List UInt8) : List UInt8 × Bool :=
  if kind = 1 then putF room s (beB 1 n) else if kind = 2 ∨ kind = 3 then putF room s (beB 2 n) else if kind = 4 then putF room s (beB 4 n)
  else if kind = 5 then putF room s b else if kind = 6 then padF room s n else s

theorem WrN.cellO {T : TypeId} {w w' : World} {g : Nat} {s : List UInt8 × Bool} {room : Int} {A0 A : Option Addr} {c : Nat} (h : WrN T w w' g s room A0 A c) (b i : Nat) (hb : b < w.heap.size) (hg : b ≠ g) : w'.cell? ⟨b, i, none⟩ = w.cell? ⟨b, i, none⟩ :=
  World.cell?_of_block (h.turn.block b hb hg (fun e => by cases e))

set_option maxHeartbeats 1000000 in
theorem write_1 (w : World) (B gw gx : Nat) (s : List UInt8 × Bool) (room : Int) (A A' : Option Addr) (c c' : Nat) (n m : Int) (bs : List UInt8) (A0 : Option Addr) (c0 : Nat) (h : Two w B gw gx s s room A A' c c')
    (hr : 0 ≤ room) (hr2 : room ≤ 1099511627776) :
    Calls Try.prog 12 #[.pointer (some ⟨gw, 0, none⟩), .pointer (some ⟨gx, 0, none⟩), .agg #[.int .i64 1, .int .i64 n, .int .i64 m, .slice A0 bs.length c0]] w fun e w' =>
      e = .returned (.pointer (some ⟨gw, 0, none⟩)) ∧ ∃ A2 A2' c2 c2', Two w' B gw gx (putF room s (beB 1 n)) (putF room s (beB 1 n)) room A2 A2' c2 c2' ∧ Below B w w' := by
  have hb0 : Below w.heap.size w (w.alloc (.cells #[.int .i64 1, .int .i64 n, .int .i64 m, .slice A0 bs.length c0] 32)) := (bel_alloc bel_refl).below
  have kO : (w.alloc (.cells #[.int .i64 1, .int .i64 n, .int .i64 m, .slice A0 bs.length c0] 32)).cell? ⟨w.heap.size, 1, none⟩ = some (.int .i64 n) := by rw [(Blk.new w _ [_, _, _, _]).cell 1]; rfl
  have two0 := h.keep hb0
  have hbB := hb0.mono h.size
  have hgx := h.b.blk.lt
  go_enter Try.func12, Try.ntmps12
  go_wp2_with (first
    | (go_at_call 50; refine (u_W _ _ _ _ _ _ 1 _ two0.b hr hr2 two0.fb (by omega) (by omega)).mono ?_; rintro e w1 ⟨rfl, A2', c2', h2⟩
       have k1 : w1.cell? ⟨w.heap.size, 1, none⟩ = some (.int .i64 n) := by rw [h2.cellO w.heap.size 1 (by simp) (by omega)]; exact kO
       have t1 := two0.x h2)
    | (go_at_call 49; refine (u8_W _ _ _ _ _ _ _ t1.1.a hr hr2 t1.1.fa).mono ?_; rintro e w2 ⟨rfl, A2, c2, h3⟩; have t2 := t1.1.ww h3))
  go_ret
  exact ⟨rfl, A2, A2', c2, c2', t2.1, (hbB.trans t1.2).trans t2.2⟩

set_option maxHeartbeats 1000000 in
theorem write_2 (w : World) (B gw gx : Nat) (s : List UInt8 × Bool) (room : Int) (A A' : Option Addr) (c c' : Nat) (n m : Int) (bs : List UInt8) (A0 : Option Addr) (c0 : Nat) (h : Two w B gw gx s s room A A' c c')
    (hr : 0 ≤ room) (hr2 : room ≤ 1099511627776) :
    Calls Try.prog 12 #[.pointer (some ⟨gw, 0, none⟩), .pointer (some ⟨gx, 0, none⟩), .agg #[.int .i64 2, .int .i64 n, .int .i64 m, .slice A0 bs.length c0]] w fun e w' =>
      e = .returned (.pointer (some ⟨gw, 0, none⟩)) ∧ ∃ A2 A2' c2 c2', Two w' B gw gx (putF room s (beB 2 n)) (putF room s (beB 2 n)) room A2 A2' c2 c2' ∧ Below B w w' := by
  have hb0 : Below w.heap.size w (w.alloc (.cells #[.int .i64 2, .int .i64 n, .int .i64 m, .slice A0 bs.length c0] 32)) := (bel_alloc bel_refl).below
  have kO : (w.alloc (.cells #[.int .i64 2, .int .i64 n, .int .i64 m, .slice A0 bs.length c0] 32)).cell? ⟨w.heap.size, 1, none⟩ = some (.int .i64 n) := by rw [(Blk.new w _ [_, _, _, _]).cell 1]; rfl
  have two0 := h.keep hb0
  have hbB := hb0.mono h.size
  have hgx := h.b.blk.lt
  go_enter Try.func12, Try.ntmps12
  go_wp2_with (first
    | (go_at_call 50; refine (u_W _ _ _ _ _ _ 2 _ two0.b hr hr2 two0.fb (by omega) (by omega)).mono ?_; rintro e w1 ⟨rfl, A2', c2', h2⟩
       have k1 : w1.cell? ⟨w.heap.size, 1, none⟩ = some (.int .i64 n) := by rw [h2.cellO w.heap.size 1 (by simp) (by omega)]; exact kO
       have t1 := two0.x h2)
    | (go_at_call 47; refine (u16_W _ _ _ _ _ _ _ t1.1.a hr hr2 t1.1.fa).mono ?_; rintro e w2 ⟨rfl, A2, c2, h3⟩; have t2 := t1.1.ww h3))
  go_ret
  exact ⟨rfl, A2, A2', c2, c2', t2.1, (hbB.trans t1.2).trans t2.2⟩

set_option maxHeartbeats 1000000 in
theorem write_3 (w : World) (B gw gx : Nat) (s : List UInt8 × Bool) (room : Int) (A A' : Option Addr) (c c' : Nat) (n m : Int) (bs : List UInt8) (A0 : Option Addr) (c0 : Nat) (h : Two w B gw gx s s room A A' c c')
    (hr : 0 ≤ room) (hr2 : room ≤ 1099511627776) :
    Calls Try.prog 12 #[.pointer (some ⟨gw, 0, none⟩), .pointer (some ⟨gx, 0, none⟩), .agg #[.int .i64 3, .int .i64 n, .int .i64 m, .slice A0 bs.length c0]] w fun e w' =>
      e = .returned (.pointer (some ⟨gw, 0, none⟩)) ∧ ∃ A2 A2' c2 c2', Two w' B gw gx (putF room s (beB 2 n)) (putF room s (beB 2 n)) room A2 A2' c2 c2' ∧ Below B w w' := by
  have hb0 : Below w.heap.size w (w.alloc (.cells #[.int .i64 3, .int .i64 n, .int .i64 m, .slice A0 bs.length c0] 32)) := (bel_alloc bel_refl).below
  have kO : (w.alloc (.cells #[.int .i64 3, .int .i64 n, .int .i64 m, .slice A0 bs.length c0] 32)).cell? ⟨w.heap.size, 1, none⟩ = some (.int .i64 n) := by rw [(Blk.new w _ [_, _, _, _]).cell 1]; rfl
  have two0 := h.keep hb0
  have hbB := hb0.mono h.size
  have hgx := h.b.blk.lt
  go_enter Try.func12, Try.ntmps12
  go_wp2_with (first
    | (go_at_call 50; refine (u_W _ _ _ _ _ _ 2 _ two0.b hr hr2 two0.fb (by omega) (by omega)).mono ?_; rintro e w1 ⟨rfl, A2', c2', h2⟩
       have k1 : w1.cell? ⟨w.heap.size, 1, none⟩ = some (.int .i64 n) := by rw [h2.cellO w.heap.size 1 (by simp) (by omega)]; exact kO
       have t1 := two0.x h2)
    | (go_at_call 51; refine (i16_W _ _ _ _ _ _ _ t1.1.a hr hr2 t1.1.fa).mono ?_; rintro e w2 ⟨rfl, A2, c2, h3⟩; have t2 := t1.1.ww h3))
  go_ret
  exact ⟨rfl, A2, A2', c2, c2', t2.1, (hbB.trans t1.2).trans t2.2⟩

set_option maxHeartbeats 1000000 in
theorem write_4 (w : World) (B gw gx : Nat) (s : List UInt8 × Bool) (room : Int) (A A' : Option Addr) (c c' : Nat) (n m : Int) (bs : List UInt8) (A0 : Option Addr) (c0 : Nat) (h : Two w B gw gx s s room A A' c c')
    (hr : 0 ≤ room) (hr2 : room ≤ 1099511627776) :
    Calls Try.prog 12 #[.pointer (some ⟨gw, 0, none⟩), .pointer (some ⟨gx, 0, none⟩), .agg #[.int .i64 4, .int .i64 n, .int .i64 m, .slice A0 bs.length c0]] w fun e w' =>
      e = .returned (.pointer (some ⟨gw, 0, none⟩)) ∧ ∃ A2 A2' c2 c2', Two w' B gw gx (putF room s (beB 4 n)) (putF room s (beB 4 n)) room A2 A2' c2 c2' ∧ Below B w w' := by
  have hb0 : Below w.heap.size w (w.alloc (.cells #[.int .i64 4, .int .i64 n, .int .i64 m, .slice A0 bs.length c0] 32)) := (bel_alloc bel_refl).below
  have kO : (w.alloc (.cells #[.int .i64 4, .int .i64 n, .int .i64 m, .slice A0 bs.length c0] 32)).cell? ⟨w.heap.size, 1, none⟩ = some (.int .i64 n) := by rw [(Blk.new w _ [_, _, _, _]).cell 1]; rfl
  have two0 := h.keep hb0
  have hbB := hb0.mono h.size
  have hgx := h.b.blk.lt
  go_enter Try.func12, Try.ntmps12
  go_wp2_with (first
    | (go_at_call 50; refine (u_W _ _ _ _ _ _ 4 _ two0.b hr hr2 two0.fb (by omega) (by omega)).mono ?_; rintro e w1 ⟨rfl, A2', c2', h2⟩
       have k1 : w1.cell? ⟨w.heap.size, 1, none⟩ = some (.int .i64 n) := by rw [h2.cellO w.heap.size 1 (by simp) (by omega)]; exact kO
       have t1 := two0.x h2)
    | (go_at_call 52; refine (u32_W _ _ _ _ _ _ _ t1.1.a hr hr2 t1.1.fa).mono ?_; rintro e w2 ⟨rfl, A2, c2, h3⟩; have t2 := t1.1.ww h3))
  go_ret
  exact ⟨rfl, A2, A2', c2, c2', t2.1, (hbB.trans t1.2).trans t2.2⟩

end Go.Proofs.Ytdkjjppbcilcfaa
