/-
  write, Data.
-/
import Derived.Test.YtdkjjppbcilcfaaWireI
namespace Go.Proofs.Ytdkjjppbcilcfaa
open Go.RowKit

set_option maxHeartbeats 1000000 in
theorem write_5 (w : World) (B gw gx : Nat) (s : List UInt8 × Bool) (room : Int) (A A' : Option Addr) (c c' : Nat) (n m : Int) (bs : List UInt8) (A0 : Option Addr) (c0 : Nat) (h : Two w B gw gx s s room A A' c c')
    (hr : 0 ≤ room) (hr2 : room ≤ 1099511627776) (hs : SlAt w A0 bs.length (bs.map byteV)) (hA : 0 < bs.length → ∀ k, rowOf A0 = some k → k < B) (hsm : bs.length ≤ 140737488355328) :
    Calls Try.prog 12 #[.pointer (some ⟨gw, 0, none⟩), .pointer (some ⟨gx, 0, none⟩), .agg #[.int .i64 5, .int .i64 n, .int .i64 m, .slice A0 bs.length c0]] w fun e w' =>
      e = .returned (.pointer (some ⟨gw, 0, none⟩)) ∧ ∃ A2 A2' c2 c2', Two w' B gw gx (putF room s bs) (putF room s bs) room A2 A2' c2 c2' ∧ Below B w w' := by
  obtain ⟨i0, hi0, hz0, hz1, hz2⟩ := info_parts u8_info
  have hb0 : Below w.heap.size w (w.alloc (.cells #[.int .i64 5, .int .i64 n, .int .i64 m, .slice A0 bs.length c0] 32)) := (bel_alloc bel_refl).below
  have kO : (w.alloc (.cells #[.int .i64 5, .int .i64 n, .int .i64 m, .slice A0 bs.length c0] 32)).cell? ⟨w.heap.size, 3, none⟩ = some (.slice A0 bs.length c0) := by rw [(Blk.new w _ [_, _, _, _]).cell 3]; rfl
  have two0 := h.keep hb0
  have hs0 := hs.keep hb0
  have hbB := hb0.mono h.size
  have hgx := h.b.blk.lt
  have hnx : 0 < bs.length → rowOf A0 ≠ some gx := fun h0 e => by have := hA h0 _ e; have := h.lx; omega
  have hs9 : ∀ w', Turn (w.alloc (.cells #[.int .i64 5, .int .i64 n, .int .i64 m, .slice A0 bs.length c0] 32)) w' gx none → SlAt w' A0 bs.length (bs.map byteV) := by
    intro w' ht
    rcases Nat.eq_zero_or_pos bs.length with h0 | h0
    · obtain rfl := List.eq_nil_of_length_eq_zero h0
      exact SlAt.nil _ _
    · exact hs0.turn ht (hnx h0) (fun _ _ e => by cases e)
  go_enter Try.func12, Try.ntmps12
  go_wp2_with (first
    | (go_at_call 53; refine (rdata_W _ _ _ _ _ _ _ _ _ two0.b hr hr2 two0.fb hs0).mono ?_; rintro e w1 ⟨rfl, A2', c2', h2⟩
       have k1 : w1.cell? ⟨w.heap.size, 3, none⟩ = some (.slice A0 bs.length c0) := by rw [h2.cellO w.heap.size 3 (by simp) (by omega)]; exact kO
       have t1 := two0.x h2
       have hs1 := hs9 _ h2.turn
       have HR1 := Lib.hid (hs1.keep (w' := w1.alloc (.cells #[] 5)) (bel_alloc bel_refl).below).reads
       have hO : w.heap.size < w1.heap.size := by have := h2.turn.size; simp at this; omega
       have hgw1 := t1.1.a.blk.lt)
    | (at_builtin; refine wpList_append_any _ (by rfl) (.tmp 56) (.tmp 58) _ (by rfl) w1.heap.size 5 i0 _ 1 1 Try.underlying27 hi0 hz0 hz1 hz2 rfl (by omega) _ 0 [] (by rfl) (own_empty w1 _) _ _ _ _ _ (by rfl) HR1.out (bytes_one _) (by unfold maxLen; omega) (by omega) (by simp) ?_; intro v1 w2 hown hgrow hat
       rw [Nat.zero_add, List.nil_append] at hown
       obtain ⟨A3, c3, rfl, hsl, hge⟩ := SlAt.of_own hown
       have hb2 : Below w1.heap.size w1 w2 := (bel_alloc bel_refl).below.trans (grown_below hgrow (by simp) (by simp [Value.ownBlock]))
       have t2 := t1.1.keep hb2
       have hne3 : rowOf A3 ≠ some gw := by
         intro e
         cases A3 with
         | none => cases e
         | some ad => injection e with e; have := hge _ rfl; simp only at e; omega)
    | (go_at_call 54; refine (data_W _ _ _ _ _ _ _ _ _ t2.a hr hr2 t2.fa hsl hne3).mono ?_; rintro e w3 ⟨rfl, A2, c2, h3⟩; have t3 := t2.ww h3))
  go_ret
  exact ⟨rfl, A2, A2', c2, c2', t3.1, ((hbB.trans t1.2).trans (hb2.mono t1.1.size)).trans t3.2⟩

end Go.Proofs.Ytdkjjppbcilcfaa
