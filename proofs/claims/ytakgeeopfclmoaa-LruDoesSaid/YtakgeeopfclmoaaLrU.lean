/-
  Layer 25: a call of the law's; a nil cache.
-/
import Derived.Test.YtakgeeopfclmoaaLrT
namespace Go.Proofs.Ytakgeeopfclmoaa
open Go.RowKit Go.Maps

/-- A call: its kind, a key, a mask (whose bytes lie at A), a number. -/
structure Cq where
  kind : Int
  k : K4
  m : Ms
  A : Option Addr
  c : Nat
  n : Int
def Cq.cells (o : Cq) : List Value := [.int .i64 o.kind, .int .i64 o.k.g, .int .i64 o.k.p, .int .i64 o.k.x, .int .i64 o.k.y, .int .i64 o.m.box.a, .int .i64 o.m.box.b, .int .i64 o.m.box.c, .int .i64 o.m.box.d, .slice o.A o.m.bs.length o.c, .int .i64 o.n]
theorem call_of {w : World} {cs : List Value} (hl : cs.length = 11)
    (h : CellsOk w [.int .i64, .int .i64, .int .i64, .int .i64, .int .i64, .int .i64, .int .i64, .int .i64, .int .i64, .sl 1 [.int .u8], .int .i64] (fun j => cs[j]?)) : ∃ o : Cq, cs = o.cells ∧ Bw w o.A o.m.bs o.c ∧ o.k.wf ∧ in64 o.n := by
  rw [CellsOk] at h; obtain ⟨⟨v0, q0, h0⟩, h⟩ := h
  rw [CellsOk] at h; obtain ⟨⟨v1, q1, h1⟩, h⟩ := h
  rw [CellsOk] at h; obtain ⟨⟨v2, q2, h2⟩, h⟩ := h
  rw [CellsOk] at h; obtain ⟨⟨v3, q3, h3⟩, h⟩ := h
  rw [CellsOk] at h; obtain ⟨⟨v4, q4, h4⟩, h⟩ := h
  rw [CellsOk] at h; obtain ⟨⟨v5, q5, h5⟩, h⟩ := h
  rw [CellsOk] at h; obtain ⟨⟨v6, q6, h6⟩, h⟩ := h
  rw [CellsOk] at h; obtain ⟨⟨v7, q7, h7⟩, h⟩ := h
  rw [CellsOk] at h; obtain ⟨⟨v8, q8, h8⟩, h⟩ := h
  rw [CellsOk] at h; obtain ⟨⟨v9, q9, h9⟩, h⟩ := h
  rw [CellsOk] at h; obtain ⟨⟨v10, q10, h10⟩, h⟩ := h
  simp only [CellOk] at h0 h1 h2 h3 h4 h5 h6 h7 h8 h10
  obtain ⟨n0, rfl, -⟩ := h0
  obtain ⟨n1, rfl, w1⟩ := h1
  obtain ⟨n2, rfl, w2⟩ := h2
  obtain ⟨n3, rfl, w3⟩ := h3
  obtain ⟨n4, rfl, w4⟩ := h4
  obtain ⟨n5, rfl, -⟩ := h5
  obtain ⟨n6, rfl, -⟩ := h6
  obtain ⟨n7, rfl, -⟩ := h7
  obtain ⟨n8, rfl, -⟩ := h8
  obtain ⟨A, bs, c, rfl, hs, hc, -, hb, hr⟩ := bytes_of h9
  obtain ⟨n10, rfl, w10⟩ := h10
  refine ⟨⟨n0, ⟨n1, n2, n3, n4⟩, ⟨⟨n5, n6, n7, n8⟩, bs⟩, A, c, n10⟩, ?_, ⟨hs, hc, by show bs.length ≤ _; omega, hr⟩, ⟨w1, w2, w3, w4⟩, w10⟩
  match cs, hl with
  | [a0, a1, a2, a3, a4, a5, a6, a7, a8, a9, a10], _ =>
    simp at q0 q1 q2 q3 q4 q5 q6 q7 q8 q9 q10
    simp only [Cq.cells]
    rw [q0, q1, q2, q3, q4, q5, q6, q7, q8, q9, q10]

theorem Get_nil2 (k : K4) (w : World) : Calls Try.prog 14 #[.pointer none, .agg #[.int .i64 k.g, .int .i64 k.p, .int .i64 k.x, .int .i64 k.y]] w fun e w' => e = .returned (.tuple #[.agg #[.int .i64 0, .int .i64 0, .int .i64 0, .int .i64 0, .slice none 0 0], .bool false]) ∧ Below w.heap.size w w' := Get_nil k
set_option maxRecDepth 20000 in
set_option maxHeartbeats 4000000 in
theorem lruNobody_any {w : World} (o : Cq) : Calls Try.prog 7 #[.agg o.cells.toArray] w fun e w' => e = .returned (.bool true) ∧ Below w.heap.size w w' := by
  unfold Cq.cells
  go_enter Try.func7, Try.ntmps7
  go_wp2_with (first
      | (go_at_call 14; (with_reducible refine (Get_nil2 o.k _).mono ?_); rintro e w1 ⟨rfl, hb1⟩
         have HB1 := Lib.hid hb1
         obtain ⟨hc1, hf1, hz1⟩ := bcell hb1
         (try simp at hz1)
         clear hb1)
      | (go_at_call 12; (with_reducible refine (Put_nil o.k o.m o.A o.c).mono ?_); rintro e w2 ⟨rfl, hb2⟩
         have HB2 := Lib.hid hb2
         obtain ⟨hc2, hf2, hz2⟩ := bcell hb2
         (try simp at hz2)
         clear hb2)
      | (go_at_call 9; (with_reducible refine (lives_any _).mono ?_); rintro e w3 ⟨rfl, hb3⟩
         have HB3 := Lib.hid hb3
         obtain ⟨hc3, hf3, hz3⟩ := bcell hb3
         (try simp at hz3)
         clear hb3)
      | (go_at_call 20; (with_reducible refine (Drop_nil o.k).mono ?_); rintro e w4 ⟨rfl, hb4⟩
         have HB4 := Lib.hid hb4
         obtain ⟨hc4, hf4, hz4⟩ := bcell hb4
         (try simp at hz4)
         clear hb4)
      | (go_at_call 18; (with_reducible refine Len_nil.mono ?_); rintro e w5 ⟨rfl, rfl⟩)
      | (go_at_call 19; (with_reducible refine Held_nil.mono ?_); rintro e w5 ⟨rfl, rfl⟩)
      | (go_at_call 17; (with_reducible refine Keys_nil.mono ?_); rintro e w5 ⟨rfl, rfl⟩)
      | (go_at_call 23; (with_reducible refine (Resize_nil o.n).mono ?_); rintro e w5 ⟨rfl, rfl⟩))
  go_ret
  have hb1 := HB1.out
  have hb2 := HB2.out
  have hb3 := HB3.out
  have hb4 := HB4.out
  refine ⟨rfl, Bel.below ?_⟩
  repeat (first | with_reducible exact bel_refl | with_reducible apply bel_alloc | with_reducible apply bel_drewN | with_reducible apply bel_drew | (with_reducible refine bel_set ?_ ?_; rotate_left; · first | (simp; done) | (simp; omega) | omega) | with_reducible refine bel_call (by assumption) ?_)
end Go.Proofs.Ytakgeeopfclmoaa
