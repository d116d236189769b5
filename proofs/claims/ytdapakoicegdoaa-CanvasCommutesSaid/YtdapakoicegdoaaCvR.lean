/-
  Law CanvasCommutes: two masks put in both orders.
-/
import Derived.Test.YtdapakoicegdoaaCvQ
import Derived.Test.YtdapakoicegdoaaCvM
import Derived.Deep.RegionHeld3
namespace Go.Proofs.Ytdapakoicegdoaa
open Go.RowKit

theorem eq4_ne {b : Bx} (h : b ≠ ⟨0, 0, 0, 0⟩) : eq4 b.x0 b.y0 b.x1 b.y1 0 0 0 0 = false := by
  rcases Bool.eq_false_or_eq_true (eq4 b.x0 b.y0 b.x1 b.y1 0 0 0 0) with h2 | h2
  · obtain ⟨b0, b1, b2, b3⟩ := b
    obtain ⟨h4, h5, h6, h7⟩ := eq4_true.1 h2
    simp only at h4 h5 h6 h7
    subst h4 h5 h6 h7
    exact absurd rfl h
  · exact h2
/-- Two boxes that tell no pixel in common. -/
theorem meet_none {A B : Bx} (h : meetF A B = ⟨0, 0, 0, 0⟩) {X Y : Nat} (ha : inB A X Y) (hb : inB B X Y) : False := by
  unfold inB at ha hb
  have he : emptyB (max A.x0 B.x0) (max A.y0 B.y0) (min A.x1 B.x1) (min A.y1 B.y1) = false := emptyB_false.2 (by omega)
  unfold meetF plainF at h
  rw [he, if_neg (by decide)] at h
  injection h with h1 h2 h3 h4
  omega
theorem commute_bytes {W H : Nat} (a b : Cl) (bs : List UInt8) (hl : bs.length = H * W) (hW : 1 ≤ W) (h : meetF (blBox W H a) (blBox W H b) = ⟨0, 0, 0, 0⟩) : blBs W H b (blBs W H a bs) = blBs W H a (blBs W H b bs) := by
  have hla := blBs_len W H a bs
  have hlb := blBs_len W H b bs
  apply List.ext_getElem?
  intro i
  rcases Nat.lt_or_ge i (H * W) with hi | hi
  · have hd := Nat.div_add_mod i W
    have hX : i % W < W := Nat.mod_lt _ hW
    have hY : i / W < H := Nat.div_lt_of_lt_mul (by rw [Nat.mul_comm]; exact hi)
    have hi' : i = (i / W) * W + i % W := by rw [Nat.mul_comm]; exact hd.symm
    generalize i % W = X at *
    generalize i / W = Y at *
    subst hi'
    rw [blBs_px b (by omega) hX hY, blBs_px a (by omega) hX hY, blBs_px a (by omega) hX hY, blBs_px b (by omega) hX hY]
    by_cases h1 : blErr a = 0 ∧ inB (blMt W H a) X Y
    · by_cases h2 : blErr b = 0 ∧ inB (blMt W H b) X Y
      · exfalso
        unfold blBox at h
        rw [if_pos h1.1, if_pos h2.1] at h
        exact meet_none h h1.2 h2.2
      · simp only [if_neg h2]
    · simp only [if_neg h1]
  · rw [List.getElem?_eq_none (by rw [blBs_len, hla]; omega), List.getElem?_eq_none (by rw [blBs_len, hlb]; omega)]
theorem new90 (w : World) {W H : Nat} (hW : 1 ≤ W ∧ W ≤ 100) (hH : 1 ≤ H ∧ H ≤ 100) : Calls Try.prog 15 #[.int .i64 W, .int .i64 H, .int .i64 90] w fun e w' => ∃ g k c', e = .returned (.tuple #[.pointer (some ⟨g, 0, none⟩), .int .i64 0]) ∧
    w.heap.size ≤ g ∧ w.heap.size ≤ k ∧ Cv 102 w' g k W H c' (List.replicate (H * W) (byt 90)) ∧ Below w.heap.size w w' := by
  have h := New_yes w W H 90 (by simp only [newB, sideB, byteB]; simp; omega)
  simpa only [Int.toNat_natCast] using h
theorem rcheck_zero (w : World) : Calls Try.prog 24 #[.agg #[.int .i64 0, .int .i64 0, .int .i64 0, .int .i64 0, .slice none 0 0]] w fun e w' => e = .returned (.int .i64 0) ∧ Below w.heap.size w w' := rCheck_any 0 0 0 0 none 0 0 (by decide) w

/-- Two calls, two canvases, some boxes, all in memory. -/
structure Cm (W H : Nat) (w0 wi : World) (a b : Cl) (g1 k1 c1 : Nat) (bs1 : List UInt8) (g2 k2 c2 : Nat) (bs2 : List UInt8) (L : List (Nat × List Value)) : Prop where
  bel : Bel w0.heap.size w0 wi
  ba : Blk wi w0.heap.size 28 a.cells
  bb : Blk wi (w0.heap.size + 1) 28 b.cells
  u : Cv 102 wi g1 k1 W H c1 bs1
  v : Cv 102 wi g2 k2 W H c2 bs2
  lo : w0.heap.size + 1 + 1 ≤ k1 ∧ w0.heap.size + 1 + 1 ≤ k2 ∧ g1 ≠ k2 ∧ g2 ≠ k1 ∧ k1 ≠ k2
  ex : ∀ x ∈ L, Blk wi x.1 23 x.2 ∧ x.1 ≠ k1 ∧ x.1 ≠ k2
section
variable {W H : Nat} {w0 wi w' : World} {a b : Cl} {g1 k1 c1 g2 k2 c2 : Nat} {bs1 bs2 bs' : List UInt8} {L : List (Nat × List Value)}
theorem Cm.lo1 (h : Cm W H w0 wi a b g1 k1 c1 bs1 g2 k2 c2 bs2 L) : w0.heap.size ≤ k1 := by have := h.lo; omega
theorem Cm.lo2 (h : Cm W H w0 wi a b g1 k1 c1 bs1 g2 k2 c2 bs2 L) : w0.heap.size ≤ k2 := by have := h.lo; omega
theorem Cm.la (h : Cm W H w0 wi a b g1 k1 c1 bs1 g2 k2 c2 bs2 L) : w0.heap.size < wi.heap.size := h.ba.lt
theorem Cm.lb (h : Cm W H w0 wi a b g1 k1 c1 bs1 g2 k2 c2 bs2 L) : w0.heap.size + 1 < wi.heap.size := h.bb.lt
theorem Cm.keep (h : Cm W H w0 wi a b g1 k1 c1 bs1 g2 k2 c2 bs2 L) (hb : Below wi.heap.size wi w') : Cm W H w0 w' a b g1 k1 c1 bs1 g2 k2 c2 bs2 L :=
  ⟨bel_call hb h.bel, h.ba.keepB hb, h.bb.keepB hb, h.u.keep hb, h.v.keep hb, h.lo, fun x hx => ⟨(h.ex x hx).1.keepB hb, (h.ex x hx).2⟩⟩
theorem Cm.box (h : Cm W H w0 wi a b g1 k1 c1 bs1 g2 k2 c2 bs2 L) (vs : List Value) : Cm W H w0 (wi.alloc (.cells vs.toArray 23)) a b g1 k1 c1 bs1 g2 k2 c2 bs2 ((wi.heap.size, vs) :: L) := by
  have hk := h.keep (bel_alloc (o := .cells vs.toArray 23) (bel_refl (a := wi))).below
  refine ⟨hk.bel, hk.ba, hk.bb, hk.u, hk.v, hk.lo, fun x hx => ?_⟩
  rcases List.mem_cons.1 hx with rfl | hx
  · have h1 := h.u.byt.lt
    have h2 := h.v.byt.lt
    exact ⟨Blk.new wi 23 vs, by simp only; omega, by simp only; omega⟩
  · exact hk.ex x hx
theorem Cm.tu (h : Cm W H w0 wi a b g1 k1 c1 bs1 g2 k2 c2 bs2 L) (ht : Turn wi w' k1 none) (hc : Cv 102 w' g1 k1 W H c1 bs') : Cm W H w0 w' a b g1 k1 c1 bs' g2 k2 c2 bs2 L := by
  have hl := h.lo
  exact ⟨bel_turn h.bel ht h.lo1, ht.blk h.ba (by omega) (fun e => by cases e), ht.blk h.bb (by omega) (fun e => by cases e), hc, h.v.turn ht hl.2.2.2.1 (Ne.symm hl.2.2.2.2), hl, fun x hx => ⟨ht.blk (h.ex x hx).1 (h.ex x hx).2.1 (fun e => by cases e), (h.ex x hx).2⟩⟩
theorem Cm.tv (h : Cm W H w0 wi a b g1 k1 c1 bs1 g2 k2 c2 bs2 L) (ht : Turn wi w' k2 none) (hc : Cv 102 w' g2 k2 W H c2 bs') : Cm W H w0 w' a b g1 k1 c1 bs1 g2 k2 c2 bs' L := by
  have hl := h.lo
  exact ⟨bel_turn h.bel ht h.lo2, ht.blk h.ba (by omega) (fun e => by cases e), ht.blk h.bb (by omega) (fun e => by cases e), h.u.turn ht hl.2.2.1 hl.2.2.2.2, hc, hl, fun x hx => ⟨ht.blk (h.ex x hx).1 (h.ex x hx).2.2 (fun e => by cases e), (h.ex x hx).2⟩⟩
end

end Go.Proofs.Ytdapakoicegdoaa
