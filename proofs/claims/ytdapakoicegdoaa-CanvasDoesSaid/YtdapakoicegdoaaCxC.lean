/-
  Fill and the document's Blend and Fill of any call: one contract each.
-/
import Derived.Test.YtdapakoicegdoaaCxB
import Derived.Test.YtdapakoicegdoaaCvY
import Derived.Test.YtdapakoicegdoaaCvZ
namespace Go.Proofs.Ytdapakoicegdoaa
open Go.RowKit

def Cl.box (o : Cl) : Value := .agg #[.int .i64 o.b0, .int .i64 o.b1, .int .i64 o.b2, .int .i64 o.b3]
def flMt (W H : Nat) (o : Cl) : Bx := meetF ⟨0, 0, W, H⟩ ⟨o.b0, o.b1, o.b2, o.b3⟩
def flErr (o : Cl) : Int := fillE o.b0 o.b1 o.b2 o.b3 o.c
def flBox (W H : Nat) (o : Cl) : Bx := if flErr o = 0 then flMt W H o else ⟨0, 0, 0, 0⟩
def flBs (W H : Nat) (o : Cl) (bs : List UInt8) : List UInt8 :=
  if flErr o = 0 then boxG (fun _ _ _ => byt o.c) bs ((flMt W H o).y0.toNat * W + (flMt W H o).x0.toNat) W ((flMt W H o).x1 - (flMt W H o).x0).toNat ((flMt W H o).y1 - (flMt W H o).y0).toNat else bs
theorem flErr_zero {o : Cl} (h : flErr o = 0) : bB o.b0 o.b1 o.b2 o.b3 = true ∧ byteB o.c = true := by
  unfold flErr fillE at h
  rcases Bool.eq_false_or_eq_true (bB o.b0 o.b1 o.b2 o.b3) with h1 | h1
  · rcases Bool.eq_false_or_eq_true (byteB o.c) with h2 | h2
    · exact ⟨h1, h2⟩
    · simp [h1, h2] at h
  · simp [h1] at h
theorem fl_parts {W H : Nat} {o : Cl} {x0 y0 n m : Nat} (h : MeetN W H ⟨o.b0, o.b1, o.b2, o.b3⟩ x0 y0 n m) :
    (flMt W H o).x0.toNat = x0 ∧ (flMt W H o).y0.toNat = y0 ∧ ((flMt W H o).x1 - (flMt W H o).x0).toNat = n ∧ ((flMt W H o).y1 - (flMt W H o).y0).toNat = m ∧ flMt W H o = ⟨x0, y0, (x0 : Int) + n, (y0 : Int) + m⟩ := by
  have e : flMt W H o = _ := h.eq
  rw [e]
  refine ⟨?_, ?_, ?_, ?_, rfl⟩ <;> simp only <;> omega
theorem flBs_len (W H : Nat) (o : Cl) (bs : List UInt8) : (flBs W H o bs).length = bs.length := by
  unfold flBs
  split
  · exact boxG_len _ _ _ _ _ _
  · rfl

theorem Fill_any {w : World} {g k W H c : Nat} {bs : List UInt8} {o : Cl} (h : Cv 102 w g k W H c bs) :
    Calls Try.prog 31 #[.pointer (some ⟨g, 0, none⟩), o.box, .int .i64 o.c] w fun e w' =>
      e = .returned (.tuple #[boxA (flBox W H o), .int .i64 (flErr o)]) ∧ Cv 102 w' g k W H c (flBs W H o bs) ∧ Turn w w' k none := by
  by_cases hz : flErr o = 0
  · obtain ⟨h1, h2⟩ := flErr_zero hz
    obtain ⟨x0, y0, n, m, hM⟩ := meetN W H ⟨o.b0, o.b1, o.b2, o.b3⟩
    obtain ⟨e1, e2, e3, e4, e5⟩ := fl_parts hM
    have K := Fill_ok h h1 h2 hM
    unfold flBox flBs
    rw [if_pos hz, if_pos hz, e1, e2, e3, e4, e5, hz]
    exact K
  · have K := Fill_no (w := w) (g := g) hz
    unfold flBox flBs
    rw [if_neg hz, if_neg hz]
    exact K.mono fun e w' ⟨he, hb⟩ => ⟨he, h.keep hb, Turn.of_below hb⟩
theorem rFill_call {w : World} {g k W H c : Nat} {bs : List UInt8} {o : Cl} (h : Cv 54 w g k W H c bs) (hz : flErr o = 0) :
    Calls Try.prog 70 #[.pointer (some ⟨g, 0, none⟩), o.box, .int .i64 o.c] w fun e w' =>
      e = .returned (boxA (flBox W H o)) ∧ Cv 54 w' g k W H c (flBs W H o bs) ∧ Turn w w' k none := by
  obtain ⟨h1, h2⟩ := flErr_zero hz
  obtain ⟨x0, y0, n, m, hM⟩ := meetN W H ⟨o.b0, o.b1, o.b2, o.b3⟩
  obtain ⟨e1, e2, e3, e4, e5⟩ := fl_parts hM
  have K := rFill_any h h2 hM
  unfold flBox flBs
  rw [if_pos hz, if_pos hz, e1, e2, e3, e4, e5]
  exact K
theorem rBlend_call {w : World} {g k W H c : Nat} {bs : List UInt8} {o : Cl} (h : Cv 54 w g k W H c bs) (hz : blErr o = 0) (hms : Bw w o.A o.ms o.cm) (hne : 0 < o.ms.length → ∀ b, rowOf o.A = some b → b ≠ k) :
    Calls Try.prog 72 #[.pointer (some ⟨g, 0, none⟩), o.mask, .int .i64 o.x, .int .i64 o.y, .int .i64 o.c] w fun e w' =>
      e = .returned (boxA (blBox W H o)) ∧ Cv 54 w' g k W H c (blBs W H o bs) ∧ Turn w w' k none := by
  obtain ⟨h1, h2, h3, h4⟩ := blErr_zero hz
  obtain ⟨x0, y0, n, m, hM⟩ := meetN W H o.sh
  obtain ⟨e1, e2, e3, e4, e5⟩ := bl_parts hM
  rcases Bool.eq_false_or_eq_true (eq4 o.m0 o.m1 o.m2 o.m3 0 0 0 0) with h5 | h5
  · have hsh : o.sh = ⟨0, 0, 0, 0⟩ := by unfold Cl.sh shB; rw [if_pos h5]
    have hmt : blMt W H o = ⟨0, 0, 0, 0⟩ := by
      unfold blMt
      rw [hsh]
      have e : emptyB (max 0 0) (max 0 0) (min W 0) (min H 0) = true := emptyB_true.2 (by omega)
      simp only [meetF, plainF]
      rw [e]
      rfl
    obtain ⟨q0, q1, q2, q3⟩ := eq4_true.1 h5
    unfold blBox blBs
    rw [if_pos hz, if_pos hz, hmt]
    unfold Cl.mask
    rw [q0, q1, q2, q3]
    exact rBlend_zero h
  · have K := rBlend_ok (col := o.c) h h1 hms rfl hne h3 h4 h2 h5 hM
    unfold blBox blBs
    rw [if_pos hz, if_pos hz, e1, e2, e3, e4, e5]
    exact K

end Go.Proofs.Ytdapakoicegdoaa
