/-
  Blend of any call: one contract; what it makes, pixel by pixel.
-/
import Derived.Test.YtdapakoicegdoaaCvK
import Derived.Test.YtdapakoicegdoaaCvO
namespace Go.Proofs.Ytdapakoicegdoaa
open Go.RowKit

def Cl.sh (o : Cl) : Bx := shB o.m0 o.m1 o.m2 o.m3 o.x o.y
def Cl.mask (o : Cl) : Value := .agg #[.int .i64 o.m0, .int .i64 o.m1, .int .i64 o.m2, .int .i64 o.m3, .slice o.A o.ms.length o.cm]
def blMt (W H : Nat) (o : Cl) : Bx := meetF ⟨0, 0, W, H⟩ o.sh
def blErr (o : Cl) : Int := blendE o.m0 o.m1 o.m2 o.m3 o.ms.length o.x o.y o.c
def blBox (W H : Nat) (o : Cl) : Bx := if blErr o = 0 then blMt W H o else ⟨0, 0, 0, 0⟩
def blBs (W H : Nat) (o : Cl) (bs : List UInt8) : List UInt8 :=
  if blErr o = 0 then boxG (blF o.c o.ms o.sh (o.m2 - o.m0) (blMt W H o).x0.toNat (blMt W H o).y0.toNat) bs ((blMt W H o).y0.toNat * W + (blMt W H o).x0.toNat) W ((blMt W H o).x1 - (blMt W H o).x0).toNat ((blMt W H o).y1 - (blMt W H o).y0).toNat else bs
theorem blBs_len (W H : Nat) (o : Cl) (bs : List UInt8) : (blBs W H o bs).length = bs.length := by
  unfold blBs
  split
  · exact boxG_len _ _ _ _ _ _
  · rfl
theorem bl_parts {W H : Nat} {o : Cl} {x0 y0 n m : Nat} (h : MeetN W H o.sh x0 y0 n m) :
    (blMt W H o).x0.toNat = x0 ∧ (blMt W H o).y0.toNat = y0 ∧ ((blMt W H o).x1 - (blMt W H o).x0).toNat = n ∧ ((blMt W H o).y1 - (blMt W H o).y0).toNat = m ∧ blMt W H o = ⟨x0, y0, (x0 : Int) + n, (y0 : Int) + m⟩ := by
  have e : blMt W H o = _ := h.eq
  rw [e]
  refine ⟨?_, ?_, ?_, ?_, rfl⟩ <;> simp only <;> omega
theorem blErr_zero {o : Cl} (h : blErr o = 0) : maskE o.m0 o.m1 o.m2 o.m3 o.ms.length = 0 ∧ byteB o.c = true ∧ farB o.x = false ∧ farB o.y = false := by
  unfold blErr blendE at h
  by_cases h1 : maskE o.m0 o.m1 o.m2 o.m3 o.ms.length = 0
  · rcases Bool.eq_false_or_eq_true (byteB o.c) with h2 | h2
    · rcases Bool.eq_false_or_eq_true (farB o.x) with h3 | h3
      · simp [h1, h2, h3] at h
      · rcases Bool.eq_false_or_eq_true (farB o.y) with h4 | h4
        · simp [h1, h2, h3, h4] at h
        · exact ⟨h1, h2, h3, h4⟩
    · simp [h1, h2] at h
  · simp [h1] at h

theorem Blend_any {w : World} {g k W H c : Nat} {bs : List UInt8} {o : Cl} (h : Cv 102 w g k W H c bs) (hms : Bw w o.A o.ms o.cm) (hne : 0 < o.ms.length → ∀ b, rowOf o.A = some b → b ≠ k) :
    Calls Try.prog 16 #[.pointer (some ⟨g, 0, none⟩), o.mask, .int .i64 o.x, .int .i64 o.y, .int .i64 o.c] w fun e w' =>
      e = .returned (.tuple #[boxA (blBox W H o), .int .i64 (blErr o)]) ∧ Cv 102 w' g k W H c (blBs W H o bs) ∧ Turn w w' k none := by
  by_cases hz : blErr o = 0
  · obtain ⟨h1, h2, h3, h4⟩ := blErr_zero hz
    obtain ⟨x0, y0, n, m, hM⟩ := meetN W H o.sh
    obtain ⟨e1, e2, e3, e4, e5⟩ := bl_parts hM
    have K := Blend_ok (col := o.c) h h1 hms rfl hne h3 h4 h2 hM
    unfold blBox blBs
    rw [if_pos hz, if_pos hz, e1, e2, e3, e4, e5, hz]
    exact K
  · have K := Blend_no (w := w) (g := g) (Am := o.A) (cm := o.cm) hms.small hz
    unfold blBox blBs
    rw [if_neg hz, if_neg hz]
    exact K.mono fun e w' ⟨he, hb⟩ => ⟨he, h.keep hb, Turn.of_below hb⟩

/-- Where a pixel lies: in which part of which row. -/
theorem pix_row {W X Y y x0 n : Nat} (hX : X < W) (hx : x0 + n ≤ W) : (y * W + x0 ≤ Y * W + X ∧ Y * W + X < y * W + x0 + n) ↔ (Y = y ∧ x0 ≤ X ∧ X < x0 + n) := by
  rcases Nat.lt_trichotomy Y y with h | h | h
  · have : (Y + 1) * W ≤ y * W := Nat.mul_le_mul_right W h
    rw [Nat.succ_mul] at this
    omega
  · subst h; omega
  · have : (y + 1) * W ≤ Y * W := Nat.mul_le_mul_right W h
    rw [Nat.succ_mul] at this
    omega
theorem boxG_px (F : Nat → Nat → UInt8 → UInt8) (bs : List UInt8) {W H x0 y0 n X Y : Nat} (hl : bs.length = H * W) (hx : x0 + n ≤ W) (hX : X < W) (hY : Y < H) : ∀ m, y0 + m ≤ H →
    (boxG F bs (y0 * W + x0) W n m)[Y * W + X]? = if x0 ≤ X ∧ X < x0 + n ∧ y0 ≤ Y ∧ Y < y0 + m then some (F (Y - y0) (X - x0) (bs[Y * W + X]?.getD 0)) else bs[Y * W + X]?
  | 0, _ => by rw [if_neg (by omega)]; rfl
  | m + 1, hm => by
    have ih := boxG_px (y0 := y0) F bs hl hx hX hY m (by omega)
    have hp : y0 * W + x0 + m * W = (y0 + m) * W + x0 := by rw [Nat.add_mul]; omega
    have hb := boxG_len F bs (y0 * W + x0) W n m
    rw [boxG, hp]
    have hrow := pix_row (Y := Y) (y := y0 + m) hX hx
    have hmm : (y0 + m + 1) * W ≤ H * W := Nat.mul_le_mul_right W hm
    rw [Nat.succ_mul] at hmm
    by_cases hin : Y = y0 + m ∧ x0 ≤ X ∧ X < x0 + n
    · obtain ⟨r1, r2⟩ := hrow.2 hin
      rw [rowG_in _ _ _ _ _ r1 r2 (by omega), ih, if_neg (show ¬(x0 ≤ X ∧ X < x0 + n ∧ y0 ≤ Y ∧ Y < y0 + m) by omega), if_pos (show x0 ≤ X ∧ X < x0 + n ∧ y0 ≤ Y ∧ Y < y0 + (m + 1) by omega)]
      obtain ⟨rfl, _, _⟩ := hin
      have e1 : (y0 + m) * W + X - ((y0 + m) * W + x0) = X - x0 := by omega
      have e2 : y0 + m - y0 = m := by omega
      rw [e1, e2]
    · have hout : Y * W + X < (y0 + m) * W + x0 ∨ (y0 + m) * W + x0 + n ≤ Y * W + X := by
        rcases Nat.lt_or_ge (Y * W + X) ((y0 + m) * W + x0) with h | h
        · exact .inl h
        · rcases Nat.lt_or_ge (Y * W + X) ((y0 + m) * W + x0 + n) with h2 | h2
          · exact absurd (hrow.1 ⟨h, h2⟩) hin
          · exact .inr h2
      rw [rowG_out _ _ _ _ _ hout, ih]
      by_cases hc : x0 ≤ X ∧ X < x0 + n ∧ y0 ≤ Y ∧ Y < y0 + m
      · rw [if_pos hc, if_pos (show x0 ≤ X ∧ X < x0 + n ∧ y0 ≤ Y ∧ Y < y0 + (m + 1) by omega)]
      · rw [if_neg hc, if_neg (show ¬(x0 ≤ X ∧ X < x0 + n ∧ y0 ≤ Y ∧ Y < y0 + (m + 1)) by omega)]

/-- Is a pixel in the box that Blend tells? -/
def inB (b : Bx) (X Y : Nat) : Prop := b.x0 ≤ X ∧ (X : Int) < b.x1 ∧ b.y0 ≤ Y ∧ (Y : Int) < b.y1
instance (b : Bx) (X Y : Nat) : Decidable (inB b X Y) := inferInstanceAs (Decidable (_ ∧ _))
/-- The mask's byte over a pixel. -/
def mAt (o : Cl) (X Y : Nat) : UInt8 := o.ms[(((Y : Int) - o.sh.y0) * (o.m2 - o.m0) + X - o.sh.x0).toNat]?.getD 0
theorem blBs_px {W H : Nat} {bs : List UInt8} (o : Cl) (hl : bs.length = H * W) {X Y : Nat} (hX : X < W) (hY : Y < H) :
    (blBs W H o bs)[Y * W + X]? = if blErr o = 0 ∧ inB (blMt W H o) X Y then some (blendB o.c (mAt o X Y) (bs[Y * W + X]?.getD 0)) else bs[Y * W + X]? := by
  by_cases hz : blErr o = 0
  · obtain ⟨h1, h2, h3, h4⟩ := blErr_zero hz
    obtain ⟨x0, y0, n, m, hM⟩ := meetN W H o.sh
    obtain ⟨e1, e2, e3, e4, e5⟩ := bl_parts hM
    unfold blBs
    rw [if_pos hz, e1, e2, e3, e4, boxG_px _ bs hl hM.xw hX hY m hM.yh]
    have hb : inB (blMt W H o) X Y ↔ (x0 ≤ X ∧ X < x0 + n ∧ y0 ≤ Y ∧ Y < y0 + m) := by
      rw [e5]; unfold inB; simp only; omega
    by_cases hin : x0 ≤ X ∧ X < x0 + n ∧ y0 ≤ Y ∧ Y < y0 + m
    · rw [if_pos hin, if_pos ⟨hz, hb.2 hin⟩]
      obtain ⟨q, hq, _⟩ := row_mask h1 h3 h4 hM (j := Y - y0) (by omega)
      unfold blF blendF mAt
      congr 3
      have hj : (y0 : Int) + ((Y - y0 : Nat) : Int) = Y := by omega
      rw [hj] at hq ⊢
      unfold Cl.sh
      generalize ((Y : Int) - (shB o.m0 o.m1 o.m2 o.m3 o.x o.y).y0) * (o.m2 - o.m0) = p at *
      congr 1
      omega
    · rw [if_neg hin, if_neg (fun h => hin (hb.1 h.2))]
  · unfold blBs
    rw [if_neg hz, if_neg (fun h => hz h.1)]

end Go.Proofs.Ytdapakoicegdoaa
