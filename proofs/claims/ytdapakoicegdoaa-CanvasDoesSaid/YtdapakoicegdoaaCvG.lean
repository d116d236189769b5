/-
  Bytes that are written row by row; what two boxes have in common, on a canvas.
-/
import Derived.Test.YtdapakoicegdoaaCvF
namespace Go.Proofs.Ytdapakoicegdoaa
open Go.RowKit

/-- n bytes from place p on, each turned. -/
def rowG (f : Nat → UInt8 → UInt8) (bs : List UInt8) (p : Nat) : Nat → List UInt8
  | 0 => bs
  | n + 1 => (rowG f bs p n).set (p + n) (f n ((rowG f bs p n)[p + n]?.getD 0))
/-- m rows of n bytes, W bytes apart. -/
def boxG (f : Nat → Nat → UInt8 → UInt8) (bs : List UInt8) (p W n : Nat) : Nat → List UInt8
  | 0 => bs
  | m + 1 => rowG (f m) (boxG f bs p W n m) (p + m * W) n
theorem rowG_len (f : Nat → UInt8 → UInt8) (bs : List UInt8) (p n : Nat) : (rowG f bs p n).length = bs.length := by
  induction n with
  | zero => rfl
  | succ n ih => rw [rowG, List.length_set, ih]
theorem boxG_len (f : Nat → Nat → UInt8 → UInt8) (bs : List UInt8) (p W n m : Nat) : (boxG f bs p W n m).length = bs.length := by
  induction m with
  | zero => rfl
  | succ m ih => rw [boxG, rowG_len, ih]
theorem rowG_out (f : Nat → UInt8 → UInt8) (bs : List UInt8) (p n i : Nat) (h : i < p ∨ p + n ≤ i) : (rowG f bs p n)[i]? = bs[i]? := by
  induction n with
  | zero => rfl
  | succ n ih => rw [rowG, List.getElem?_set_ne (by omega), ih (by omega)]
theorem rowG_in (f : Nat → UInt8 → UInt8) (bs : List UInt8) (p n i : Nat) (h1 : p ≤ i) (h2 : i < p + n) (h3 : p + n ≤ bs.length) : (rowG f bs p n)[i]? = some (f (i - p) (bs[i]?.getD 0)) := by
  induction n with
  | zero => omega
  | succ n ih =>
    rw [rowG]
    rcases Nat.lt_or_ge i (p + n) with h | h
    · rw [List.getElem?_set_ne (by omega), ih h (by omega)]
    · obtain rfl : i = p + n := by omega
      rw [List.getElem?_set_self (by rw [rowG_len]; omega), rowG_out _ _ _ _ _ (.inr (Nat.le_refl _)), show p + n - p = n by omega]
theorem rowG_congr (f f' : Nat → UInt8 → UInt8) (bs : List UInt8) (p n : Nat) (h : ∀ i, i < n → f i = f' i) : rowG f bs p n = rowG f' bs p n := by
  induction n with
  | zero => rfl
  | succ n ih => rw [rowG, rowG, ih (fun i hi => h i (by omega)), h n (by omega)]

/-- What a box has of a canvas. -/
structure MeetN (W H : Nat) (b : Bx) (x0 y0 n m : Nat) : Prop where
  xw : x0 + n ≤ W
  yh : y0 + m ≤ H
  pos : 0 < m → 0 < n
  eq : meetF ⟨0, 0, W, H⟩ b = ⟨x0, y0, (x0 : Int) + n, (y0 : Int) + m⟩
  lo : 0 < m → b.x0 ≤ x0 ∧ (x0 : Int) + n ≤ b.x1 ∧ b.y0 ≤ y0 ∧ (y0 : Int) + m ≤ b.y1
theorem meetN (W H : Nat) (b : Bx) : ∃ x0 y0 n m, MeetN W H b x0 y0 n m := by
  rcases Bool.eq_false_or_eq_true (emptyB (max 0 b.x0) (max 0 b.y0) (min W b.x1) (min H b.y1)) with h | h
  · have e : meetF ⟨0, 0, W, H⟩ b = ⟨0, 0, 0, 0⟩ := by simp only [meetF, plainF, h]; rfl
    exact ⟨0, 0, 0, 0, by omega, by omega, by omega, by rw [e]; rfl, by omega⟩
  · have e : meetF ⟨0, 0, W, H⟩ b = ⟨max 0 b.x0, max 0 b.y0, min W b.x1, min H b.y1⟩ := by simp only [meetF, plainF, h]; rfl
    obtain ⟨h1, h2⟩ := emptyB_false.1 h
    have e1 : ((max 0 b.x0).toNat : Int) = max 0 b.x0 := Int.toNat_of_nonneg (by omega)
    have e2 : ((max 0 b.y0).toNat : Int) = max 0 b.y0 := Int.toNat_of_nonneg (by omega)
    have e3 : ((min (W : Int) b.x1 - max 0 b.x0).toNat : Int) = min (W : Int) b.x1 - max 0 b.x0 := Int.toNat_of_nonneg (by omega)
    have e4 : ((min (H : Int) b.y1 - max 0 b.y0).toNat : Int) = min (H : Int) b.y1 - max 0 b.y0 := Int.toNat_of_nonneg (by omega)
    refine ⟨(max 0 b.x0).toNat, (max 0 b.y0).toNat, (min (W : Int) b.x1 - max 0 b.x0).toNat, (min (H : Int) b.y1 - max 0 b.y0).toNat, ?_, ?_, ?_, ?_, ?_⟩
    · omega
    · omega
    · omega
    · rw [e, e1, e2, e3, e4]; congr 1 <;> omega
    · omega

section
variable {T : TypeId} {w w' : World} {g k W H c : Nat} {bs bs' : List UInt8}
theorem Cv.bytes (h : Cv T w g k W H c bs) (ht : Turn w w' k none) (hB : Byt w' k bs') (hl : bs'.length = bs.length) : Cv T w' g k W H c bs' :=
  ⟨by rw [hl]; exact ht.blk h.blk h.ne (fun e => by cases e), hB, by rw [hl]; exact h.len, h.w1, h.h1, by rw [hl]; exact h.cap, h.ne⟩
/-- The first place of a row of a box that lies on the canvas. -/
theorem row_fits {x0 y0 n m j : Nat} (h : Cv T w g k W H c bs) (hx : x0 + n ≤ W) (hy : y0 + m ≤ H) (hj : j < m) : (y0 * W + x0) + j * W + n ≤ bs.length := by
  have h1 : (y0 + j + 1) * W ≤ H * W := Nat.mul_le_mul_right W (by omega)
  rw [Nat.add_mul, Nat.add_mul] at h1
  have := h.len
  omega
end
end Go.Proofs.Ytdapakoicegdoaa
