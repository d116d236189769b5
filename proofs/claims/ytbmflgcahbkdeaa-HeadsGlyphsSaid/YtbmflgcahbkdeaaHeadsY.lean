/-
  Round trip of the tables of heads: pure lists. No program.
-/
import Derived.Test.YtbmflgcahbkdeaaHeadsN
import Derived.Test.YtbmflgcahbkdeaaHeadsM
namespace Go.Proofs.Ytbmflgcahbkdeaa
open Go.RowKit

theorem wd_of {bs : List UInt8} {i : Nat} {x : Int} (h : (bs.drop i).take 2 = beB 2 x) : wd bs i = x % 65536 := by
  unfold wd
  rw [h]
  exact numB_be2 x
theorem wd4_of {bs : List UInt8} {i : Nat} {x : Int} (h : (bs.drop i).take 4 = beB 4 x) : wd4 bs i = x % 4294967296 := by
  unfold wd4
  rw [h]
  exact numB_be4 x

theorem hMay_bd {h : HeadR} (hm : hMay h = true) : (16 ≤ h.u ∧ h.u ≤ 16384) ∧ (0 ≤ h.fl ∧ h.fl ≤ 65535) ∧ (0 ≤ h.st ∧ h.st ≤ 65535) ∧ (0 ≤ h.le ∧ h.le ≤ 65535) ∧ (-32768 ≤ h.x0 ∧ h.x0 ≤ 32767) ∧ (-32768 ≤ h.y0 ∧ h.y0 ≤ 32767) ∧ (-32768 ≤ h.x1 ∧ h.x1 ≤ 32767) ∧ (-32768 ≤ h.y1 ∧ h.y1 ≤ 32767) := by
  simp [hMay, mayHeadB, allF] at hm
  omega
theorem lMay_bd {h : LineR} (hm : lMay h = true) : (-32768 ≤ h.a ∧ h.a ≤ 32767) ∧ (-32768 ≤ h.d ∧ h.d ≤ 32767) ∧ (-32768 ≤ h.g ∧ h.g ≤ 32767) ∧ (1 ≤ h.m ∧ h.m ≤ 65535) := by
  simp [lMay, mayLinesB, allF] at hm
  omega
theorem gMay_bd {n : Int} (hm : allF 1 65535 [n] = true) : 1 ≤ n ∧ n ≤ 65535 := by
  simp [allF] at hm
  omega

section head
variable (h : HeadR) (r : List UInt8)
theorem hb0 : wd (headB h ++ r) 0 = 1 % 65536 := wd_of rfl
theorem hb2 : wd (headB h ++ r) 2 = 0 % 65536 := wd_of rfl
theorem hb12 : wd4 (headB h ++ r) 12 = 1594834165 % 4294967296 := wd4_of rfl
theorem hb16 : wd (headB h ++ r) 16 = h.fl % 65536 := wd_of rfl
theorem hb18 : wd (headB h ++ r) 18 = h.u % 65536 := wd_of rfl
theorem hb36 : wd (headB h ++ r) 36 = h.x0 % 65536 := wd_of rfl
theorem hb38 : wd (headB h ++ r) 38 = h.y0 % 65536 := wd_of rfl
theorem hb40 : wd (headB h ++ r) 40 = h.x1 % 65536 := wd_of rfl
theorem hb42 : wd (headB h ++ r) 42 = h.y1 % 65536 := wd_of rfl
theorem hb44 : wd (headB h ++ r) 44 = h.st % 65536 := wd_of rfl
theorem hb46 : wd (headB h ++ r) 46 = h.le % 65536 := wd_of rfl
theorem hb50 : wd (headB h ++ r) 50 = (if h.long then 1 else 0) % 65536 := wd_of rfl
theorem hb52 : wd (headB h ++ r) 52 = 0 % 65536 := wd_of rfl
end head

theorem headOk_headB (h : HeadR) (r : List UInt8) : headOk (headB h ++ r) = true := by
  have hl : 54 ≤ (headB h ++ r).length := by
    rw [List.length_append, headB_len]
    omega
  unfold headOk
  rw [hb0, hb2, hb12, hb52, decide_eq_true hl]
  rfl
theorem headR_headB {h : HeadR} (hm : hMay h = true) (r : List UInt8) : headR (headB h ++ r) = h := by
  have hb := hMay_bd hm
  unfold headR
  rw [hb18, hb16, hb36, hb38, hb40, hb42, hb44, hb46, hb50, sgn16_be2 hb.2.2.2.2.1.1 hb.2.2.2.2.1.2, sgn16_be2 hb.2.2.2.2.2.1.1 hb.2.2.2.2.2.1.2, sgn16_be2 hb.2.2.2.2.2.2.1.1 hb.2.2.2.2.2.2.1.2, sgn16_be2 hb.2.2.2.2.2.2.2.1 hb.2.2.2.2.2.2.2.2,
    Int.emod_eq_of_lt (a := h.u) (by omega) (by omega), Int.emod_eq_of_lt (a := h.fl) (by omega) (by omega), Int.emod_eq_of_lt (a := h.st) (by omega) (by omega), Int.emod_eq_of_lt (a := h.le) (by omega) (by omega)]
  cases h with
  | mk u fl x0 y0 x1 y1 st le long => cases long <;> rfl

section line
variable (h : LineR) (r : List UInt8)
theorem lb0 : wd (lineB h ++ r) 0 = 1 % 65536 := wd_of rfl
theorem lb2 : wd (lineB h ++ r) 2 = 0 % 65536 := wd_of rfl
theorem lb4 : wd (lineB h ++ r) 4 = h.a % 65536 := wd_of rfl
theorem lb6 : wd (lineB h ++ r) 6 = h.d % 65536 := wd_of rfl
theorem lb8 : wd (lineB h ++ r) 8 = h.g % 65536 := wd_of rfl
theorem lb32 : wd (lineB h ++ r) 32 = 0 % 65536 := wd_of rfl
theorem lb34 : wd (lineB h ++ r) 34 = h.m % 65536 := wd_of rfl
end line
theorem lineOk_lineB (h : LineR) (r : List UInt8) : lineOk (lineB h ++ r) = true := by
  have hl : 36 ≤ (lineB h ++ r).length := by
    rw [List.length_append, lineB_len]
    omega
  unfold lineOk
  rw [lb0, lb2, lb32, decide_eq_true hl]
  rfl
theorem lineR_lineB {h : LineR} (hm : lMay h = true) (r : List UInt8) : lineR (lineB h ++ r) = h := by
  have hb := lMay_bd hm
  unfold lineR
  rw [lb4, lb6, lb8, lb34, sgn16_be2 hb.1.1 hb.1.2, sgn16_be2 hb.2.1.1 hb.2.1.2, sgn16_be2 hb.2.2.1.1 hb.2.2.1.2, Int.emod_eq_of_lt (a := h.m) (by omega) (by omega)]

theorem gb0_t (n : Int) (r : List UInt8) : wd4 (glyphB n true ++ r) 0 = 65536 := (wd4_of (x := 65536) rfl).trans rfl
theorem gb0_f (n : Int) (r : List UInt8) : wd4 (glyphB n false ++ r) 0 = 20480 := (wd4_of (x := 20480) rfl).trans rfl
theorem gb4 {n : Int} (hm : allF 1 65535 [n] = true) (t : Bool) (r : List UInt8) : wd (glyphB n t ++ r) 4 = n := by
  have hb := gMay_bd hm
  have e : wd (glyphB n t ++ r) 4 = n % 65536 := by cases t <;> exact wd_of rfl
  rw [e, Int.emod_eq_of_lt (by omega) (by omega)]

end Go.Proofs.Ytbmflgcahbkdeaa
