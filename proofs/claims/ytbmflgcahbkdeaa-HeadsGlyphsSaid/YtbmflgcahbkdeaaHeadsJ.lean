/-
  What the places of a head, of lines, of glyphs say of bytes. No program.
-/
import Derived.Test.YtbmflgcahbkdeaaHeadsI
namespace Go.Proofs.Ytbmflgcahbkdeaa
open Go.RowKit

def wd (bs : List UInt8) (i : Nat) : Int := numB ((bs.drop i).take 2)
def wd4 (bs : List UInt8) (i : Nat) : Int := numB ((bs.drop i).take 4)
theorem wd_bd (bs : List UInt8) (i : Nat) : 0 ≤ wd bs i ∧ wd bs i ≤ 65535 := by
  unfold wd
  have h := numB_lt ((bs.drop i).take 2)
  have h2 : ((bs.drop i).take 2).length ≤ 2 := by simp; omega
  have h3 : 256 ^ ((bs.drop i).take 2).length ≤ 256 ^ 2 := Nat.pow_le_pow_right (by omega) h2
  omega

theorem wdF {bs : List UInt8} {p : Nat} (h : p + 2 ≤ bs.length) : ((numF bs (p, false) 2 : Nat) : Int) = wd bs p := by rw [numF_ok h]; rfl
theorem wd4F {bs : List UInt8} {p : Nat} (h : p + 4 ≤ bs.length) : ((numF bs (p, false) 4 : Nat) : Int) = wd4 bs p := by rw [numF_ok h]; rfl
theorem gets_state (bs : List UInt8) : ∀ (l : List PlR) (s : Nat × Bool) (r : List ((Nat × Nat) × Int) × (Nat × Bool)), gets bs l s = some r → r.2 = advs bs s (l.map plLen)
  | [], s, r, h => by simp [gets] at h; subst h; rfl
  | p :: l, s, r, h => by
    show r.2 = advs bs (advF bs s (plLen p)) (l.map plLen)
    unfold gets at h
    split at h
    · exact gets_state bs l _ r h
    · split at h
      · cases h
      · obtain ⟨r', hr', rfl⟩ := Option.map_eq_some_iff.1 h
        exact gets_state bs l _ r' hr'
/-- Too few bytes. -/
theorem getOk_short {bs : List UInt8} {l : List PlR} (h : bs.length < (l.map plLen).sum) : getOk bs l = false := by
  unfold getOk
  split
  · rename_i r hr
    rw [gets_state bs l _ r hr, advs_bad _ _ _ (Nat.zero_le _)]
    simp
    omega
  · rfl

def headWs (gh gl : Nat) (bs : List UInt8) : List ((Nat × Nat) × Int) := [((gh, 1), wd bs 16), ((gh, 0), wd bs 18), ((gh, 2), sgn16 (wd bs 36)), ((gh, 3), sgn16 (wd bs 38)), ((gh, 4), sgn16 (wd bs 40)), ((gh, 5), sgn16 (wd bs 42)), ((gh, 6), wd bs 44), ((gh, 7), wd bs 46), ((gl, 0), wd bs 50)]
def headOk (bs : List UInt8) : Bool := decide (54 ≤ bs.length) && (decide (wd bs 0 = 1) && (decide (wd bs 2 = 0) && (decide (wd4 bs 12 = 1594834165) && decide (wd bs 52 = 0))))

theorem gets_head (bs : List UInt8) (gh gl : Nat) (h : 54 ≤ bs.length) :
    gets bs (headPl gh gl) (0, false) = if wd bs 0 = 1 ∧ wd bs 2 = 0 ∧ wd4 bs 12 = 1594834165 ∧ wd bs 52 = 0 then some (headWs gh gl bs, (54, false)) else none := by
  by_cases c0 : wd bs 0 = 1
  · by_cases c1 : wd bs 2 = 0
    · by_cases c2 : wd4 bs 12 = 1594834165
      · by_cases c3 : wd bs 52 = 0
        · rw [if_pos ⟨c0, c1, c2, c3⟩]
          simp (disch := omega) [gets, headPl, plLen, plNum, plWrite, wdF, wd4F, advF_ok, c0, c1, c2, c3, headWs]
        · rw [if_neg (by simp [c3])]
          simp (disch := omega) [gets, headPl, plLen, plNum, plWrite, wdF, wd4F, advF_ok, c0, c1, c2, c3]
      · rw [if_neg (by simp [c2])]
        simp (disch := omega) [gets, headPl, plLen, plNum, plWrite, wdF, wd4F, advF_ok, c0, c1, c2]
    · rw [if_neg (by simp [c1])]
      simp (disch := omega) [gets, headPl, plLen, plNum, plWrite, wdF, advF_ok, c0, c1]
  · rw [if_neg (by simp [c0])]
    simp (disch := omega) [gets, headPl, plNum, wdF, c0]
theorem getOk_head (bs : List UInt8) (gh gl : Nat) : getOk bs (headPl gh gl) = headOk bs := by
  by_cases h : 54 ≤ bs.length
  · unfold getOk headOk
    rw [gets_head bs gh gl h]
    by_cases hc : wd bs 0 = 1 ∧ wd bs 2 = 0 ∧ wd4 bs 12 = 1594834165 ∧ wd bs 52 = 0
    · rw [if_pos hc]; simp [h, hc.1, hc.2.1, hc.2.2.1, hc.2.2.2]
    · rw [if_neg hc]
      simp only [not_and] at hc
      simp only [h, decide_true, Bool.true_and, Bool.false_eq, Bool.and_eq_false_iff, decide_eq_false_iff_not]
      by_cases c0 : wd bs 0 = 1
      · by_cases c1 : wd bs 2 = 0
        · by_cases c2 : wd4 bs 12 = 1594834165
          · exact .inr (.inr (.inr (hc c0 c1 c2)))
          · exact .inr (.inr (.inl c2))
        · exact .inr (.inl c1)
      · exact .inl c0
  · rw [getOk_short (by simp [headPl, plLen]; omega)]
    simp [headOk, h]
theorem gets_headOk {bs : List UInt8} {gh gl : Nat} (h : headOk bs = true) : gets bs (headPl gh gl) (0, false) = some (headWs gh gl bs, (54, false)) := by
  simp only [headOk, Bool.and_eq_true, decide_eq_true_eq] at h
  rw [gets_head bs gh gl h.1, if_pos h.2]

def lineWs (g : Nat) (bs : List UInt8) : List ((Nat × Nat) × Int) := [((g, 0), sgn16 (wd bs 4)), ((g, 1), sgn16 (wd bs 6)), ((g, 2), sgn16 (wd bs 8)), ((g, 3), wd bs 34)]
def lineOk (bs : List UInt8) : Bool := decide (36 ≤ bs.length) && (decide (wd bs 0 = 1) && (decide (wd bs 2 = 0) && decide (wd bs 32 = 0)))
theorem gets_line (bs : List UInt8) (g : Nat) (h : 36 ≤ bs.length) :
    gets bs (linePl g) (0, false) = if wd bs 0 = 1 ∧ wd bs 2 = 0 ∧ wd bs 32 = 0 then some (lineWs g bs, (36, false)) else none := by
  by_cases c0 : wd bs 0 = 1
  · by_cases c1 : wd bs 2 = 0
    · by_cases c2 : wd bs 32 = 0
      · rw [if_pos ⟨c0, c1, c2⟩]
        simp (disch := omega) [gets, linePl, plLen, plNum, plWrite, wdF, advF_ok, c0, c1, c2, lineWs]
      · rw [if_neg (by simp [c2])]
        simp (disch := omega) [gets, linePl, plLen, plNum, plWrite, wdF, advF_ok, c0, c1, c2]
    · rw [if_neg (by simp [c1])]
      simp (disch := omega) [gets, linePl, plLen, plNum, plWrite, wdF, advF_ok, c0, c1]
  · rw [if_neg (by simp [c0])]
    simp (disch := omega) [gets, linePl, plNum, wdF, c0]
theorem getOk_line (bs : List UInt8) (g : Nat) : getOk bs (linePl g) = lineOk bs := by
  by_cases h : 36 ≤ bs.length
  · unfold getOk lineOk
    rw [gets_line bs g h]
    by_cases hc : wd bs 0 = 1 ∧ wd bs 2 = 0 ∧ wd bs 32 = 0
    · rw [if_pos hc]; simp [h, hc.1, hc.2.1, hc.2.2]
    · rw [if_neg hc]
      simp only [not_and] at hc
      simp only [h, decide_true, Bool.true_and, Bool.false_eq, Bool.and_eq_false_iff, decide_eq_false_iff_not]
      by_cases c0 : wd bs 0 = 1
      · by_cases c1 : wd bs 2 = 0
        · exact .inr (.inr (hc c0 c1))
        · exact .inr (.inl c1)
      · exact .inl c0
  · rw [getOk_short (by simp [linePl, plLen]; omega)]
    simp [lineOk, h]
theorem gets_lineOk {bs : List UInt8} {g : Nat} (h : lineOk bs = true) : gets bs (linePl g) (0, false) = some (lineWs g bs, (36, false)) := by
  simp only [lineOk, Bool.and_eq_true, decide_eq_true_eq] at h
  rw [gets_line bs g h.1, if_pos h.2]

def glyphWs (gv gn : Nat) (bs : List UInt8) : List ((Nat × Nat) × Int) := [((gv, 0), wd4 bs 0), ((gn, 0), wd bs 4)]
theorem gets_glyph (bs : List UInt8) (gv gn : Nat) (tr : Bool) (h : (if tr then 32 else 6) ≤ bs.length) :
    gets bs (glyphPl gv gn tr) (0, false) = some (glyphWs gv gn bs, (if tr then 32 else 6, false)) := by
  cases tr with
  | true =>
    simp only [if_true] at h
    simp (disch := omega) [gets, glyphPl, plLen, plNum, plWrite, wdF, wd4F, advF_ok, glyphWs]
  | false =>
    simp only [Bool.false_eq_true, if_false] at h
    simp (disch := omega) [gets, glyphPl, plLen, plNum, plWrite, wdF, wd4F, advF_ok, glyphWs]
theorem getOk_glyph (bs : List UInt8) (gv gn : Nat) (tr : Bool) : getOk bs (glyphPl gv gn tr) = decide ((if tr then 32 else 6) ≤ bs.length) := by
  by_cases h : (if tr then 32 else 6) ≤ bs.length
  · unfold getOk
    rw [gets_glyph bs gv gn tr h]
    simp [h]
  · rw [getOk_short (by cases tr <;> simp [glyphPl, plLen] at h ⊢ <;> omega)]
    simp [h]

end Go.Proofs.Ytbmflgcahbkdeaa
