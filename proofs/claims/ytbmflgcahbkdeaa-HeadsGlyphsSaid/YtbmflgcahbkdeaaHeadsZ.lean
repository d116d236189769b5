/-
  Heads, Lines, Glyphs: what any bytes are, in one form; the program's and the document's.
-/
import Derived.Test.YtbmflgcahbkdeaaHeadsL
import Derived.Test.YtbmflgcahbkdeaaHeadsS
import Derived.Test.YtbmflgcahbkdeaaHeadsT
import Derived.Test.YtbmflgcahbkdeaaHeadsU
import Derived.Test.YtbmflgcahbkdeaaHeadsV
import Derived.Test.YtbmflgcahbkdeaaHeadsY
namespace Go.Proofs.Ytbmflgcahbkdeaa
open Go.RowKit

def headZ : HeadR := ⟨0, 0, 0, 0, 0, 0, 0, 0, false⟩
def lineZ : LineR := ⟨0, 0, 0, 0⟩
/-- Are these bytes a head? -/
def headG (bs : List UInt8) : Bool := headOk bs && (decide (wd bs 50 ≤ 1) && hMay (headR bs))
def headV (bs : List UInt8) : HeadR := if headG bs then headR bs else headZ
def lineG (bs : List UInt8) : Bool := lineOk bs && lMay (lineR bs)
def lineV (bs : List UInt8) : LineR := if lineG bs then lineR bs else lineZ
def glyphG (bs : List UInt8) : Bool := decide (6 ≤ bs.length) && ((decide (wd4 bs 0 = 20480) || (decide (wd4 bs 0 = 65536) && decide (32 ≤ bs.length))) && allF 1 65535 [wd bs 4])
def glyphT (bs : List UInt8) : Bool := glyphG bs && decide (wd4 bs 0 = 65536)
def glyphNum (bs : List UInt8) : Int := if glyphG bs then wd bs 4 else 0

theorem Head_any (w : World) (A : Option Addr) (bs : List UInt8) (c : Nat) (h : Bs w A bs c) :
    Calls Try.prog 26 #[.slice A bs.length c] w fun e w' => e = .returned (.tuple #[.agg (hCells (headV bs)).toArray, .int .i64 (if headG bs then 0 else 50)]) ∧ Below w.heap.size w w' := by
  rcases Bool.eq_false_or_eq_true (headOk bs) with h1 | h1
  · by_cases h2 : wd bs 50 ≤ 1
    · rcases Bool.eq_false_or_eq_true (hMay (headR bs)) with h3 | h3
      · have e : headG bs = true := by rw [headG, h1, h3, decide_eq_true h2]; rfl
        have ev : headV bs = headR bs := by rw [headV, e]; rfl
        rw [ev, e]
        have hb := (wd_bd bs 50).1
        by_cases h4 : wd bs 50 = 1
        · exact Head_ok1 w A bs c h h1 h4 h3
        · exact Head_ok0 w A bs c h h1 (by omega) h3
      · have e : headG bs = false := by rw [headG, h1, h3, decide_eq_true h2]; rfl
        have ev : headV bs = headZ := by rw [headV, e]; rfl
        rw [ev, e]
        exact Head_bad w A bs c h h1 h2 h3
    · have e : headG bs = false := by rw [headG, h1, decide_eq_false h2]; rfl
      have ev : headV bs = headZ := by rw [headV, e]; rfl
      rw [ev, e]
      exact Head_long w A bs c h h1 (by omega)
  · have e : headG bs = false := by rw [headG, h1]; rfl
    have ev : headV bs = headZ := by rw [headV, e]; rfl
    rw [ev, e]
    exact Head_no w A bs c h h1

theorem Lines_any (w : World) (A : Option Addr) (bs : List UInt8) (c : Nat) (h : Bs w A bs c) :
    Calls Try.prog 36 #[.slice A bs.length c] w fun e w' => e = .returned (.tuple #[.agg (lCells (lineV bs)).toArray, .int .i64 (if lineG bs then 0 else 52)]) ∧ Below w.heap.size w w' := by
  rcases Bool.eq_false_or_eq_true (lineOk bs) with h1 | h1
  · rcases Bool.eq_false_or_eq_true (lMay (lineR bs)) with h3 | h3
    · have e : lineG bs = true := by rw [lineG, h1, h3]; rfl
      have ev : lineV bs = lineR bs := by rw [lineV, e]; rfl
      rw [ev, e]
      exact Lines_ok w A bs c h h1 h3
    · have e : lineG bs = false := by rw [lineG, h1, h3]; rfl
      have ev : lineV bs = lineZ := by rw [lineV, e]; rfl
      rw [ev, e]
      exact Lines_bad w A bs c h h1 h3
  · have e : lineG bs = false := by rw [lineG, h1]; rfl
    have ev : lineV bs = lineZ := by rw [lineV, e]; rfl
    rw [ev, e]
    exact Lines_no w A bs c h h1

theorem Glyphs_any (w : World) (A : Option Addr) (bs : List UInt8) (c : Nat) (h : Bs w A bs c) :
    Calls Try.prog 30 #[.slice A bs.length c] w fun e w' => e = .returned (.tuple #[.agg #[.int .i64 (glyphNum bs), .bool (glyphT bs)], .int .i64 (if glyphG bs then 0 else 51)]) ∧ Below w.heap.size w w' := by
  by_cases h1 : 6 ≤ bs.length
  · by_cases h2 : wd4 bs 0 = 20480
    · rcases Bool.eq_false_or_eq_true (allF 1 65535 [wd bs 4]) with h3 | h3
      · have e : glyphG bs = true := by simp [glyphG, h1, h2, h3]
        have et : glyphT bs = false := by simp [glyphT, h2]
        have en : glyphNum bs = wd bs 4 := by rw [glyphNum, e]; rfl
        rw [et, en, e]
        exact Glyphs_cff w A bs c h h1 h2 h3
      · have e : glyphG bs = false := by simp [glyphG, h3]
        have et : glyphT bs = false := by simp [glyphT, e]
        have en : glyphNum bs = 0 := by rw [glyphNum, e]; rfl
        rw [et, en, e]
        exact Glyphs_cff_no w A bs c h h1 h2 h3
    · by_cases h4 : wd4 bs 0 = 65536
      · by_cases h5 : 32 ≤ bs.length
        · rcases Bool.eq_false_or_eq_true (allF 1 65535 [wd bs 4]) with h3 | h3
          · have e : glyphG bs = true := by simp [glyphG, h1, h4, h3, h5]
            have et : glyphT bs = true := by simp [glyphT, e, h4]
            have en : glyphNum bs = wd bs 4 := by rw [glyphNum, e]; rfl
            rw [et, en, e]
            exact Glyphs_true w A bs c h h1 h5 h4 h3
          · have e : glyphG bs = false := by simp [glyphG, h3]
            have et : glyphT bs = false := by simp [glyphT, e]
            have en : glyphNum bs = 0 := by rw [glyphNum, e]; rfl
            rw [et, en, e]
            exact Glyphs_true_no w A bs c h h1 h5 h4 h3
        · have e : glyphG bs = false := by simp [glyphG, h4, h5]
          have et : glyphT bs = false := by simp [glyphT, e]
          have en : glyphNum bs = 0 := by rw [glyphNum, e]; rfl
          rw [et, en, e]
          exact Glyphs_true_short w A bs c h h1 (by omega) h4
      · have e : glyphG bs = false := by simp [glyphG, h2, h4]
        have et : glyphT bs = false := by simp [glyphT, e]
        have en : glyphNum bs = 0 := by rw [glyphNum, e]; rfl
        rw [et, en, e]
        exact Glyphs_other w A bs c h h1 _ rfl (by simpa using h2) (by simpa using h4)
  · have e : glyphG bs = false := by simp [glyphG, h1]
    have et : glyphT bs = false := by simp [glyphT, e]
    have en : glyphNum bs = 0 := by rw [glyphNum, e]; rfl
    rw [et, en, e]
    exact Glyphs_short w A bs c h (by omega)

theorem rHead_any (w : World) (A : Option Addr) (bs : List UInt8) (c : Nat) (h : Bs w A bs c) :
    Calls Try.prog 28 #[.slice A bs.length c] w fun e w' => e = .returned (.tuple #[.agg (hCells (headV bs)).toArray, .bool (headG bs)]) ∧ Below w.heap.size w w' := by
  have no : headOk bs = false → headG bs = false := fun h1 => by rw [headG, h1]; rfl
  have nv : headG bs = false → headV bs = headZ := fun e => by rw [headV, e]; rfl
  by_cases hl : 54 ≤ bs.length
  · by_cases c0 : wd bs 0 = 1
    · by_cases c1 : wd bs 2 = 0
      · by_cases c2 : wd4 bs 12 = 1594834165
        · by_cases lg : wd bs 50 ≤ 1
          · have hb := (wd_bd bs 50).1
            by_cases c3 : wd bs 52 = 0
            · have h1 : headOk bs = true := by rw [headOk, decide_eq_true hl, decide_eq_true c0, decide_eq_true c1, decide_eq_true c2, decide_eq_true c3]; rfl
              rcases Bool.eq_false_or_eq_true (hMay (headR bs)) with h3 | h3
              · have e : headG bs = true := by rw [headG, h1, h3, decide_eq_true lg]; rfl
                have ev : headV bs = headR bs := by rw [headV, e]; rfl
                rw [ev, e]
                by_cases h4 : wd bs 50 = 1
                · exact rHead_ok1 w A bs c h hl c0 c1 c2 h4 c3 h3
                · exact rHead_ok0 w A bs c h hl c0 c1 c2 (by omega) c3 h3
              · have e : headG bs = false := by rw [headG, h1, h3, decide_eq_true lg]; rfl
                rw [nv e, e]
                by_cases h4 : wd bs 50 = 1
                · exact rHead_may1 w A bs c h hl c0 c1 c2 h4 c3 h3
                · exact rHead_may0 w A bs c h hl c0 c1 c2 (by omega) c3 h3
            · have e := no (by rw [headOk, decide_eq_true hl, decide_eq_true c0, decide_eq_true c1, decide_eq_true c2, decide_eq_false c3]; rfl)
              rw [nv e, e]
              have c3' : (wd bs 52 == 0) = false := by rw [beq_eq_false_iff_ne]; exact c3
              by_cases h4 : wd bs 50 = 1
              · exact rHead_c31 w A bs c h hl c0 c1 c2 h4 c3'
              · exact rHead_c30 w A bs c h hl c0 c1 c2 (by omega) c3'
          · have e : headG bs = false := by rw [headG, decide_eq_false lg, Bool.false_and, Bool.and_false]
            rw [nv e, e]
            exact rHead_lg w A bs c h hl c0 c1 c2 (by omega)
        · have e := no (by rw [headOk, decide_eq_true hl, decide_eq_true c0, decide_eq_true c1, decide_eq_false c2]; rfl)
          rw [nv e, e]
          exact rHead_c2 w A bs c h hl c0 c1 (by rw [beq_eq_false_iff_ne]; exact c2)
      · have e := no (by rw [headOk, decide_eq_true hl, decide_eq_true c0, decide_eq_false c1]; rfl)
        rw [nv e, e]
        exact rHead_c1 w A bs c h hl c0 (by rw [beq_eq_false_iff_ne]; exact c1)
    · have e := no (by rw [headOk, decide_eq_true hl, decide_eq_false c0]; rfl)
      rw [nv e, e]
      exact rHead_c0 w A bs c h hl (by rw [beq_eq_false_iff_ne]; exact c0)
  · have e := no (by rw [headOk, decide_eq_false hl]; rfl)
    rw [nv e, e]
    exact rHead_short w A bs c h (by omega)

theorem rLines_any (w : World) (A : Option Addr) (bs : List UInt8) (c : Nat) (h : Bs w A bs c) :
    Calls Try.prog 38 #[.slice A bs.length c] w fun e w' => e = .returned (.tuple #[.agg (lCells (lineV bs)).toArray, .bool (lineG bs)]) ∧ Below w.heap.size w w' := by
  have no : lineOk bs = false → lineG bs = false := fun h1 => by rw [lineG, h1]; rfl
  have nv : lineG bs = false → lineV bs = lineZ := fun e => by rw [lineV, e]; rfl
  by_cases hl : 36 ≤ bs.length
  · by_cases c0 : wd bs 0 = 1
    · by_cases c1 : wd bs 2 = 0
      · by_cases c2 : wd bs 32 = 0
        · have h1 : lineOk bs = true := by rw [lineOk, decide_eq_true hl, decide_eq_true c0, decide_eq_true c1, decide_eq_true c2]; rfl
          rcases Bool.eq_false_or_eq_true (lMay (lineR bs)) with h3 | h3
          · have e : lineG bs = true := by rw [lineG, h1, h3]; rfl
            have ev : lineV bs = lineR bs := by rw [lineV, e]; rfl
            rw [ev, e]
            exact rLines_ok w A bs c h hl c0 c1 c2 h3
          · have e : lineG bs = false := by rw [lineG, h1, h3]; rfl
            rw [nv e, e]
            exact rLines_may w A bs c h hl c0 c1 c2 h3
        · have e := no (by rw [lineOk, decide_eq_true hl, decide_eq_true c0, decide_eq_true c1, decide_eq_false c2]; rfl)
          rw [nv e, e]
          exact rLines_c2 w A bs c h hl c0 c1 (by rw [beq_eq_false_iff_ne]; exact c2)
      · have e := no (by rw [lineOk, decide_eq_true hl, decide_eq_true c0, decide_eq_false c1]; rfl)
        rw [nv e, e]
        exact rLines_c1 w A bs c h hl c0 (by rw [beq_eq_false_iff_ne]; exact c1)
    · have e := no (by rw [lineOk, decide_eq_true hl, decide_eq_false c0]; rfl)
      rw [nv e, e]
      exact rLines_c0 w A bs c h hl (by rw [beq_eq_false_iff_ne]; exact c0)
  · have e := no (by rw [lineOk, decide_eq_false hl]; rfl)
    rw [nv e, e]
    exact rLines_short w A bs c h (by omega)

theorem rGlyphs_any (w : World) (A : Option Addr) (bs : List UInt8) (c : Nat) (h : Bs w A bs c) :
    Calls Try.prog 31 #[.slice A bs.length c] w fun e w' => e = .returned (.tuple #[.agg #[.int .i64 (glyphNum bs), .bool (glyphT bs)], .bool (glyphG bs)]) ∧ Below w.heap.size w w' := by
  have no : glyphG bs = false → glyphT bs = false ∧ glyphNum bs = 0 := fun e => ⟨by rw [glyphT, e]; rfl, by rw [glyphNum, e]; rfl⟩
  by_cases h1 : 6 ≤ bs.length
  · by_cases h2 : wd4 bs 0 = 20480
    · rcases Bool.eq_false_or_eq_true (allF 1 65535 [wd bs 4]) with h3 | h3
      · have e : glyphG bs = true := by simp [glyphG, h1, h2, h3]
        have et : glyphT bs = false := by simp [glyphT, h2]
        have en : glyphNum bs = wd bs 4 := by rw [glyphNum, e]; rfl
        rw [et, en, e]
        exact rGlyphs_cff w A bs c h h1 h2 h3
      · have e : glyphG bs = false := by simp [glyphG, h3]
        rw [(no e).1, (no e).2, e]
        exact rGlyphs_cff_no w A bs c h h1 h2 h3
    · by_cases h4 : wd4 bs 0 = 65536
      · by_cases h5 : 32 ≤ bs.length
        · rcases Bool.eq_false_or_eq_true (allF 1 65535 [wd bs 4]) with h3 | h3
          · have e : glyphG bs = true := by simp [glyphG, h1, h4, h3, h5]
            have et : glyphT bs = true := by simp [glyphT, e, h4]
            have en : glyphNum bs = wd bs 4 := by rw [glyphNum, e]; rfl
            rw [et, en, e]
            exact rGlyphs_true w A bs c h h5 h4 h3
          · have e : glyphG bs = false := by simp [glyphG, h3]
            rw [(no e).1, (no e).2, e]
            exact rGlyphs_true_no w A bs c h h5 h4 h3
        · have e : glyphG bs = false := by simp [glyphG, h4, h5]
          rw [(no e).1, (no e).2, e]
          exact rGlyphs_true_short w A bs c h h1 (by omega) h4
      · have e : glyphG bs = false := by simp [glyphG, h2, h4]
        rw [(no e).1, (no e).2, e]
        exact rGlyphs_other w A bs c h h1 (by simpa using h4) (by simpa using h2)
  · have e : glyphG bs = false := by simp [glyphG, h1]
    rw [(no e).1, (no e).2, e]
    exact rGlyphs_short w A bs c h (by omega)

/-- What was put is read again, whatever follows. -/
theorem headG_put {h : HeadR} (hm : hMay h = true) (r : List UInt8) : headG (headB h ++ r) = true := by
  have e : wd (headB h ++ r) 50 ≤ 1 := by rw [hb50]; cases h.long <;> decide
  rw [headG, headOk_headB, headR_headB hm, hm, decide_eq_true e]
  rfl
theorem headV_put {h : HeadR} (hm : hMay h = true) (r : List UInt8) : headV (headB h ++ r) = h := by
  rw [headV, headG_put hm, headR_headB hm]
  rfl
theorem lineG_put {h : LineR} (hm : lMay h = true) (r : List UInt8) : lineG (lineB h ++ r) = true := by
  rw [lineG, lineOk_lineB, lineR_lineB hm, hm]
  rfl
theorem lineV_put {h : LineR} (hm : lMay h = true) (r : List UInt8) : lineV (lineB h ++ r) = h := by
  rw [lineV, lineG_put hm, lineR_lineB hm]
  rfl
theorem glyphG_put {n : Int} (hm : allF 1 65535 [n] = true) (t : Bool) (r : List UInt8) : glyphG (glyphB n t ++ r) = true := by
  rw [glyphG, gb4 hm, hm]
  cases t
  · rw [gb0_f, decide_eq_true (by rw [List.length_append, glyphB_len]; simp)]
    rfl
  · rw [gb0_t, decide_eq_true (p := 6 ≤ _) (by rw [List.length_append, glyphB_len]; simp; omega), decide_eq_true (p := 32 ≤ _) (by rw [List.length_append, glyphB_len]; simp)]
    rfl
theorem glyphT_put {n : Int} (hm : allF 1 65535 [n] = true) (t : Bool) (r : List UInt8) : glyphT (glyphB n t ++ r) = t := by
  rw [glyphT, glyphG_put hm]
  cases t
  · rw [gb0_f]
    rfl
  · rw [gb0_t]
    rfl
theorem glyphNum_put {n : Int} (hm : allF 1 65535 [n] = true) (t : Bool) (r : List UInt8) : glyphNum (glyphB n t ++ r) = n := by
  rw [glyphNum, glyphG_put hm, gb4 hm]
  rfl

end Go.Proofs.Ytbmflgcahbkdeaa
