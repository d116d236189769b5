/-
  heads: PutLines, PutGlyphs.
-/
import Derived.Test.YtbmflgcahbkdeaaHeadsH
namespace Go.Proofs.Ytbmflgcahbkdeaa
open Go.RowKit

structure LineR where
  a : Int
  d : Int
  g : Int
  m : Int
def lCells (h : LineR) : List Value := [.int .i64 h.a, .int .i64 h.d, .int .i64 h.g, .int .i64 h.m]
def lMay (h : LineR) : Bool := mayLinesB h.a h.d h.g h.m
def lineB (h : LineR) : List UInt8 := beB 2 1 ++ beB 2 0 ++ beB 2 h.a ++ beB 2 h.d ++ beB 2 h.g ++ zeros 22 ++ beB 2 0 ++ beB 2 h.m
def lineVal (h : LineR) (a : Nat × Nat) : Int := if a.2 = 0 then h.a else if a.2 = 1 then h.d else if a.2 = 2 then h.g else h.m
theorem linePut (gh : Nat) (h : LineR) : putAll (lineVal h) (linePl gh) = lineB h := by
  simp [putAll, linePl, plBytes, plX, lineVal, lineB, zeros, List.append_assoc]
theorem lineB_len (h : LineR) : (lineB h).length = 36 := by simp [lineB, zeros, beB_length]
theorem lineVal_at {w : World} {gh : Nat} {h : LineR} {Th : TypeId} (hh : Blk w gh Th (lCells h)) :
    ∀ p ∈ linePl gh, ∀ a, p.to = some a → a.1 < w.heap.size ∧ w.cell? ⟨a.1, a.2, none⟩ = some (.int .i64 (lineVal h a)) := by
  intro p hp a ha
  simp only [linePl, List.mem_cons, List.not_mem_nil, or_false] at hp
  rcases hp with rfl | rfl | rfl | rfl | rfl | rfl | rfl | rfl <;> simp only [Option.some.injEq, reduceCtorEq] at ha <;> subst ha
  all_goals (refine ⟨hh.lt, ?_⟩; rw [hh.cell]; simp [lineVal, lCells])
theorem put_line (W : World) (gh : Nat) (A : Option Addr) (c : Nat) (h : LineR) {Th : TypeId} (hh : Blk W gh Th (lCells h)) (hp : PlsAt W A 8 (linePl gh)) :
    Calls Try.prog 60 #[.int .i64 36, .slice A 8 c] W fun e w' => ∃ A' c', e = .returned (.tuple #[.slice A' 36 c', .int .i64 0]) ∧ SlAt w' A' 36 ((lineB h).map byteV) ∧ Below W.heap.size W w' ∧ (∀ k, rowOf A' = some k → W.heap.size ≤ k) ∧ 36 ≤ c' := by
  have := put_any W 36 A 8 c (linePl gh) (lineVal h) hp (lineVal_at hh) (by omega) (by omega) (by simp) (by rw [linePut gh h, lineB_len]; simp)
  rwa [linePut gh h, lineB_len] at this

set_option maxHeartbeats 2000000 in
theorem PutLines_bad (w : World) (h : LineR) (hm : lMay h = false) :
    Calls Try.prog 34 #[.agg (lCells h).toArray] w fun e w' => e = .returned (.tuple #[.slice none 0 0, .int .i64 1]) ∧ Below w.heap.size w w' := by
  obtain ⟨a, d, g, m⟩ := h
  have hm' : mayLinesB a d g m = false := hm
  clear hm
  show Calls Try.prog 34 #[.agg #[.int .i64 a, .int .i64 d, .int .i64 g, .int .i64 m]] w _
  go_enter Try.func34, Try.ntmps34
  go_wp2_with (first | (go_at_call 71; (with_reducible refine (mayLines_any _ _ _ _ _).mono ?_); rw [hm']; rintro e w1 ⟨rfl, hb1⟩))
  go_ret2
  exact ⟨rfl, Bel.below (bel_call hb1 (bel_alloc bel_refl))⟩

set_option maxHeartbeats 4000000 in
theorem PutLines_ok (w : World) (h : LineR) (hm : lMay h = true) :
    Calls Try.prog 34 #[.agg (lCells h).toArray] w fun e w' => ∃ A' c', e = .returned (.tuple #[.slice A' 36 c', .int .i64 0]) ∧ SlAt w' A' 36 ((lineB h).map byteV) ∧ Below w.heap.size w w' ∧ (∀ k, rowOf A' = some k → w.heap.size ≤ k) ∧ 36 ≤ c' := by
  obtain ⟨a, d, g, m⟩ := h
  have hm' : mayLinesB a d g m = true := hm
  clear hm
  show Calls Try.prog 34 #[.agg #[.int .i64 a, .int .i64 d, .int .i64 g, .int .i64 m]] w _
  go_enter Try.func34, Try.ntmps34
  go_wp2_with (first
    | (go_at_call 71; (with_reducible refine (mayLines_any _ _ _ _ _).mono ?_); rw [hm']; rintro e w1 ⟨rfl, hb1⟩
       have hs1 := hb1.size
       rw [World.size_alloc] at hs1
       have hB1 := Lib.hid ((Blk.new w 69 [.int .i64 a, .int .i64 d, .int .i64 g, .int .i64 m]).keepB hb1)
       have HB1 := Lib.hid (Bel.mk ((bel_alloc bel_refl).below.trans (hb1.mono (by simp))) (by omega : w.heap.size ≤ w1.heap.size))
       clear hb1)
    | (go_at_call 72; (with_reducible refine (linePlaces_any _ _).mono ?_); rintro e w2 ⟨q, hq, rfl, hpl, hb2⟩
       have HH2 := Lib.hid (hB1.out.keepB hb2)
       have HB2 := Lib.hid (bel_call hb2 HB1.out)
       have HPL := Lib.hid hpl
       clear hb2 hpl)
    | (go_at_call 60; (with_reducible refine (put_line _ _ _ _ ⟨a, d, g, m⟩ HH2.out HPL.out).mono ?_); rintro e w3 ⟨A3, c3, rfl, hs3, hb3, hr3, hk3⟩))
  go_ret2
  exact ⟨A3, c3, rfl, hs3, (bel_call hb3 HB2.out).below, fun k hk => Nat.le_trans HB2.out.le (hr3 k hk), hk3⟩

def glyphB (n : Int) (tr : Bool) : List UInt8 := beB 4 (if tr then 65536 else 20480) ++ beB 2 n ++ if tr then zeros 26 else []
def glyphVal (gv : Nat) (n : Int) (tr : Bool) (a : Nat × Nat) : Int := if a.1 = gv then (if tr then 65536 else 20480) else n
theorem glyphPut (gv gn : Nat) (n : Int) (tr : Bool) (hne : gn ≠ gv) : putAll (glyphVal gv n tr) (glyphPl gv gn tr) = glyphB n tr := by
  cases tr <;> simp [putAll, glyphPl, plBytes, plX, glyphVal, glyphB, zeros, hne]
theorem glyphB_len (n : Int) (tr : Bool) : (glyphB n tr).length = if tr then 32 else 6 := by cases tr <;> simp [glyphB, zeros, beB_length]
theorem glyphVal_at {w : World} {gv gn : Nat} {n : Int} {tr : Bool} {Tv Tn : TypeId} {x : Value} (hne : gn ≠ gv) (hv : Blk w gv Tv [.int .i64 (if tr then 65536 else 20480)]) (hn : Blk w gn Tn [.int .i64 n, x]) :
    ∀ p ∈ glyphPl gv gn tr, ∀ a, p.to = some a → a.1 < w.heap.size ∧ w.cell? ⟨a.1, a.2, none⟩ = some (.int .i64 (glyphVal gv n tr a)) := by
  intro p hp a ha
  have hp' : p = ⟨some (gv, 0), false, true, 0, false, 0⟩ ∨ p = ⟨some (gn, 0), false, false, 0, false, 0⟩ ∨ p = ⟨none, false, false, 26, false, 0⟩ := by
    cases tr <;> simp [glyphPl] at hp
    · rcases hp with h | h
      · exact .inl h
      · exact .inr (.inl h)
    · exact hp
  rcases hp' with rfl | rfl | rfl <;> simp only [Option.some.injEq, reduceCtorEq] at ha <;> subst ha
  · refine ⟨hv.lt, ?_⟩
    rw [hv.cell]
    simp [glyphVal]
  · refine ⟨hn.lt, ?_⟩
    rw [hn.cell]
    simp [glyphVal, hne]
theorem put_glyph (W : World) (gv gn : Nat) (A : Option Addr) (k c : Nat) (n : Int) (tr : Bool) {Tv Tn : TypeId} {x : Value} (hk : k = if tr then 3 else 2) (hne : gn ≠ gv) (hv : Blk W gv Tv [.int .i64 (if tr then 65536 else 20480)]) (hn : Blk W gn Tn [.int .i64 n, x]) (hp : PlsAt W A k (glyphPl gv gn tr)) :
    Calls Try.prog 60 #[.int .i64 32, .slice A k c] W fun e w' => ∃ A' c', e = .returned (.tuple #[.slice A' (if tr then 32 else 6) c', .int .i64 0]) ∧ SlAt w' A' (if tr then 32 else 6) ((glyphB n tr).map byteV) ∧ Below W.heap.size W w' ∧ (∀ k, rowOf A' = some k → W.heap.size ≤ k) ∧ (if tr then 32 else 6) ≤ c' := by
  have := put_any W 32 A k c (glyphPl gv gn tr) (glyphVal gv n tr) hp (glyphVal_at hne hv hn) (by omega) (by omega) (by subst hk; cases tr <;> simp) (by rw [glyphPut gv gn n tr hne, glyphB_len]; cases tr <;> simp)
  rwa [glyphPut gv gn n tr hne, glyphB_len] at this

set_option maxHeartbeats 2000000 in
theorem PutGlyphs_bad (w : World) (n : Int) (tr : Bool) (hm : allF 1 65535 [n] = false) :
    Calls Try.prog 29 #[.agg #[.int .i64 n, .bool tr]] w fun e w' => e = .returned (.tuple #[.slice none 0 0, .int .i64 1]) ∧ Below w.heap.size w w' := by
  go_enter Try.func29, Try.ntmps29
  go_wp2_with (first | (go_at_call 69; (with_reducible refine (mayGlyphs_any _ _ _).mono ?_); rw [hm]; rintro e w1 ⟨rfl, hb1⟩))
  go_ret2
  exact ⟨rfl, Bel.below (bel_call hb1 (bel_alloc bel_refl))⟩

set_option maxHeartbeats 4000000 in
theorem PutGlyphs_true (w : World) (n : Int) (hm : allF 1 65535 [n] = true) :
    Calls Try.prog 29 #[.agg #[.int .i64 n, .bool true]] w fun e w' => ∃ A' c', e = .returned (.tuple #[.slice A' 32 c', .int .i64 0]) ∧ SlAt w' A' 32 ((glyphB n true).map byteV) ∧ Below w.heap.size w w' ∧ (∀ k, rowOf A' = some k → w.heap.size ≤ k) ∧ 32 ≤ c' := by
  go_enter Try.func29, Try.ntmps29
  go_wp2_with (first
    | (go_at_call 69; (with_reducible refine (mayGlyphs_any _ _ _).mono ?_); rw [hm]; rintro e w1 ⟨rfl, hb1⟩
       have hs1 := hb1.size
       rw [World.size_alloc] at hs1
       have hB1 := Lib.hid ((Blk.new w 59 [.int .i64 n, .bool true]).keepB hb1)
       have k5 : w1.cell? ⟨w.heap.size, 1, none⟩ = some (.bool true) := by rw [hB1.out.cell]; rfl
       have HB1 := Lib.hid (Bel.mk ((bel_alloc bel_refl).below.trans (hb1.mono (by simp))) (by omega : w.heap.size ≤ w1.heap.size))
       clear hb1)
    | (go_at_call 70; (with_reducible refine (glyphPlaces_t _ _ _).mono ?_); rintro e w2 ⟨A2, c2, rfl, hrw2, hpl, hb2⟩
       have HH2 := Lib.hid ((hB1.out.alloc (.cells #[.int .i64 65536] 3)).keepB hb2)
       have HL2 := Lib.hid ((Blk.new w1 3 [.int .i64 65536]).keepB hb2)
       have HB2 := Lib.hid (bel_call hb2 (bel_alloc HB1.out))
       have HPL := Lib.hid hpl
       clear hb2 hpl)
    | (go_at_call 60; (with_reducible refine (put_glyph _ _ _ _ _ _ n true ?_ ?_ HL2.out HH2.out HPL.out).mono ?_); (· rfl); (· omega); rintro e w3 ⟨A3, c3, rfl, hs3, hb3, hr3, hk3⟩))
  go_ret2
  exact ⟨A3, c3, rfl, hs3, (bel_call hb3 HB2.out).below, fun k hk => Nat.le_trans HB2.out.le (hr3 k hk), hk3⟩

set_option maxHeartbeats 4000000 in
theorem PutGlyphs_false (w : World) (n : Int) (hm : allF 1 65535 [n] = true) :
    Calls Try.prog 29 #[.agg #[.int .i64 n, .bool false]] w fun e w' => ∃ A' c', e = .returned (.tuple #[.slice A' 6 c', .int .i64 0]) ∧ SlAt w' A' 6 ((glyphB n false).map byteV) ∧ Below w.heap.size w w' ∧ (∀ k, rowOf A' = some k → w.heap.size ≤ k) ∧ 6 ≤ c' := by
  go_enter Try.func29, Try.ntmps29
  go_wp2_with (first
    | (go_at_call 69; (with_reducible refine (mayGlyphs_any _ _ _).mono ?_); rw [hm]; rintro e w1 ⟨rfl, hb1⟩
       have hs1 := hb1.size
       rw [World.size_alloc] at hs1
       have hB1 := Lib.hid ((Blk.new w 59 [.int .i64 n, .bool false]).keepB hb1)
       have k5 : w1.cell? ⟨w.heap.size, 1, none⟩ = some (.bool false) := by rw [hB1.out.cell]; rfl
       have HB1 := Lib.hid (Bel.mk ((bel_alloc bel_refl).below.trans (hb1.mono (by simp))) (by omega : w.heap.size ≤ w1.heap.size))
       clear hb1)
    | (go_at_call 70; (with_reducible refine (glyphPlaces_f _ _ _).mono ?_); rintro e w2 ⟨q, hq, rfl, hpl, hb2⟩
       have HH2 := Lib.hid ((hB1.out.alloc (.cells #[.int .i64 20480] 3)).keepB hb2)
       have HL2 := Lib.hid ((Blk.new w1 3 [.int .i64 20480]).keepB hb2)
       have HB2 := Lib.hid (bel_call hb2 (bel_alloc HB1.out))
       have HPL := Lib.hid hpl
       clear hb2 hpl)
    | (go_at_call 60; (with_reducible refine (put_glyph _ _ _ _ _ _ n false ?_ ?_ HL2.out HH2.out HPL.out).mono ?_); (· rfl); (· omega); rintro e w3 ⟨A3, c3, rfl, hs3, hb3, hr3, hk3⟩))
  go_ret2
  exact ⟨A3, c3, rfl, hs3, (bel_call hb3 HB2.out).below, fun k hk => Nat.le_trans HB2.out.le (hr3 k hk), hk3⟩

end Go.Proofs.Ytbmflgcahbkdeaa
