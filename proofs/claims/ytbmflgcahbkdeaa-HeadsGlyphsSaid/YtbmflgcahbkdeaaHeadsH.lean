/-
  heads: PutHead, PutLines, PutGlyphs.
-/
import Derived.Test.YtbmflgcahbkdeaaBs
import Derived.Test.YtbmflgcahbkdeaaHeadsD
import Derived.Test.YtbmflgcahbkdeaaHeadsE
import Derived.Test.YtbmflgcahbkdeaaHeadsG
namespace Go.Proofs.Ytbmflgcahbkdeaa
open Go.RowKit

structure HeadR where
  u : Int
  fl : Int
  x0 : Int
  y0 : Int
  x1 : Int
  y1 : Int
  st : Int
  le : Int
  long : Bool
def hCells (h : HeadR) : List Value := [.int .i64 h.u, .int .i64 h.fl, .int .i64 h.x0, .int .i64 h.y0, .int .i64 h.x1, .int .i64 h.y1, .int .i64 h.st, .int .i64 h.le, .bool h.long]
def hMay (h : HeadR) : Bool := mayHeadB h.u h.fl h.x0 h.y0 h.x1 h.y1 h.st h.le
def zeros (n : Nat) : List UInt8 := List.replicate n 0
/-- The table of a head. -/
def headB (h : HeadR) : List UInt8 := beB 2 1 ++ beB 2 0 ++ zeros 4 ++ zeros 4 ++ beB 4 1594834165 ++ beB 2 h.fl ++ beB 2 h.u ++ zeros 16 ++ beB 2 h.x0 ++ beB 2 h.y0 ++ beB 2 h.x1 ++ beB 2 h.y1 ++ beB 2 h.st ++ beB 2 h.le ++ zeros 2 ++ beB 2 (if h.long then 1 else 0) ++ beB 2 0
def headVal (gh : Nat) (h : HeadR) (a : Nat × Nat) : Int :=
  if a.1 = gh then (if a.2 = 0 then h.u else if a.2 = 1 then h.fl else if a.2 = 2 then h.x0 else if a.2 = 3 then h.y0 else if a.2 = 4 then h.x1 else if a.2 = 5 then h.y1 else if a.2 = 6 then h.st else h.le) else (if h.long then 1 else 0)
theorem headPut (gh gl : Nat) (h : HeadR) (hne : gl ≠ gh) : putAll (headVal gh h) (headPl gh gl) = headB h := by
  simp [putAll, headPl, plBytes, plX, headVal, hne, headB, zeros, List.append_assoc]
theorem headB_len (h : HeadR) : (headB h).length = 54 := by simp [headB, zeros, beB_length]

theorem headVal_at {w : World} {gh gl : Nat} {h : HeadR} {Th Tl : TypeId} (hne : gl ≠ gh) (hh : Blk w gh Th (hCells h)) (hl : Blk w gl Tl [.int .i64 (if h.long then 1 else 0)]) :
    ∀ p ∈ headPl gh gl, ∀ a, p.to = some a → a.1 < w.heap.size ∧ w.cell? ⟨a.1, a.2, none⟩ = some (.int .i64 (headVal gh h a)) := by
  intro p hp a ha
  simp only [headPl, List.mem_cons, List.not_mem_nil, or_false] at hp
  rcases hp with rfl | rfl | rfl | rfl | rfl | rfl | rfl | rfl | rfl | rfl | rfl | rfl | rfl | rfl | rfl | rfl | rfl <;> simp only [Option.some.injEq, reduceCtorEq] at ha <;> subst ha
  all_goals first
    | (refine ⟨hh.lt, ?_⟩; rw [hh.cell]; simp [headVal, hCells])
    | (refine ⟨hl.lt, ?_⟩; rw [hl.cell]; simp [headVal, hne])

theorem put_head (W : World) (gh gl : Nat) (A : Option Addr) (c : Nat) (h : HeadR) {Th Tl : TypeId} (hne : gl ≠ gh) (hh : Blk W gh Th (hCells h)) (hl : Blk W gl Tl [.int .i64 (if h.long then 1 else 0)]) (hp : PlsAt W A 17 (headPl gh gl)) :
    Calls Try.prog 60 #[.int .i64 54, .slice A 17 c] W fun e w' => ∃ A' c', e = .returned (.tuple #[.slice A' 54 c', .int .i64 0]) ∧ SlAt w' A' 54 ((headB h).map byteV) ∧ Below W.heap.size W w' ∧ (∀ k, rowOf A' = some k → W.heap.size ≤ k) ∧ 54 ≤ c' := by
  have := put_any W 54 A 17 c (headPl gh gl) (headVal gh h) hp (headVal_at hne hh hl) (by omega) (by omega) (by simp) (by rw [headPut gh gl h hne, headB_len]; simp)
  rwa [headPut gh gl h hne, headB_len] at this

set_option maxHeartbeats 2000000 in
theorem PutHead_bad (w : World) (h : HeadR) (hm : hMay h = false) :
    Calls Try.prog 23 #[.agg (hCells h).toArray] w fun e w' => e = .returned (.tuple #[.slice none 0 0, .int .i64 1]) ∧ Below w.heap.size w w' := by
  obtain ⟨u, fl, x0, y0, x1, y1, st, le, long⟩ := h
  have hm' : mayHeadB u fl x0 y0 x1 y1 st le = false := hm
  clear hm
  show Calls Try.prog 23 #[.agg #[.int .i64 u, .int .i64 fl, .int .i64 x0, .int .i64 y0, .int .i64 x1, .int .i64 y1, .int .i64 st, .int .i64 le, .bool long]] w _
  go_enter Try.func23, Try.ntmps23
  go_wp2_with (first | (go_at_call 59; (with_reducible refine (mayHead_any _ _ _ _ _ _ _ _ _ _).mono ?_); rw [hm']; rintro e w1 ⟨rfl, hb1⟩))
  go_ret2
  exact ⟨rfl, Bel.below (bel_call hb1 (bel_alloc bel_refl))⟩

set_option maxHeartbeats 4000000 in
theorem PutHead_ok (w : World) (h : HeadR) (hm : hMay h = true) :
    Calls Try.prog 23 #[.agg (hCells h).toArray] w fun e w' => ∃ A' c', e = .returned (.tuple #[.slice A' 54 c', .int .i64 0]) ∧ SlAt w' A' 54 ((headB h).map byteV) ∧ Below w.heap.size w w' ∧ (∀ k, rowOf A' = some k → w.heap.size ≤ k) ∧ 54 ≤ c' := by
  obtain ⟨u, fl, x0, y0, x1, y1, st, le, long⟩ := h
  have hm' : mayHeadB u fl x0 y0 x1 y1 st le = true := hm
  clear hm
  show Calls Try.prog 23 #[.agg #[.int .i64 u, .int .i64 fl, .int .i64 x0, .int .i64 y0, .int .i64 x1, .int .i64 y1, .int .i64 st, .int .i64 le, .bool long]] w _
  cases long with
  | true =>
    go_enter Try.func23, Try.ntmps23
    go_wp2_with (first
      | (go_at_call 59; (with_reducible refine (mayHead_any _ _ _ _ _ _ _ _ _ _).mono ?_); rw [hm']; rintro e w1 ⟨rfl, hb1⟩
         have hs1 := hb1.size
         rw [World.size_alloc] at hs1
         have hB1 := Lib.hid ((Blk.new w 48 [.int .i64 u, .int .i64 fl, .int .i64 x0, .int .i64 y0, .int .i64 x1, .int .i64 y1, .int .i64 st, .int .i64 le, .bool true]).keepB hb1)
         have k5 : w1.cell? ⟨w.heap.size, 8, none⟩ = some (.bool true) := by rw [hB1.out.cell]; rfl
         have HB1 := Lib.hid (Bel.mk ((bel_alloc bel_refl).below.trans (hb1.mono (by simp))) (by omega : w.heap.size ≤ w1.heap.size))
         clear hb1)
      | (go_at_call 61; (with_reducible refine (headPlaces_any _ _ _).mono ?_); rintro e w2 ⟨g, hg, rfl, hpl, hb2⟩
         have HH2 := Lib.hid ((hB1.out.alloc (.cells #[.int .i64 1] 3)).keepB hb2)
         have HL2 := Lib.hid ((Blk.new w1 3 [.int .i64 1]).keepB hb2)
         have HB2 := Lib.hid (bel_call hb2 (bel_alloc HB1.out))
         have HPL := Lib.hid hpl
         clear hb2 hpl)
      | (go_at_call 60; (with_reducible refine (put_head _ _ _ _ _ ⟨u, fl, x0, y0, x1, y1, st, le, true⟩ ?_ HH2.out HL2.out HPL.out).mono ?_); (· omega); rintro e w3 ⟨A3, c3, rfl, hs3, hb3, hr3, hk3⟩))
    go_ret2
    exact ⟨A3, c3, rfl, hs3, (bel_call hb3 HB2.out).below, fun k hk => Nat.le_trans HB2.out.le (hr3 k hk), hk3⟩
  | false =>
    go_enter Try.func23, Try.ntmps23
    go_wp2_with (first
      | (go_at_call 59; (with_reducible refine (mayHead_any _ _ _ _ _ _ _ _ _ _).mono ?_); rw [hm']; rintro e w1 ⟨rfl, hb1⟩
         have hs1 := hb1.size
         rw [World.size_alloc] at hs1
         have hB1 := Lib.hid ((Blk.new w 48 [.int .i64 u, .int .i64 fl, .int .i64 x0, .int .i64 y0, .int .i64 x1, .int .i64 y1, .int .i64 st, .int .i64 le, .bool false]).keepB hb1)
         have k5 : w1.cell? ⟨w.heap.size, 8, none⟩ = some (.bool false) := by rw [hB1.out.cell]; rfl
         have HB1 := Lib.hid (Bel.mk ((bel_alloc bel_refl).below.trans (hb1.mono (by simp))) (by omega : w.heap.size ≤ w1.heap.size))
         clear hb1)
      | (go_at_call 61; (with_reducible refine (headPlaces_any _ _ _).mono ?_); rintro e w2 ⟨g, hg, rfl, hpl, hb2⟩
         have HH2 := Lib.hid ((hB1.out.alloc (.cells #[.int .i64 0] 3)).keepB hb2)
         have HL2 := Lib.hid ((Blk.new w1 3 [.int .i64 0]).keepB hb2)
         have HB2 := Lib.hid (bel_call hb2 (bel_alloc HB1.out))
         have HPL := Lib.hid hpl
         clear hb2 hpl)
      | (go_at_call 60; (with_reducible refine (put_head _ _ _ _ _ ⟨u, fl, x0, y0, x1, y1, st, le, false⟩ ?_ HH2.out HL2.out HPL.out).mono ?_); (· omega); rintro e w3 ⟨A3, c3, rfl, hs3, hb3, hr3, hk3⟩))
    go_ret2
    exact ⟨A3, c3, rfl, hs3, (bel_call hb3 HB2.out).below, fun k hk => Nat.le_trans HB2.out.le (hr3 k hk), hk3⟩

end Go.Proofs.Ytbmflgcahbkdeaa
