/-
  A square's part of a tally.
-/
import Derived.Test.YtnmnehgcliiofaaExC
import Derived.Test.YtnmnehgcliiofaaWire
import Derived.Deep.DeepCutAuto
namespace Go.Proofs.Ytnmnehgcliiofaa
open Go.RowKit

/-- A tally that is being made. -/
structure Ty where
  touched : Int
  inside : Int
  most : Int
  least : Int
  lines : Int
  plain : Bool
def Ty.cells (t : Ty) : List Value := [.int .i64 t.touched, .int .i64 t.inside, .int .i64 t.most, .int .i64 t.least, .int .i64 t.lines, .bool t.plain]
def Ty.square (t : Ty) (n : Int) : Ty :=
  ⟨t.touched, if n = 0 then t.inside else t.inside + 1, if t.plain then max t.most n else n, if t.plain then min t.least n else n, t.lines, true⟩

set_option maxRecDepth 20000 in
set_option maxHeartbeats 2000000 in
theorem square_any {w : World} {tb : Nat} {t : Ty} {n : Int} (h : Blk w tb 104 t.cells) (hi : 0 ≤ t.inside ∧ t.inside ≤ 1000000) :
    Calls Try.prog 69 #[.pointer (some ⟨tb, 0, none⟩), .int .i64 n] w fun e w' => e = .returned (.tuple #[]) ∧ Blk w' tb 104 (t.square n).cells ∧ Turn w w' tb none := by
  obtain ⟨a, b, m, l, li, p⟩ := t
  dsimp only at hi
  have k0 := h.cell 0
  have k1 := h.cell 1
  have k2 := h.cell 2
  have k3 := h.cell 3
  have k5 := h.cell 5
  have f0 := h.frozen 0
  have f1 := h.frozen 1
  have f2 := h.frozen 2
  have f3 := h.frozen 3
  have f5 := h.frozen 5
  simp [Ty.cells] at k0 k1 k2 k3 k5
  have HB := Lib.hid h
  have E : Hid ((Ty.square ⟨a, b, m, l, li, p⟩ n).cells = [.int .i64 a, .int .i64 (if n = 0 then b else b + 1), .int .i64 (if p then max m n else n), .int .i64 (if p then min l n else n), .int .i64 li, .bool true]) := Lib.hid rfl
  clear h
  obtain ⟨b2, hb2⟩ : ∃ b2 : Int, (if n = 0 then b else b + 1) = b2 := ⟨_, rfl⟩
  obtain ⟨m2, hm2⟩ : ∃ m2 : Int, (if p = true then m else n) = m2 := ⟨_, rfl⟩
  obtain ⟨l2, hl2⟩ : ∃ l2 : Int, (if p = true then l else n) = l2 := ⟨_, rfl⟩
  have E2 : Hid ((Ty.square ⟨a, b, m, l, li, p⟩ n).cells = [.int .i64 a, .int .i64 b2, .int .i64 (max m2 n), .int .i64 (min l2 n), .int .i64 li, .bool true]) := Lib.hid (by
    rw [E.out, ← hb2, ← hm2, ← hl2]
    cases p
    · simp
    · simp)
  have HB2 := Lib.hid hb2
  have HM2 := Lib.hid hm2
  have HL2 := Lib.hid hl2
  clear hb2 hm2 hl2 E
  go_enter Try.func69, Try.ntmps69
  go_upto_if 5 with fail
  go_cut [] (fun wx => Hid (Blk wx tb 104 [.int .i64 a, .int .i64 b2, .int .i64 m, .int .i64 l, .int .i64 li, .bool p]) ∧ Hid (Turn w wx tb none))
  case first =>
    by_cases hn : n = 0
    · have e := HB2.out
      rw [if_pos hn] at e
      subst e
      have hn2 : (n != 0) = false := by simpa using hn
      go_wp2_with fail
      go_meet
      exact ⟨HB, Lib.hid (Turn.refl _ _ _)⟩
    · have e := HB2.out
      rw [if_neg hn] at e
      subst e
      have hn2 : (n != 0) = true := by simpa using hn
      go_wp2_with fail
      go_meet
      exact ⟨Lib.hid (HB.out.set 1 (.int .i64 (b + 1))), Lib.hid ((Turn.refl _ _ _).set 1 _)⟩
  case rest =>
    obtain ⟨HB3, HT3⟩ := hcut
    clear k0 k1 k2 k3 k5 f0 f1 f2 f3 f5
    have k5 := HB3.out.cell 5
    have f2 := HB3.out.frozen 2
    have f3 := HB3.out.frozen 3
    have f5 := HB3.out.frozen 5
    have k2 := HB3.out.cell 2
    have k3 := HB3.out.cell 3
    simp at k5 k2 k3
    go_upto_if 19 with fail
    go_cut [] (fun wx => Hid (Blk wx tb 104 [.int .i64 a, .int .i64 b2, .int .i64 m2, .int .i64 l2, .int .i64 li, .bool true]) ∧ Hid (Turn w wx tb none))
    case first =>
      cases p
      · have e1 := HM2.out
        have e2 := HL2.out
        simp at e1 e2
        subst e1 e2
        go_wp2_with fail
        go_meet
        exact ⟨Lib.hid (((HB3.out.set 2 (.int .i64 n)).set 3 (.int .i64 n)).set 5 (.bool true)), Lib.hid (((HT3.out.set 2 _).set 3 _).set 5 _)⟩
      · have e1 := HM2.out
        have e2 := HL2.out
        simp at e1 e2
        subst e1 e2
        go_wp2_with fail
        go_meet
        exact ⟨HB3, HT3⟩
    case rest =>
      obtain ⟨HB4, HT4⟩ := hcut
      clear k5 k2 k3 f5 f2 f3 HB HB3 HT3 HB2 HM2 HL2
      have k2 := HB4.out.cell 2
      have k3 := HB4.out.cell 3
      have f2 := HB4.out.frozen 2
      have f3 := HB4.out.frozen 3
      simp at k2 k3
      go_wp2_with fail
      go_region_with (fail)
      all_goals
        go_wp2
        with_reducible refine bodyPost_end (v := .tuple #[]) (by simp [results, Try.results69]) rfl ⟨rfl, ?_, ?_⟩
        · rw [E2.out]
          first | exact (HB4.out.drew.set 2 _).set 3 _ | exact (HB4.out.drew.set 3 _).set 2 _
        · first | exact ((HT4.out.drewN 1).set 2 _).set 3 _ | exact ((HT4.out.drewN 1).set 3 _).set 2 _
end Go.Proofs.Ytnmnehgcliiofaa
