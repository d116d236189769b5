/-
  Layer 15: a real number that is being read: a half byte.
-/
import Derived.Test.YtoofjkhigonppaaDcA
namespace Go.Proofs.Ytoofjkhigonppaa
open Go.RowKit

section
variable {w : World} {g : Nat}
set_option maxRecDepth 20000 in
set_option maxHeartbeats 8000000 in
theorem take_any {f : Fl} (h : Blk w g 83 (flC f)) (hok : FlOk f) (d : Int) (h0 : 0 ≤ d) (h15 : d ≤ 15) :
    Calls Try.prog 54 #[.pointer (some ⟨g, 0, none⟩), .int .i64 d] w (FlR g (takeF f d) w) := by
  have gl := h.lt
  have hd := fun (hw : f.wrong = false) (h9 : d ≤ 9) => digit_any (f := { f with any := true }) (w := w.setCell ⟨g, 9, none⟩ (.bool true)) (g := g) (h.set 9 (.bool true)) (any_ok hok) hw d h0 h9
  obtain ⟨m0, -, d0, d1, b0, b1, e0, e1, x0, x1, sg, -⟩ := hok
  obtain ⟨minus, m, digits, behind, exp, sign, exps, point, wrong, any⟩ := f
  dsimp only at *
  have HB := Lib.hid h
  have c0 : w.cell? ⟨g, 0, none⟩ = some (.bool minus) := h.cell 0
  have c2 : w.cell? ⟨g, 2, none⟩ = some (.int .i64 digits) := h.cell 2
  have c5 : w.cell? ⟨g, 5, none⟩ = some (.int .i64 sign) := h.cell 5
  have c7 : w.cell? ⟨g, 7, none⟩ = some (.bool point) := h.cell 7
  have c8 : w.cell? ⟨g, 8, none⟩ = some (.bool wrong) := h.cell 8
  have c9 : w.cell? ⟨g, 9, none⟩ = some (.bool any) := h.cell 9
  have f0 := h.frozen 0
  have f5 := h.frozen 5
  have f7 := h.frozen 7
  have f8 := h.frozen 8
  have f9 := h.frozen 9
  clear h
  have HT := Lib.hid ((Turn.refl w g none).set 9 (.bool true))
  have H9 := Lib.hid (HB.out.set 9 (.bool true))
  cases wrong with
  | true =>
    have hR : FlR g (takeF ⟨minus, m, digits, behind, exp, sign, exps, point, true, any⟩ d) w (.returned (.tuple #[])) _ := ⟨⟨_, rfl⟩, H9.out, HT.out⟩
    have HR := Lib.hid hR
    clear hR hd
    go_enter Try.func54, Try.ntmps54
    go_wp2_with fail
    with_reducible refine bodyPost_end (v := .tuple #[]) (by simp [results, Try.results54]) rfl ?_
    exact HR.out
  | false =>
    have hd := hd rfl
    by_cases h9 : d ≤ 9
    · have hE : takeF ⟨minus, m, digits, behind, exp, sign, exps, point, false, any⟩ d = digitF ⟨minus, m, digits, behind, exp, sign, exps, point, false, true⟩ d := by unfold takeF; rw [if_neg (by simp), if_pos h9]
      have HD := Lib.hid (hd h9)
      have HE := Lib.hid hE
      clear hd hE
      go_enter Try.func54, Try.ntmps54
      go_wp2_with (first | (go_at_call 61; (with_reducible refine HD.out.mono ?_); rintro e w2 ⟨⟨v', rfl⟩, hb2, ht2⟩; have HB2 := Lib.hid hb2; have HT2 := Lib.hid ht2; clear hb2 ht2) | fail)
      with_reducible refine bodyPost_end (v := .tuple #[]) (by simp [results, Try.results54]) rfl ?_
      rw [HE.out]
      exact ⟨⟨_, rfl⟩, HB2.out, HT.out.trans HT2.out (.inl rfl)⟩
    · clear hd
      have key : d = 14 ∨ d = 10 ∨ d = 11 ∨ d = 12 ∨ d = 13 ∨ d = 15 := by omega
      rcases key with rfl | rfl | rfl | rfl | rfl | rfl
      · have hR : FlR g (takeF ⟨minus, m, digits, behind, exp, sign, exps, point, false, any⟩ 14) w (.returned (.tuple #[])) _ := ⟨⟨_, rfl⟩, (H9.out.set 0 (.bool true)).set 8 (.bool any), (HT.out.set 0 _).set 8 _⟩
        have HR := Lib.hid hR
        clear hR
        cases any
        all_goals
          go_enter Try.func54, Try.ntmps54
          go_wp2_with fail
          with_reducible refine bodyPost_end (v := .tuple #[]) (by simp [results, Try.results54]) rfl ?_
          exact HR.out
      · have hR : FlR g (takeF ⟨minus, m, digits, behind, exp, sign, exps, point, false, any⟩ 10) w (.returned (.tuple #[])) _ := ⟨⟨_, rfl⟩, (H9.out.set 8 (.bool (point || decide (sign ≠ 0)))).set 7 (.bool true), (HT.out.set 8 _).set 7 _⟩
        have HR := Lib.hid hR
        clear hR
        by_cases hs : sign = 0
        · subst hs
          cases point
          all_goals
            go_enter Try.func54, Try.ntmps54
            go_wp2_with fail
            with_reducible refine bodyPost_end (v := .tuple #[]) (by simp [results, Try.results54]) rfl ?_
            exact HR.out
        · have hs2 : (sign != 0) = true := by simpa using hs
          have hs3 : decide (sign ≠ 0) = true := by simpa using hs
          rw [hs3] at HR
          cases point
          all_goals
            go_enter Try.func54, Try.ntmps54
            go_wp2_with fail
            with_reducible refine bodyPost_end (v := .tuple #[]) (by simp [results, Try.results54]) rfl ?_
            exact HR.out
      · have hR : FlR g (takeF ⟨minus, m, digits, behind, exp, sign, exps, point, false, any⟩ 11) w (.returned (.tuple #[])) _ := ⟨⟨_, rfl⟩, (H9.out.set 8 (.bool (decide (sign ≠ 0) || decide (digits = 0)))).set 5 (.int .i64 1), (HT.out.set 8 _).set 5 _⟩
        have HR := Lib.hid hR
        clear hR
        have key : (sign ≠ 0) ∨ (sign = 0 ∧ digits = 0) ∨ (sign = 0 ∧ digits ≠ 0) := by omega
        rcases key with hs | ⟨rfl, rfl⟩ | ⟨rfl, hs⟩
        · have hs2 : (sign != 0) = true := by simpa using hs
          have hs3 : decide (sign ≠ 0) = true := by simpa using hs
          rw [hs3] at HR
          go_enter Try.func54, Try.ntmps54
          go_wp2_with fail
          with_reducible refine bodyPost_end (v := .tuple #[]) (by simp [results, Try.results54]) rfl ?_
          exact HR.out
        · go_enter Try.func54, Try.ntmps54
          go_wp2_with fail
          with_reducible refine bodyPost_end (v := .tuple #[]) (by simp [results, Try.results54]) rfl ?_
          exact HR.out
        · have hs2 : (digits == 0) = false := by simpa using hs
          have hs3 : decide (digits = 0) = false := by simpa using hs
          rw [hs3] at HR
          go_enter Try.func54, Try.ntmps54
          go_wp2_with fail
          with_reducible refine bodyPost_end (v := .tuple #[]) (by simp [results, Try.results54]) rfl ?_
          exact HR.out
      · have hR : FlR g (takeF ⟨minus, m, digits, behind, exp, sign, exps, point, false, any⟩ 12) w (.returned (.tuple #[])) _ := ⟨⟨_, rfl⟩, (H9.out.set 8 (.bool (decide (sign ≠ 0) || decide (digits = 0)))).set 5 (.int .i64 1) |>.set 5 (.int .i64 (-1)), ((HT.out.set 8 _).set 5 _).set 5 _⟩
        have HR := Lib.hid hR
        clear hR
        have key : (sign ≠ 0) ∨ (sign = 0 ∧ digits = 0) ∨ (sign = 0 ∧ digits ≠ 0) := by omega
        rcases key with hs | ⟨rfl, rfl⟩ | ⟨rfl, hs⟩
        · have hs2 : (sign != 0) = true := by simpa using hs
          have hs3 : decide (sign ≠ 0) = true := by simpa using hs
          rw [hs3] at HR
          go_enter Try.func54, Try.ntmps54
          go_wp2_with fail
          with_reducible refine bodyPost_end (v := .tuple #[]) (by simp [results, Try.results54]) rfl ?_
          exact HR.out
        · go_enter Try.func54, Try.ntmps54
          go_wp2_with fail
          with_reducible refine bodyPost_end (v := .tuple #[]) (by simp [results, Try.results54]) rfl ?_
          exact HR.out
        · have hs2 : (digits == 0) = false := by simpa using hs
          have hs3 : decide (digits = 0) = false := by simpa using hs
          rw [hs3] at HR
          go_enter Try.func54, Try.ntmps54
          go_wp2_with fail
          with_reducible refine bodyPost_end (v := .tuple #[]) (by simp [results, Try.results54]) rfl ?_
          exact HR.out
      all_goals
        have hR : FlR g ⟨minus, m, digits, behind, exp, sign, exps, point, true, true⟩ w (.returned (.tuple #[])) _ := ⟨⟨_, rfl⟩, H9.out.set 8 (.bool true), HT.out.set 8 _⟩
        have HR := Lib.hid hR
        clear hR
        go_enter Try.func54, Try.ntmps54
        go_wp2_with fail
        with_reducible refine bodyPost_end (v := .tuple #[]) (by simp [results, Try.results54]) rfl ?_
        exact HR.out
end
end Go.Proofs.Ytoofjkhigonppaa
