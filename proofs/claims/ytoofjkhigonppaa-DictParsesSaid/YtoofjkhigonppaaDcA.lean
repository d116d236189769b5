/-
  Layer 15: a real number that is being read: its half bytes, one by one.
-/
import Derived.Test.YtoofjkhigonppaaRdU
import Derived.Test.YtoofjkhigonppaaTn
import Derived.Test.YtoofjkhigonppaaTail
namespace Go.Proofs.Ytoofjkhigonppaa
open Go.RowKit

structure Fl where
  minus : Bool
  m : Int
  digits : Int
  behind : Int
  exp : Int
  sign : Int
  exps : Int
  point : Bool
  wrong : Bool
  any : Bool
def fl0 : Fl := ⟨false, 0, 0, 0, 0, 0, 0, false, false, false⟩
def flC (f : Fl) : List Value := [.bool f.minus, .int .u64 f.m, .int .i64 f.digits, .int .i64 f.behind, .int .i64 f.exp, .int .i64 f.sign, .int .i64 f.exps, .bool f.point, .bool f.wrong, .bool f.any]
def digitF (f : Fl) (h : Int) : Fl :=
  if f.sign ≠ 0 then { f with exp := 10 * f.exp + h, exps := f.exps + 1, wrong := decide (2 < f.exps + 1) }
  else { f with m := 10 * f.m + h, digits := f.digits + 1, behind := if f.point = true then f.behind + 1 else f.behind, wrong := decide (15 < f.digits + 1) }
def takeF (f : Fl) (h : Int) : Fl :=
  if f.wrong = true then { f with any := true }
  else if h ≤ 9 then digitF { f with any := true } h
  else if h = 14 then { f with any := true, minus := true, wrong := f.any }
  else if h = 10 then { f with any := true, wrong := f.point || decide (f.sign ≠ 0), point := true }
  else if h = 11 ∨ h = 12 then { f with any := true, wrong := decide (f.sign ≠ 0) || decide (f.digits = 0), sign := if h = 12 then -1 else 1 }
  else { f with any := true, wrong := true }
/-- What such a number never passes. -/
structure FlOk (f : Fl) : Prop where
  m0 : 0 ≤ f.m
  m1 : f.m < 10 ^ f.digits.toNat
  d0 : 0 ≤ f.digits
  d1 : f.digits ≤ 16
  b0 : 0 ≤ f.behind
  b1 : f.behind ≤ f.digits
  e0 : 0 ≤ f.exp
  e1 : f.exp < 1000
  x0 : 0 ≤ f.exps
  x1 : f.exps ≤ 3
  s : f.sign = 0 ∨ f.sign = 1 ∨ f.sign = -1
  ok : f.wrong = false → f.digits ≤ 15 ∧ f.exp < 100 ∧ f.exps ≤ 2 ∧ (f.exps = 0 → f.exp = 0) ∧ (f.exps = 1 → f.exp < 10)
theorem fl0_ok : FlOk fl0 := by constructor <;> simp [fl0]
theorem any_ok {f : Fl} (h : FlOk f) : FlOk { f with any := true } := ⟨h.m0, h.m1, h.d0, h.d1, h.b0, h.b1, h.e0, h.e1, h.x0, h.x1, h.s, h.ok⟩
theorem p10 {k n : Nat} (h : k ≤ n) : (10 : Int) ^ k ≤ 10 ^ n := by
  have := Nat.pow_le_pow_right (n := 10) (by omega) h
  exact_mod_cast this
theorem FlOk.m2 {f : Fl} (h : FlOk f) : f.m < 10000000000000000 := by
  have h1 := h.m1
  have h2 := p10 (show f.digits.toNat ≤ 16 by have := h.d1; omega)
  have h3 : (10 : Int) ^ 16 = 10000000000000000 := by decide
  omega
theorem digitF_ok {f : Fl} (h : FlOk f) (hw : f.wrong = false) {d : Int} (h0 : 0 ≤ d) (h9 : d ≤ 9) : FlOk (digitF f d) := by
  obtain ⟨m0, m1, d0, d1, b0, b1, e0, e1, x0, x1, hs, ok⟩ := h
  obtain ⟨o1, o2, o3, o4, o5⟩ := ok hw
  unfold digitF
  split
  · refine ⟨m0, m1, d0, d1, b0, b1, by simp only; omega, ?_, by simp only; omega, by simp only; omega, hs, ?_⟩
    · simp only; omega
    · simp only [decide_eq_false_iff_not]
      intro h
      refine ⟨o1, ?_, by omega, by omega, ?_⟩
      · have : f.exps = 0 ∨ f.exps = 1 := by omega
        rcases this with h | h
        · have := o4 h; omega
        · have := o5 h; omega
      · intro h1
        have := o4 (by omega)
        omega
  · refine ⟨by simp only; omega, ?_, by simp only; omega, by simp only; omega, by simp only; split <;> omega, by simp only; split <;> omega, e0, e1, x0, x1, hs, ?_⟩
    · simp only
      rw [show (f.digits + 1).toNat = f.digits.toNat + 1 by omega, Int.pow_succ]
      omega
    · simp only [decide_eq_false_iff_not]
      intro h
      exact ⟨by omega, o2, o3, o4, o5⟩
theorem takeF_ok {f : Fl} (h : FlOk f) {d : Int} (h0 : 0 ≤ d) : FlOk (takeF f d) := by
  obtain ⟨m0, m1, d0, d1, b0, b1, e0, e1, x0, x1, hs, ok⟩ := h
  unfold takeF
  split
  · exact ⟨m0, m1, d0, d1, b0, b1, e0, e1, x0, x1, hs, ok⟩
  · rename_i hw
    have hw' : f.wrong = false := by simpa using hw
    split
    · rename_i h9
      exact digitF_ok (f := { f with any := true }) ⟨m0, m1, d0, d1, b0, b1, e0, e1, x0, x1, hs, ok⟩ hw' h0 h9
    · split
      · exact ⟨m0, m1, d0, d1, b0, b1, e0, e1, x0, x1, hs, fun _ => ok hw'⟩
      · split
        · exact ⟨m0, m1, d0, d1, b0, b1, e0, e1, x0, x1, hs, fun _ => ok hw'⟩
        · split
          · exact ⟨m0, m1, d0, d1, b0, b1, e0, e1, x0, x1, by simp only; split <;> omega, fun _ => ok hw'⟩
          · exact ⟨m0, m1, d0, d1, b0, b1, e0, e1, x0, x1, hs, fun h => by simp at h⟩
def FlR (g : Nat) (f : Fl) (w : World) (e : Ending) (w' : World) : Prop := (∃ v, e = .returned v) ∧ Blk w' g 83 (flC f) ∧ Turn w w' g none
section
variable {w : World} {g : Nat}
set_option maxRecDepth 20000 in
set_option maxHeartbeats 4000000 in
theorem digit_any {f : Fl} (h : Blk w g 83 (flC f)) (hok : FlOk f) (hw : f.wrong = false) (d : Int) (h0 : 0 ≤ d) (h9 : d ≤ 9) :
    Calls Try.prog 61 #[.pointer (some ⟨g, 0, none⟩), .int .i64 d] w (FlR g (digitF f d) w) := by
  have gl := h.lt
  have m1 := hok.m2
  obtain ⟨m0, -, d0, d1, b0, b1, e0, e1, x0, x1, sg, -⟩ := hok
  obtain ⟨minus, m, digits, behind, exp, sign, exps, point, wrong, any⟩ := f
  dsimp only at *
  subst hw
  have HB := Lib.hid h
  have c1 : w.cell? ⟨g, 1, none⟩ = some (.int .u64 m) := h.cell 1
  have c2 : w.cell? ⟨g, 2, none⟩ = some (.int .i64 digits) := h.cell 2
  have c3 : w.cell? ⟨g, 3, none⟩ = some (.int .i64 behind) := h.cell 3
  have c4 : w.cell? ⟨g, 4, none⟩ = some (.int .i64 exp) := h.cell 4
  have c5 : w.cell? ⟨g, 5, none⟩ = some (.int .i64 sign) := h.cell 5
  have c6 : w.cell? ⟨g, 6, none⟩ = some (.int .i64 exps) := h.cell 6
  have c7 : w.cell? ⟨g, 7, none⟩ = some (.bool point) := h.cell 7
  have c8 : w.cell? ⟨g, 8, none⟩ = some (.bool false) := h.cell 8
  have f1 := h.frozen 1
  have f2 := h.frozen 2
  have f3 := h.frozen 3
  have f4 := h.frozen 4
  have f6 := h.frozen 6
  have f8 := h.frozen 8
  clear h
  by_cases hs : sign = 0
  · subst hs
    have hm1 : IntKind.u64.wrap (10 * m) = 10 * m := by rw [IntKind.wrap_u64]; omega
    have hm2 : IntKind.u64.wrap d = d := by rw [IntKind.wrap_u64]; omega
    have hm3 : IntKind.u64.wrap (10 * m + d) = 10 * m + d := by rw [IntKind.wrap_u64]; omega
    cases point with
    | true =>
      have hfin := ((((HB.out.set 1 (.int .u64 (10 * m + d))).set 2 (.int .i64 (digits + 1))).set 3 (.int .i64 (behind + 1))).set 8 (.bool (decide (15 < digits + 1))))
      have hR : FlR g (digitF ⟨minus, m, digits, behind, exp, 0, exps, true, false, any⟩ d) w (.returned (.tuple #[])) _ := ⟨⟨_, rfl⟩, hfin, ((((Turn.refl w g none).set 1 _).set 2 _).set 3 _).set 8 _⟩
      have HR := Lib.hid hR
      clear hfin hR
      go_enter Try.func61, Try.ntmps61
      go_wp2_with fail
      with_reducible refine bodyPost_end (v := .tuple #[]) (by simp [results, Try.results61]) rfl ?_
      exact HR.out
    | false =>
      have hfin := (((HB.out.set 1 (.int .u64 (10 * m + d))).set 2 (.int .i64 (digits + 1))).set 8 (.bool (decide (15 < digits + 1))))
      have hR : FlR g (digitF ⟨minus, m, digits, behind, exp, 0, exps, false, false, any⟩ d) w (.returned (.tuple #[])) _ := ⟨⟨_, rfl⟩, hfin, (((Turn.refl w g none).set 1 _).set 2 _).set 8 _⟩
      have HR := Lib.hid hR
      clear hfin hR
      go_enter Try.func61, Try.ntmps61
      go_wp2_with fail
      with_reducible refine bodyPost_end (v := .tuple #[]) (by simp [results, Try.results61]) rfl ?_
      exact HR.out
  · have hs2 : (sign != 0) = true := by simpa using hs
    have hD : digitF ⟨minus, m, digits, behind, exp, sign, exps, point, false, any⟩ d = ⟨minus, m, digits, behind, 10 * exp + d, sign, exps + 1, point, decide (2 < exps + 1), any⟩ := if_pos hs
    have hfin := (((HB.out.set 4 (.int .i64 (10 * exp + d))).set 6 (.int .i64 (exps + 1))).set 8 (.bool (decide (2 < exps + 1))))
    have hR : FlR g (digitF ⟨minus, m, digits, behind, exp, sign, exps, point, false, any⟩ d) w (.returned (.tuple #[])) _ := ⟨⟨_, rfl⟩, by rw [hD]; exact hfin, (((Turn.refl w g none).set 4 _).set 6 _).set 8 _⟩
    have HR := Lib.hid hR
    clear hfin hR hD
    go_enter Try.func61, Try.ntmps61
    go_wp2_with fail
    with_reducible refine bodyPost_ret (results_none rfl _ _ _) rfl ?_
    exact HR.out
end
end Go.Proofs.Ytoofjkhigonppaa
