/-
  exact.Winding, and the document's.
-/
import Derived.Test.YtnmnehgcliiofaaExJ
namespace Go.Proofs.Ytnmnehgcliiofaa
open Go.RowKit Go.Shelf

def WindE (ls : List (List Dt)) (x y : Int) : Int := if mayL ls = false then 10 else if fitD x = false ∨ fitD y = false then 10 else if offS x y (segs ls) = false then 4 else 0
def WindV (ls : List (List Dt)) (x y : Int) : Int := if WindE ls x y = 0 then sumS x y (segs ls) else 0
theorem fitD_fit2 {x : Int} (h : fitD x = true) : fit2 x = true := by
  have := fitD_true.1 h
  exact fit2_true.2 (by omega)
theorem withinD (x : Int) (w : World) : Calls Try.prog 57 #[.int .i64 x, .int .i64 (-1048576), .int .i64 1048576] w fun e w' => e = .returned (.bool (fitD x)) ∧ w = w' := by
  have := within_any x (-1048576) 1048576 w
  rwa [show withB x (-1048576) 1048576 = fitD x by rw [Bool.eq_iff_iff, withB_true, fitD_true]; omega] at this

section
variable {w : World} {A : Option Addr} {c : Nat} {ls : List (List Dt)} {x y : Int}
set_option maxRecDepth 20000 in
set_option maxHeartbeats 2000000 in
theorem Winding_any (h : Dl w A ls) (hn : ls.length ≤ 1000) (hc : cnt ls ≤ 1000) :
    Calls Try.prog 30 #[.slice A ls.length c, .int .i64 x, .int .i64 y] w fun e w' => e = .returned (.tuple #[.int .i64 (WindV ls x y), .int .i64 (WindE ls x y)]) ∧ Below w.heap.size w w' := by
  have KM := flatMay_any (c := c) h hn hc
  have KX := fun w => withinD x w
  have KY := fun w => withinD y w
  have KW := fun (hm : mayL ls = true) (hx : fitD x = true) (hy : fitD y = true) (w1 : World) (hb : Below w.heap.size w w1) => winding_any (c := c) (h.keep hb) hn hc hm (fitD_fit2 hx) (fitD_fit2 hy)
  have hE : WindE ls x y = if mayL ls = false then 10 else if fitD x = false ∨ fitD y = false then 10 else if offS x y (segs ls) = false then 4 else 0 := rfl
  have hV : WindV ls x y = if WindE ls x y = 0 then sumS x y (segs ls) else 0 := rfl
  have hM : mayE ls = if mayL ls = true then 0 else 10 := rfl
  have hN : windN x y (segs ls) = if offS x y (segs ls) = true then sumS x y (segs ls) else 0 := rfl
  generalize mayL ls = ml at *
  generalize fitD x = fx at *
  generalize fitD y = fy at *
  generalize offS x y (segs ls) = off at *
  generalize sumS x y (segs ls) = sm at *
  generalize windN x y (segs ls) = wn at *
  generalize WindE ls x y = ee at *
  generalize WindV ls x y = vv at *
  generalize mayE ls = me at *
  clear h hn hc
  rcases ml with _ | _
  · simp at hE hM
    subst hE hM
    simp at hV
    subst hV
    clear KW KX KY hN
    replace KM := Lib.hid KM
    go_enter Try.func30, Try.ntmps30
    go_wp2_with (first
      | (go_at_call 56; (with_reducible refine KM.out.mono ?_); rintro e w1 ⟨rfl, hb1⟩; have HB1 := Lib.hid hb1; clear hb1))
    go_ret2
    exact ⟨rfl, HB1.out⟩
  · simp at hE hM
    subst hM
    by_cases hf : fx = true ∧ fy = true
    · obtain ⟨rfl, rfl⟩ := hf
      simp at hE
      rcases off with _ | _
      · simp at hE hN
        subst hE hN
        simp at hV
        subst hV
        replace KM := Lib.hid KM
        replace KX := Lib.hid KX
        replace KY := Lib.hid KY
        replace KW := Lib.hid (KW rfl rfl rfl)
        go_enter Try.func30, Try.ntmps30
        go_wp2_with (first
          | (go_at_call 56; (with_reducible refine KM.out.mono ?_); rintro e w1 ⟨rfl, hb1⟩; have HB1 := Lib.hid hb1; clear hb1)
          | (go_at_call 57; (with_reducible refine (KX.out _).mono ?_); rintro e w1 ⟨rfl, rfl⟩) | (go_at_call 57; (with_reducible refine (KY.out _).mono ?_); rintro e w1 ⟨rfl, rfl⟩)
          | (go_at_call 58; (with_reducible refine (KW.out _ HB1.out).mono ?_); rintro e w2 ⟨rfl, hb2⟩; have HB2 := Lib.hid (Aft.call HB1.out hb2); clear hb2))
        go_ret2
        exact ⟨rfl, HB2.out⟩
      · simp at hE hN
        subst hE hN
        simp at hV
        subst hV
        replace KM := Lib.hid KM
        replace KX := Lib.hid KX
        replace KY := Lib.hid KY
        replace KW := Lib.hid (KW rfl rfl rfl)
        go_enter Try.func30, Try.ntmps30
        go_wp2_with (first
          | (go_at_call 56; (with_reducible refine KM.out.mono ?_); rintro e w1 ⟨rfl, hb1⟩; have HB1 := Lib.hid hb1; clear hb1)
          | (go_at_call 57; (with_reducible refine (KX.out _).mono ?_); rintro e w1 ⟨rfl, rfl⟩) | (go_at_call 57; (with_reducible refine (KY.out _).mono ?_); rintro e w1 ⟨rfl, rfl⟩)
          | (go_at_call 58; (with_reducible refine (KW.out _ HB1.out).mono ?_); rintro e w2 ⟨rfl, hb2⟩; have HB2 := Lib.hid (Aft.call HB1.out hb2); clear hb2))
        go_ret2
        exact ⟨rfl, HB2.out⟩
    · have hE' : ee = 10 := by rw [hE, if_pos (by cases fx <;> cases fy <;> simp_all)]
      subst hE'
      simp at hV
      subst hV
      clear hE KW hN
      replace KM := Lib.hid KM
      replace KX := Lib.hid KX
      replace KY := Lib.hid KY
      have key : fx = false ∨ (fx = true ∧ fy = false) := by cases fx <;> cases fy <;> simp_all
      clear hf
      rcases key with rfl | ⟨rfl, rfl⟩
      all_goals
        go_enter Try.func30, Try.ntmps30
        go_wp2_with (first
          | (go_at_call 56; (with_reducible refine KM.out.mono ?_); rintro e w1 ⟨rfl, hb1⟩; have HB1 := Lib.hid hb1; clear hb1)
          | (go_at_call 57; (with_reducible refine (KX.out _).mono ?_); rintro e w1 ⟨rfl, rfl⟩) | (go_at_call 57; (with_reducible refine (KY.out _).mono ?_); rintro e w1 ⟨rfl, rfl⟩))
        go_ret2
        exact ⟨rfl, HB1.out⟩
end
end Go.Proofs.Ytnmnehgcliiofaa
