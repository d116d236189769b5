/-
  Layer 24: the laws ExactWindings, ExactTouches, ExactTallies, walked.
-/
import Derived.Test.YtnmnehgcliiofaaEyC
import Derived.Test.YtnmnehgcliiofaaExL
import Derived.Test.YtnmnehgcliiofaaExV
import Derived.Test.YtnmnehgcliiofaaExEz
namespace Go.Proofs.Ytnmnehgcliiofaa
open Go.RowKit

section
variable {w : World} {A : Option Addr} {c : Nat} {ls : List (List Dt)} {x y : Int}
theorem farD_fitD (x : Int) : farD x = !fitD x := by
  unfold farD fitD
  rw [Bool.eq_iff_iff]
  simp
set_option maxRecDepth 20000 in
set_option maxHeartbeats 2000000 in
theorem ExactWindings_big (h : 100 < (ls.length : Int)) :
    Calls Try.prog 8 #[.slice A ls.length c, .int .i64 x, .int .i64 y] w fun e w' => e = .returned (.bool true) ∧ Below w.heap.size w w' := by
  go_enter Try.func8, Try.ntmps8
  go_wp2_with (first | (go_at_call 29; (with_reducible refine (lives24 _).mono ?_); rintro e w1 ⟨rfl, hb1⟩))
  go_ret
  exact ⟨rfl, hb1⟩
set_option maxRecDepth 20000 in
set_option maxHeartbeats 2000000 in
theorem ExactWindings_many (hd : Dl w A ls) (hn : (ls.length : Int) ≤ 100) (h : 500 < (cnt ls : Int)) :
    Calls Try.prog 8 #[.slice A ls.length c, .int .i64 x, .int .i64 y] w fun e w' => e = .returned (.bool true) ∧ Below w.heap.size w w' := by
  have KC := Lib.hid (Count_any (c := c) hd (by omega))
  clear hd
  go_enter Try.func8, Try.ntmps8
  go_wp2_with (first | (go_at_call 28; (with_reducible refine (KC.out).mono ?_); rintro e w1 ⟨rfl, rfl⟩) | (go_at_call 29; (with_reducible refine (lives24 _).mono ?_); rintro e w1 ⟨rfl, hb1⟩))
  go_ret
  exact ⟨rfl, hb1⟩
set_option maxRecDepth 20000 in
set_option maxHeartbeats 2000000 in
theorem ExactTallies_big (h : 30 < (ls.length : Int)) :
    Calls Try.prog 10 #[.slice A ls.length c, .int .i64 x, .int .i64 y] w fun e w' => e = .returned (.bool true) ∧ Below w.heap.size w w' := by
  go_enter Try.func10, Try.ntmps10
  go_wp2_with (first | (go_at_call 29; (with_reducible refine (lives24 _).mono ?_); rintro e w1 ⟨rfl, hb1⟩))
  go_ret
  exact ⟨rfl, hb1⟩
set_option maxRecDepth 20000 in
set_option maxHeartbeats 2000000 in
theorem ExactTallies_many (hd : Dl w A ls) (hn : (ls.length : Int) ≤ 30) (h : 60 < (cnt ls : Int)) :
    Calls Try.prog 10 #[.slice A ls.length c, .int .i64 x, .int .i64 y] w fun e w' => e = .returned (.bool true) ∧ Below w.heap.size w w' := by
  have KC := Lib.hid (Count_any (c := c) hd (by omega))
  clear hd
  go_enter Try.func10, Try.ntmps10
  go_wp2_with (first | (go_at_call 28; (with_reducible refine (KC.out).mono ?_); rintro e w1 ⟨rfl, rfl⟩) | (go_at_call 29; (with_reducible refine (lives24 _).mono ?_); rintro e w1 ⟨rfl, hb1⟩))
  go_ret
  exact ⟨rfl, hb1⟩
set_option maxRecDepth 20000 in
set_option maxHeartbeats 2000000 in
theorem ExactConvex_big (h : 30 < (ls.length : Int)) :
    Calls Try.prog 11 #[.slice A ls.length c, .int .i64 x, .int .i64 y] w fun e w' => e = .returned (.bool true) ∧ Below w.heap.size w w' := by
  go_enter Try.func11, Try.ntmps11
  go_wp2_with (first | (go_at_call 29; (with_reducible refine (lives24 _).mono ?_); rintro e w1 ⟨rfl, hb1⟩))
  go_ret
  exact ⟨rfl, hb1⟩
set_option maxRecDepth 20000 in
set_option maxHeartbeats 2000000 in
theorem ExactConvex_many (hd : Dl w A ls) (hn : (ls.length : Int) ≤ 30) (h : 300 < (cnt ls : Int)) :
    Calls Try.prog 11 #[.slice A ls.length c, .int .i64 x, .int .i64 y] w fun e w' => e = .returned (.bool true) ∧ Below w.heap.size w w' := by
  have KC := Lib.hid (Count_any (c := c) hd (by omega))
  clear hd
  go_enter Try.func11, Try.ntmps11
  go_wp2_with (first | (go_at_call 28; (with_reducible refine (KC.out).mono ?_); rintro e w1 ⟨rfl, rfl⟩) | (go_at_call 29; (with_reducible refine (lives24 _).mono ?_); rintro e w1 ⟨rfl, hb1⟩))
  go_ret
  exact ⟨rfl, hb1⟩
set_option maxRecDepth 20000 in
set_option maxHeartbeats 2000000 in
theorem ExactWindings_may (hd : Dl w A ls) (hn : (ls.length : Int) ≤ 100) (hc : (cnt ls : Int) ≤ 500) (hm : mayL ls = false) :
    Calls Try.prog 8 #[.slice A ls.length c, .int .i64 x, .int .i64 y] w fun e w' => e = .returned (.bool true) ∧ Below w.heap.size w w' := by
  have KC := Lib.hid (Count_any (c := c) hd (by omega))
  have KM := fun (W : World) (h : Dl W A ls) => rMay21_any (w := W) (c := c) h (by omega) (by omega)
  have KW := Winding_any (c := c) (x := x) (y := y) hd (by omega) (by omega)
  have KX := fun (W : World) => efar_any x W
  have KY := fun (W : World) => efar_any y W
  rw [farD_fitD] at KX KY
  have HD := Lib.hid hd
  have e1 : WindE ls x y = 10 := by unfold WindE; rw [if_pos hm]
  have e2 : WindV ls x y = 0 := by unfold WindV; rw [e1]; rfl
  have e3 : mayE ls = 10 := by unfold mayE; rw [hm]; rfl
  rw [e1, e2] at KW
  simp only [e3] at KM
  clear e1 e2 e3
  replace KW := Lib.hid KW
  replace KX := Lib.hid KX
  replace KY := Lib.hid KY
  replace KM := Lib.hid KM
  clear hd
  go_enter Try.func8, Try.ntmps8
  go_wp2_with (first
    | (go_at_call 28; (with_reducible refine (KC.out).mono ?_); rintro e w1 ⟨rfl, rfl⟩)
    | (go_at_call 30; (with_reducible refine KW.out.mono ?_); rintro e w1 ⟨rfl, hb1⟩
       have HD1 := Lib.hid (HD.out.keep hb1)
       have HB1 : Hid (Below w.heap.size w w1) := Lib.hid hb1
       clear hb1)
    | (go_at_call 29; (with_reducible refine (lives24 _).mono ?_); rintro e w2 ⟨rfl, hb1⟩
       have HD2 := Lib.hid (HD1.out.keep hb1)
       have HB2 : Hid (Below w.heap.size w w2) := Lib.hid (Aft.call HB1.out hb1)
       clear hb1)
    | (go_at_call 31; (with_reducible refine (KM.out _ HD2.out).mono ?_); rintro e w1 ⟨rfl, rfl⟩)
    | (go_at_call 32; (with_reducible refine (KX.out _).mono ?_); rintro e w1 ⟨rfl, rfl⟩)
    | (go_at_call 32; (with_reducible refine (KY.out _).mono ?_); rintro e w1 ⟨rfl, rfl⟩))
  go_ret
  exact ⟨rfl, HB2.out⟩
set_option maxRecDepth 20000 in
set_option maxHeartbeats 2000000 in
theorem ExactWindings_far1 (hd : Dl w A ls) (hn : (ls.length : Int) ≤ 100) (hc : (cnt ls : Int) ≤ 500) (hm : mayL ls = true) (hf : fitD x = false) :
    Calls Try.prog 8 #[.slice A ls.length c, .int .i64 x, .int .i64 y] w fun e w' => e = .returned (.bool true) ∧ Below w.heap.size w w' := by
  have KC := Lib.hid (Count_any (c := c) hd (by omega))
  have KM := fun (W : World) (h : Dl W A ls) => rMay21_any (w := W) (c := c) h (by omega) (by omega)
  have KW := Winding_any (c := c) (x := x) (y := y) hd (by omega) (by omega)
  have KX := fun (W : World) => efar_any x W
  have KY := fun (W : World) => efar_any y W
  rw [farD_fitD] at KX KY
  have HD := Lib.hid hd
  have e1 : WindE ls x y = 10 := by unfold WindE; rw [if_neg (by rw [hm]; decide), if_pos (by first | exact .inl hf | exact .inr hf')]
  have e2 : WindV ls x y = 0 := by unfold WindV; rw [e1]; rfl
  have e3 : mayE ls = 0 := by unfold mayE; rw [hm]; rfl
  rw [e1, e2] at KW
  simp only [e3] at KM
  rw [hf] at KX
  clear e1 e2 e3
  replace KW := Lib.hid KW
  replace KX := Lib.hid KX
  replace KY := Lib.hid KY
  replace KM := Lib.hid KM
  clear hd
  go_enter Try.func8, Try.ntmps8
  go_wp2_with (first
    | (go_at_call 28; (with_reducible refine (KC.out).mono ?_); rintro e w1 ⟨rfl, rfl⟩)
    | (go_at_call 30; (with_reducible refine KW.out.mono ?_); rintro e w1 ⟨rfl, hb1⟩
       have HD1 := Lib.hid (HD.out.keep hb1)
       have HB1 : Hid (Below w.heap.size w w1) := Lib.hid hb1
       clear hb1)
    | (go_at_call 29; (with_reducible refine (lives24 _).mono ?_); rintro e w2 ⟨rfl, hb1⟩
       have HD2 := Lib.hid (HD1.out.keep hb1)
       have HB2 : Hid (Below w.heap.size w w2) := Lib.hid (Aft.call HB1.out hb1)
       clear hb1)
    | (go_at_call 31; (with_reducible refine (KM.out _ HD2.out).mono ?_); rintro e w1 ⟨rfl, rfl⟩)
    | (go_at_call 32; (with_reducible refine (KX.out _).mono ?_); rintro e w1 ⟨rfl, rfl⟩)
    | (go_at_call 32; (with_reducible refine (KY.out _).mono ?_); rintro e w1 ⟨rfl, rfl⟩))
  go_ret
  exact ⟨rfl, HB2.out⟩
set_option maxRecDepth 20000 in
set_option maxHeartbeats 2000000 in
theorem ExactWindings_far2 (hd : Dl w A ls) (hn : (ls.length : Int) ≤ 100) (hc : (cnt ls : Int) ≤ 500) (hm : mayL ls = true) (hf : fitD x = true) (hf' : fitD y = false) :
    Calls Try.prog 8 #[.slice A ls.length c, .int .i64 x, .int .i64 y] w fun e w' => e = .returned (.bool true) ∧ Below w.heap.size w w' := by
  have KC := Lib.hid (Count_any (c := c) hd (by omega))
  have KM := fun (W : World) (h : Dl W A ls) => rMay21_any (w := W) (c := c) h (by omega) (by omega)
  have KW := Winding_any (c := c) (x := x) (y := y) hd (by omega) (by omega)
  have KX := fun (W : World) => efar_any x W
  have KY := fun (W : World) => efar_any y W
  rw [farD_fitD] at KX KY
  have HD := Lib.hid hd
  have e1 : WindE ls x y = 10 := by unfold WindE; rw [if_neg (by rw [hm]; decide), if_pos (by first | exact .inl hf | exact .inr hf')]
  have e2 : WindV ls x y = 0 := by unfold WindV; rw [e1]; rfl
  have e3 : mayE ls = 0 := by unfold mayE; rw [hm]; rfl
  rw [e1, e2] at KW
  simp only [e3] at KM
  rw [hf] at KX
  rw [hf'] at KY
  clear e1 e2 e3
  replace KW := Lib.hid KW
  replace KX := Lib.hid KX
  replace KY := Lib.hid KY
  replace KM := Lib.hid KM
  clear hd
  go_enter Try.func8, Try.ntmps8
  go_wp2_with (first
    | (go_at_call 28; (with_reducible refine (KC.out).mono ?_); rintro e w1 ⟨rfl, rfl⟩)
    | (go_at_call 30; (with_reducible refine KW.out.mono ?_); rintro e w1 ⟨rfl, hb1⟩
       have HD1 := Lib.hid (HD.out.keep hb1)
       have HB1 : Hid (Below w.heap.size w w1) := Lib.hid hb1
       clear hb1)
    | (go_at_call 29; (with_reducible refine (lives24 _).mono ?_); rintro e w2 ⟨rfl, hb1⟩
       have HD2 := Lib.hid (HD1.out.keep hb1)
       have HB2 : Hid (Below w.heap.size w w2) := Lib.hid (Aft.call HB1.out hb1)
       clear hb1)
    | (go_at_call 31; (with_reducible refine (KM.out _ HD2.out).mono ?_); rintro e w1 ⟨rfl, rfl⟩)
    | (go_at_call 32; (with_reducible refine (KX.out _).mono ?_); rintro e w1 ⟨rfl, rfl⟩)
    | (go_at_call 32; (with_reducible refine (KY.out _).mono ?_); rintro e w1 ⟨rfl, rfl⟩))
  go_ret
  exact ⟨rfl, HB2.out⟩
set_option maxRecDepth 20000 in
set_option maxHeartbeats 2000000 in
theorem ExactWindings_on (hd : Dl w A ls) (hn : (ls.length : Int) ≤ 100) (hc : (cnt ls : Int) ≤ 500) (hm : mayL ls = true) (hf : fitD x = true) (hf' : fitD y = true) (ho : offS x y (segs ls) = false) :
    Calls Try.prog 8 #[.slice A ls.length c, .int .i64 x, .int .i64 y] w fun e w' => e = .returned (.bool true) ∧ Below w.heap.size w w' := by
  have KC := Lib.hid (Count_any (c := c) hd (by omega))
  have KM := fun (W : World) (h : Dl W A ls) => rMay21_any (w := W) (c := c) h (by omega) (by omega)
  have KW := Winding_any (c := c) (x := x) (y := y) hd (by omega) (by omega)
  have KX := fun (W : World) => efar_any x W
  have KY := fun (W : World) => efar_any y W
  rw [farD_fitD] at KX KY
  have HD := Lib.hid hd
  have KR := fun (W : World) (h : Dl W A ls) => rWinding_any (w := W) (c := c) (x := x) (y := y) h (by omega) (by omega) hm (fitD_fit2 hf) (fitD_fit2 hf')
  have e1 : WindE ls x y = 4 := by unfold WindE; rw [if_neg (by rw [hm]; decide), if_neg (by rw [hf, hf']; decide), if_pos ho]
  have e2 : WindV ls x y = 0 := by unfold WindV; rw [e1]; rfl
  have e3 : mayE ls = 0 := by unfold mayE; rw [hm]; rfl
  have e4 : windN x y (segs ls) = 0 := by unfold windN; rw [ho]; rfl
  rw [e1, e2] at KW
  simp only [e3] at KM
  simp only [e4, ho] at KR
  rw [hf] at KX
  rw [hf'] at KY
  clear e1 e2 e3 e4
  replace KR := Lib.hid KR
  replace KW := Lib.hid KW
  replace KX := Lib.hid KX
  replace KY := Lib.hid KY
  replace KM := Lib.hid KM
  clear hd
  go_enter Try.func8, Try.ntmps8
  go_wp2_with (first
    | (go_at_call 28; (with_reducible refine (KC.out).mono ?_); rintro e w1 ⟨rfl, rfl⟩)
    | (go_at_call 30; (with_reducible refine KW.out.mono ?_); rintro e w1 ⟨rfl, hb1⟩
       have HD1 := Lib.hid (HD.out.keep hb1)
       have HB1 : Hid (Below w.heap.size w w1) := Lib.hid hb1
       clear hb1)
    | (go_at_call 29; (with_reducible refine (lives24 _).mono ?_); rintro e w2 ⟨rfl, hb1⟩
       have HD2 := Lib.hid (HD1.out.keep hb1)
       have HB2 : Hid (Below w.heap.size w w2) := Lib.hid (Aft.call HB1.out hb1)
       clear hb1)
    | (go_at_call 31; (with_reducible refine (KM.out _ HD2.out).mono ?_); rintro e w1 ⟨rfl, rfl⟩)
    | (go_at_call 32; (with_reducible refine (KX.out _).mono ?_); rintro e w1 ⟨rfl, rfl⟩)
    | (go_at_call 32; (with_reducible refine (KY.out _).mono ?_); rintro e w1 ⟨rfl, rfl⟩)
    | (go_at_call 33; (with_reducible refine (KR.out _ HD2.out).mono ?_); rintro e w3 ⟨rfl, hb1⟩
       have HB3 : Hid (Below w.heap.size w w3) := Lib.hid (Aft.call HB2.out hb1)
       clear hb1))
  go_ret
  exact ⟨rfl, HB3.out⟩
set_option maxRecDepth 20000 in
set_option maxHeartbeats 2000000 in
theorem ExactWindings_off (hd : Dl w A ls) (hn : (ls.length : Int) ≤ 100) (hc : (cnt ls : Int) ≤ 500) (hm : mayL ls = true) (hf : fitD x = true) (hf' : fitD y = true) (ho : offS x y (segs ls) = true) :
    Calls Try.prog 8 #[.slice A ls.length c, .int .i64 x, .int .i64 y] w fun e w' => e = .returned (.bool true) ∧ Below w.heap.size w w' := by
  have KC := Lib.hid (Count_any (c := c) hd (by omega))
  have KM := fun (W : World) (h : Dl W A ls) => rMay21_any (w := W) (c := c) h (by omega) (by omega)
  have KW := Winding_any (c := c) (x := x) (y := y) hd (by omega) (by omega)
  have KX := fun (W : World) => efar_any x W
  have KY := fun (W : World) => efar_any y W
  rw [farD_fitD] at KX KY
  have HD := Lib.hid hd
  have KR := fun (W : World) (h : Dl W A ls) => rWinding_any (w := W) (c := c) (x := x) (y := y) h (by omega) (by omega) hm (fitD_fit2 hf) (fitD_fit2 hf')
  have e1 : WindE ls x y = 0 := by unfold WindE; rw [if_neg (by rw [hm]; decide), if_neg (by rw [hf, hf']; decide), if_neg (by rw [ho]; decide)]
  have e2 : WindV ls x y = sumS x y (segs ls) := by unfold WindV; rw [e1]; rfl
  have e3 : mayE ls = 0 := by unfold mayE; rw [hm]; rfl
  have e4 : windN x y (segs ls) = sumS x y (segs ls) := by unfold windN; rw [ho]; rfl
  rw [e1, e2] at KW
  simp only [e3] at KM
  simp only [e4, ho] at KR
  rw [hf] at KX
  rw [hf'] at KY
  generalize sumS x y (segs ls) = sm at *
  clear e1 e2 e3 e4
  replace KR := Lib.hid KR
  replace KW := Lib.hid KW
  replace KX := Lib.hid KX
  replace KY := Lib.hid KY
  replace KM := Lib.hid KM
  clear hd
  go_enter Try.func8, Try.ntmps8
  go_wp2_with (first
    | (go_at_call 28; (with_reducible refine (KC.out).mono ?_); rintro e w1 ⟨rfl, rfl⟩)
    | (go_at_call 30; (with_reducible refine KW.out.mono ?_); rintro e w1 ⟨rfl, hb1⟩
       have HD1 := Lib.hid (HD.out.keep hb1)
       have HB1 : Hid (Below w.heap.size w w1) := Lib.hid hb1
       clear hb1)
    | (go_at_call 29; (with_reducible refine (lives24 _).mono ?_); rintro e w2 ⟨rfl, hb1⟩
       have HD2 := Lib.hid (HD1.out.keep hb1)
       have HB2 : Hid (Below w.heap.size w w2) := Lib.hid (Aft.call HB1.out hb1)
       clear hb1)
    | (go_at_call 31; (with_reducible refine (KM.out _ HD2.out).mono ?_); rintro e w1 ⟨rfl, rfl⟩)
    | (go_at_call 32; (with_reducible refine (KX.out _).mono ?_); rintro e w1 ⟨rfl, rfl⟩)
    | (go_at_call 32; (with_reducible refine (KY.out _).mono ?_); rintro e w1 ⟨rfl, rfl⟩)
    | (go_at_call 33; (with_reducible refine (KR.out _ HD2.out).mono ?_); rintro e w3 ⟨rfl, hb1⟩
       have HB3 : Hid (Below w.heap.size w w3) := Lib.hid (Aft.call HB2.out hb1)
       clear hb1))
  go_ret
  exact ⟨rfl, HB3.out⟩
theorem ExactWindings_any (hd : Dl w A ls) :
    Calls Try.prog 8 #[.slice A ls.length c, .int .i64 x, .int .i64 y] w fun e w' => e = .returned (.bool true) ∧ Below w.heap.size w w' := by
  rcases Int.lt_or_le 100 (ls.length : Int) with hn | hn
  · exact ExactWindings_big hn
  rcases Int.lt_or_le 500 (cnt ls : Int) with hc | hc
  · exact ExactWindings_many hd hn hc
  cases hm : mayL ls
  · exact ExactWindings_may hd hn hc hm
  cases hf : fitD x
  · exact ExactWindings_far1 hd hn hc hm hf
  cases hf' : fitD y
  · exact ExactWindings_far2 hd hn hc hm hf hf'
  cases ho : offS x y (segs ls)
  · exact ExactWindings_on hd hn hc hm hf hf' ho
  · exact ExactWindings_off hd hn hc hm hf hf' ho
end
end Go.Proofs.Ytnmnehgcliiofaa
