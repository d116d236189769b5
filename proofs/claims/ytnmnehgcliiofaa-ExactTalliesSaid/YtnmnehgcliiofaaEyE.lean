/-
  Layer 24: the law ExactTallies, walked.
-/
import Derived.Test.YtnmnehgcliiofaaEyD
namespace Go.Proofs.Ytnmnehgcliiofaa
open Go.RowKit

def eq5 (a b c d e a' b' c' d' e' : Int) : Bool := decide (a = a' ∧ b = b' ∧ c = c' ∧ d = d' ∧ e = e')
@[go_sem] theorem eq5_self (a b c d e : Int) : eq5 a b c d e a b c d e = true := by simp [eq5]
set_option maxHeartbeats 1000000 in
theorem eqIn_tally (w : World) (k : Nat) (a b c d e a' b' c' d' e' : Int) : (Op.equalIn (k + 2) 75 (.agg #[.int .i64 a, .int .i64 b, .int .i64 c, .int .i64 d, .int .i64 e]) (.agg #[.int .i64 a', .int .i64 b', .int .i64 c', .int .i64 d', .int .i64 e'])).run Try.prog w = .ok (eq5 a b c d e a' b' c' d' e') w := by
  unfold eq5
  by_cases h1 : a = a'
  · by_cases h2 : b = b'
    · by_cases h3 : c = c'
      · by_cases h4 : d = d'
        · by_cases h5 : e = e' <;> simp [go_sem, h1, h2, h3, h4, h5]
        · simp [go_sem, h1, h2, h3, h4]
      · simp [go_sem, h1, h2, h3]
    · simp [go_sem, h1, h2]
  · simp [go_sem, h1]
@[go_sem ↓] theorem eql_tally (w : World) (a b c d e a' b' c' d' e' : Int) : (binOp .eql 75 (.agg #[.int .i64 a, .int .i64 b, .int .i64 c, .int .i64 d, .int .i64 e]) (.agg #[.int .i64 a', .int .i64 b', .int .i64 c', .int .i64 d', .int .i64 e'])).run Try.prog w = .ok (.bool (eq5 a b c d e a' b' c' d' e')) w := by
  simp only [binOp]
  simp [Op.equal, Op.maxDepth, eqIn_tally w 9998]
section
variable {w : World} {A : Option Addr} {c : Nat} {ls : List (List Dt)} {x y : Int}
set_option maxRecDepth 20000 in
set_option maxHeartbeats 2000000 in
theorem ExactTallies_may (hd : Dl w A ls) (hn : (ls.length : Int) ≤ 30) (hc : (cnt ls : Int) ≤ 60) (hm : mayL ls = false) :
    Calls Try.prog 10 #[.slice A ls.length c, .int .i64 x, .int .i64 y] w fun e w' => e = .returned (.bool true) ∧ Below w.heap.size w w' := by
  have KC := Lib.hid (Count_any (c := c) hd (by omega))
  have KM := fun (W : World) (h : Dl W A ls) => rMay21_any (w := W) (c := c) h (by omega) (by omega)
  have KT := Tally_any (c := c) (x := x) (y := y) hd (by omega) (by omega)
  have e1 : TallyE ls x y = 10 := by unfold TallyE; rw [if_pos hm]
  have e2 : TallyV ls x y = .agg #[.int .i64 0, .int .i64 0, .int .i64 0, .int .i64 0, .int .i64 0] := by unfold TallyV; rw [e1]; rfl
  have e3 : mayE ls = 10 := by unfold mayE; rw [hm]; rfl
  rw [e1, e2] at KT
  simp only [e3] at KM
  have HD := Lib.hid hd
  replace KT := Lib.hid KT
  replace KM := Lib.hid KM
  clear hd e1 e2 e3
  go_enter Try.func10, Try.ntmps10
  go_wp2_with (first
    | (go_at_call 28; (with_reducible refine (KC.out).mono ?_); rintro e w1 ⟨rfl, rfl⟩)
    | (go_at_call 36; (with_reducible refine KT.out.mono ?_); rintro e w0 ⟨rfl, hb0⟩
       have hb1 := hb0.trans ((bel_alloc (o := .cells #[.int .i64 0, .int .i64 0, .int .i64 0, .int .i64 0, .int .i64 0] 75) bel_refl).below.mono hb0.size)
       have HTB := Lib.hid (Blk.new w0 75 [.int .i64 0, .int .i64 0, .int .i64 0, .int .i64 0, .int .i64 0])
       have HD1 := Lib.hid (HD.out.keep hb1)
       have HB1 := Lib.hid hb1
       clear hb1 hb0)
    | (go_at_call 29; (with_reducible refine (lives24 _).mono ?_); rintro e w2 ⟨rfl, hb1⟩
       have HD2 := Lib.hid (HD1.out.keep hb1)
       have HB2 : Hid (Below w.heap.size w w2) := Lib.hid (Aft.call HB1.out hb1)
       have hk := HTB.out.keepB hb1
       have k0 := hk.cell 0
       have k1 := hk.cell 1
       have k2 := hk.cell 2
       have k3 := hk.cell 3
       have k4 := hk.cell 4
       simp at k0 k1 k2 k3 k4
       have HK := Lib.hid hk
       clear hb1 hk)
    | (go_at_call 31; (with_reducible refine (KM.out _ HD2.out).mono ?_); rintro e w1 ⟨rfl, rfl⟩))
  go_ret
  exact ⟨rfl, HB2.out⟩
set_option maxRecDepth 20000 in
set_option maxHeartbeats 2000000 in
theorem ExactTallies_far1 (hd : Dl w A ls) (hn : (ls.length : Int) ≤ 30) (hc : (cnt ls : Int) ≤ 60) (hm : mayL ls = true) (hf : x < -16384) :
    Calls Try.prog 10 #[.slice A ls.length c, .int .i64 x, .int .i64 y] w fun e w' => e = .returned (.bool true) ∧ Below w.heap.size w w' := by
  have KC := Lib.hid (Count_any (c := c) hd (by omega))
  have KM := fun (W : World) (h : Dl W A ls) => rMay21_any (w := W) (c := c) h (by omega) (by omega)
  have KT := Tally_any (c := c) (x := x) (y := y) hd (by omega) (by omega)
  have e1 : TallyE ls x y = 10 := by unfold TallyE; rw [if_neg (by rw [hm]; decide), if_neg (by rw [inP_true, inP_true]; omega)]
  have e2 : TallyV ls x y = .agg #[.int .i64 0, .int .i64 0, .int .i64 0, .int .i64 0, .int .i64 0] := by unfold TallyV; rw [e1]; rfl
  have e3 : mayE ls = 0 := by unfold mayE; rw [hm]; rfl
  rw [e1, e2] at KT
  simp only [e3] at KM
  have HD := Lib.hid hd
  replace KT := Lib.hid KT
  replace KM := Lib.hid KM
  clear hd e1 e2 e3
  go_enter Try.func10, Try.ntmps10
  go_wp2_with (first
    | (go_at_call 28; (with_reducible refine (KC.out).mono ?_); rintro e w1 ⟨rfl, rfl⟩)
    | (go_at_call 36; (with_reducible refine KT.out.mono ?_); rintro e w0 ⟨rfl, hb0⟩
       have hb1 := hb0.trans ((bel_alloc (o := .cells #[.int .i64 0, .int .i64 0, .int .i64 0, .int .i64 0, .int .i64 0] 75) bel_refl).below.mono hb0.size)
       have HTB := Lib.hid (Blk.new w0 75 [.int .i64 0, .int .i64 0, .int .i64 0, .int .i64 0, .int .i64 0])
       have HD1 := Lib.hid (HD.out.keep hb1)
       have HB1 := Lib.hid hb1
       clear hb1 hb0)
    | (go_at_call 29; (with_reducible refine (lives24 _).mono ?_); rintro e w2 ⟨rfl, hb1⟩
       have HD2 := Lib.hid (HD1.out.keep hb1)
       have HB2 : Hid (Below w.heap.size w w2) := Lib.hid (Aft.call HB1.out hb1)
       have hk := HTB.out.keepB hb1
       have k0 := hk.cell 0
       have k1 := hk.cell 1
       have k2 := hk.cell 2
       have k3 := hk.cell 3
       have k4 := hk.cell 4
       simp at k0 k1 k2 k3 k4
       have HK := Lib.hid hk
       clear hb1 hk)
    | (go_at_call 31; (with_reducible refine (KM.out _ HD2.out).mono ?_); rintro e w1 ⟨rfl, rfl⟩))
  go_ret
  exact ⟨rfl, HB2.out⟩
set_option maxRecDepth 20000 in
set_option maxHeartbeats 2000000 in
theorem ExactTallies_far2 (hd : Dl w A ls) (hn : (ls.length : Int) ≤ 30) (hc : (cnt ls : Int) ≤ 60) (hm : mayL ls = true) (hf : 16384 < x) :
    Calls Try.prog 10 #[.slice A ls.length c, .int .i64 x, .int .i64 y] w fun e w' => e = .returned (.bool true) ∧ Below w.heap.size w w' := by
  have KC := Lib.hid (Count_any (c := c) hd (by omega))
  have KM := fun (W : World) (h : Dl W A ls) => rMay21_any (w := W) (c := c) h (by omega) (by omega)
  have KT := Tally_any (c := c) (x := x) (y := y) hd (by omega) (by omega)
  have e1 : TallyE ls x y = 10 := by unfold TallyE; rw [if_neg (by rw [hm]; decide), if_neg (by rw [inP_true, inP_true]; omega)]
  have e2 : TallyV ls x y = .agg #[.int .i64 0, .int .i64 0, .int .i64 0, .int .i64 0, .int .i64 0] := by unfold TallyV; rw [e1]; rfl
  have e3 : mayE ls = 0 := by unfold mayE; rw [hm]; rfl
  rw [e1, e2] at KT
  simp only [e3] at KM
  have HD := Lib.hid hd
  replace KT := Lib.hid KT
  replace KM := Lib.hid KM
  clear hd e1 e2 e3
  go_enter Try.func10, Try.ntmps10
  go_wp2_with (first
    | (go_at_call 28; (with_reducible refine (KC.out).mono ?_); rintro e w1 ⟨rfl, rfl⟩)
    | (go_at_call 36; (with_reducible refine KT.out.mono ?_); rintro e w0 ⟨rfl, hb0⟩
       have hb1 := hb0.trans ((bel_alloc (o := .cells #[.int .i64 0, .int .i64 0, .int .i64 0, .int .i64 0, .int .i64 0] 75) bel_refl).below.mono hb0.size)
       have HTB := Lib.hid (Blk.new w0 75 [.int .i64 0, .int .i64 0, .int .i64 0, .int .i64 0, .int .i64 0])
       have HD1 := Lib.hid (HD.out.keep hb1)
       have HB1 := Lib.hid hb1
       clear hb1 hb0)
    | (go_at_call 29; (with_reducible refine (lives24 _).mono ?_); rintro e w2 ⟨rfl, hb1⟩
       have HD2 := Lib.hid (HD1.out.keep hb1)
       have HB2 : Hid (Below w.heap.size w w2) := Lib.hid (Aft.call HB1.out hb1)
       have hk := HTB.out.keepB hb1
       have k0 := hk.cell 0
       have k1 := hk.cell 1
       have k2 := hk.cell 2
       have k3 := hk.cell 3
       have k4 := hk.cell 4
       simp at k0 k1 k2 k3 k4
       have HK := Lib.hid hk
       clear hb1 hk)
    | (go_at_call 31; (with_reducible refine (KM.out _ HD2.out).mono ?_); rintro e w1 ⟨rfl, rfl⟩))
  go_ret
  exact ⟨rfl, HB2.out⟩
set_option maxRecDepth 20000 in
set_option maxHeartbeats 2000000 in
theorem ExactTallies_far3 (hd : Dl w A ls) (hn : (ls.length : Int) ≤ 30) (hc : (cnt ls : Int) ≤ 60) (hm : mayL ls = true) (hx : -16384 ≤ x ∧ x ≤ 16384) (hf : y < -16384) :
    Calls Try.prog 10 #[.slice A ls.length c, .int .i64 x, .int .i64 y] w fun e w' => e = .returned (.bool true) ∧ Below w.heap.size w w' := by
  have KC := Lib.hid (Count_any (c := c) hd (by omega))
  have KM := fun (W : World) (h : Dl W A ls) => rMay21_any (w := W) (c := c) h (by omega) (by omega)
  have KT := Tally_any (c := c) (x := x) (y := y) hd (by omega) (by omega)
  have e1 : TallyE ls x y = 10 := by unfold TallyE; rw [if_neg (by rw [hm]; decide), if_neg (by rw [inP_true, inP_true]; omega)]
  have e2 : TallyV ls x y = .agg #[.int .i64 0, .int .i64 0, .int .i64 0, .int .i64 0, .int .i64 0] := by unfold TallyV; rw [e1]; rfl
  have e3 : mayE ls = 0 := by unfold mayE; rw [hm]; rfl
  rw [e1, e2] at KT
  simp only [e3] at KM
  have HD := Lib.hid hd
  replace KT := Lib.hid KT
  replace KM := Lib.hid KM
  clear hd e1 e2 e3
  obtain ⟨hx1, hx2⟩ := hx
  go_enter Try.func10, Try.ntmps10
  go_wp2_with (first
    | (go_at_call 28; (with_reducible refine (KC.out).mono ?_); rintro e w1 ⟨rfl, rfl⟩)
    | (go_at_call 36; (with_reducible refine KT.out.mono ?_); rintro e w0 ⟨rfl, hb0⟩
       have hb1 := hb0.trans ((bel_alloc (o := .cells #[.int .i64 0, .int .i64 0, .int .i64 0, .int .i64 0, .int .i64 0] 75) bel_refl).below.mono hb0.size)
       have HTB := Lib.hid (Blk.new w0 75 [.int .i64 0, .int .i64 0, .int .i64 0, .int .i64 0, .int .i64 0])
       have HD1 := Lib.hid (HD.out.keep hb1)
       have HB1 := Lib.hid hb1
       clear hb1 hb0)
    | (go_at_call 29; (with_reducible refine (lives24 _).mono ?_); rintro e w2 ⟨rfl, hb1⟩
       have HD2 := Lib.hid (HD1.out.keep hb1)
       have HB2 : Hid (Below w.heap.size w w2) := Lib.hid (Aft.call HB1.out hb1)
       have hk := HTB.out.keepB hb1
       have k0 := hk.cell 0
       have k1 := hk.cell 1
       have k2 := hk.cell 2
       have k3 := hk.cell 3
       have k4 := hk.cell 4
       simp at k0 k1 k2 k3 k4
       have HK := Lib.hid hk
       clear hb1 hk)
    | (go_at_call 31; (with_reducible refine (KM.out _ HD2.out).mono ?_); rintro e w1 ⟨rfl, rfl⟩))
  go_ret
  exact ⟨rfl, HB2.out⟩
set_option maxRecDepth 20000 in
set_option maxHeartbeats 2000000 in
theorem ExactTallies_far4 (hd : Dl w A ls) (hn : (ls.length : Int) ≤ 30) (hc : (cnt ls : Int) ≤ 60) (hm : mayL ls = true) (hx : -16384 ≤ x ∧ x ≤ 16384) (hf : 16384 < y) :
    Calls Try.prog 10 #[.slice A ls.length c, .int .i64 x, .int .i64 y] w fun e w' => e = .returned (.bool true) ∧ Below w.heap.size w w' := by
  have KC := Lib.hid (Count_any (c := c) hd (by omega))
  have KM := fun (W : World) (h : Dl W A ls) => rMay21_any (w := W) (c := c) h (by omega) (by omega)
  have KT := Tally_any (c := c) (x := x) (y := y) hd (by omega) (by omega)
  have e1 : TallyE ls x y = 10 := by unfold TallyE; rw [if_neg (by rw [hm]; decide), if_neg (by rw [inP_true, inP_true]; omega)]
  have e2 : TallyV ls x y = .agg #[.int .i64 0, .int .i64 0, .int .i64 0, .int .i64 0, .int .i64 0] := by unfold TallyV; rw [e1]; rfl
  have e3 : mayE ls = 0 := by unfold mayE; rw [hm]; rfl
  rw [e1, e2] at KT
  simp only [e3] at KM
  have HD := Lib.hid hd
  replace KT := Lib.hid KT
  replace KM := Lib.hid KM
  clear hd e1 e2 e3
  obtain ⟨hx1, hx2⟩ := hx
  go_enter Try.func10, Try.ntmps10
  go_wp2_with (first
    | (go_at_call 28; (with_reducible refine (KC.out).mono ?_); rintro e w1 ⟨rfl, rfl⟩)
    | (go_at_call 36; (with_reducible refine KT.out.mono ?_); rintro e w0 ⟨rfl, hb0⟩
       have hb1 := hb0.trans ((bel_alloc (o := .cells #[.int .i64 0, .int .i64 0, .int .i64 0, .int .i64 0, .int .i64 0] 75) bel_refl).below.mono hb0.size)
       have HTB := Lib.hid (Blk.new w0 75 [.int .i64 0, .int .i64 0, .int .i64 0, .int .i64 0, .int .i64 0])
       have HD1 := Lib.hid (HD.out.keep hb1)
       have HB1 := Lib.hid hb1
       clear hb1 hb0)
    | (go_at_call 29; (with_reducible refine (lives24 _).mono ?_); rintro e w2 ⟨rfl, hb1⟩
       have HD2 := Lib.hid (HD1.out.keep hb1)
       have HB2 : Hid (Below w.heap.size w w2) := Lib.hid (Aft.call HB1.out hb1)
       have hk := HTB.out.keepB hb1
       have k0 := hk.cell 0
       have k1 := hk.cell 1
       have k2 := hk.cell 2
       have k3 := hk.cell 3
       have k4 := hk.cell 4
       simp at k0 k1 k2 k3 k4
       have HK := Lib.hid hk
       clear hb1 hk)
    | (go_at_call 31; (with_reducible refine (KM.out _ HD2.out).mono ?_); rintro e w1 ⟨rfl, rfl⟩))
  go_ret
  exact ⟨rfl, HB2.out⟩
set_option maxRecDepth 20000 in
set_option maxHeartbeats 4000000 in
theorem ExactTallies_fit (hd : Dl w A ls) (hn : (ls.length : Int) ≤ 30) (hc : (cnt ls : Int) ≤ 60) (hm : mayL ls = true) (hx : -16384 ≤ x ∧ x ≤ 16384) (hy : -16384 ≤ y ∧ y ≤ 16384) :
    Calls Try.prog 10 #[.slice A ls.length c, .int .i64 x, .int .i64 y] w fun e w' => e = .returned (.bool true) ∧ Below w.heap.size w w' := by
  have KC := Lib.hid (Count_any (c := c) hd (by omega))
  have KM := fun (W : World) (h : Dl W A ls) => rMay21_any (w := W) (c := c) h (by omega) (by omega)
  have KT := Tally_any (c := c) (x := x) (y := y) hd (by omega) (by omega)
  have KR := fun (W : World) (h : Dl W A ls) => rTally_any (w := W) (c := c) (x := x) (y := y) h (by omega) (by omega) hm hx hy
  have e1 : TallyE ls x y = 0 := by unfold TallyE; rw [if_neg (by rw [hm]; decide), if_pos (by rw [inP_true, inP_true]; omega)]
  have e2 : TallyV ls x y = tyV (rTally ls x y) := by unfold TallyV; rw [e1, if_pos rfl, tally_eq hm hx hy]
  have e3 : mayE ls = 0 := by unfold mayE; rw [hm]; rfl
  rw [e1, e2] at KT
  simp only [e3] at KM
  clear e1 e2 e3
  generalize rTally ls x y = t at *
  obtain ⟨t0, t1, t2, t3, t4, tp⟩ := t
  simp only [tyV] at KT KR
  have HD := Lib.hid hd
  replace KT := Lib.hid KT
  replace KM := Lib.hid KM
  replace KR := Lib.hid KR
  obtain ⟨hx1, hx2⟩ := hx
  obtain ⟨hy1, hy2⟩ := hy
  clear hd
  go_enter Try.func10, Try.ntmps10
  go_wp2_with (first
    | (go_at_call 28; (with_reducible refine (KC.out).mono ?_); rintro e w1 ⟨rfl, rfl⟩)
    | (go_at_call 36; (with_reducible refine KT.out.mono ?_); rintro e w0 ⟨rfl, hb0⟩
       have hb1 := hb0.trans ((bel_alloc (o := .cells #[.int .i64 t0, .int .i64 t1, .int .i64 t2, .int .i64 t3, .int .i64 t4] 75) bel_refl).below.mono hb0.size)
       have HTB := Lib.hid (Blk.new w0 75 [.int .i64 t0, .int .i64 t1, .int .i64 t2, .int .i64 t3, .int .i64 t4])
       have HD1 := Lib.hid (HD.out.keep hb1)
       have HB1 := Lib.hid hb1
       clear hb1 hb0)
    | (go_at_call 29; (with_reducible refine (lives24 _).mono ?_); rintro e w2 ⟨rfl, hb1⟩
       have HD2 := Lib.hid (HD1.out.keep hb1)
       have HB2 : Hid (Below w.heap.size w w2) := Lib.hid (Aft.call HB1.out hb1)
       have hk := HTB.out.keepB hb1
       have k0 := hk.cell 0
       have k1 := hk.cell 1
       have k2 := hk.cell 2
       have k3 := hk.cell 3
       have k4 := hk.cell 4
       simp at k0 k1 k2 k3 k4
       have HK := Lib.hid hk
       clear hb1 hk)
    | (go_at_call 31; (with_reducible refine (KM.out _ HD2.out).mono ?_); rintro e w1 ⟨rfl, rfl⟩))
  have HDd := Lib.hid (HD2.out.keep (bel_drew (bel_refl (a := w2))).below)
  have hS : ∀ u : World, Blk u w0.heap.size 75 [.int .i64 t0, .int .i64 t1, .int .i64 t2, .int .i64 t3, .int .i64 t4] → ∀ i, u.cell? ⟨w0.heap.size, i, none⟩ = [Value.int .i64 t0, .int .i64 t1, .int .i64 t2, .int .i64 t3, .int .i64 t4][i]? := fun u hu => hu.cell
  have s0 := fun u hu => hS u hu 0
  have s1 := fun u hu => hS u hu 1
  have s2 := fun u hu => hS u hu 2
  have s3 := fun u hu => hS u hu 3
  have s4 := fun u hu => hS u hu 4
  simp at s0 s1 s2 s3 s4
  clear hS k0 k1 k2 k3 k4
  go_region_held (fun u => Blk u w0.heap.size 75 [.int .i64 t0, .int .i64 t1, .int .i64 t2, .int .i64 t3, .int .i64 t4]) (first | (with_reducible exact HK.out.drew) | (with_reducible exact HK3.out))
    (first | (go_at_call 37; (with_reducible refine (KR.out _ HDd.out).mono ?_); rintro e w3 ⟨rfl, hb1⟩
              have HB3 : Hid (Below w.heap.size w w3) := Lib.hid (Aft.call (HB2.out.trans ((bel_drew (bel_refl (a := w2))).below.mono HB2.out.size)) hb1)
              have HK3 := Lib.hid (HK.out.drew.keepB hb1)
              clear hb1))
  all_goals
    clear s0 s1 s2 s3 s4
    go_wp2_with fail
    go_ret
    exact ⟨rfl, HB3.out⟩
theorem ExactTallies_any (hd : Dl w A ls) :
    Calls Try.prog 10 #[.slice A ls.length c, .int .i64 x, .int .i64 y] w fun e w' => e = .returned (.bool true) ∧ Below w.heap.size w w' := by
  rcases Int.lt_or_le 30 (ls.length : Int) with hn | hn
  · exact ExactTallies_big hn
  rcases Int.lt_or_le 60 (cnt ls : Int) with hc | hc
  · exact ExactTallies_many hd hn hc
  cases hm : mayL ls
  · exact ExactTallies_may hd hn hc hm
  rcases Int.lt_or_le x (-16384) with h1 | h1
  · exact ExactTallies_far1 hd hn hc hm h1
  rcases Int.lt_or_le 16384 x with h2 | h2
  · exact ExactTallies_far2 hd hn hc hm h2
  rcases Int.lt_or_le y (-16384) with h3 | h3
  · exact ExactTallies_far3 hd hn hc hm ⟨h1, h2⟩ h3
  rcases Int.lt_or_le 16384 y with h4 | h4
  · exact ExactTallies_far4 hd hn hc hm ⟨h1, h2⟩ h4
  exact ExactTallies_fit hd hn hc hm ⟨h1, h2⟩ ⟨h3, h4⟩
end
end Go.Proofs.Ytnmnehgcliiofaa
