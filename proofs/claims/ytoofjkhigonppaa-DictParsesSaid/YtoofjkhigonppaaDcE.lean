/-
  Layer 15: a real number's value.
-/
import Derived.Test.YtoofjkhigonppaaDcD
namespace Go.Proofs.Ytoofjkhigonppaa
open Go.RowKit

def fldF (l : List Int) : Fl := l.foldl takeF fl0
def badFl (f : Fl) : Bool := f.wrong || decide (f.digits = 0) || (decide (f.sign ≠ 0) && decide (f.exps = 0))
def expF (f : Fl) : Int := f.sign * f.exp - f.behind
def sgnF (f : Fl) (x : Int) : Int := if f.minus = true then -x else x
/-- The value of half bytes as a real number. -/
def realF (l : List Int) : Option Int := if badFl (fldF l) = true then none else (valS (fldF l).m.toNat (expF (fldF l))).map (sgnF (fldF l))
def cutM (m : Nat) (e : Int) : Nat := if e < -17 then m / 10 ^ ((-e).toNat - 17) else m
/-- The quotients that are asked for on the way. -/
def DivL (f : Fl) : Prop := expF f < 0 → ∀ k, k ≤ 17 → cutM f.m.toNat (expF f) ≤ 2147483648 * 10 ^ k → DivOk (cutM f.m.toNat (expF f) * 65536) (10 ^ k)
theorem fld_ok : ∀ (l : List Int) (f : Fl), FlOk f → (∀ d ∈ l, 0 ≤ d) → FlOk (l.foldl takeF f)
  | [], f, h, _ => h
  | d :: l, f, h, hd => fld_ok l _ (takeF_ok h (hd d (by simp))) (fun x hx => hd x (by simp [hx]))
theorem size_any (m : Nat) (hm : m < 10000000000000000) (e : Int) (h0 : -2000 ≤ e) (h1 : e ≤ 2000) (hdiv : e < 0 → ∀ k, k ≤ 17 → cutM m e ≤ 2147483648 * 10 ^ k → DivOk (cutM m e * 65536) (10 ^ k)) : ∃ d, ∀ w, Calls Try.prog 55 #[.int .u64 m, .int .i64 e] w (SizeR (valS m e) d w) := by
  rcases Int.lt_or_le e 0 with h | h
  · exact ⟨_, fun w => size_down m hm e h h0 (hdiv h) w⟩
  · exact ⟨_, fun w => size_up m hm e h h1 w⟩
theorem valN_bd {m k : Nat} {x : Int} (h : valN m k = some x) : 0 ≤ x ∧ x ≤ 281474976710656 := by
  unfold valN at h
  have hp : 0 < 10 ^ k := Nat.pow_pos (by omega)
  generalize 10 ^ k = P at *
  split at h
  · cases h
  · rename_i hc
    injection h with h
    rw [← h]
    have : (131072 * m + P) / (2 * P) < 281474976710657 := by
      rw [Nat.div_lt_iff_lt_mul (by omega)]
      omega
    exact ⟨Int.natCast_nonneg _, by omega⟩
theorem valS_bd {m : Nat} {e x : Int} (h : valS m e = some x) : 0 ≤ x ∧ x ≤ 281474976710656 := by
  unfold valS at h
  split at h
  · split at h
    · injection h with h
      omega
    · cases h
  · split at h
    · exact valN_bd h
    · exact valN_bd h
def Real1R (bs : List UInt8) (p r : Nat) (A : Option Addr) (c : Nat) (w : World) (e : Ending) (w' : World) : Prop :=
  (match realS (bs.drop p) with
    | none => ∃ x, e = .returned (.tuple #[.int .i64 x, .bool false])
    | some (l, n) => match realF l with
      | none => ∃ x, e = .returned (.tuple #[.int .i64 x, .bool false])
      | some x => e = .returned (.tuple #[.int .i64 x, .bool true]) ∧ Rd w' r bs (p + n) false A c) ∧ Tn (fun i => i = r) w w'
theorem real1_no {bs : List UInt8} {p r : Nat} {A : Option Addr} {c : Nat} {w w' : World} {x : Int} (h : realS (bs.drop p) = none ∨ ∃ l n, realS (bs.drop p) = some (l, n) ∧ realF l = none) (ht : Tn (fun i => i = r) w w') : Real1R bs p r A c w (.returned (.tuple #[.int .i64 x, .bool false])) w' := by
  unfold Real1R
  rcases h with h | ⟨l, n, h, h2⟩
  · rw [h]; exact ⟨⟨_, rfl⟩, ht⟩
  · rw [h]; dsimp only; rw [h2]; exact ⟨⟨_, rfl⟩, ht⟩
theorem real1_yes {bs : List UInt8} {p r : Nat} {A : Option Addr} {c : Nat} {w w' : World} {x : Int} {l : List Int} {n : Nat} (h : realS (bs.drop p) = some (l, n)) (h2 : realF l = some x) (hr : Rd w' r bs (p + n) false A c) (ht : Tn (fun i => i = r) w w') : Real1R bs p r A c w (.returned (.tuple #[.int .i64 x, .bool true])) w' := by
  unfold Real1R
  rw [h]; dsimp only; rw [h2]; exact ⟨⟨rfl, hr⟩, ht⟩
theorem flC_zero : flC fl0 = [.bool false, .int .u64 0, .int .i64 0, .int .i64 0, .int .i64 0, .int .i64 0, .int .i64 0, .bool false, .bool false, .bool false] := rfl
set_option maxRecDepth 20000 in
set_option maxHeartbeats 8000000 in
theorem real1_any {w : World} {r : Nat} {bs : List UInt8} {p : Nat} {A : Option Addr} {c : Nat} (h : Rd w r bs p false A c) (hA : ∀ k, rowOf A = some k → k < w.heap.size) (hdiv : ∀ l n, realS (bs.drop p) = some (l, n) → DivL (fldF l)) :
    Calls Try.prog 40 #[.pointer (some ⟨r, 0, none⟩)] w (Real1R bs p r A c w) := by
  have hrl := h.blk.lt
  have H := Lib.hid h
  have HDV := Lib.hid hdiv
  have hap : rowOf A ≠ some w.heap.size := fun e => by have := hA _ e; omega
  clear h hdiv hA
  have hal := (bel_alloc (o := .cells (flC fl0).toArray 83) (bel_refl (a := w))).below
  have HH := Lib.hid (halves_any (w := w.alloc (.cells (flC fl0).toArray 83)) (H.out.keep hal) (Blk.newAt w _ _ rfl) fl0_ok hap)
  rw [flC_zero] at HH
  have hT : ∀ {w2 : World}, Tn (fun i => i = r ∨ i = w.heap.size) (w.alloc (.cells #[.bool false, .int .u64 0, .int .i64 0, .int .i64 0, .int .i64 0, .int .i64 0, .int .i64 0, .bool false, .bool false, .bool false] 83)) w2 → Tn (fun i => i = r) w w2 := fun h => ((Tn.of_below hal).trans h).mono (fun i hi => by rcases hi with hi | hi; exact .inl hi; exact .inr (by omega))
  cases hr : realS (bs.drop p) with
  | none =>
    have HN : Hid (Calls Try.prog 53 #[.pointer (some ⟨r, 0, none⟩), .func (.func 54) #[.pointer (some ⟨w.heap.size, 0, none⟩)] #[]] (w.alloc (.cells #[.bool false, .int .u64 0, .int .i64 0, .int .i64 0, .int .i64 0, .int .i64 0, .int .i64 0, .bool false, .bool false, .bool false] 83)) fun e w' => e = .returned (.bool false) ∧ Tn (fun i => i = r) w w') := Lib.hid (HH.out.mono fun e w' h => by
      obtain ⟨f', q, hm, hf⟩ := h
      rw [hr] at hm
      exact ⟨hm, hT hf.tn⟩)
    have HR := Lib.hid hr
    clear hr HH hT
    go_enter Try.func40, Try.ntmps40
    go_wp2_with (first | (go_at_call 53; (with_reducible refine HN.out.mono ?_); rintro e w1 ⟨rfl, ht⟩; have HT := Lib.hid ht; clear ht) | fail)
    go_ret2
    exact real1_no (.inl HR.out) HT.out
  | some ln =>
    obtain ⟨l, n⟩ := ln
    have HN : Hid (Calls Try.prog 53 #[.pointer (some ⟨r, 0, none⟩), .func (.func 54) #[.pointer (some ⟨w.heap.size, 0, none⟩)] #[]] (w.alloc (.cells #[.bool false, .int .u64 0, .int .i64 0, .int .i64 0, .int .i64 0, .int .i64 0, .int .i64 0, .bool false, .bool false, .bool false] 83)) fun e w' => e = .returned (.bool true) ∧ Rd w' r bs (p + n) false A c ∧ Blk w' w.heap.size 83 (flC (fldF l)) ∧ FlOk (fldF l) ∧ Tn (fun i => i = r) w w') := Lib.hid (HH.out.mono fun e w' h => by
      obtain ⟨f', q, hm, hf⟩ := h
      rw [hr] at hm
      obtain ⟨rfl, rfl, rfl⟩ := hm
      exact ⟨rfl, hf.rd, hf.fl, hf.ok, hT hf.tn⟩)
    have hdv := HDV.out l n hr
    have HR := Lib.hid hr
    have hrf : realF l = if badFl (fldF l) = true then none else (valS (fldF l).m.toNat (expF (fldF l))).map (sgnF (fldF l)) := rfl
    unfold DivL at hdv
    generalize fldF l = f at *
    have HDD := Lib.hid hdv
    have HRF := Lib.hid hrf
    clear hr HH hT hdv HDV hrf
    go_enter Try.func40, Try.ntmps40
    go_wp2_with fail
    (go_at_call 53; (with_reducible refine HN.out.mono ?_); rintro e w1 ⟨rfl, hrd, hfl, hok, ht⟩)
    have c0 : w1.cell? ⟨w.heap.size, 0, none⟩ = some (.bool f.minus) := hfl.cell 0
    have c1 : w1.cell? ⟨w.heap.size, 1, none⟩ = some (.int .u64 f.m) := hfl.cell 1
    have c2 : w1.cell? ⟨w.heap.size, 2, none⟩ = some (.int .i64 f.digits) := hfl.cell 2
    have c3 : w1.cell? ⟨w.heap.size, 3, none⟩ = some (.int .i64 f.behind) := hfl.cell 3
    have c4 : w1.cell? ⟨w.heap.size, 4, none⟩ = some (.int .i64 f.exp) := hfl.cell 4
    have c5 : w1.cell? ⟨w.heap.size, 5, none⟩ = some (.int .i64 f.sign) := hfl.cell 5
    have c6 : w1.cell? ⟨w.heap.size, 6, none⟩ = some (.int .i64 f.exps) := hfl.cell 6
    have c8 : w1.cell? ⟨w.heap.size, 8, none⟩ = some (.bool f.wrong) := hfl.cell 8
    have fl := hfl.lt
    have HFL := Lib.hid hfl
    have HRD := Lib.hid hrd
    have HT := Lib.hid ht
    have hm2 := hok.m2
    obtain ⟨m0, -, d0, d1, b0, b1, e0, e1, x0, x1, sg, ok⟩ := hok
    have hdv := HDD.out
    obtain ⟨minus, m, digits, behind, exp, sign, exps, point, wrong, any⟩ := f
    dsimp only [expF] at *
    have hbad : badFl ⟨minus, m, digits, behind, exp, sign, exps, point, wrong, any⟩ = (wrong || decide (digits = 0) || (decide (sign ≠ 0) && decide (exps = 0))) := rfl
    clear HN hfl hrd ht HDD ok
    have key : (wrong = true ∨ (wrong = false ∧ digits = 0) ∨ (wrong = false ∧ (digits == 0) = false ∧ (sign != 0) = true ∧ exps = 0)) ∨ (wrong = false ∧ (digits == 0) = false ∧ ((sign != 0) = false ∨ ((sign != 0) = true ∧ (exps == 0) = false))) := by
      cases wrong <;> simp <;> omega
    rcases key with hb | ⟨rfl, h2, h3⟩
    · have hbt : badFl ⟨minus, m, digits, behind, exp, sign, exps, point, wrong, any⟩ = true := by
        rw [hbad]
        rcases hb with rfl | ⟨rfl, rfl⟩ | ⟨rfl, h2, h3, rfl⟩
        · rfl
        · simp
        · simp at h3; simp [h3]
      have HBT := Lib.hid hbt
      clear hbad hbt hdv
      rcases hb with rfl | ⟨rfl, rfl⟩ | ⟨rfl, h2, h3, rfl⟩
      all_goals
        go_wp2_with fail
        go_ret2
        exact real1_no (.inr ⟨_, _, HR.out, by rw [HRF.out, HBT.out]; rfl⟩) HT.out
    · have hbt : badFl ⟨minus, m, digits, behind, exp, sign, exps, point, false, any⟩ = false := by
        rw [hbad]
        rcases h3 with h3 | ⟨h3, h4⟩
        · simp at h2 h3; simp [h2, h3]
        · simp at h2 h4; simp [h2, h4]
      have HBT := Lib.hid hbt
      obtain ⟨M, rfl⟩ : ∃ M : Nat, m = M := ⟨m.toNat, by omega⟩
      rw [Int.toNat_natCast] at hdv
      have hse : -1000 ≤ sign * exp ∧ sign * exp ≤ 1000 := by rcases sg with rfl | rfl | rfl <;> omega
      obtain ⟨s1, s2⟩ := hse
      obtain ⟨SE, hSE⟩ : ∃ SE, sign * exp = SE := ⟨_, rfl⟩
      have hve : valS (M : Int).toNat (sign * exp - behind) = valS M (SE - behind) := by rw [hSE, Int.toNat_natCast]
      have HVE := Lib.hid hve
      rw [hSE] at s1 s2 hdv
      obtain ⟨dd, hsz⟩ := size_any M (by omega) (SE - behind) (by omega) (by omega) hdv
      unfold SizeR at hsz
      have HSZ := Lib.hid hsz
      have hvb := fun x (h : valS M (SE - behind) = some x) => valS_bd h
      have t1 : IntKind.i64.wrap (sign * exp) = SE := by rw [hSE]; exact IntWalk.i64_in _ (by omega)
      have t2 : IntKind.i64.wrap (SE - behind) = SE - behind := IntWalk.i64_in _ (by omega)
      have HTT := Lib.hid (And.intro t1 t2)
      clear hbad hbt hdv t1 t2 hSE hve hsz
      obtain ⟨V, hV⟩ : ∃ V, valS M (SE - behind) = V := ⟨_, rfl⟩
      rw [hV] at HSZ hvb HVE
      clear hV
      rcases h3 with h3 | ⟨h3, h4⟩
      all_goals
        go_upto_region 4 with fail
        obtain ⟨t1, t2⟩ := HTT.out
        cases V with
        | none =>
          unfold sizeV at HSZ
          dsimp only at HSZ
          refine wp_region_bw_lit (by kernel_rfl) (by kernel_rfl) ?_
          repeat (go_big_quiet_step ((go_at_call 55; with_reducible exact Calls.bw_of (HSZ.out _))))
          refine wpQuiet_nil ?_
          rintro _ ⟨u, rfl⟩
          have hbu := u.prop
          have hzu := u.prop.size
          try simp at hzu
          clear t1 t2
          have c0' : u.val.cell? ⟨w.heap.size, 0, none⟩ = some (.bool minus) := (hbu.cell (p := ⟨w.heap.size, 0, none⟩) fl).trans c0
          clear c0 c1 c2 c3 c4 c5 c6 c8
          have HU := Lib.hid hbu
          clear hbu hzu
          cases minus
          all_goals
            go_wp2_with fail
            go_ret2
            exact real1_no (.inr ⟨_, _, HR.out, by rw [HRF.out, HBT.out, HVE.out]; rfl⟩) (HT.out.call HU.out)
        | some x =>
          obtain ⟨v1, v2⟩ := hvb x rfl
          unfold sizeV at HSZ
          dsimp only at HSZ
          refine wp_region_bw_lit (by kernel_rfl) (by kernel_rfl) ?_
          repeat (go_big_quiet_step ((go_at_call 55; with_reducible exact Calls.bw_of (HSZ.out _))))
          refine wpQuiet_nil ?_
          rintro _ ⟨u, rfl⟩
          have hbu := u.prop
          have hzu := u.prop.size
          try simp at hzu
          clear t1 t2
          have c0' : u.val.cell? ⟨w.heap.size, 0, none⟩ = some (.bool minus) := (hbu.cell (p := ⟨w.heap.size, 0, none⟩) fl).trans c0
          clear c0 c1 c2 c3 c4 c5 c6 c8 hvb
          have HU := Lib.hid hbu
          clear hbu hzu
          cases minus
          all_goals
            go_wp2_with fail
            go_ret2
            exact real1_yes HR.out (by rw [HRF.out, HBT.out, HVE.out]; rfl) (HRD.out.keep HU.out) (HT.out.call HU.out)
end Go.Proofs.Ytoofjkhigonppaa
