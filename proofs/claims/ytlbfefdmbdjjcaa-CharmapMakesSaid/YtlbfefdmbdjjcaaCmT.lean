/-
  Layer 08: Make.
-/
import Derived.Test.YtlbfefdmbdjjcaaCmS
namespace Go.Proofs.Ytlbfefdmbdjjcaa
open Go.RowKit

theorem mayL_cons {lc lg last : Int} {p : Pr} {l : List Pr} (h : mayL lc lg last (p :: l) = true) : (last < p.1 ∧ p.1 ≤ lc ∧ 1 ≤ p.2 ∧ p.2 ≤ lg) ∧ mayL lc lg p.1 l = true := by
  have h' : (decide (last < p.1 ∧ p.1 ≤ lc ∧ 1 ≤ p.2 ∧ p.2 ≤ lg) && mayL lc lg p.1 l) = true := h
  rw [Bool.and_eq_true, decide_eq_true_eq] at h'
  exact h'
theorem mayL_all {lc lg : Int} : ∀ {l : List Pr} {last : Int}, mayL lc lg last l = true → ∀ p ∈ l, last < p.1 ∧ p.1 ≤ lc ∧ 1 ≤ p.2 ∧ p.2 ≤ lg
  | [], _, _, _, hs => (List.not_mem_nil hs).elim
  | a :: l, last, h, s, hs => by
    obtain ⟨h1, h2⟩ := mayL_cons h
    rcases List.mem_cons.1 hs with rfl | hs
    · exact h1
    · have := mayL_all h2 s hs
      omega
theorem mayL_pair {lc lg : Int} : ∀ {l : List Pr} {last : Int}, mayL lc lg last l = true → ∀ (i j : Nat) (a b : Pr), l[i]? = some a → l[j]? = some b → i < j → a.1 < b.1
  | [], _, _, _, _, _, _, ha, _, _ => by simp at ha
  | x :: l, last, h, i, j, a, b, ha, hb, hij => by
    obtain ⟨h1, h2⟩ := mayL_cons h
    obtain ⟨j', rfl⟩ : ∃ j', j = j' + 1 := ⟨j - 1, by omega⟩
    rw [List.getElem?_cons_succ] at hb
    cases i with
    | zero =>
      simp only [List.getElem?_cons_zero, Option.some.injEq] at ha
      subst ha
      have := mayL_all h2 b (List.mem_of_getElem? hb)
      omega
    | succ i =>
      rw [List.getElem?_cons_succ] at ha
      exact mayL_pair h2 i j' a b ha hb (by omega)
theorem most_bd (f : Int) : mostC f ≤ 1114111 ∧ mostG f ≤ 65535 := by
  unfold mostC mostG
  refine ⟨?_, ?_⟩
  · split <;> (try split) <;> (try split) <;> omega
  · split <;> omega
theorem may_pb {f : Int} {l : List Pr} (h : mayS f l = true) : PB l := fun p hp => by
  have h1 := mayL_all h p hp
  have h2 := most_bd f
  omega
theorem may_in6 {l : List Pr} (h : mayS 6 l = true) : InP l (f6 l) (n6 l) ∧ (0 ≤ f6 l ∧ f6 l ≤ 65535) ∧ (n6 l : Int) ≤ 65536 := by
  have hall := mayL_all h
  have hc : mostC 6 = 65535 := rfl
  have hg : mostG 6 = 65535 := rfl
  rw [hc, hg] at hall
  by_cases h0 : l = []
  · subst h0
    exact ⟨fun p hp => (List.not_mem_nil hp).elim, by decide, by decide⟩
  · have h1 : 0 < l.length := List.length_pos_iff.2 h0
    have h2 : f6 l = (hdP l).1 := if_neg h0
    have h3 : n6 l = ((ltP l).1 - (hdP l).1 + 1).toNat := if_neg h0
    have a1 := hall _ (List.mem_of_getElem? (hd_at h1))
    have a2 := hall _ (List.mem_of_getElem? (lt_at h1))
    have key : ∀ p ∈ l, (hdP l).1 ≤ p.1 ∧ p.1 ≤ (ltP l).1 := by
      intro p hp
      obtain ⟨i, hi⟩ := List.getElem?_of_mem hp
      have hil := (List.getElem?_eq_some_iff.1 hi).1
      constructor
      · rcases Nat.eq_zero_or_pos i with e | e
        · subst e
          have := hi.symm.trans (hd_at h1)
          injection this with this
          rw [this]
          exact Int.le_refl _
        · exact Int.le_of_lt (mayL_pair h 0 i _ _ (hd_at h1) hi e)
      · rcases Nat.lt_or_ge i (l.length - 1) with e | e
        · exact Int.le_of_lt (mayL_pair h i _ _ _ hi (lt_at h1) e)
        · have e2 : i = l.length - 1 := by omega
          rw [e2] at hi
          have := hi.symm.trans (lt_at h1)
          injection this with this
          rw [this]
          exact Int.le_refl _
    rw [h2, h3]
    refine ⟨fun p hp => ?_, by omega, by omega⟩
    have k1 := key p hp
    have k2 := hall p hp
    omega
/-- What Make says: a number of an error, or bytes. -/
def mkS (f : Int) (l : List Pr) : Except Int (List UInt8) :=
  if isFmtB f = false then .error 81 else if mayS f l = false then .error 1 else if 8192 < l.length then .error 3
  else if f = 0 then .ok (m0 l)
  else if f = 4 then (if 8189 < (runL l ++ [sent]).length then .error 3 else .ok (m4 (runL l ++ [sent])))
  else if f = 6 then (if 8192 < n6 l then .error 3 else .ok (m6 l))
  else .ok (m12 (runL l))
def MkV (v : Except Int (List UInt8)) (w : World) (e : Ending) (w' : World) : Prop :=
  match v with
  | .error x => e = .returned (.tuple #[.slice none 0 0, .int .i64 x]) ∧ Below w.heap.size w w'
  | .ok N => MkR N w e w'
theorem mk_err {v : Except Int (List UInt8)} {x : Int} {w w' : World} (h : v = .error x) (hb : Below w.heap.size w w') : MkV v w (.returned (.tuple #[.slice none 0 0, .int .i64 x])) w' := by subst h; exact ⟨rfl, hb⟩
/-- The value of a maker's answer, told apart later. -/
theorem mkv_form {v : Except Int (List UInt8)} {w0 w w' : World} {e : Ending} (h : MkV v w e w') (hb : Below w0.heap.size w0 w) : ∃ A n c x, e = .returned (.tuple #[.slice A n c, .int .i64 x]) ∧ MkV v w0 (.returned (.tuple #[.slice A n c, .int .i64 x])) w' := by
  cases v with
  | error x =>
    obtain ⟨rfl, h2⟩ := h
    exact ⟨_, _, _, _, rfl, rfl, hb.trans (h2.mono hb.size)⟩
  | ok N =>
    obtain ⟨A, c, rfl, h2, h3⟩ := h
    exact ⟨_, _, _, _, rfl, _, _, rfl, h2, hb.trans (h3.mono hb.size)⟩
set_option maxRecDepth 20000 in
set_option maxHeartbeats 4000000 in
theorem Make_any {w : World} {A : Option Addr} {n c : Nat} {l : List Pr} (f : Int) (h : RowsAt w A n 2 (l.map prC)) (hn : n ≤ 1000000) (hc : n ≤ c) :
    Calls Try.prog 15 #[.int .i64 f, .slice A n c] w (MkV (mkS f l) w) := by
  have hl := h.len
  rw [List.length_map] at hl
  have hv : mkS f l = _ := rfl
  obtain ⟨fb, hfb⟩ : ∃ b, isFmtB f = b := ⟨_, rfl⟩
  have HIF := Lib.hid fun wi => isFormat_any f wi
  rw [hfb] at HIF
  cases fb with
  | false =>
    have hv2 : mkS f l = .error 81 := if_pos hfb
    have HV := Lib.hid hv2
    clear h hv hv2 hfb
    go_enter Try.func15, Try.ntmps15
    go_wp2_with (first
      | (go_at_call 24; (with_reducible refine (HIF.out _).mono ?_); rintro e w1 ⟨rfl, hb⟩; have HB1 := Lib.hid hb; clear hb)
      | fail)
    go_ret2
    exact mk_err HV.out HB1.out
  | true =>
    obtain ⟨mb, hmb⟩ : ∃ b, mayS f l = b := ⟨_, rfl⟩
    have HMM : Hid (∀ wi, Below w.heap.size w wi → Calls Try.prog 34 #[.int .i64 f, .slice A n c] wi fun e w' => e = .returned (.bool mb) ∧ Below wi.heap.size wi w') := Lib.hid fun wi hb => by
      rw [← hmb]
      exact mayMake_any f (h.keep hb) hn
    have hs0 : mkS f l = if mayS f l = false then .error 1 else if 8192 < l.length then .error 3
      else if f = 0 then .ok (m0 l)
      else if f = 4 then (if 8189 < (runL l ++ [sent]).length then .error 3 else .ok (m4 (runL l ++ [sent])))
      else if f = 6 then (if 8192 < n6 l then .error 3 else .ok (m6 l))
      else .ok (m12 (runL l)) := if_neg (by rw [hfb]; simp)
    cases mb with
    | false =>
      have hv2 := hs0.trans (if_pos hmb)
      have HV := Lib.hid hv2
      clear h hv hv2 hfb hs0 hmb
      go_enter Try.func15, Try.ntmps15
      go_wp2_with (first
        | (go_at_call 24; (with_reducible refine (HIF.out _).mono ?_); rintro e w1 ⟨rfl, hb⟩; have HB1 := Lib.hid hb; clear hb)
        | (go_at_call 34; (with_reducible refine (HMM.out _ HB1.out).mono ?_); rintro e w2 ⟨rfl, hb⟩; have HB2 := Lib.hid (HB1.out.trans (hb.mono HB1.out.size)); clear hb)
        | fail)
      go_ret2
      exact mk_err HV.out HB2.out
    | true =>
      have hv2 := hs0.trans (if_neg (by rw [hmb]; simp))
      by_cases hlong : 8192 < l.length
      · have hv3 := hv2.trans (if_pos hlong)
        have HV := Lib.hid hv3
        have hln : ¬ (n : Int) ≤ 8192 := by omega
        clear h hv hv2 hv3 hfb hs0 hmb
        go_enter Try.func15, Try.ntmps15
        go_wp2_with (first
          | (go_at_call 24; (with_reducible refine (HIF.out _).mono ?_); rintro e w1 ⟨rfl, hb⟩; have HB1 := Lib.hid hb; clear hb)
          | (go_at_call 34; (with_reducible refine (HMM.out _ HB1.out).mono ?_); rintro e w2 ⟨rfl, hb⟩; have HB2 := Lib.hid (HB1.out.trans (hb.mono HB1.out.size)); clear hb)
          | fail)
        go_ret2
        exact mk_err HV.out HB2.out
      have hv3 := hv2.trans (if_neg hlong)
      have hln : (n : Int) ≤ 8192 := by omega
      have hn8 : n ≤ 8192 := by omega
      have hpb := may_pb hmb
      have hcs : (f == 0) = true ∨ ((f == 0) = false ∧ (f == 4) = true) ∨ ((f == 0) = false ∧ (f == 4) = false ∧ (f == 6) = true) ∨ ((f == 0) = false ∧ (f == 4) = false ∧ (f == 6) = false) := by
        simp only [beq_iff_eq, beq_eq_false_iff_ne]
        omega
      rcases hcs with e0 | ⟨e0, e4⟩ | ⟨e0, e4, e6⟩ | ⟨e0, e4, e6⟩
      · have hf : f = 0 := by simpa using e0
        have hin : ∀ p ∈ l, 0 ≤ p.1 ∧ p.1 ≤ 255 ∧ 0 ≤ p.2 ∧ p.2 ≤ 255 := fun p hp => by
          have h1 := mayL_all hmb p hp
          rw [hf] at h1
          have hc0 : mostC 0 = 255 := rfl
          have hg0 : mostG 0 = 255 := rfl
          omega
        have hvv : mkS f l = .ok (m0 l) := by rw [hv3]; rw [if_pos hf]
        have HMD : Hid (∀ wi, Below w.heap.size w wi → Calls Try.prog 35 #[.slice A n c] wi (MkV (mkS f l) wi)) := Lib.hid fun wi hb => by
          rw [hvv]
          exact made0_any (h.keep hb) hn8 hin
        clear hv hv2 hv3 hs0 hvv
        generalize mkS f l = V at HMD ⊢
        clear h hfb hmb hpb hf
        go_enter Try.func15, Try.ntmps15
        go_wp2_with (first
          | (go_at_call 24; (with_reducible refine (HIF.out _).mono ?_); rintro e w1 ⟨rfl, hb⟩; have HB1 := Lib.hid hb; clear hb)
          | (go_at_call 34; (with_reducible refine (HMM.out _ HB1.out).mono ?_); rintro e w2 ⟨rfl, hb⟩; have HB2 := Lib.hid (HB1.out.trans (hb.mono HB1.out.size)); clear hb)
          | (go_at_call 35; (with_reducible refine (HMD.out _ HB2.out).mono ?_); rintro e w3 hm; obtain ⟨A3, n3, c3, x3, rfl, hm2⟩ := mkv_form hm HB2.out; have HM3 := Lib.hid hm2; clear hm hm2)
          | fail)
        go_ret2
        exact HM3.out
      · have hf : f = 4 := by simpa using e4
        have hvv : mkS f l = if 8189 < (runL l ++ [sent]).length then .error 3 else .ok (m4 (runL l ++ [sent])) := by rw [hv3]; rw [if_neg (by omega), if_pos hf]
        have HMD : Hid (∀ wi, Below w.heap.size w wi → Calls Try.prog 36 #[.slice A n c] wi (MkV (mkS f l) wi)) := Lib.hid fun wi hb => by
          rw [hvv]
          refine (made4_any (h.keep hb) hn8 hc hpb).mono ?_
          rintro e w' (⟨h1, h2, h3⟩ | ⟨h1, h2⟩)
          · rw [if_pos h1]
            exact ⟨h2, h3⟩
          · rw [if_neg (by omega)]
            exact h2
        clear hv hv2 hv3 hs0 hvv
        generalize mkS f l = V at HMD ⊢
        clear h hfb hmb hpb hf
        go_enter Try.func15, Try.ntmps15
        go_wp2_with (first
          | (go_at_call 24; (with_reducible refine (HIF.out _).mono ?_); rintro e w1 ⟨rfl, hb⟩; have HB1 := Lib.hid hb; clear hb)
          | (go_at_call 34; (with_reducible refine (HMM.out _ HB1.out).mono ?_); rintro e w2 ⟨rfl, hb⟩; have HB2 := Lib.hid (HB1.out.trans (hb.mono HB1.out.size)); clear hb)
          | (go_at_call 36; (with_reducible refine (HMD.out _ HB2.out).mono ?_); rintro e w3 hm; obtain ⟨A3, n3, c3, x3, rfl, hm2⟩ := mkv_form hm HB2.out; have HM3 := Lib.hid hm2; clear hm hm2)
          | fail)
        go_ret2
        exact HM3.out
      · have hf : f = 6 := by simpa using e6
        subst hf
        obtain ⟨i1, i2, i3⟩ := may_in6 hmb
        have hf : (6 : Int) = 6 := rfl
        have hvv : mkS 6 l = if 8192 < n6 l then .error 3 else .ok (m6 l) := by rw [hv3]; rw [if_neg (by decide), if_neg (by decide), if_pos rfl]
        have HMD : Hid (∀ wi, Below w.heap.size w wi → Calls Try.prog 37 #[.slice A n c] wi (MkV (mkS 6 l) wi)) := Lib.hid fun wi hb => by
          rw [hvv]
          refine (made6_any (h.keep hb) hn8 i1 hpb i2 i3).mono ?_
          rintro e w' (⟨h1, h2, h3⟩ | ⟨h1, h2⟩)
          · rw [if_pos h1]
            exact ⟨h2, h3⟩
          · rw [if_neg (by omega)]
            exact h2
        clear hv hv2 hv3 hs0 hvv
        generalize mkS 6 l = V at HMD ⊢
        clear h hfb hmb hpb hf
        go_enter Try.func15, Try.ntmps15
        go_wp2_with (first
          | (go_at_call 24; (with_reducible refine (HIF.out _).mono ?_); rintro e w1 ⟨rfl, hb⟩; have HB1 := Lib.hid hb; clear hb)
          | (go_at_call 34; (with_reducible refine (HMM.out _ HB1.out).mono ?_); rintro e w2 ⟨rfl, hb⟩; have HB2 := Lib.hid (HB1.out.trans (hb.mono HB1.out.size)); clear hb)
          | (go_at_call 37; (with_reducible refine (HMD.out _ HB2.out).mono ?_); rintro e w3 hm; obtain ⟨A3, n3, c3, x3, rfl, hm2⟩ := mkv_form hm HB2.out; have HM3 := Lib.hid hm2; clear hm hm2)
          | fail)
        go_ret2
        exact HM3.out
      · have hf : f ≠ 0 ∧ f ≠ 4 ∧ f ≠ 6 := by simp only [beq_eq_false_iff_ne] at e0 e4 e6; exact ⟨e0, e4, e6⟩
        have hvv : mkS f l = .ok (m12 (runL l)) := by rw [hv3]; rw [if_neg hf.1, if_neg hf.2.1, if_neg hf.2.2]
        have HMD : Hid (∀ wi, Below w.heap.size w wi → Calls Try.prog 38 #[.slice A n c] wi (MkV (mkS f l) wi)) := Lib.hid fun wi hb => by
          rw [hvv]
          exact made12_any (h.keep hb) hn8 hc hpb
        clear hv hv2 hv3 hs0 hvv
        generalize mkS f l = V at HMD ⊢
        clear h hfb hmb hpb hf
        go_enter Try.func15, Try.ntmps15
        go_wp2_with (first
          | (go_at_call 24; (with_reducible refine (HIF.out _).mono ?_); rintro e w1 ⟨rfl, hb⟩; have HB1 := Lib.hid hb; clear hb)
          | (go_at_call 34; (with_reducible refine (HMM.out _ HB1.out).mono ?_); rintro e w2 ⟨rfl, hb⟩; have HB2 := Lib.hid (HB1.out.trans (hb.mono HB1.out.size)); clear hb)
          | (go_at_call 38; (with_reducible refine (HMD.out _ HB2.out).mono ?_); rintro e w3 hm; obtain ⟨A3, n3, c3, x3, rfl, hm2⟩ := mkv_form hm HB2.out; have HM3 := Lib.hid hm2; clear hm hm2)
          | fail)
        go_ret2
        exact HM3.out
end Go.Proofs.Ytlbfefdmbdjjcaa
