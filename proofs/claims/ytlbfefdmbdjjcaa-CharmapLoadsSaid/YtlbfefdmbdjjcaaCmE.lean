/-
  Layer 08: a reader that a call has made; formats 6 and 12; how long a subtable is.
-/
import Derived.Test.YtlbfefdmbdjjcaaCmD
namespace Go.Proofs.Ytlbfefdmbdjjcaa
open Go.RowKit

/-- A reader that the call has made in its first block. -/
structure Cu (w wi : World) (bs : List UInt8) (s : Nat × Bool) (A : Option Addr) (c : Nat) : Prop where
  rd : Rd wi w.heap.size bs s.1 s.2 A c
  bel : Below w.heap.size w wi
  row : ∀ k, rowOf A = some k → k < w.heap.size
section
variable {w wi : World} {bs : List UInt8} {s : Nat × Bool} {A : Option Addr} {c : Nat}
theorem Cu.keep {w' : World} (h : Cu w wi bs s A c) (hb : Below wi.heap.size wi w') : Cu w w' bs s A c := ⟨h.rd.keep hb, h.bel.trans (hb.mono h.bel.size), h.row⟩
theorem Cu.turn {w' : World} {s' : Nat × Bool} (h : Cu w wi bs s A c) (hr : Rd w' w.heap.size bs s'.1 s'.2 A c) (ht : Turn wi w' w.heap.size none) : Cu w w' bs s' A c := ⟨hr, h.bel.trans (ht.below h.bel.size (Nat.le_refl _) (by intro k e; cases e)), h.row⟩
theorem cu_new {n : Nat} (hn : bs.length = n) (h : SlAt w A n (bs.map byteV)) (hc : n ≤ c) (hs : n ≤ 140737488355328) (hA : ∀ k, rowOf A = some k → k < w.heap.size) :
    Calls Try.prog 21 #[.slice A n c] w fun e w' => e = .returned (.pointer (some ⟨w.heap.size, 0, none⟩)) ∧ Cu w w' bs (0, false) A c := by
  subst hn
  exact (new_W w bs A c h hc hs hA).mono fun e w' ⟨he, hr, hb⟩ => ⟨he, hr, hb, hA⟩
theorem cu_seek (h : Cu w wi bs s A c) {s' : Nat × Bool} {x : Int} (k : Nat) (hk : x = k) (hs : skF bs s k = s') :
    Calls Try.prog 48 #[.pointer (some ⟨w.heap.size, 0, none⟩), .int .i64 x] wi fun e w' => (∃ v, e = .returned v) ∧ Cu w w' bs s' A c := by
  subst hs hk
  exact (rSeek_any k h.rd).mono fun e w' ⟨he, hr, ht⟩ => ⟨he, h.turn hr ht⟩
theorem cu_u16 (h : Cu w wi bs s A c) {s' : Nat × Bool} {x : Int} (hx : (numF bs s 2 : Int) = x) (hs : advF bs s 2 = s') :
    Calls Try.prog 22 #[.pointer (some ⟨w.heap.size, 0, none⟩)] wi fun e w' => e = .returned (.int .i64 x) ∧ Cu w w' bs s' A c := by
  subst hs hx
  exact (rU16_any wi _ bs s A c h.rd).mono fun e w' ⟨he, hr, ht⟩ => ⟨he, h.turn hr ht⟩
theorem cu_u32 (h : Cu w wi bs s A c) {s' : Nat × Bool} {x : Int} (hx : (numF bs s 4 : Int) = x) (hs : advF bs s 4 = s') :
    Calls Try.prog 49 #[.pointer (some ⟨w.heap.size, 0, none⟩)] wi fun e w' => e = .returned (.int .i64 x) ∧ Cu w w' bs s' A c := by
  subst hs hx
  exact (rU32_any wi _ bs s A c h.rd).mono fun e w' ⟨he, hr, ht⟩ => ⟨he, h.turn hr ht⟩
theorem cu_take (h : Cu w wi bs s A c) {s' : Nat × Bool} {x : Int} (k : Nat) (hk : x = k) (hkb : k ≤ 140737488355328) (hs : advF bs s k = s') :
    Calls Try.prog 77 #[.pointer (some ⟨w.heap.size, 0, none⟩), .int .i64 x] wi fun e w' => (∃ v, e = .returned v) ∧ Cu w w' bs s' A c := by
  subst hs hk
  refine (rTake_any wi _ bs s A c k h.rd hkb).mono fun e w' ht => ?_
  obtain ⟨A', c', he, -, hr, ht, -⟩ := ht
  exact ⟨⟨_, he⟩, h.turn hr ht⟩
theorem cu_words (h : Cu w wi bs s A c) {s' : Nat × Bool} {x : Int} {l : List Int} (k : Nat) (hk : x = k) (hn : k ≤ 1114112) (hl : wL bs s k = l) (hs : wS bs s k = s') :
    Calls Try.prog 78 #[.pointer (some ⟨w.heap.size, 0, none⟩), .int .i64 x] wi fun e w' => ∃ A' c', e = .returned (.slice A' k c') ∧ OwI wi.heap.size w' A' k c' l ∧ Cu w w' bs s' A c := by
  subst hs hk hl
  have hz := h.bel.size
  refine (words_any k h.rd (fun k hk => by have := h.row k hk; omega) hn).mono fun e w' ⟨A', c', he, ho, hr, ht⟩ => ⟨A', c', he, ho, hr, h.bel.trans (ht.below (fun i hi => by omega) hz), h.row⟩
theorem cu_left (h : Cu w wi bs s A c) : Calls Try.prog 81 #[.pointer (some ⟨w.heap.size, 0, none⟩)] wi fun e w' => e = .returned (.int .i64 (if s.2 then 0 else bs.length - s.1)) ∧ Cu w w' bs s A c :=
  (rleft_any wi _ bs s A c h.rd).mono fun _e _w' ⟨he, hb⟩ => ⟨he, h.keep hb⟩
theorem cu_done (h : Cu w wi bs s A c) : Calls Try.prog 23 #[.pointer (some ⟨w.heap.size, 0, none⟩)] wi fun e w' => e = .returned (.int .i64 (if s.2 then 30 else 0)) ∧ wi = w' := rdone_W _ _ _ _ _ _ _ h.rd
end
theorem nat2 : (2 : Int) = ((2 : Nat) : Int) := rfl
theorem nat4 : (4 : Int) = ((4 : Nat) : Int) := rfl
theorem nat6 : (6 : Int) = ((6 : Nat) : Int) := rfl
theorem nat12 : (12 : Int) = ((12 : Nat) : Int) := rfl
theorem nat16 : (16 : Int) = ((16 : Nat) : Int) := rfl
theorem sk6 (bs : List UInt8) (k : Nat) : skF bs (0, false) k = if bs.length < k then (0, true) else (k, false) := by
  unfold skF
  by_cases h : bs.length < k
  · rw [if_pos (by simpa using h), if_pos h]
  · rw [if_neg (by simpa using h), if_neg h]
theorem advF_bad {bs : List UInt8} {s : Nat × Bool} {n : Nat} (h : s.2 = true ∨ bs.length < s.1 + n) : advF bs s n = (s.1, true) := by
  unfold advF badF
  rw [if_pos (by simpa using h)]
theorem numF_bad {bs : List UInt8} {s : Nat × Bool} {n : Nat} (h : s.2 = true ∨ bs.length < s.1 + n) : numF bs s n = 0 := by
  unfold numF takF badF
  rw [if_pos (by simpa using h)]
  rfl
theorem be16_bd (bs : List UInt8) (p : Nat) : 0 ≤ be16 bs p ∧ be16 bs p ≤ 65535 := by
  unfold be16
  have := numB_lt ((bs.drop p).take 2)
  have h2 : 256 ^ ((bs.drop p).take 2).length ≤ 256 ^ 2 := Nat.pow_le_pow_right (by omega) (by simp; omega)
  omega
def load6S (bs : List UInt8) : Option (List Sv) :=
  if bs.length < 10 then none
  else if bs.length < 10 + 2 * (be16 bs 8).toNat ∨ 65536 < be16 bs 6 + be16 bs 8 then none
  else if be16 bs 8 = 0 then some [] else some [⟨be16 bs 6, be16 bs 6 + be16 bs 8 - 1, 0, false, some (wL bs (10, false) (be16 bs 8).toNat), 0⟩]
set_option maxRecDepth 20000 in
set_option maxHeartbeats 8000000 in
theorem load6_any {w : World} {bs : List UInt8} {A : Option Addr} {n c : Nat} (hn : bs.length = n) (hs : SlAt w A n (bs.map byteV)) (hc : n ≤ c) (hm : n ≤ 140737488355328) (hA : ∀ k, rowOf A = some k → k < w.heap.size) :
    Calls Try.prog 52 #[.slice A n c] w (LdR (load6S bs) w) := by
  have HN := Lib.hid (cu_new hn hs hc hm hA)
  clear hs hA
  obtain ⟨s1, h1⟩ : ∃ s, skF bs (0, false) 6 = s := ⟨_, rfl⟩
  obtain ⟨f, hf⟩ : ∃ f : Int, (numF bs s1 2 : Int) = f := ⟨_, rfl⟩
  obtain ⟨s2, h2⟩ : ∃ s, advF bs s1 2 = s := ⟨_, rfl⟩
  obtain ⟨k, hk⟩ : ∃ k : Nat, numF bs s2 2 = k := ⟨_, rfl⟩
  obtain ⟨s3, h3⟩ : ∃ s, advF bs s2 2 = s := ⟨_, rfl⟩
  have hkb := numF_lt bs s2 2
  have hfb := numF_lt bs s1 2
  rw [hk] at hkb
  have hf0 : 0 ≤ f ∧ f ≤ 65535 := by omega
  obtain ⟨f0, f1⟩ := hf0
  have hk1 : k ≤ 65535 := by omega
  have H1 := Lib.hid h1
  have HF := Lib.hid hf
  have H2 := Lib.hid h2
  have HK : Hid ((numF bs s2 2 : Int) = (k : Nat)) := Lib.hid (by rw [hk])
  have H3 := Lib.hid h3
  have HND := Lib.hid hn
  by_cases h10 : n < 10
  · have hb3 : s3.2 = true := by
      rw [sk6] at h1
      by_cases h6 : bs.length < 6
      · rw [if_pos h6] at h1
        rw [← h3, advF_bad (.inl (by rw [← h2, advF_bad (.inl (by rw [← h1]))]))]
      · rw [if_neg h6] at h1
        by_cases h8 : bs.length < 8
        · rw [← h3, advF_bad (.inl (by rw [← h2, advF_bad (.inr (by rw [← h1]; exact h8))]))]
        · rw [← h1] at h2
          rw [advF_ok (by omega)] at h2
          rw [← h3, ← h2, advF_bad (.inr (by show bs.length < 6 + 2 + 2; omega))]
    have hv : load6S bs = none := by unfold load6S; rw [if_pos (by omega)]
    have HV := Lib.hid hv
    have HD : Hid (∀ wi, Cu w wi bs s3 A c → Calls Try.prog 23 #[.pointer (some ⟨w.heap.size, 0, none⟩)] wi fun e w' => e = .returned (.int .i64 30) ∧ wi = w') := Lib.hid fun wi h => by
      have := cu_done h
      rw [hb3] at this
      exact this
    clear hv h1 hf h2 hk h3 hkb hfb hb3 hn
    go_enter Try.func52, Try.ntmps52
    go_wp2_with (first
      | (go_at_call 21; (with_reducible refine HN.out.mono ?_); rintro e w1 ⟨rfl, hu⟩; have HC0 := Lib.hid hu; clear hu)
      | (go_at_call 48; (with_reducible refine (cu_seek HC0.out 6 nat6 H1.out).mono ?_); rintro e w2 ⟨⟨v2, rfl⟩, hu⟩; have HC1 := Lib.hid hu; clear hu HC0)
      | (go_at_call 22; (with_reducible refine (cu_u16 HC1.out HF.out H2.out).mono ?_); rintro e w3 ⟨rfl, hu⟩; have HC2 := Lib.hid hu; clear hu HC1)
      | (go_at_call 22; (with_reducible refine (cu_u16 HC2.out HK.out H3.out).mono ?_); rintro e w4 ⟨rfl, hu⟩; have HC3 := Lib.hid hu; clear hu HC2)
      | (go_at_call 23; (with_reducible refine (HD.out _ HC3.out).mono ?_); rintro e w1 ⟨rfl, rfl⟩)
      | fail)
    go_ret2
    exact ld_no HV.out HC3.out.bel
  · have e1 : s1 = (6, false) := by rw [← h1, sk6, if_neg (by omega)]
    subst e1
    have e2 : s2 = (8, false) := by rw [← h2, advF_ok (by omega)]
    subst e2
    have e3 : s3 = (10, false) := by rw [← h3, advF_ok (by omega)]
    subst e3
    have ef : be16 bs 6 = f := by rw [← hf, numF_ok (by omega)]; rfl
    have ek : be16 bs 8 = (k : Nat) := by rw [← hk, numF_ok (by omega)]; rfl
    have hv : load6S bs = if n < 10 + 2 * k ∨ 65536 < f + k then none else if k = 0 then some [] else some [⟨f, f + k - 1, 0, false, some (wL bs (10, false) k), 0⟩] := by
      unfold load6S
      rw [if_neg (by omega), ef, ek, hn, Int.toNat_natCast]
      simp
    have HV := Lib.hid hv
    have HD : Hid (∀ wi, Cu w wi bs (10, false) A c → Calls Try.prog 23 #[.pointer (some ⟨w.heap.size, 0, none⟩)] wi fun e w' => e = .returned (.int .i64 0) ∧ wi = w') := Lib.hid fun wi h => cu_done h
    have HL : Hid (∀ wi, Cu w wi bs (10, false) A c → Calls Try.prog 81 #[.pointer (some ⟨w.heap.size, 0, none⟩)] wi fun e w' => e = .returned (.int .i64 ((n : Int) - 10)) ∧ Cu w w' bs (10, false) A c) := Lib.hid fun wi h => by
      have := cu_left h
      rw [hn] at this
      exact this
    clear hv h1 hf h2 hk h3 hkb hfb hn ef ek
    by_cases c1 : n < 10 + 2 * k
    · have hno := HV.out.trans (if_pos (.inl c1))
      have HNO := Lib.hid hno
      have c1' : (n : Int) - 10 < 2 * k := by omega
      clear hno
      go_enter Try.func52, Try.ntmps52
      go_wp2_with (first
        | (go_at_call 21; (with_reducible refine HN.out.mono ?_); rintro e w1 ⟨rfl, hu⟩; have HC0 := Lib.hid hu; clear hu)
        | (go_at_call 48; (with_reducible refine (cu_seek HC0.out 6 nat6 H1.out).mono ?_); rintro e w2 ⟨⟨v2, rfl⟩, hu⟩; have HC1 := Lib.hid hu; clear hu HC0)
        | (go_at_call 22; (with_reducible refine (cu_u16 HC1.out HF.out H2.out).mono ?_); rintro e w3 ⟨rfl, hu⟩; have HC2 := Lib.hid hu; clear hu HC1)
        | (go_at_call 22; (with_reducible refine (cu_u16 HC2.out HK.out H3.out).mono ?_); rintro e w4 ⟨rfl, hu⟩; have HC3 := Lib.hid hu; clear hu HC2)
        | (go_at_call 23; (with_reducible refine (HD.out _ HC3.out).mono ?_); rintro e w1 ⟨rfl, rfl⟩)
        | (go_at_call 81; (with_reducible refine (HL.out _ HC3.out).mono ?_); rintro e w5 ⟨rfl, hu⟩; have HC4 := Lib.hid hu; clear hu)
        | fail)
      go_ret2
      exact ld_no HNO.out HC4.out.bel
    by_cases c2 : 65536 < f + k
    · have hno := HV.out.trans (if_pos (.inr c2))
      have HNO := Lib.hid hno
      have c1' : ¬ (n : Int) - 10 < 2 * k := by omega
      clear hno
      go_enter Try.func52, Try.ntmps52
      go_wp2_with (first
        | (go_at_call 21; (with_reducible refine HN.out.mono ?_); rintro e w1 ⟨rfl, hu⟩; have HC0 := Lib.hid hu; clear hu)
        | (go_at_call 48; (with_reducible refine (cu_seek HC0.out 6 nat6 H1.out).mono ?_); rintro e w2 ⟨⟨v2, rfl⟩, hu⟩; have HC1 := Lib.hid hu; clear hu HC0)
        | (go_at_call 22; (with_reducible refine (cu_u16 HC1.out HF.out H2.out).mono ?_); rintro e w3 ⟨rfl, hu⟩; have HC2 := Lib.hid hu; clear hu HC1)
        | (go_at_call 22; (with_reducible refine (cu_u16 HC2.out HK.out H3.out).mono ?_); rintro e w4 ⟨rfl, hu⟩; have HC3 := Lib.hid hu; clear hu HC2)
        | (go_at_call 23; (with_reducible refine (HD.out _ HC3.out).mono ?_); rintro e w1 ⟨rfl, rfl⟩)
        | (go_at_call 81; (with_reducible refine (HL.out _ HC3.out).mono ?_); rintro e w5 ⟨rfl, hu⟩; have HC4 := Lib.hid hu; clear hu)
        | fail)
      go_ret2
      exact ld_no HNO.out HC4.out.bel
    have hno := HV.out.trans (if_neg (by omega))
    have c1' : ¬ (n : Int) - 10 < 2 * k := by omega
    have c2' : f + k ≤ 65536 := by omega
    by_cases hk0 : k = 0
    · rw [if_pos hk0] at hno
      have HNO := Lib.hid hno
      subst hk0
      clear hno
      go_enter Try.func52, Try.ntmps52
      go_wp2_with (first
        | (go_at_call 21; (with_reducible refine HN.out.mono ?_); rintro e w1 ⟨rfl, hu⟩; have HC0 := Lib.hid hu; clear hu)
        | (go_at_call 48; (with_reducible refine (cu_seek HC0.out 6 nat6 H1.out).mono ?_); rintro e w2 ⟨⟨v2, rfl⟩, hu⟩; have HC1 := Lib.hid hu; clear hu HC0)
        | (go_at_call 22; (with_reducible refine (cu_u16 HC1.out HF.out H2.out).mono ?_); rintro e w3 ⟨rfl, hu⟩; have HC2 := Lib.hid hu; clear hu HC1)
        | (go_at_call 22; (with_reducible refine (cu_u16 HC2.out HK.out H3.out).mono ?_); rintro e w4 ⟨rfl, hu⟩; have HC3 := Lib.hid hu; clear hu HC2)
        | (go_at_call 23; (with_reducible refine (HD.out _ HC3.out).mono ?_); rintro e w1 ⟨rfl, rfl⟩)
        | (go_at_call 81; (with_reducible refine (HL.out _ HC3.out).mono ?_); rintro e w5 ⟨rfl, hu⟩; have HC4 := Lib.hid hu; clear hu)
        | fail)
      go_ret2
      exact ld_yes (es := []) HNO.out ⟨RowsAt.nil _ _ _, fun v hv => (List.not_mem_nil hv).elim⟩ HC4.out.bel
    · rw [if_neg hk0] at hno
      have hk0' : ((k : Int) == 0) = false := by rw [beq_eq_false_iff_ne]; omega
      have HNO := Lib.hid hno
      obtain ⟨l, hl⟩ : ∃ l, wL bs (10, false) k = l := ⟨_, rfl⟩
      rw [hl] at HNO
      have HWL := Lib.hid hl
      clear hno hl
      go_enter Try.func52, Try.ntmps52
      go_wp2_with (first
        | (go_at_call 21; (with_reducible refine HN.out.mono ?_); rintro e w1 ⟨rfl, hu⟩; have HC0 := Lib.hid hu; clear hu)
        | (go_at_call 48; (with_reducible refine (cu_seek HC0.out 6 nat6 H1.out).mono ?_); rintro e w2 ⟨⟨v2, rfl⟩, hu⟩; have HC1 := Lib.hid hu; clear hu HC0)
        | (go_at_call 22; (with_reducible refine (cu_u16 HC1.out HF.out H2.out).mono ?_); rintro e w3 ⟨rfl, hu⟩; have HC2 := Lib.hid hu; clear hu HC1)
        | (go_at_call 22; (with_reducible refine (cu_u16 HC2.out HK.out H3.out).mono ?_); rintro e w4 ⟨rfl, hu⟩; have HC3 := Lib.hid hu; clear hu HC2)
        | (go_at_call 23; (with_reducible refine (HD.out _ HC3.out).mono ?_); rintro e w1 ⟨rfl, rfl⟩)
        | (go_at_call 81; (with_reducible refine (HL.out _ HC3.out).mono ?_); rintro e w5 ⟨rfl, hu⟩; have HC4 := Lib.hid hu; clear hu)
        | (go_at_call 78; (with_reducible refine (cu_words (x := (k : Int)) HC4.out k rfl (by omega) HWL.out rfl).mono ?_); rintro e w6 ⟨A6, c6, rfl, ho, hu⟩; have HC5 := Lib.hid hu; have HO := Lib.hid ho; clear hu ho)
        | fail)
      have hol := HO.out.len
      have hv1 := SgP.one (B := w5.heap.size) (w := w6) (v := ⟨f, f + k - 1, 0, false, A6, c6, l, 0⟩) HO.out.le (by rw [hol]; exact HO.out)
      simp only [sgC] at hv1
      rw [hol] at hv1
      have HV1 := Lib.hid hv1.list
      have hsm := HO.out.some (by omega)
      have hval : load6S bs = some ([(⟨f, f + k - 1, 0, false, A6, c6, l, 0⟩ : Sg)].map sgV) := by rw [HNO.out]; simp [sgV, hsm]
      have HVL := Lib.hid hval
      have hz6 := HC5.out.bel.size
      clear hv1 hval hol
      go_wp2_with fail
      go_ret2
      exact ld_yes HVL.out HV1.out (HC5.out.bel.trans ((bel_alloc bel_refl).below.mono hz6))
end Go.Proofs.Ytlbfefdmbdjjcaa
