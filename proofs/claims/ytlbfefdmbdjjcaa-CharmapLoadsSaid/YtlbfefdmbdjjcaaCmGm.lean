/-
  Dots and boxes handed to a law, opened.
  Layer 08: lives.
  Layer 08: Make.
  Layer 08: format 4 is made.
  Layer 08: the words of format 4, part by part.
  Layer 08: format 0 is made.
  Layer 08: format 6 is made.
  Layer 08: format 12 is made.
  Layer 08: runs of pairs.
  Layer 08: pairs in memory; may they be made?
  A writer of one's own beside boxes, that may run full: its calls.
  Layer 08: All: the code points that have a glyph, one by one.
  Layer 08: Load.
-/
import Derived.Test.YtlbfefdmbdjjcaaCmJ
import Derived.Test.YtlbfefdmbdjjcaaGiv
import Derived.Test.YtlbfefdmbdjjcaaBs
import Derived.Sort.LoopGhostIn
import Derived.Sort.CutIn
import Derived.Test.YtlbfefdmbdjjcaaWireD
import Derived.Test.YtlbfefdmbdjjcaaTail
import Derived.Test.YtlbfefdmbdjjcaaRead
import Derived.Test.YtlbfefdmbdjjcaaBytes
import Derived.Deep.RegionHeld3
import Derived.Test.YtlbfefdmbdjjcaaFlat
namespace Go.Proofs.Ytlbfefdmbdjjcaa
open Go.RowKit

theorem slat_take {w : World} {A : Option Addr} {n k : Nat} {bs : List UInt8} (h : SlAt w A n (bs.map byteV)) (hk : k ≤ n) : SlAt w A k ((bs.take k).map byteV) := by
  have hn := h.1
  rw [List.length_map] at hn
  refine ⟨by rw [List.length_map, List.length_take]; omega, fun i hi => ?_⟩
  obtain ⟨b, o, hA, hb, hc⟩ := h.2 i (by omega)
  refine ⟨b, o, hA, hb, hc.trans ?_⟩
  rw [List.getElem?_map, List.getElem?_map, List.getElem?_take, if_pos hi]
theorem LdR.form {v : Option (List Sv)} {w w' : World} {e : Ending} (h : LdR v w e w') : ∃ A k c ok, e = .returned (.tuple #[.slice A k c, .bool ok]) ∧ LdR v w (.returned (.tuple #[.slice A k c, .bool ok])) w' := by
  have h' := h
  obtain ⟨h1, h2⟩ := h
  cases v with
  | none =>
    obtain ⟨A, k, c, rfl⟩ := h1
    exact ⟨_, _, _, _, rfl, h'⟩
  | some l =>
    obtain ⟨A, k, c, es, rfl, _, _⟩ := h1
    exact ⟨_, _, _, _, rfl, h'⟩
set_option maxRecDepth 20000 in
set_option maxHeartbeats 8000000 in
theorem load_any {w : World} {bs : List UInt8} {A : Option Addr} {m c : Nat} (fmt : Int) (hn : bs.length = m) (hs : SlAt w A m (bs.map byteV)) (hc : m ≤ c) (hm : m ≤ 1000000) (hA : ∀ k, rowOf A = some k → k < w.heap.size) :
    Calls Try.prog 26 #[.slice A m c, .int .i64 fmt] w (LdR (loadS bs fmt) w) := by
  have h0 := Lib.hid (load0_any hn hs hc (by omega))
  have h4 := Lib.hid (load4_any hn hs hc hm hA)
  have h6 := Lib.hid (load6_any hn hs hc (by omega) hA)
  have h12 := Lib.hid (load12_any hn hs hc hm hA)
  clear hn hs hA
  have hcs : (fmt == 0) = true ∧ loadS bs fmt = load0S bs ∨ ((fmt == 0) = false ∧ (fmt == 4) = true) ∧ loadS bs fmt = load4S bs ∨ ((fmt == 0) = false ∧ (fmt == 4) = false ∧ (fmt == 6) = true) ∧ loadS bs fmt = load6S bs ∨ ((fmt == 0) = false ∧ (fmt == 4) = false ∧ (fmt == 6) = false) ∧ loadS bs fmt = load12S bs := by
    unfold loadS
    by_cases e0 : fmt = 0
    · exact .inl ⟨by simpa using e0, if_pos e0⟩
    · by_cases e4 : fmt = 4
      · exact .inr (.inl ⟨⟨by simpa using e0, by simpa using e4⟩, by rw [if_neg e0, if_pos e4]⟩)
      · by_cases e6 : fmt = 6
        · exact .inr (.inr (.inl ⟨⟨by simpa using e0, by simpa using e4, by simpa using e6⟩, by rw [if_neg e0, if_neg e4, if_pos e6]⟩))
        · exact .inr (.inr (.inr ⟨⟨by simpa using e0, by simpa using e4, by simpa using e6⟩, by rw [if_neg e0, if_neg e4, if_neg e6]⟩))
  rcases hcs with ⟨e0, hv⟩ | ⟨⟨e0, e4⟩, hv⟩ | ⟨⟨e0, e4, e6⟩, hv⟩ | ⟨⟨e0, e4, e6⟩, hv⟩
  · rw [hv]
    generalize load0S bs = v at h0
    clear hv h4 h6 h12
    go_enter Try.func26, Try.ntmps26
    go_wp2_with (first | (go_at_call 50; (with_reducible refine h0.out.mono ?_); rintro e w1 hv; obtain ⟨A1, k1, c1, ok, rfl, hv2⟩ := hv.form; have HV := Lib.hid hv2; clear hv2 hv) | fail)
    go_ret2
    exact HV.out
  · rw [hv]
    generalize load4S bs = v at h4
    clear hv h0 h6 h12
    go_enter Try.func26, Try.ntmps26
    go_wp2_with (first | (go_at_call 51; (with_reducible refine h4.out.mono ?_); rintro e w1 hv; obtain ⟨A1, k1, c1, ok, rfl, hv2⟩ := hv.form; have HV := Lib.hid hv2; clear hv2 hv) | fail)
    go_ret2
    exact HV.out
  · rw [hv]
    generalize load6S bs = v at h6
    clear hv h0 h4 h12
    go_enter Try.func26, Try.ntmps26
    go_wp2_with (first | (go_at_call 52; (with_reducible refine h6.out.mono ?_); rintro e w1 hv; obtain ⟨A1, k1, c1, ok, rfl, hv2⟩ := hv.form; have HV := Lib.hid hv2; clear hv2 hv) | fail)
    go_ret2
    exact HV.out
  · rw [hv]
    generalize load12S bs = v at h12
    clear hv h0 h4 h6
    go_enter Try.func26, Try.ntmps26
    go_wp2_with (first | (go_at_call 53; (with_reducible refine h12.out.mono ?_); rintro e w1 hv; obtain ⟨A1, k1, c1, ok, rfl, hv2⟩ := hv.form; have HV := Lib.hid hv2; clear hv2 hv) | fail)
    go_ret2
    exact HV.out
def LoadR (v : LdV) (n : Int) (w : World) (e : Ending) (w' : World) : Prop :=
  (match v with
    | .err x => e = .returned (.tuple #[.pointer none, .int .i64 x])
    | .ok fmt l => ∃ m A k c es, e = .returned (.tuple #[.pointer (some ⟨m, 0, none⟩), .int .i64 0]) ∧ es.map sgV = l ∧ w.heap.size ≤ m ∧ Mp w' m fmt n A k c es) ∧ Below w.heap.size w w'
theorem lo_err {v : LdV} {n x : Int} {w w' : World} (h : v = .err x) (hb : Below w.heap.size w w') : LoadR v n w (.returned (.tuple #[.pointer none, .int .i64 x])) w' := by subst h; exact ⟨rfl, hb⟩
theorem lo_ok {v : LdV} {n fmt : Int} {w w' : World} {m : Nat} {A : Option Addr} {k c : Nat} {es : List Sg} (h : v = .ok fmt (es.map sgV)) (hm : w.heap.size ≤ m) (hp : Mp w' m fmt n A k c es) (hb : Below w.heap.size w w') : LoadR v n w (.returned (.tuple #[.pointer (some ⟨m, 0, none⟩), .int .i64 0])) w' := by
  subst h; exact ⟨⟨_, _, _, _, _, rfl, rfl, hm, hp⟩, hb⟩
set_option maxRecDepth 20000 in
set_option maxHeartbeats 8000000 in
theorem Load_any {w : World} {bs : List UInt8} {A : Option Addr} {m c : Nat} (n : Int) (hn : bs.length = m) (hs : SlAt w A m (bs.map byteV)) (hc : m ≤ c) (hm : m ≤ 1000000) (hA : ∀ k, rowOf A = some k → k < w.heap.size) :
    Calls Try.prog 10 #[.slice A m c, .int .i64 n] w (LoadR (ldV bs n) n w) := by
  by_cases hnb : n < 1 ∨ 65535 < n
  · have hv : ldV bs n = .err 1 := by unfold ldV; rw [if_pos hnb]
    have HV := Lib.hid hv
    have hcs : n < 1 ∨ (¬ n < 1 ∧ ¬ n ≤ 65535) := by omega
    clear hv hnb hs
    rcases hcs with q1 | ⟨q1, q2⟩
    all_goals
      go_enter Try.func10, Try.ntmps10
      go_wp2_with fail
      go_ret2
      exact lo_err HV.out (Below.refl _ _)
  have n0 : ¬ n < 1 := by omega
  have n1 : n ≤ 65535 := by omega
  have HN := Lib.hid (cu_new hn hs hc (by omega) hA)
  obtain ⟨f, hf⟩ : ∃ f : Int, (numF bs (0, false) 2 : Int) = f := ⟨_, rfl⟩
  obtain ⟨s1, h1⟩ : ∃ s, advF bs (0, false) 2 = s := ⟨_, rfl⟩
  have HF := Lib.hid hf
  have H1 := Lib.hid h1
  by_cases h2 : m < 2
  · have hb : s1.2 = true := by rw [← h1, advF_bad (.inr (by show bs.length < 0 + 2; omega))]
    have hv : ldV bs n = .err 80 := by unfold ldV; rw [if_neg hnb, if_pos (by omega)]
    have HV := Lib.hid hv
    have HD : Hid (∀ wi, Cu w wi bs s1 A c → Calls Try.prog 23 #[.pointer (some ⟨w.heap.size, 0, none⟩)] wi fun e w' => e = .returned (.int .i64 30) ∧ wi = w') := Lib.hid fun wi h => by have := cu_done h; rw [hb] at this; exact this
    clear hv hb h1 hf hs hn hA hnb
    go_enter Try.func10, Try.ntmps10
    go_wp2_with (first
      | (go_at_call 21; (with_reducible refine HN.out.mono ?_); rintro e w1 ⟨rfl, hu⟩; have HC0 := Lib.hid hu; clear hu)
      | (go_at_call 22; (with_reducible refine (cu_u16 HC0.out HF.out H1.out).mono ?_); rintro e w3 ⟨rfl, hu⟩; have HC1 := Lib.hid hu; clear hu HC0)
      | (go_at_call 23; (with_reducible refine (HD.out _ HC1.out).mono ?_); rintro e w1 ⟨rfl, rfl⟩)
      | fail)
    go_ret2
    exact lo_err HV.out HC1.out.bel
  have e1 : s1 = (2, false) := by rw [← h1, advF_ok (by omega)]
  subst e1
  have ef : be16 bs 0 = f := by rw [← hf, numF_ok (by omega)]; rfl
  have hv : ldV bs n = if isFmtB f = false then .err 81 else if sizeS bs f < 0 ∨ (m : Int) < sizeS bs f then .err 80 else ldM (loadS (bs.take (sizeS bs f).toNat) f) f := by
    unfold ldV
    rw [if_neg hnb, if_neg (by omega), ef, hn]
  have HV := Lib.hid hv
  have HD : Hid (∀ wi, Cu w wi bs (2, false) A c → Calls Try.prog 23 #[.pointer (some ⟨w.heap.size, 0, none⟩)] wi fun e w' => e = .returned (.int .i64 0) ∧ wi = w') := Lib.hid fun wi h => cu_done h
  obtain ⟨fb, hfb⟩ : ∃ b, isFmtB f = b := ⟨_, rfl⟩
  have HIF := Lib.hid fun wi => isFormat_any f wi
  rw [hfb] at HIF
  cases fb with
  | false =>
    have hv2 := hv.trans (if_pos hfb)
    have HV2 := Lib.hid hv2
    clear hv hv2 h1 hf hs hn hA hnb ef HV
    go_enter Try.func10, Try.ntmps10
    go_wp2_with (first
      | (go_at_call 21; (with_reducible refine HN.out.mono ?_); rintro e w1 ⟨rfl, hu⟩; have HC0 := Lib.hid hu; clear hu)
      | (go_at_call 22; (with_reducible refine (cu_u16 HC0.out HF.out H1.out).mono ?_); rintro e w3 ⟨rfl, hu⟩; have HC1 := Lib.hid hu; clear hu HC0)
      | (go_at_call 23; (with_reducible refine (HD.out _ HC1.out).mono ?_); rintro e w1 ⟨rfl, rfl⟩)
      | (go_at_call 24; (with_reducible refine (HIF.out _).mono ?_); rintro e w4 ⟨rfl, hb⟩; have HB4 := Lib.hid (HC1.out.bel.trans (hb.mono HC1.out.bel.size)); clear hb)
      | fail)
    go_ret2
    exact lo_err HV2.out HB4.out
  | true =>
    have hv2 := hv.trans (if_neg (by rw [hfb]; simp))
    obtain ⟨z, hz⟩ : ∃ z : Int, sizeS bs f = z := ⟨_, rfl⟩
    rw [hz] at hv2
    have HSZ : Hid (∀ wi, Below w.heap.size w wi → Calls Try.prog 25 #[.slice A m c, .int .i64 f] wi (IntR z wi)) := Lib.hid fun wi hb => by
      have := size_any f hn (hs.keep hb) hc (by omega) (fun k hk => Nat.lt_of_lt_of_le (hA k hk) hb.size)
      rw [hz] at this
      exact this
    by_cases hzb : z < 0 ∨ (m : Int) < z
    · have hv3 := hv2.trans (if_pos hzb)
      have HV3 := Lib.hid hv3
      have hcs : z < 0 ∨ (¬ z < 0 ∧ ¬ z ≤ m) := by omega
      clear hv hv2 hv3 h1 hf hs hn hA hnb ef HV hzb hz
      rcases hcs with q1 | ⟨q1, q2⟩
      all_goals
        go_enter Try.func10, Try.ntmps10
        go_wp2_with (first
          | (go_at_call 21; (with_reducible refine HN.out.mono ?_); rintro e w1 ⟨rfl, hu⟩; have HC0 := Lib.hid hu; clear hu)
          | (go_at_call 22; (with_reducible refine (cu_u16 HC0.out HF.out H1.out).mono ?_); rintro e w3 ⟨rfl, hu⟩; have HC1 := Lib.hid hu; clear hu HC0)
          | (go_at_call 23; (with_reducible refine (HD.out _ HC1.out).mono ?_); rintro e w1 ⟨rfl, rfl⟩)
          | (go_at_call 24; (with_reducible refine (HIF.out _).mono ?_); rintro e w4 ⟨rfl, hb⟩; have HB4 := Lib.hid (HC1.out.bel.trans (hb.mono HC1.out.bel.size)); clear hb)
          | (go_at_call 25; (with_reducible refine (HSZ.out _ HB4.out).mono ?_); rintro e w5 ⟨rfl, hb⟩; have HB5 := Lib.hid (HB4.out.trans (hb.mono HB4.out.size)); clear hb)
          | fail)
        go_ret2
        exact lo_err HV3.out HB5.out
    have hv3 := hv2.trans (if_neg hzb)
    obtain ⟨k, rfl⟩ : ∃ k : Nat, z = k := ⟨z.toNat, by omega⟩
    rw [Int.toNat_natCast] at hv3
    have hkm : k ≤ m := by omega
    have hkm' : (k : Int) ≤ m := by omega
    have hkc : k ≤ c := by omega
    have HLD : Hid (∀ wi, Below w.heap.size w wi → Calls Try.prog 26 #[.slice A k c, .int .i64 f] wi (LdR (loadS (bs.take k) f) wi)) := Lib.hid fun wi hb => by
      exact load_any f (by rw [List.length_take]; omega) (slat_take (hs.keep hb) hkm) hkc (by omega) (fun k hk => Nat.lt_of_lt_of_le (hA k hk) hb.size)
    have hrs : ∀ l, loadS (bs.take k) f = some l → SvRise l ∧ l.length ≤ 1114112 := fun l h => loadS_rise h (by rw [List.length_take]; omega)
    cases hl : loadS (bs.take k) f with
    | none =>
      rw [hl] at hv3 HLD
      have HV3 := Lib.hid (hv3.trans (show ldM _ f = _ from rfl))
      clear hv hv2 hv3 h1 hf hs hn hA hnb ef HV hzb hz hrs
      go_enter Try.func10, Try.ntmps10
      go_wp2_with (first
        | (go_at_call 21; (with_reducible refine HN.out.mono ?_); rintro e w1 ⟨rfl, hu⟩; have HC0 := Lib.hid hu; clear hu)
        | (go_at_call 22; (with_reducible refine (cu_u16 HC0.out HF.out H1.out).mono ?_); rintro e w3 ⟨rfl, hu⟩; have HC1 := Lib.hid hu; clear hu HC0)
        | (go_at_call 23; (with_reducible refine (HD.out _ HC1.out).mono ?_); rintro e w1 ⟨rfl, rfl⟩)
        | (go_at_call 24; (with_reducible refine (HIF.out _).mono ?_); rintro e w4 ⟨rfl, hb⟩; have HB4 := Lib.hid (HC1.out.bel.trans (hb.mono HC1.out.bel.size)); clear hb)
        | (go_at_call 25; (with_reducible refine (HSZ.out _ HB4.out).mono ?_); rintro e w5 ⟨rfl, hb⟩; have HB5 := Lib.hid (HB4.out.trans (hb.mono HB4.out.size)); clear hb)
        | (go_at_call 26; (with_reducible refine (HLD.out _ HB5.out).mono ?_); rintro e w6 ⟨⟨A6, k6, c6, rfl⟩, hb⟩; have HB6 := Lib.hid (HB5.out.trans (hb.mono HB5.out.size)); clear hb)
        | fail)
      go_ret2
      exact lo_err HV3.out HB6.out
    | some l =>
      rw [hl] at hv3 HLD
      have HRS := Lib.hid (hrs _ hl)
      have HV3 := Lib.hid (hv3.trans (show ldM _ f = _ from rfl))
      clear hv hv2 hv3 h1 hf hs hn hA hnb ef HV hzb hz hrs
      go_enter Try.func10, Try.ntmps10
      go_wp2_with (first
        | (go_at_call 21; (with_reducible refine HN.out.mono ?_); rintro e w1 ⟨rfl, hu⟩; have HC0 := Lib.hid hu; clear hu)
        | (go_at_call 22; (with_reducible refine (cu_u16 HC0.out HF.out H1.out).mono ?_); rintro e w3 ⟨rfl, hu⟩; have HC1 := Lib.hid hu; clear hu HC0)
        | (go_at_call 23; (with_reducible refine (HD.out _ HC1.out).mono ?_); rintro e w1 ⟨rfl, rfl⟩)
        | (go_at_call 24; (with_reducible refine (HIF.out _).mono ?_); rintro e w4 ⟨rfl, hb⟩; have HB4 := Lib.hid (HC1.out.bel.trans (hb.mono HC1.out.bel.size)); clear hb)
        | (go_at_call 25; (with_reducible refine (HSZ.out _ HB4.out).mono ?_); rintro e w5 ⟨rfl, hb⟩; have HB5 := Lib.hid (HB4.out.trans (hb.mono HB4.out.size)); clear hb)
        | (go_at_call 26; (with_reducible refine (HLD.out _ HB5.out).mono ?_); rintro e w6 ⟨⟨A6, k6, c6, es, rfl, rfl, hsg⟩, hb⟩; have HB6 := Lib.hid (HB5.out.trans (hb.mono HB5.out.size)); have HSG := Lib.hid hsg; clear hb hsg)
        | fail)
      go_ret2
      have hln := HSG.out.len
      have hk1 := HRS.out.2
      rw [List.length_map] at hk1
      exact lo_ok HV3.out HB6.out.size ⟨Blk.newAt _ _ [.int .i64 f, .int .i64 n, .slice A6 k6 c6] rfl, HSG.out.keep (bel_alloc bel_refl).below, HRS.out.1, by omega, n1, by omega⟩ (HB6.out.trans ((bel_alloc bel_refl).below.mono HB6.out.size))
end Go.Proofs.Ytlbfefdmbdjjcaa

namespace Go.Proofs.Ytlbfefdmbdjjcaa
open Go.RowKit Go.Shelf

attribute [local go_sem] Oper.semAt_some
section
variable {P : Program} {w : World}
@[go_sem ↓] theorem run_max_two (ts : Array TypeId) (t : TypeId) (x y : Int) : (Builtin.max_ ts t #[.int .i64 x, .int .i64 y]).run P w = .ok (.int .i64 (max x y)) w := by
  rw [run_max_int2, show (if y > x then y else x) = max x y by split <;> omega]
@[go_sem ↓] theorem run_min_two (ts : Array TypeId) (t : TypeId) (x y : Int) : (Builtin.min_ ts t #[.int .i64 x, .int .i64 y]).run P w = .ok (.int .i64 (min x y)) w := by
  rw [run_min_int2, show (if y < x then y else x) = min x y by split <;> omega]
end
theorem gl_in {l : List Sv} {n code : Int} {i : Nat} {s : Sv} (hr : SvRise l) (hs : l[i]? = some s) (h1 : s.f ≤ code) (h2 : code ≤ s.l) : glV l n code = if atV s code < n then atV s code else 0 := by
  unfold glV
  have hd : l.find? (fun s => decide (s.f ≤ code) && decide (code ≤ s.l)) = some s := by
    rw [List.find?_eq_some_iff_getElem]
    obtain ⟨h3, h4⟩ := List.getElem?_eq_some_iff.1 hs
    refine ⟨by simp only [Bool.and_eq_true, decide_eq_true_eq]; exact ⟨h1, h2⟩, i, h3, h4, fun j hj => ?_⟩
    have hj' : j < l.length := by omega
    have h5 := hr.2 j i _ _ (List.getElem?_eq_getElem hj') hs hj
    simp only [Bool.not_eq_true', Bool.and_eq_false_iff, decide_eq_false_iff_not]
    right
    omega
  rw [hd]
theorem gl_out {l : List Sv} {n code : Int} (h : ∀ (i : Nat) (s : Sv), l[i]? = some s → code < s.f ∨ s.l < code) : glV l n code = 0 := by
  unfold glV
  rw [List.find?_eq_none.2 fun s hs => ?_]
  obtain ⟨i, hi⟩ := List.getElem?_of_mem hs
  have := h i s hi
  simp only [Bool.and_eq_true, decide_eq_true_eq]
  omega
/-- The pairs from a on, up to c. -/
def prV (l : List Sv) (n code : Int) : Option (Int × Int) := if glV l n code = 0 then none else some (code, glV l n code)
def ppV (l : List Sv) (n a c : Int) : List (Int × Int) := (List.range (c - a).toNat).filterMap fun t => prV l n (a + (t : Nat))
theorem pp_nil (l : List Sv) {n a c : Int} (h : c ≤ a) : ppV l n a c = [] := by
  unfold ppV
  rw [show (c - a).toNat = 0 by omega]
  rfl
theorem pp_succ (l : List Sv) {n a c : Int} (h : a ≤ c) : ppV l n a (c + 1) = ppV l n a c ++ (prV l n c).toList := by
  unfold ppV
  rw [show (c + 1 - a).toNat = (c - a).toNat + 1 by omega, List.range_succ, List.filterMap_append]
  rw [List.filterMap_cons, List.filterMap_nil, show a + (((c - a).toNat : Nat) : Int) = c by omega]
  cases prV l n c <;> rfl
theorem pp_pre (l : List Sv) {n a c d : Int} (h : c ≤ d) : ppV l n a c <+: ppV l n a d := by
  obtain ⟨k, rfl⟩ : ∃ k : Nat, d = c + k := ⟨(d - c).toNat, by omega⟩
  induction k with
  | zero => simp
  | succ k ih =>
    have h1 := ih (by omega)
    rcases Int.lt_or_le (c + k) a with h2 | h2
    · rw [pp_nil l (show c + ((k + 1 : Nat) : Int) ≤ a by omega), ← pp_nil (n := n) l (show c + (k : Int) ≤ a by omega)]
      exact h1
    · rw [show c + ((k + 1 : Nat) : Int) = c + k + 1 by omega, pp_succ l h2]
      exact h1.trans (List.prefix_append _ _)
theorem pp_skip {l : List Sv} {n a c d : Int} (h : a ≤ c) (hd : c ≤ d) (hz : ∀ x, c ≤ x → x < d → glV l n x = 0) : ppV l n a d = ppV l n a c := by
  obtain ⟨k, rfl⟩ : ∃ k : Nat, d = c + k := ⟨(d - c).toNat, by omega⟩
  clear hd
  induction k with
  | zero => simp
  | succ k ih =>
    rw [show c + ((k + 1 : Nat) : Int) = c + k + 1 by omega, pp_succ l (by omega), ih (fun x h1 h2 => hz x h1 (by omega))]
    have : prV l n (c + k) = none := by unfold prV; rw [if_pos (hz _ (by omega) (by omega))]
    rw [this]
    simp
def ppR (x : Int × Int) : Array Value := #[.agg #[.int .i64 x.1, .int .i64 x.2]]
/-- What a round leaves: all below a block's number, and all that lies in cells but for the blocks of a set. -/
structure KpU (u0 : Nat) (F : Nat → Prop) (A B : World) : Prop where
  below : Below u0 A B
  size : A.heap.size ≤ B.heap.size
  cells : ∀ (b : Nat) (t : TypeId) (cs : List Value), ¬ F b → Blk A b t cs → Blk B b t cs
section
variable {u0 : Nat} {F : Nat → Prop} {A B C : World}
theorem KpU.trans (h : KpU u0 F A B) (k : KpU u0 F B C) : KpU u0 F A C := ⟨h.below.trans k.below, Nat.le_trans h.size k.size, fun b t cs hF hb => k.cells b t cs hF (h.cells b t cs hF hb)⟩
theorem KpU.of_below (h : Below A.heap.size A B) (hu : u0 ≤ A.heap.size) : KpU u0 F A B := ⟨h.mono hu, h.size, fun _b _ _ _ hb => hb.below h hb.lt⟩
theorem KpU.put {w : World} (hu : u0 ≤ w.heap.size) (W : World) (l : Nat) (o o' : Obj) (hl : w.heap.size ≤ l) (h : W.heap[l]? = some o) (h1 : o.isCells = false) : KpU u0 F W (W.putObj l o') := by
  refine ⟨⟨rfl, rfl, rfl, by simp, fun k hk => World.putObj_heap_other (by omega)⟩, by simp, fun b t cs _ hb => ?_⟩
  have hne : b ≠ l := fun e => by
    subst e
    unfold Blk at hb
    rw [h] at hb
    injection hb with hb
    subst hb
    cases h1
  exact (World.putObj_heap_other hne).trans hb
theorem KpU.set {p : Addr} (h : KpU u0 F A B) (hF : F p.block) (hp : u0 ≤ p.block) (v : Value) : KpU u0 F A (B.setCell p v) :=
  ⟨h.below.setCell hp v, Nat.le_trans h.size (by simp), fun b t cs hk hb => (h.cells b t cs hk hb).far (fun e => hk (by rw [e]; exact hF)) v⟩
end
/-- Between two segments. -/
def AlI (J : List (Int × Int) → World → Prop) (N : Nat) (u : World) (es : List Sg) (n a b : Int) (i0 : Nat) (r : Nat) (s7 : Value) (W : World) : Prop :=
  ∃ (i : Nat) (c : Int), s7 = .int .i64 i ∧ i ≤ es.length ∧ es.length - i = r ∧ i0 ≤ i ∧ a ≤ c ∧ (c ≤ b ∨ c = a) ∧ (∀ k v, es[k]? = some v → k < i → v.l < c ∨ b ≤ c) ∧ (∀ v, es[i]? = some v → v.f < b → c ≤ max v.f a) ∧ J (ppV (es.map sgV) n a c) W ∧ Below u.heap.size u W ∧ N ≤ W.heap.size
/-- Within one. -/
def AlJ (J : List (Int × Int) → World → Prop) (N : Nat) (u : World) (es : List Sg) (n a b : Int) (v : Sg) (sb : Nat) (r : Nat) (s9 : Value) (W : World) : Prop :=
  ∃ x : Int, s9 = .int .i64 x ∧ (v.l + 1 - x).toNat = r ∧ max v.f a ≤ x ∧ x ≤ v.l + 1 ∧ (x ≤ b ∨ x = a) ∧ J (ppV (es.map sgV) n a x) W ∧ Below u.heap.size u W ∧ Blk W sb 65 (sgC v) ∧ N ≤ W.heap.size ∧ sb < W.heap.size
theorem al_done {es : List Sg} {n a b c : Int} {i : Nat} (hax : a ≤ c) (hxb : c ≤ b ∨ c = a) (hpast : ∀ k v, es[k]? = some v → k < i → v.l < c ∨ b ≤ c) (hrest : ∀ j t, es[j]? = some t → i ≤ j → b ≤ t.f) : ppV (es.map sgV) n a b = ppV (es.map sgV) n a c := by
  rcases Int.lt_or_le b c with h | h
  · have : c = a := by omega
    rw [pp_nil _ (show b ≤ a by omega), pp_nil _ (show c ≤ a by omega)]
  · refine pp_skip hax h fun y hy1 hy2 => gl_out fun j s hs => ?_
    rw [List.getElem?_map] at hs
    obtain ⟨t, ht, rfl⟩ := Option.map_eq_some_iff.1 hs
    show y < t.f ∨ t.l < y
    rcases Nat.lt_or_ge j i with hj | hj
    · rcases hpast j t ht hj with h1 | h1 <;> omega
    · have := hrest j t ht hj
      omega
set_option maxRecDepth 20000 in
set_option maxHeartbeats 4000000 in
theorem all_gives {u w0 : World} {m : Nat} {fmt n : Int} {A : Option Addr} {k c : Nat} {es : List Sg} {fr tt : Int} {pb p1 p2 : Nat} (nn : Nat) (h : Mp u m fmt n A k c es)
    (hp : Blk u pb 24 [.pointer (some ⟨m, 0, none⟩)]) (hp1 : Blk u p1 3 [.int .i64 fr]) (hp2 : Blk u p2 3 [.int .i64 tt])
    (hb0 : Below u.heap.size u w0) (F : Nat → Prop) (hF : ∀ b, F b → b < w0.heap.size) :
    GivesB nn Try.prog 44 #[.pointer (some ⟨pb, 0, none⟩), .pointer (some ⟨p1, 0, none⟩), .pointer (some ⟨p2, 0, none⟩)] ppR (KpU u.heap.size F) (fun pre x => pre ++ [x] <+: ppV (es.map sgV) n (max fr 0) (min tt 1114112)) (fun xs => xs = ppV (es.map sgV) n (max fr 0) (min tt 1114112)) (fun _ => True) w0 := by
  intro l J Jx W hW hJ hJx hY h0
  have hbW : Below u.heap.size u W := hb0.trans (hW.mono hb0.size)
  have c0 : W.cell? ⟨pb, 0, none⟩ = some (.pointer (some ⟨m, 0, none⟩)) := (hp.below hbW hp.lt).cell 0
  have c1 : W.cell? ⟨p1, 0, none⟩ = some (.int .i64 fr) := (hp1.below hbW hp1.lt).cell 0
  have c2 : W.cell? ⟨p2, 0, none⟩ = some (.int .i64 tt) := (hp2.below hbW hp2.lt).cell 0
  have pl := hp.lt
  have hus := hbW.size
  have H := Lib.hid h
  have HP := Lib.hid hp
  have HBW := Lib.hid hbW
  have HJ := Lib.hid hJ
  have HY := Lib.hid hY
  have H0 := Lib.hid h0
  have HF := Lib.hid (fun b hb => Nat.lt_of_lt_of_le (hF b hb) hW.size)
  have p1l := hp1.lt
  have p2l := hp2.lt
  clear hb0 hF hW
  obtain ⟨a, ha⟩ : ∃ a, max fr 0 = a := ⟨_, rfl⟩
  obtain ⟨b, hb⟩ : ∃ b, min tt 1114112 = b := ⟨_, rfl⟩
  have ha0 : 0 ≤ a := by omega
  have hb1 : b ≤ 1114112 := by omega
  rw [ha, hb] at HY ⊢
  have HFI := Lib.hid (fun wi (hw : Below u.heap.size u wi) => find_any a (h.keep hw))
  clear h hp hp1 hp2 hJ hJx hY h0 hbW
  refine callsIn_of_wp Try.func44 rfl trivial ?_ rfl
  simp only [Try.ntmps44, List.size_toArray, List.length_cons, List.length_nil, Nat.reduceAdd, Nat.reduceSub, Array.replicate_succ, Array.replicate_zero, List.push_toArray, List.append_toArray, List.nil_append, List.cons_append]
  gi_wp2_with (first
    | (refine ⟨trivial, fun he => (by cases he), ?_⟩; (with_reducible refine (callsIn_wide.2 (HFI.out _ HBW.out)).mono ?_); rintro e w1 ⟨⟨i0, rfl, hf⟩, hbl1⟩; have HI0 := Lib.hid hf; have HB1 := Lib.hid (HBW.out.trans (hbl1.mono hus)); have HJ1 := Lib.hid (HJ.out _ _ _ H0.out hbl1); have hz1 := hbl1.size; clear hf hbl1)
    | fail)
  have hi0 := HI0.out.le
  have hk1 := H.out.k1
  clear c0 c1 c2 HBW H0
  gi_loopg [7] (es.length - i0) (fun r s7 wr => AlI J W.heap.size u es n a b i0 r s7 wr)
  case atStart => exact ⟨i0, a, rfl, hi0, rfl, Nat.le_refl _, Int.le_refl _, .inr rfl, fun k v hv hk => .inl (HI0.out.lo k v hv hk), fun v _ _ => by omega, by rw [pp_nil _ (Int.le_refl _)]; exact HJ1.out, HB1.out, hz1⟩
  case round =>
    obtain ⟨i, x0, rfl, hi, hr, hii, hax, hxb, hpast, hnext, hJr, hBr, hN⟩ := hrel
    have HM := Lib.hid (H.out.keep hBr)
    have hlen := HM.out.sg.len
    have q0 : wr.cell? ⟨pb, 0, none⟩ = some (.pointer (some ⟨m, 0, none⟩)) := (HP.out.below hBr pl).cell 0
    have q1 : wr.cell? ⟨m, 1, none⟩ = some (.int .i64 n) := HM.out.blk.cell 1
    have q2 : wr.cell? ⟨m, 2, none⟩ = some (.slice A k c) := HM.out.blk.cell 2
    have ml := HM.out.blk.lt
    have hpl := Nat.lt_of_lt_of_le pl hBr.size
    have HR := Lib.hid hr
    have HX := Lib.hid (And.intro hax (And.intro hxb (And.intro hpast hnext)))
    have HJR := Lib.hid hJr
    have HBR := Lib.hid hBr
    clear hr hxb hpast hnext hJr hBr
    by_cases hie : i < es.length
    · obtain ⟨⟨vf, vl, vg, vr, vA, vc, xs, vd⟩, hv⟩ := get_some' (l := es) (k := i) hie
      obtain ⟨bb, o, rfl, hbb, r0, r1, r2, r3, r4, r5⟩ := HM.out.sg.at_ hv
      dsimp only at r0 r1 r2 r3 r4 r5
      have hik : (i : Int) < k := by omega
      have HV := Lib.hid hv
      by_cases hfb : vf < b
      · gi_wp2_with fail
        obtain ⟨wb, hwb⟩ : ∃ wb, wr.alloc (.cells #[.int .i64 vf, .int .i64 vl, .int .i64 vg, .bool vr, .slice vA xs.length vc, .int .i64 vd] 65) = wb := ⟨_, rfl⟩
        have hbb2 : Below wr.heap.size wr wb := by rw [← hwb]; exact (bel_alloc bel_refl).below
        have hSB : Blk wb wr.heap.size 65 (sgC ⟨vf, vl, vg, vr, vA, vc, xs, vd⟩) := by rw [← hwb]; exact Blk.new wr _ _
        have hbl := hbb2.size
        have hok := rise_ok HM.out.rise hv
        have hal := HI0.out.hi i _ hv hii
        have hfl := hok.fl
        have hf0 := hok.f0
        have hl1 := hok.l1
        dsimp only [sgV] at hal hfl hf0 hl1
        have hst : AlJ J W.heap.size u es n a b ⟨vf, vl, vg, vr, vA, vc, xs, vd⟩ wr.heap.size (vl + 1 - max vf a).toNat (.int .i64 (max vf a)) wb := by
          obtain ⟨hax, hxb, hpast, hnext⟩ := HX.out
          have hx0 := hnext _ hv hfb
          dsimp only at hx0
          refine ⟨max vf a, rfl, rfl, by dsimp only; omega, by dsimp only; omega, by omega, ?_, HBR.out.trans (hbb2.mono HBR.out.size), hSB, by omega, hSB.lt⟩
          rw [pp_skip hax hx0 (fun y hy1 hy2 => gl_out fun j s hs => ?_)]
          · exact HJ.out _ _ _ HJR.out (hbb2.mono hN)
          · rw [List.getElem?_map] at hs
            obtain ⟨t, ht, rfl⟩ := Option.map_eq_some_iff.1 hs
            rcases Nat.lt_trichotomy j i with hj | hj | hj
            · right
              rcases hpast j t ht hj with h1 | h1
              · show t.l < y; omega
              · have h2 := rise_at HM.out.rise ht hv hj
                show t.l < y
                dsimp only at h2
                omega
            · subst hj
              have := ht.symm.trans hv
              injection this with this
              subst this
              left
              show y < vf
              omega
            · left
              have h2 := rise_at HM.out.rise hv ht hj
              show y < t.f
              dsimp only at h2
              omega
        have HOK := Lib.hid hok
        have hwN : W.heap.size ≤ wr.heap.size := hN
        obtain ⟨sb, hsb⟩ : ∃ sb, wr.heap.size = sb := ⟨_, rfl⟩
        rw [hsb] at hst hbl hwN
        have HST := Lib.hid hst
        rw [hwb, hsb]
        clear hst hwb hbb2 hSB r0 r1 r2 r3 r4 r5 q0 q1 q2 hok hv hpl ml HJR HBR HM hbb hsb hN
        gi_loopg [9] ((vl + 1 - max vf a).toNat) (fun r s9 wq => AlJ J W.heap.size u es n a b ⟨vf, vl, vg, vr, vA, vc, xs, vd⟩ sb r s9 wq)
        case atStart => exact HST.out
        case round =>
          obtain ⟨x, rfl, hr2, hx0, hx1, hxb, hJ2, hB2, hS2, hN2, hsl⟩ := hrel
          dsimp only at hr2 hx0 hx1
          have HM2 := Lib.hid (H.out.keep hB2)
          have q0 : wr.cell? ⟨pb, 0, none⟩ = some (.pointer (some ⟨m, 0, none⟩)) := (HP.out.below hB2 pl).cell 0
          have q1 : wr.cell? ⟨m, 1, none⟩ = some (.int .i64 n) := HM2.out.blk.cell 1
          have ml := HM2.out.blk.lt
          have hpl := Nat.lt_of_lt_of_le pl hB2.size
          have s0 : wr.cell? ⟨sb, 0, none⟩ = some (.int .i64 vf) := hS2.cell 0
          have s1 : wr.cell? ⟨sb, 1, none⟩ = some (.int .i64 vl) := hS2.cell 1
          have s2 : wr.cell? ⟨sb, 2, none⟩ = some (.int .i64 vg) := hS2.cell 2
          have s3 : wr.cell? ⟨sb, 3, none⟩ = some (.bool vr) := hS2.cell 3
          have s4 : wr.cell? ⟨sb, 4, none⟩ = some (.slice vA xs.length vc) := hS2.cell 4
          have s5 : wr.cell? ⟨sb, 5, none⟩ = some (.int .i64 vd) := hS2.cell 5
          have HJ2 := Lib.hid hJ2
          have HB2 := Lib.hid hB2
          have HS2 := Lib.hid hS2
          have HR2 := Lib.hid hr2
          by_cases hlt : x ≤ vl ∧ x < b
          · obtain ⟨hlv, hltb⟩ := hlt
            have hgl := gl_in (n := n) (i := i) (s := sgV ⟨vf, vl, vg, vr, vA, vc, xs, vd⟩) (code := x) HM2.out.rise (by rw [List.getElem?_map, HV.out]; rfl) (by show vf ≤ x; omega) hlv
            have hat := at_any (c := vc) (HM2.out.sg.lists _ (List.mem_of_getElem? HV.out)) HOK.out (code := x) (by omega) hlv
            dsimp only at hat
            have hsu := pp_succ (es.map sgV) (n := n) (show a ≤ x by omega)
            have hpr : prV (es.map sgV) n x = if glV (es.map sgV) n x = 0 then none else some (x, glV (es.map sgV) n x) := rfl
            generalize atV (sgV ⟨vf, vl, vg, vr, vA, vc, xs, vd⟩) x = g at hgl hat
            have HAT := Lib.hid hat
            clear hr2 hJ2 hB2 hS2 hat
            by_cases hg : g = 0 ∨ ¬ g < n
            · have hz : glV (es.map sgV) n x = 0 := by
                rw [hgl]
                rcases hg with h | h
                · rw [h]; simp
                · rw [if_neg h]
              rw [hpr, if_pos hz] at hsu
              simp only [Option.toList, List.append_nil] at hsu
              have HSU := Lib.hid hsu
              have hcs : (g != 0) = false ∨ ((g != 0) = true ∧ ¬ g < n) := by simp; omega
              clear hgl hpr hsu hz hg
              rcases hcs with g1 | ⟨g1, g2⟩
              all_goals
                gi_wp2_with (first
                  | (refine ⟨trivial, fun he => (by cases he), ?_⟩; (with_reducible refine (callsIn_wide.2 HAT.out).mono ?_); rintro e w2 ⟨rfl, hb2⟩; have HC := Lib.hid hb2; have q12 : w2.cell? ⟨m, 1, none⟩ = some (.int .i64 n) := (hb2.cell (p := ⟨m, 1, none⟩) ml).trans q1; have q02 : w2.cell? ⟨pb, 0, none⟩ = some (.pointer (some ⟨m, 0, none⟩)) := (hb2.cell (p := ⟨pb, 0, none⟩) hpl).trans q0; have hz2 := hb2.size; clear hb2)
                  | fail)
                with_reducible refine ⟨fun _ hno => (by cases hno), ?_⟩
                gi_wp2_with fail
                gi_roundg ((vl + 1 - (x + 1)).toNat)
                case rel => exact ⟨x + 1, by go_num, rfl, by dsimp only; omega, by dsimp only; omega, by omega, by rw [HSU.out]; exact HJ.out _ _ _ HJ2.out (HC.out.mono hN2), HB2.out.trans (HC.out.mono HB2.out.size), HS2.out.below HC.out hsl, by omega, by omega⟩
                case measure => have := HR2.out; omega
            · have hg0 : ¬ g = 0 := fun e => hg (.inl e)
              have hgn : g < n := by
                rcases Int.lt_or_le g n with h | h
                · exact h
                · exact absurd (Or.inr (by omega)) hg
              have hz : glV (es.map sgV) n x = g := by rw [hgl, if_pos hgn]
              rw [hpr, if_neg (by rw [hz]; exact hg0), hz] at hsu
              have hsu2 : ppV (es.map sgV) n a (x + 1) = ppV (es.map sgV) n a x ++ [(x, g)] := hsu
              have g1 : (g != 0) = true := by simp; exact hg0
              have HSU := Lib.hid hsu2
              have hpre : ppV (es.map sgV) n a x ++ [(x, g)] <+: ppV (es.map sgV) n a b := by rw [← hsu2]; exact pp_pre _ (by omega)
              have HPR := Lib.hid hpre
              clear hgl hpr hsu hsu2 hz hg hg0 hpre
              gi_upto_region 11 with (first
                | (refine ⟨trivial, fun he => (by cases he), ?_⟩; (with_reducible refine (callsIn_wide.2 HAT.out).mono ?_); rintro e w2 ⟨rfl, hb2⟩; have HC := Lib.hid hb2; have q12 : w2.cell? ⟨m, 1, none⟩ = some (.int .i64 n) := (hb2.cell (p := ⟨m, 1, none⟩) ml).trans q1; have q02 : w2.cell? ⟨pb, 0, none⟩ = some (.pointer (some ⟨m, 0, none⟩)) := (hb2.cell (p := ⟨pb, 0, none⟩) hpl).trans q0; have hz2 := hb2.size; clear hb2)
                | fail)
              obtain ⟨fn, tmps, assign, body, hy, hR⟩ := HY.out _ (x, g) w2 (by omega) (HJ.out _ _ _ HJ2.out (HC.out.mono hN2)) HPR.out
              rw [show ppR (x, g) = #[.agg #[.int .i64 x, .int .i64 g]] from rfl] at hy
              rw [← HSU.out] at hR
              have HRY := Lib.hid hR
              clear hR s0 s1 s2 s3 s4 s5 q0 q1
              gi_wp2
              refine ⟨fun he => (by cases he), HRY.out.mono ?_⟩
              have HB3 := Lib.hid (HB2.out.trans (HC.out.mono HB2.out.size))
              have HS3 := Lib.hid (HS2.out.below HC.out hsl)
              rintro e w4 (⟨rfl, hJ4, hk4⟩ | ⟨rfl, hJx4⟩)
              · have hfin : AlJ J W.heap.size u es n a b ⟨vf, vl, vg, vr, vA, vc, xs, vd⟩ sb (vl + 1 - (x + 1)).toNat (.int .i64 (x + 1)) w4 :=
                  ⟨x + 1, rfl, rfl, by dsimp only; omega, by dsimp only; omega, by omega, hJ4, HB3.out.trans hk4.below, hk4.cells _ _ _ (fun hf => by have := HF.out _ hf; omega) HS3.out, by have := (hk4.below).size; have := hk4.size; omega, by have := hk4.size; omega⟩
                have HFN := Lib.hid hfin
                clear hJ4 hk4 hfin hy
                gi_wp2
                gi_roundg ((vl + 1 - (x + 1)).toNat)
                case rel => exact HFN.out
                case measure => have := HR2.out; omega
              · have HJ4 := Lib.hid hJx4
                clear hJx4 hy
                gi_wp2
                refine bodyPost_ret (results_none rfl _ _ _) rfl ?_
                exact ⟨⟨_, rfl⟩, .inr ⟨_, trivial, HJ4.out⟩⟩
          · have hcs : ¬ x ≤ vl ∨ (x ≤ vl ∧ ¬ x < b) := by omega
            have hpast2 : ∀ (k' : Nat) (t : Sg), es[k']? = some t → k' < i + 1 → t.l < x ∨ b ≤ x := by
              intro k' t ht hk'
              rcases Int.lt_or_le x b with h1 | h1
              · left
                have hx : x = vl + 1 := by omega
                rcases Nat.lt_or_ge k' i with h2 | h2
                · have h3 := rise_at HM2.out.rise ht HV.out h2
                  dsimp only at h3
                  omega
                · obtain rfl : k' = i := by omega
                  have := ht.symm.trans HV.out
                  injection this with this
                  subst this
                  dsimp only
                  omega
              · exact .inr h1
            have hnext2 : ∀ t, es[i + 1]? = some t → t.f < b → x ≤ max t.f a := fun t ht _ => by
              have h3 := rise_at HM2.out.rise HV.out ht (Nat.lt_succ_self i)
              dsimp only at h3
              omega
            have HPA := Lib.hid hpast2
            have HNX := Lib.hid hnext2
            clear hpast2 hnext2 hlt hr2 hJ2 hB2 hS2
            rcases hcs with g1 | ⟨g1, g2⟩
            all_goals
              gi_wp2_with fail
              gi_roundg (es.length - (i + 1))
              case rel => exact ⟨i + 1, x, by go_num, by omega, rfl, by omega, by omega, hxb, HPA.out, HNX.out, HJ2.out, HB2.out, hN2⟩
              case measure => have := HR.out; omega
      · have hfin : J (ppV (es.map sgV) n a b) wr := by
          obtain ⟨hax, hxb, hpast, hnext⟩ := HX.out
          rw [al_done (es := es) (i := i) hax hxb hpast (fun j t ht hj => ?_)]
          · exact HJR.out
          · rcases Nat.lt_or_ge i j with h1 | h1
            · have h3 := rise_at HM.out.rise hv ht h1
              have h4 := (rise_ok HM.out.rise hv).fl
              dsimp only [sgV] at h3 h4
              omega
            · obtain rfl : j = i := by omega
              have := ht.symm.trans hv
              injection this with this
              subst this
              dsimp only
              omega
        have HFN := Lib.hid hfin
        clear hfin hv
        gi_wp2_with fail
        refine bodyPost_end (v := .tuple #[]) (by simp [results, Try.results44]) rfl ?_
        exact ⟨⟨_, rfl⟩, .inl HFN.out⟩
    · have hfin : J (ppV (es.map sgV) n a b) wr := by
        obtain ⟨hax, hxb, hpast, hnext⟩ := HX.out
        rw [al_done (es := es) (i := i) hax hxb hpast (fun j t ht hj => by have := (List.getElem?_eq_some_iff.1 ht).1; omega)]
        exact HJR.out
      have HFN := Lib.hid hfin
      have hik : ¬ (i : Int) < k := by omega
      clear hfin
      gi_wp2_with fail
      refine bodyPost_end (v := .tuple #[]) (by simp [results, Try.results44]) rfl ?_
      exact ⟨⟨_, rfl⟩, .inl HFN.out⟩
end Go.Proofs.Ytlbfefdmbdjjcaa

namespace Go.Proofs.Ytlbfefdmbdjjcaa
open Go.RowKit

theorem to_E (w : World) (room : Int) :
    Calls Try.prog 60 #[.int .i64 room] w fun e w' => ∃ g, w.heap.size ≤ g ∧ e = .returned (.pointer (some ⟨g, 0, none⟩)) ∧ Wr 104 w' g [] (max room 0) false none 0 ∧ Below w.heap.size w w' :=
  (to_W w room).mono fun _ _ ⟨he, hb, hr⟩ => ⟨_, Nat.le_refl _, he, hr, hb⟩
theorem putF_fit {room : Int} {bs news : List UInt8} (h : (bs.length : Int) + news.length ≤ room) : putF room (bs, false) news = (bs ++ news, false) := by
  have : fullF bs room false news.length = false := by simp [fullF]; omega
  simp [putF, this]

theorem WrS.rowB {T : TypeId} {w0 w : World} {g : Nat} {s : List UInt8 × Bool} {room : Int} {row0 : Option Nat} {A : Option Addr} {c B : Nat} (h : WrS T w0 w g s room row0 A c) (hB : B ≤ w0.heap.size) (hr : ∀ k, row0 = some k → B ≤ k) : ∀ k, rowOf A = some k → B ≤ k := by
  intro k e
  rcases h.row with e2 | e2
  · exact hr k (e2 ▸ e)
  · exact Nat.le_trans hB (e2 k e)
theorem WrS.belB {T : TypeId} {w0 w a : World} {g : Nat} {s : List UInt8 × Bool} {room : Int} {row0 : Option Nat} {A : Option Addr} {c B : Nat} (h : WrS T w0 w g s room row0 A c) (ha : Below B a w0) (hB : B ≤ w0.heap.size) (hg : B ≤ g) (hr : ∀ k, row0 = some k → B ≤ k) : Below B a w :=
  ha.trans (h.turn.below hB hg hr)

def PutOk (room : Int) (s : List UInt8 × Bool) (N : List UInt8) : Prop := (s = (N, false) ∧ (N.length : Int) ≤ room) ∨ (s.2 = true ∧ room < (N.length : Int))
theorem PutOk.next {room : Int} {s : List UInt8 × Bool} {N : List UInt8} (h : PutOk room s N) (M : List UInt8) : PutOk room (putF room s M) (N ++ M) := by
  rcases h with ⟨rfl, h⟩ | ⟨h1, h2⟩
  · by_cases hf : (N.length : Int) + M.length ≤ room
    · rw [putF_fit hf]; exact .inl ⟨rfl, by simp; omega⟩
    · have : fullF N room false M.length = true := by simp [fullF]; omega
      exact .inr ⟨by simp [putF, this], by simp; omega⟩
  · have : fullF s.1 room s.2 M.length = true := by simp [fullF, h1]
    exact .inr ⟨by simp [putF, this], by simp; omega⟩

/-- A writer of one's own behind N, beside boxes. -/
def IW (B : Nat) (w0 w : World) (g : Nat) (N : List UInt8) (room : Int) (bx : List (Nat × Obj)) : Prop :=
  ∃ s A c, Wr 104 w g s.1 room s.2 A c ∧ PutOk room s N ∧ Below B w0 w ∧ B ≤ g ∧ (∀ k, rowOf A = some k → B ≤ k) ∧ (s.1.length : Int) ≤ room ∧ ∀ p ∈ bx, w.heap[p.1]? = some p.2 ∧ p.1 ≠ g ∧ rowOf A ≠ some p.1
section
variable {B : Nat} {w0 w w' : World} {g : Nat} {N : List UInt8} {room : Int} {bx : List (Nat × Obj)}
theorem lt_of_heap {b : Nat} {o : Obj} (h : w.heap[b]? = some o) : b < w.heap.size := by
  rcases Nat.lt_or_ge b w.heap.size with h' | h'
  · exact h'
  · rw [Array.getElem?_eq_none h'] at h; cases h
theorem IW.below (h : IW B w0 w g N room bx) : Below B w0 w := by obtain ⟨_, _, _, _, _, h, _⟩ := h; exact h
theorem IW.size (h : IW B w0 w g N room bx) : B ≤ w.heap.size := by
  obtain ⟨_, _, _, hw, _, _, h, _⟩ := h
  have := hw.blk.lt
  omega
theorem IW.box (h : IW B w0 w g N room bx) {p : Nat × Obj} (hp : p ∈ bx) : w.heap[p.1]? = some p.2 := by obtain ⟨_, _, _, _, _, _, _, _, _, h⟩ := h; exact (h p hp).1
theorem IW.keep (h : IW B w0 w g N room bx) (hb : Below w.heap.size w w') : IW B w0 w' g N room bx := by
  have hB := h.size
  obtain ⟨s, A, c, h1, h2, h3, h4, h5, h6, h7⟩ := h
  exact ⟨s, A, c, h1.keep hb, h2, h3.trans (hb.mono hB), h4, h5, h6, fun p hp => ⟨(hb.block p.1 (lt_of_heap (h7 p hp).1)).trans (h7 p hp).1, (h7 p hp).2⟩⟩
theorem IW.new (h : IW B w0 w g N room bx) (o : Obj) : IW B w0 (w.alloc o) g N room ((w.heap.size, o) :: bx) := by
  have h' := h.keep (bel_alloc (o := o) (bel_refl (a := w))).below
  obtain ⟨s, A, c, h1, h2, h3, h4, h5, h6, h7⟩ := h
  obtain ⟨_, _, _, _, _, h3', _⟩ := h'
  refine ⟨s, A, c, h1.alloc o, h2, h3', h4, h5, h6, fun p hp => ?_⟩
  rcases List.mem_cons.1 hp with rfl | hp
  · exact ⟨heap_alloc_new w o, Nat.ne_of_gt h1.blk.lt, fun e => by have := h1.row_lt _ e; omega⟩
  · exact ⟨(Below.heap_alloc w o p.1 (lt_of_heap (h7 p hp).1)).trans (h7 p hp).1, (h7 p hp).2⟩
theorem IW.call (s : List UInt8 × Bool) (A : Option Addr) (c : Nat) (h1 : Wr 104 w g s.1 room s.2 A c) (h2 : PutOk room s N) (h3 : Below B w0 w) (h4 : B ≤ g) (h5 : ∀ k, rowOf A = some k → B ≤ k) (h7 : ∀ p ∈ bx, w.heap[p.1]? = some p.2 ∧ p.1 ≠ g ∧ rowOf A ≠ some p.1)
    {M : List UInt8} {A' : Option Addr} {c' : Nat} (hx : WrS 104 w w' g (putF room s M) room (rowOf A) A' c') : IW B w0 w' g (N ++ M) room bx := by
  have hB : B ≤ w.heap.size := by have := h1.blk.lt; omega
  refine ⟨_, A', c', hx.wr, h2.next M, hx.belB h3 hB h4 h5, h4, hx.rowB hB h5, hx.fit, fun p hp => ⟨(hx.turn.block p.1 (lt_of_heap (h7 p hp).1) (h7 p hp).2.1 (fun e => (h7 p hp).2.2 e.symm)).trans (h7 p hp).1, (h7 p hp).2.1, fun e => ?_⟩⟩
  rcases hx.row with e2 | e2
  · exact (h7 p hp).2.2 (e2 ▸ e)
  · have := e2 _ e
    have := lt_of_heap (h7 p hp).1
    omega
theorem IW.store {b : Nat} {t : TypeId} {cs : Array Value} (h : IW B w0 w g N room ((b, .cells cs t (0, 0)) :: bx)) (hb : ∀ p ∈ bx, p.1 ≠ b) (hB : B ≤ b) (i : Nat) (v : Value) : IW B w0 (w.setCell ⟨b, i, none⟩ v) g N room ((b, .cells (cs.setIfInBounds i v) t (0, 0)) :: bx) := by
  obtain ⟨s, A, c, h1, h2, h3, h4, h5, h6, h7⟩ := h
  have hx := h7 _ (List.mem_cons_self)
  refine ⟨s, A, c, h1.frame fun k hk => ?_, h2, h3.setCell hB v, h4, h5, h6, fun p hp => ?_⟩
  · refine Below.heap_setCell w ⟨b, i, none⟩ v k (fun e => ?_)
    simp only at e
    rcases hk with rfl | hk
    · exact hx.2.1 e.symm
    · exact hx.2.2 (e ▸ hk)
  · rcases List.mem_cons.1 hp with rfl | hp
    · exact ⟨by simp [World.setCell, Array.getElem?_modify, hx.1], hx.2⟩
    · exact ⟨(Below.heap_setCell w ⟨b, i, none⟩ v p.1 (fun e => hb p hp e)).trans (h7 p (List.mem_cons_of_mem _ hp)).1, (h7 p (List.mem_cons_of_mem _ hp)).2⟩
theorem IW.first {b : Nat} {t : TypeId} {v : Value} (h : IW B w0 w g N room ((b, .cells #[v] t (0, 0)) :: bx)) : w.cell? ⟨b, 0, none⟩ = some v ∧ w.frozen? ⟨b, 0, none⟩ = false ∧ b < w.heap.size := by
  have hb : Blk w b t [v] := h.box (p := (b, .cells #[v] t (0, 0))) List.mem_cons_self
  exact ⟨hb.cell 0, hb.frozen 0, hb.lt⟩
theorem IW.aft {W : World} (h : IW W.heap.size W w g N room bx) : Aft W w := h.below
theorem to_I (W u : World) (room : Int) (hr : 0 ≤ room) (h : Aft W u) (bx : List (Nat × Obj)) (hbx : ∀ p ∈ bx, u.heap[p.1]? = some p.2) :
    Calls Try.prog 60 #[.int .i64 room] u fun e w' => ∃ g, e = .returned (.pointer (some ⟨g, 0, none⟩)) ∧ IW W.heap.size W w' g [] room bx := by
  refine (to_E u room).mono ?_
  rintro e w' ⟨g, hg, rfl, hw, hb⟩
  rw [Int.max_eq_left hr] at hw
  exact ⟨g, rfl, ([], false), none, 0, hw, .inl ⟨rfl, by simpa using hr⟩, h.call hb, Nat.le_trans h.size hg, (fun k e => (by cases e)), by simpa using hr,
    fun p hp => ⟨(hb.block p.1 (lt_of_heap (hbx p hp))).trans (hbx p hp), Nat.ne_of_lt (Nat.lt_of_lt_of_le (lt_of_heap (hbx p hp)) hg), (fun e => (by cases e))⟩⟩
theorem u16_I (h : IW B w0 w g N room bx) (hr : 0 ≤ room) (hr2 : room ≤ 1099511627776) (x : Int) :
    Calls Try.prog 61 #[.pointer (some ⟨g, 0, none⟩), .int .i64 x] w fun e w' => e = .returned (.pointer (some ⟨g, 0, none⟩)) ∧ IW B w0 w' g (N ++ beB 2 x) room bx := by
  obtain ⟨s, A, c, h1, h2, h3, h4, h5, h6, h7⟩ := h
  exact (u16_W w g s room A c x h1 hr hr2 h6).mono fun _ _ ⟨he, A', c', hx⟩ => ⟨he, IW.call s A c h1 h2 h3 h4 h5 h7 hx⟩
theorem u32_I (h : IW B w0 w g N room bx) (hr : 0 ≤ room) (hr2 : room ≤ 1099511627776) (x : Int) :
    Calls Try.prog 70 #[.pointer (some ⟨g, 0, none⟩), .int .i64 x] w fun e w' => e = .returned (.pointer (some ⟨g, 0, none⟩)) ∧ IW B w0 w' g (N ++ beB 4 x) room bx := by
  obtain ⟨s, A, c, h1, h2, h3, h4, h5, h6, h7⟩ := h
  exact (u32_W w g s room A c x h1 hr hr2 h6).mono fun _ _ ⟨he, A', c', hx⟩ => ⟨he, IW.call s A c h1 h2 h3 h4 h5 h7 hx⟩
theorem data_I (h : IW B w0 w g N room bx) (hr : 0 ≤ room) (hr2 : room ≤ 1099511627776) (A0 : Option Addr) (m c0 : Nat) (bs : List UInt8) (hm : bs.length = m) (hs : SlAt w A0 m (bs.map byteV)) (hg : 0 < m → ∀ k, rowOf A0 = some k → k < B) :
    Calls Try.prog 62 #[.pointer (some ⟨g, 0, none⟩), .slice A0 m c0] w fun e w' => e = .returned (.pointer (some ⟨g, 0, none⟩)) ∧ IW B w0 w' g (N ++ bs) room bx := by
  obtain ⟨s, A, c, h1, h2, h3, h4, h5, h6, h7⟩ := h
  subst hm
  exact (data_W0 w g s room A c bs A0 c0 h1 hr hr2 h6 hs (fun h0 e => by have := hg h0 _ e; omega)).mono fun _ _ ⟨he, A', c', hx⟩ => ⟨he, IW.call s A c h1 h2 h3 h4 h5 h7 hx⟩
end
section
variable {B : Nat} {w0 w w' : World} {g : Nat} {N : List UInt8} {room : Int} {bx : List (Nat × Obj)}
theorem done_I (h : IW B w0 w g N room bx) (hN : (N.length : Int) ≤ room) (hn : N.length ≤ 140737488355328) :
    Calls Try.prog 63 #[.pointer (some ⟨g, 0, none⟩)] w fun e w' => ∃ A' c', e = .returned (.tuple #[.slice A' N.length c', .int .i64 0]) ∧ SlAt w' A' N.length (N.map byteV) ∧ Below w.heap.size w w' ∧ (∀ k, rowOf A' = some k → w.heap.size ≤ k) ∧ N.length ≤ c' := by
  obtain ⟨s, A, c, h1, h2, h3, h4, h5, h6, h7⟩ := h
  rcases h2 with ⟨rfl, _⟩ | ⟨_, h⟩
  · exact done_c w g N room A c h1 hn
  · omega
end
end Go.Proofs.Ytlbfefdmbdjjcaa

namespace Go.Proofs.Ytlbfefdmbdjjcaa
open Go.RowKit

abbrev Pr := Int × Int
def prC (p : Pr) : List Value := [.int .i64 p.1, .int .i64 p.2]
def mostC (f : Int) : Int := if f = 0 then 255 else if f = 4 then 65534 else if f = 6 then 65535 else 1114111
def mostG (f : Int) : Int := if f = 0 then 255 else 65535
def mayL (lc lg : Int) : Int → List Pr → Bool
  | _, [] => true
  | last, p :: t => decide (last < p.1 ∧ p.1 ≤ lc ∧ 1 ≤ p.2 ∧ p.2 ≤ lg) && mayL lc lg p.1 t
def lastP : Int → List Pr → Int
  | last, [] => last
  | _, p :: t => lastP p.1 t
theorem mayL_append (lc lg : Int) : ∀ (a b : List Pr) (last : Int), mayL lc lg last (a ++ b) = (mayL lc lg last a && mayL lc lg (lastP last a) b)
  | [], _, _ => rfl
  | p :: a, b, last => by
    show (decide _ && mayL lc lg p.1 (a ++ b)) = _
    rw [mayL_append lc lg a b p.1, ← Bool.and_assoc]
    rfl
theorem lastP_snoc : ∀ (a : List Pr) (p : Pr) (last : Int), lastP last (a ++ [p]) = p.1
  | [], _, _ => rfl
  | _ :: a, p, _ => lastP_snoc a p _
theorem mayL_one {lc lg last : Int} {p : Pr} : mayL lc lg last [p] = decide (last < p.1 ∧ p.1 ≤ lc ∧ 1 ≤ p.2 ∧ p.2 ≤ lg) := by
  show (decide _ && true) = _
  rw [Bool.and_true]
def mayS (f : Int) (l : List Pr) : Bool := mayL (mostC f) (mostG f) (-1) l
theorem most_any (f : Int) (w : World) : Calls Try.prog 59 #[.int .i64 f] w fun e w' => e = .returned (.tuple #[.int .i64 (mostC f), .int .i64 (mostG f)]) ∧ w = w' := by
  have hcs : ((f == 0) = true ∧ mostC f = 255 ∧ mostG f = 255) ∨ ((f == 0) = false ∧ (f == 4) = true ∧ mostC f = 65534 ∧ mostG f = 65535) ∨ ((f == 0) = false ∧ (f == 4) = false ∧ (f == 6) = true ∧ mostC f = 65535 ∧ mostG f = 65535) ∨ ((f == 0) = false ∧ (f == 4) = false ∧ (f == 6) = false ∧ mostC f = 1114111 ∧ mostG f = 65535) := by
    unfold mostC mostG
    by_cases h0 : f = 0
    · subst h0; simp
    · by_cases h4 : f = 4
      · subst h4; simp
      · by_cases h6 : f = 6
        · subst h6; simp
        · simp [h0, h4, h6]
  rcases hcs with ⟨e0, hc, hg⟩ | ⟨e0, e4, hc, hg⟩ | ⟨e0, e4, e6, hc, hg⟩ | ⟨e0, e4, e6, hc, hg⟩
  all_goals
    rw [hc, hg]
    clear hc hg
    go_enter Try.func59, Try.ntmps59
    go_wp2_with fail
    go_ret2
    exact ⟨rfl, rfl⟩
set_option maxRecDepth 20000 in
set_option maxHeartbeats 4000000 in
theorem mayMake_any {w : World} {A : Option Addr} {n c : Nat} {l : List Pr} (f : Int) (h : RowsAt w A n 2 (l.map prC)) (hn : n ≤ 1000000) :
    Calls Try.prog 34 #[.int .i64 f, .slice A n c] w fun e w' => e = .returned (.bool (mayS f l)) ∧ Below w.heap.size w w' := by
  have hl := h.len
  rw [List.length_map] at hl
  subst hl
  have hv : mayS f l = mayL (mostC f) (mostG f) (-1) l := rfl
  have hm := most_any f
  have hbc : mostC f ≤ 1114111 := by unfold mostC; split <;> (try split) <;> (try split) <;> omega
  have hbg : mostG f ≤ 65535 := by unfold mostG; split <;> omega
  generalize mostC f = lc at hv hm hbc
  generalize mostG f = lg at hv hm hbg
  have HV := Lib.hid hv
  have HM := Lib.hid hm
  have H := Lib.hid h
  clear hv hm h
  go_enter Try.func34, Try.ntmps34
  go_wp2_with (first | (go_at_call 59; (with_reducible refine (HM.out _).mono ?_); rintro e w1 ⟨rfl, rfl⟩) | fail)
  go_loopw [7, 17] (fun la i wr => ∃ (k : Nat) (z : Int), k ≤ l.length ∧ i = .int .i64 k ∧ la = .int .i64 z ∧ Hid (mayL lc lg (-1) (l.take k) = true ∧ lastP (-1) (l.take k) = z) ∧ Hid (Below w.heap.size w wr) ∧ (-1 ≤ z ∧ z ≤ 1114111)) (fun _ i _ => l.length - (intOf i).toNat)
  case atStart => exact ⟨0, -1, Nat.zero_le _, rfl, rfl, Lib.hid ⟨rfl, rfl⟩, Lib.hid (Below.refl _ _), by omega, by omega⟩
  case round =>
    obtain ⟨k, z, hk, rfl, rfl, HE, HB, hz0, hz1⟩ := hrel
    by_cases hlt : k < l.length
    · obtain ⟨⟨p1, p2⟩, hp⟩ := get_some' hlt
      obtain ⟨b, o, rfl, hb, hc⟩ := H.out.at_ (i := k) (r := prC (p1, p2)) (by rw [List.getElem?_map, hp]; rfl)
      have r0 : wr.cell? ⟨b, o + k * 2, none⟩ = some (.int .i64 p1) := (HB.out.cell (p := ⟨b, _, none⟩) hb).trans (hc 0 _ rfl)
      have r1 : wr.cell? ⟨b, o + k * 2 + 1, none⟩ = some (.int .i64 p2) := (HB.out.cell (p := ⟨b, _, none⟩) hb).trans (hc 1 _ rfl)
      have hkl : (k : Int) < l.length := by omega
      have hts := take_snoc' hp
      have hzs := HB.out.size
      have hall : ¬ (z < p1 ∧ p1 ≤ lc ∧ 1 ≤ p2 ∧ p2 ≤ lg) → mayS f l = false := fun h => by
        rw [HV.out, ← List.take_append_drop (k + 1) l, hts, mayL_append, mayL_append, HE.out.2, mayL_one, decide_eq_false h]
        simp
      have HALL := Lib.hid hall
      have HTS := Lib.hid hts
      clear hc hp hts hall
      by_cases hok : z < p1 ∧ p1 ≤ lc ∧ 1 ≤ p2 ∧ p2 ≤ lg
      · obtain ⟨o1, o2, o3, o4⟩ := hok
        have o1' : ¬ p1 ≤ z := by omega
        have o3' : ¬ p2 < 1 := by omega
        clear HALL
        go_wp2_with fail
        go_roundw
        case rel => exact ⟨k + 1, p1, by omega, by go_num, rfl, Lib.hid ⟨by rw [HTS.out, mayL_append, HE.out.1, HE.out.2, mayL_one, decide_eq_true ⟨o1, o2, o3, o4⟩]; rfl, by rw [HTS.out, lastP_snoc]⟩, Lib.hid (HB.out.trans ((bel_alloc bel_refl).below.mono hzs)), by omega, by omega⟩
        case measure => simp [intOf]; omega
      · have HNO := Lib.hid (HALL.out hok)
        have hcs : p1 ≤ z ∨ (¬ p1 ≤ z ∧ ¬ p1 ≤ lc) ∨ (¬ p1 ≤ z ∧ p1 ≤ lc ∧ p2 < 1) ∨ (¬ p1 ≤ z ∧ p1 ≤ lc ∧ ¬ p2 < 1 ∧ ¬ p2 ≤ lg) := by omega
        clear HALL hok
        rcases hcs with o1 | ⟨o1, o2⟩ | ⟨o1, o2, o3⟩ | ⟨o1, o2, o3, o4⟩
        all_goals
          go_wp2_with fail
          go_ret
          exact ⟨by rw [HNO.out]; rfl, HB.out.trans ((bel_alloc bel_refl).below.mono hzs)⟩
    · obtain rfl : k = l.length := by omega
      have hfin := HE.out.1
      rw [List.take_length, ← HV.out] at hfin
      have HF := Lib.hid hfin
      clear hfin
      go_wp2_with fail
      go_ret
      exact ⟨by rw [HF.out]; rfl, HB.out⟩
end Go.Proofs.Ytlbfefdmbdjjcaa

namespace Go.Proofs.Ytlbfefdmbdjjcaa
open Go.RowKit

/-- Does a run end with pair i? -/
def brk (l : List Pr) (i : Nat) : Bool := decide (i + 1 = l.length ∨ (l.getD (i + 1) (0, 0)).1 ≠ (l.getD i (0, 0)).1 + 1 ∨ (l.getD (i + 1) (0, 0)).2 ≠ (l.getD i (0, 0)).2 + 1)
def runN (l : List Pr) : Nat → List (List Pr) × Nat
  | 0 => ([], 0)
  | i + 1 => if brk l i = true then ((runN l i).1 ++ [(l.drop (runN l i).2).take (i + 1 - (runN l i).2)], i + 1) else runN l i
def runL (l : List Pr) : List (List Pr) := (runN l l.length).1
theorem runN_le (l : List Pr) : ∀ i, (runN l i).2 ≤ i
  | 0 => Nat.le_refl _
  | i + 1 => by
    unfold runN
    split
    · exact Nat.le_refl _
    · exact Nat.le_succ_of_le (runN_le l i)
theorem runN_len (l : List Pr) : ∀ i, (runN l i).1.length ≤ i
  | 0 => Nat.le_refl _
  | i + 1 => by
    unfold runN
    split
    · have := runN_len l i
      rw [List.length_append]
      simp
      exact this
    · exact Nat.le_succ_of_le (runN_len l i)
/-- Slices of pairs, one by one; they lie below block B. -/
structure Zp (B : Nat) (w : World) (vs : List Value) (pl : List (List Pr)) : Prop where
  len : vs.length = pl.length
  at_ : ∀ (i : Nat) (v : Value) (ps : List Pr), vs[i]? = some v → pl[i]? = some ps → ∃ Ai ci, v = .slice Ai ps.length ci ∧ RowsAt w Ai ps.length 2 (ps.map prC) ∧ ∀ q, rowOf Ai = some q → q < B
theorem Zp.nil (B : Nat) (w : World) : Zp B w [] [] := ⟨rfl, fun i v ps h => by simp at h⟩
theorem Zp.keep {B : Nat} {w w' : World} {vs : List Value} {pl : List (List Pr)} (h : Zp B w vs pl) (hb : Below B w w') : Zp B w' vs pl :=
  ⟨h.len, fun i v ps h1 h2 => by obtain ⟨Ai, ci, e, hr, hq⟩ := h.at_ i v ps h1 h2; exact ⟨Ai, ci, e, hr.keepB hb (fun _ => hq), hq⟩⟩
theorem Zp.mono {B B' : Nat} {w : World} {vs : List Value} {pl : List (List Pr)} (h : Zp B w vs pl) (hb : B ≤ B') : Zp B' w vs pl :=
  ⟨h.len, fun i v ps h1 h2 => by obtain ⟨Ai, ci, e, hr, hq⟩ := h.at_ i v ps h1 h2; exact ⟨Ai, ci, e, hr, fun q hh => Nat.lt_of_lt_of_le (hq q hh) hb⟩⟩
theorem Zp.snoc {B : Nat} {w : World} {vs : List Value} {pl : List (List Pr)} (h : Zp B w vs pl) {A : Option Addr} {c : Nat} {ps : List Pr} {m : Nat} (hm : ps.length = m) (hr : RowsAt w A m 2 (ps.map prC)) (hq : ∀ q, rowOf A = some q → q < B) : Zp B w (vs ++ [.slice A m c]) (pl ++ [ps]) := by
  refine ⟨by simp [h.len], fun i v qs h1 h2 => ?_⟩
  subst hm
  by_cases hi : i < vs.length
  · rw [List.getElem?_append_left hi] at h1
    rw [List.getElem?_append_left (by rw [← h.len]; exact hi)] at h2
    exact h.at_ i v qs h1 h2
  · rw [List.getElem?_append_right (by omega)] at h1
    rw [List.getElem?_append_right (by rw [← h.len]; omega), ← h.len] at h2
    obtain ⟨k, hk⟩ : ∃ k, i - vs.length = k := ⟨_, rfl⟩
    rw [hk] at h1 h2
    cases k with
    | zero =>
      simp only [List.getElem?_cons_zero, Option.some.injEq] at h1 h2
      subst h1 h2
      exact ⟨A, c, rfl, hr, hq⟩
    | succ k => simp at h1
theorem Zp.one {B : Nat} {w : World} {vs : List Value} {pl : List (List Pr)} (h : Zp B w vs pl) : ∀ u ∈ vs, u.oneCell' = true := fun u hu => by
  obtain ⟨i, hi⟩ := List.getElem?_of_mem hu
  obtain ⟨ps, hps⟩ := get_some' (l := pl) (k := i) (by have := (List.getElem?_eq_some_iff.1 hi).1; have := h.len; omega)
  obtain ⟨Ai, ci, rfl, _⟩ := h.at_ i u ps hi hps
  rfl
/-- Pairs that may be made. -/
def PB (l : List Pr) : Prop := ∀ p ∈ l, (0 ≤ p.1 ∧ p.1 ≤ 1114111) ∧ (0 ≤ p.2 ∧ p.2 ≤ 65536)
theorem PB.at_ {l : List Pr} (h : PB l) {i : Nat} {p : Pr} (hp : l[i]? = some p) : (0 ≤ p.1 ∧ p.1 ≤ 1114111) ∧ (0 ≤ p.2 ∧ p.2 ≤ 65536) := h p (List.mem_of_getElem? hp)
theorem pl_info : (Try.prog.info? 34).map (fun i => (i.zero.map (fun z => z.cells.size), i.size, i.bytes)) = some (some 1, 1, 24) := by kernel_rfl
theorem pl_parts : ∃ i z, Try.prog.info? 34 = some i ∧ i.zero = some z ∧ i.size = 1 ∧ i.bytes = 24 ∧ z.cells.size = 1 := by
  have h := pl_info
  cases hi : Try.prog.info? 34 with
  | none => rw [hi] at h; cases h
  | some i =>
    rw [hi] at h
    simp only [Option.map_some, Option.some.injEq, Prod.mk.injEq] at h
    obtain ⟨h1, h2, h3⟩ := h
    cases hz : i.zero with
    | none => rw [hz] at h1; cases h1
    | some z =>
      rw [hz] at h1
      exact ⟨i, z, rfl, hz, h2, h3, by simpa using h1⟩
theorem RowsAt.sub {w : World} {A : Option Addr} {n k c : Nat} {rows : List (List Value)} (h : RowsAt w A n k rows) (hc : n ≤ c) (pos m : Nat) (hm : pos + m ≤ n) : RowsAt w (if c = pos then A else Option.map (fun x => x.add (pos * k)) A) m k ((rows.drop pos).take m) := by
  have hl := h.len
  refine ⟨by rw [List.length_take, List.length_drop]; omega, fun i r hr => ?_⟩
  have hi : i < m := by
    have := (List.getElem?_eq_some_iff.1 hr).1
    rw [List.length_take] at this
    omega
  rw [List.getElem?_take, if_pos hi, List.getElem?_drop] at hr
  obtain ⟨h1, b, o, rfl, hlt, h2⟩ := h.cell _ r hr
  refine ⟨h1, b, o + pos * k, ?_, hlt, fun j v hv => ?_⟩
  · rw [if_neg (by omega)]
    show some ((⟨b, o, none⟩ : Addr).add (pos * k)) = _
    rw [show (⟨b, o, none⟩ : Addr).add (pos * k) = ⟨b, o + pos * k, none⟩ by unfold Addr.add; split <;> simp [*]]
  · have := h2 j v hv
    rw [Nat.add_mul] at this
    rw [show o + pos * k + i * k + j = o + (pos * k + i * k) + j by omega]
    exact this
theorem add2 (b o k : Nat) : Option.map (fun x => x.add k) (some (⟨b, o, none⟩ : Addr)) = some ⟨b, o + k, none⟩ := by
  show some ((⟨b, o, none⟩ : Addr).add k) = _
  rw [show (⟨b, o, none⟩ : Addr).add k = ⟨b, o + k, none⟩ by unfold Addr.add; split <;> simp [*]]
theorem of_own1 {w : World} {base n : Nat} {e : TypeId} {v : Value} {xs : List Value} (h : w.ownsRow base e 1 v n xs) : ∃ A c, v = .slice A n c ∧ SlAt w A n xs ∧ ∀ ad, A = some ad → base ≤ ad.block := SlAt.of_own h
def RunR (pl : List (List Pr)) (w : World) (e : Ending) (w' : World) : Prop :=
  ∃ (Ap : Option Addr) (cp m : Nat) (vs : List Value), vs.length = m ∧ e = .returned (.slice Ap m cp) ∧ w'.ownsRow w.heap.size 34 1 (.slice Ap m cp) m vs ∧ Zp w.heap.size w' vs pl ∧ Below w.heap.size w w'
set_option maxRecDepth 20000 in
set_option maxHeartbeats 4000000 in
theorem runs_any {w : World} {A : Option Addr} {n c : Nat} {l : List Pr} (h : RowsAt w A n 2 (l.map prC)) (hn : n ≤ 1000000) (hc : n ≤ c) (hb : PB l) :
    Calls Try.prog 64 #[.slice A n c] w (RunR (runL l) w) := by
  have hl := h.len
  rw [List.length_map] at hl
  subst hl
  have H := Lib.hid h
  have HP := Lib.hid hb
  clear h hb
  go_enter Try.func64, Try.ntmps64
  go_wp2_with fail
  go_loopw [3, 4, 9] (fun out fr i wr => ∃ (k a : Nat) (Ap : Option Addr) (cp m : Nat) (vs : List Value), k ≤ l.length ∧ a ≤ k ∧ m ≤ k ∧ i = .int .i64 k ∧ fr = .int .i64 a ∧ out = .slice Ap m cp ∧ Hid (vs.length = m ∧ (runN l k).2 = a) ∧ Hid (wr.ownsRow w.heap.size 34 1 (.slice Ap m cp) m vs) ∧ Hid (Zp w.heap.size wr vs (runN l k).1) ∧ Hid (Below w.heap.size w wr)) (fun _ _ i _ => l.length - (intOf i).toNat)
  case atStart => exact ⟨0, 0, none, 0, 0, [], Nat.zero_le _, Nat.le_refl _, Nat.le_refl _, rfl, rfl, rfl, Lib.hid ⟨rfl, rfl⟩, Lib.hid (World.ownsRow_nil _ _ _ _), Lib.hid (Zp.nil _ _), Lib.hid (Below.refl _ _)⟩
  case round =>
    obtain ⟨k, a, Ap, cp, m, vs, hk, hak, hmk, rfl, rfl, rfl, HE, HO, HZ, HB⟩ := hrel
    by_cases hlt : k < l.length
    · have hkl : (k : Int) < l.length := by omega
      obtain ⟨⟨p1, p2⟩, hp⟩ := get_some' hlt
      have hpb := HP.out.at_ hp
      obtain ⟨⟨pb0, pb1⟩, pb2, pb3⟩ := hpb
      dsimp only at pb0 pb1 pb2 pb3
      obtain ⟨b, o, rfl, hbl, hcl⟩ := H.out.at_ (i := k) (r := prC (p1, p2)) (by rw [List.getElem?_map, hp]; rfl)
      have r0 : wr.cell? ⟨b, o + k * 2, none⟩ = some (.int .i64 p1) := (HB.out.cell (p := ⟨b, _, none⟩) hbl).trans (hcl 0 _ rfl)
      have r1 : wr.cell? ⟨b, o + k * 2 + 1, none⟩ = some (.int .i64 p2) := (HB.out.cell (p := ⟨b, _, none⟩) hbl).trans (hcl 1 _ rfl)
      have hbz := HB.out.size
      obtain ⟨nx, hnx⟩ : ∃ nx : Nat, (k : Int) + 1 = nx := ⟨k + 1, by omega⟩
      have hnx2 : nx = k + 1 := by omega
      have HNX := Lib.hid hnx2
      have hrn : runN l (k + 1) = if brk l k = true then ((runN l k).1 ++ [(l.drop a).take (nx - a)], k + 1) else runN l k := by
        rw [← HE.out.2, hnx2]; rfl
      have HRN := Lib.hid hrn
      clear hrn hcl hnx2
      by_cases hbk : brk l k = true
      · have hrn2 := HRN.out.trans (if_pos hbk)
        have HR2 := Lib.hid hrn2
        have hcs : ((nx : Int) == l.length) = true ∨ (((nx : Int) == l.length) = false ∧ ∃ q1 q2, l[k + 1]? = some (q1, q2) ∧ ((q1 != p1 + 1) = true ∨ ((q1 != p1 + 1) = false ∧ (q2 != p2 + 1) = true))) := by
          unfold brk at hbk
          rw [decide_eq_true_eq, List.getD_eq_getElem?_getD, List.getD_eq_getElem?_getD, hp] at hbk
          by_cases h1 : k + 1 = l.length
          · left; simp; omega
          · right
            refine ⟨by simp; omega, ?_⟩
            obtain ⟨⟨q1, q2⟩, hq⟩ := get_some' (l := l) (k := k + 1) (by omega)
            rw [hq] at hbk
            refine ⟨q1, q2, hq, ?_⟩
            simp only [Option.getD_some] at hbk
            by_cases h2 : q1 = p1 + 1
            · exact .inr ⟨by simpa using h2, by simp; omega⟩
            · exact .inl (by simpa using h2)
        clear HRN hrn2 hbk
        have hn1 : a ≤ nx := by omega
        have hn2 : nx ≤ c := by omega
        have hn3 : nx ≤ l.length := by omega
        have hca : ¬ c = a := by omega
        rcases hcs with e1 | ⟨e1, q1, q2, hq, e2⟩
        · clear hp
          go_upto_region 7 with fail
          go_region
          go_upto_region 8 with fail
          clear e1
          obtain ⟨wd, hwd⟩ : ∃ wd, wr.drew = wd := ⟨_, rfl⟩
          have hbd : Below wr.heap.size wr wd := by rw [← hwd]; exact (bel_drew bel_refl).below
          have hz3 := hbd.size
          obtain ⟨m2, hm2⟩ : ∃ m2 : Nat, nx - a = m2 := ⟨_, rfl⟩
          obtain ⟨c2, hc2⟩ : ∃ c2 : Nat, c - a = c2 := ⟨_, rfl⟩
          have hba := (bel_alloc (o := .cells #[.slice (some ⟨b, o + a * 2, none⟩) m2 c2] 34) (bel_refl (a := wd))).below
          have hbx := hbd.trans (hba.mono hz3)
          have HBW := Lib.hid (HB.out.trans (hbx.mono hbz))
          have hrw := (H.out.sub hc a m2 (by omega)).keepB HBW.out (fun _ q hq => by
            rw [if_neg hca] at hq
            rw [add2] at hq
            have hq2 : b = q := Option.some.inj hq
            omega)
          rw [if_neg hca, ← List.map_drop, ← List.map_take, add2] at hrw
          have HRW := Lib.hid hrw
          have HOW : Hid ((wd.alloc (.cells #[.slice (some ⟨b, o + a * 2, none⟩) m2 c2] 34)).ownsRow w.heap.size 34 1 (.slice Ap m cp) m vs) := Lib.hid (own_keep HO.out fun q hq => hbx.block q (own_lt HO.out q hq).2)
          have HZW := Lib.hid (HZ.out.keep (hbx.mono hbz))
          have HRD : Hid (Reads (wd.alloc (.cells #[.slice (some ⟨b, o + a * 2, none⟩) m2 c2] 34)) (wd.alloc (.cells #[.slice (some ⟨b, o + a * 2, none⟩) m2 c2] 34)).heap.size 1 (some ⟨wd.heap.size, 0, none⟩) 1 [.slice (some ⟨b, o + a * 2, none⟩) m2 c2]) := Lib.hid (by rw [World.size_alloc]; exact reads_new wd [_] _ 1 1 rfl)
          obtain ⟨i0, zz, hi0, hzz0, hzz1, hzz2, hzz3⟩ := pl_parts
          have hvl := HE.out.1
          try rw [hwd]
          clear hrw hba hbd hwd r0 r1
          go_wp2_with (first
            | (at_builtin; refine wpList_append_any _ (by rfl) (.tmp 46) (.tmp 51) _ (by rfl) w.heap.size 34 i0 zz 1 24 Try.underlying90 hi0 hzz0 hzz1 hzz2 hzz3 (by omega) _ m _ (by rfl) HOW.out _ _ 1 _ _ (by rfl) HRD.out (by simp [Value.oneCell']) (by unfold maxLen; omega) (by omega) HBW.out.size ?_; intro v' w9 ho9 hg9 hr9; obtain ⟨A9, c9, rfl, _, _⟩ := of_own1 ho9; have HO9 := Lib.hid ho9; have HB9 := Lib.hid (grown_below' hg9 HBW.out.size (fun q hq => (own_lt HOW.out q hq).1)); clear ho9 hg9 hr9)
            | fail)
          go_roundw
          case rel => exact ⟨nx, nx, A9, c9, m + 1, vs ++ [.slice (some ⟨b, o + a * 2, none⟩) m2 c2], by omega, Nat.le_refl _, by omega, by go_num, by go_num, rfl, Lib.hid ⟨by simp [hvl], by rw [HNX.out, HR2.out]⟩, HO9, Lib.hid (by rw [HNX.out, HR2.out, hm2]; exact (HZW.out.snoc (by rw [List.length_take, List.length_drop]; omega) HRW.out (fun q hq => by have hq2 : b = q := Option.some.inj hq; omega)).keep HB9.out), Lib.hid (HBW.out.trans HB9.out)⟩
          case measure => simp [intOf]; omega
        · obtain ⟨pq0, pq1⟩ := HP.out.at_ hq
          obtain ⟨b', o', hA', hbl', hcl'⟩ := H.out.at_ (i := k + 1) (r := prC (q1, q2)) (by rw [List.getElem?_map, hq]; rfl)
          injection hA' with hA'
          injection hA' with hA1 hA2
          subst hA1 hA2
          have r2 : wr.cell? ⟨b, o + nx * 2, none⟩ = some (.int .i64 q1) := by rw [HNX.out]; exact (HB.out.cell (p := ⟨b, _, none⟩) hbl').trans (hcl' 0 _ rfl)
          have r3 : wr.cell? ⟨b, o + nx * 2 + 1, none⟩ = some (.int .i64 q2) := by rw [HNX.out]; exact (HB.out.cell (p := ⟨b, _, none⟩) hbl').trans (hcl' 1 _ rfl)
          have hnl : (nx : Int) < l.length := by simp at e1; omega
          dsimp only at pq0 pq1
          obtain ⟨pq2, pq3⟩ := pq0
          obtain ⟨pq4, pq5⟩ := pq1
          clear hp hq hcl' hbl'
          rcases e2 with e2 | ⟨e2, e3⟩
          all_goals
            go_upto_region 7 with fail
            go_region
            go_upto_region 8 with fail
            clear r2 r3
            obtain ⟨wd, hwd⟩ : ∃ wd, wr.drew = wd := ⟨_, rfl⟩
            have hbd : Below wr.heap.size wr wd := by rw [← hwd]; exact (bel_drew bel_refl).below
            have hz3 := hbd.size
            obtain ⟨m2, hm2⟩ : ∃ m2 : Nat, nx - a = m2 := ⟨_, rfl⟩
            obtain ⟨c2, hc2⟩ : ∃ c2 : Nat, c - a = c2 := ⟨_, rfl⟩
            have hba := (bel_alloc (o := .cells #[.slice (some ⟨b, o + a * 2, none⟩) m2 c2] 34) (bel_refl (a := wd))).below
            have hbx := hbd.trans (hba.mono hz3)
            have HBW := Lib.hid (HB.out.trans (hbx.mono hbz))
            have hrw := (H.out.sub hc a m2 (by omega)).keepB HBW.out (fun _ q hq => by
              rw [if_neg hca] at hq
              rw [add2] at hq
              have hq2 : b = q := Option.some.inj hq
              omega)
            rw [if_neg hca, ← List.map_drop, ← List.map_take, add2] at hrw
            have HRW := Lib.hid hrw
            have HOW : Hid ((wd.alloc (.cells #[.slice (some ⟨b, o + a * 2, none⟩) m2 c2] 34)).ownsRow w.heap.size 34 1 (.slice Ap m cp) m vs) := Lib.hid (own_keep HO.out fun q hq => hbx.block q (own_lt HO.out q hq).2)
            have HZW := Lib.hid (HZ.out.keep (hbx.mono hbz))
            have HRD : Hid (Reads (wd.alloc (.cells #[.slice (some ⟨b, o + a * 2, none⟩) m2 c2] 34)) (wd.alloc (.cells #[.slice (some ⟨b, o + a * 2, none⟩) m2 c2] 34)).heap.size 1 (some ⟨wd.heap.size, 0, none⟩) 1 [.slice (some ⟨b, o + a * 2, none⟩) m2 c2]) := Lib.hid (by rw [World.size_alloc]; exact reads_new wd [_] _ 1 1 rfl)
            obtain ⟨i0, zz, hi0, hzz0, hzz1, hzz2, hzz3⟩ := pl_parts
            have hvl := HE.out.1
            try rw [hwd]
            clear hrw hba hbd hwd r0 r1 e1 e2
            go_wp2_with (first
              | (at_builtin; refine wpList_append_any _ (by rfl) (.tmp 46) (.tmp 51) _ (by rfl) w.heap.size 34 i0 zz 1 24 Try.underlying90 hi0 hzz0 hzz1 hzz2 hzz3 (by omega) _ m _ (by rfl) HOW.out _ _ 1 _ _ (by rfl) HRD.out (by simp [Value.oneCell']) (by unfold maxLen; omega) (by omega) HBW.out.size ?_; intro v' w9 ho9 hg9 hr9; obtain ⟨A9, c9, rfl, _, _⟩ := of_own1 ho9; have HO9 := Lib.hid ho9; have HB9 := Lib.hid (grown_below' hg9 HBW.out.size (fun q hq => (own_lt HOW.out q hq).1)); clear ho9 hg9 hr9)
              | fail)
            go_roundw
            case rel => exact ⟨nx, nx, A9, c9, m + 1, vs ++ [.slice (some ⟨b, o + a * 2, none⟩) m2 c2], by omega, Nat.le_refl _, by omega, by go_num, by go_num, rfl, Lib.hid ⟨by simp [hvl], by rw [HNX.out, HR2.out]⟩, HO9, Lib.hid (by rw [HNX.out, HR2.out, hm2]; exact (HZW.out.snoc (by rw [List.length_take, List.length_drop]; omega) HRW.out (fun q hq => by have hq2 : b = q := Option.some.inj hq; omega)).keep HB9.out), Lib.hid (HBW.out.trans HB9.out)⟩
            case measure => simp [intOf]; omega
      · have hrn2 := HRN.out.trans (if_neg hbk)
        have HR2 := Lib.hid hrn2
        have hcs : ((nx : Int) == l.length) = false ∧ l[k + 1]? = some (p1 + 1, p2 + 1) := by
          unfold brk at hbk
          rw [decide_eq_true_eq, List.getD_eq_getElem?_getD, List.getD_eq_getElem?_getD, hp] at hbk
          have h1 : ¬ k + 1 = l.length := fun h => hbk (.inl h)
          obtain ⟨⟨q1, q2⟩, hq⟩ := get_some' (l := l) (k := k + 1) (by omega)
          rw [hq] at hbk ⊢
          simp only [Option.getD_some] at hbk
          have h2 : q1 = p1 + 1 := Classical.byContradiction fun h => hbk (.inr (.inl h))
          have h3 : q2 = p2 + 1 := Classical.byContradiction fun h => hbk (.inr (.inr h))
          subst h2 h3
          exact ⟨by simp; omega, rfl⟩
        obtain ⟨e1, hq⟩ := hcs
        obtain ⟨b', o', hA', hbl', hcl'⟩ := H.out.at_ (i := k + 1) (r := prC (p1 + 1, p2 + 1)) (by rw [List.getElem?_map, hq]; rfl)
        injection hA' with hA'
        injection hA' with hA1 hA2
        subst hA1 hA2
        have r2 : wr.cell? ⟨b, o + nx * 2, none⟩ = some (.int .i64 (p1 + 1)) := by rw [HNX.out]; exact (HB.out.cell (p := ⟨b, _, none⟩) hbl').trans (hcl' 0 _ rfl)
        have r3 : wr.cell? ⟨b, o + nx * 2 + 1, none⟩ = some (.int .i64 (p2 + 1)) := by rw [HNX.out]; exact (HB.out.cell (p := ⟨b, _, none⟩) hbl').trans (hcl' 1 _ rfl)
        have hnl : (nx : Int) < l.length := by simp at e1; omega
        clear hp hq hcl' hbl' HRN hrn2 hbk
        go_upto_region 7 with fail
        go_region
        go_wp2_with fail
        go_roundw
        case rel => exact ⟨nx, a, Ap, cp, m, vs, by omega, by omega, by omega, by go_num, rfl, rfl, Lib.hid ⟨HE.out.1, by rw [HNX.out, HR2.out]; exact HE.out.2⟩, Lib.hid (own_keep HO.out fun q hq => ((bel_drew bel_refl).below (a := wr)).block q (own_lt HO.out q hq).2), Lib.hid (by rw [HNX.out, HR2.out]; exact HZ.out.keep ((bel_drew bel_refl).below.mono hbz)), Lib.hid (HB.out.trans ((bel_drew bel_refl).below.mono hbz))⟩
        case measure => simp [intOf]; omega
    · obtain rfl : k = l.length := by omega
      go_wp2_with fail
      go_ret
      exact ⟨_, _, _, _, HE.out.1, rfl, HO.out, HZ.out, HB.out⟩
end Go.Proofs.Ytlbfefdmbdjjcaa

namespace Go.Proofs.Ytlbfefdmbdjjcaa
open Go.RowKit

theorem runN_mem (l : List Pr) : ∀ i, i ≤ l.length → ∀ ps ∈ (runN l i).1, 0 < ps.length ∧ ps.length ≤ l.length ∧ ∀ p ∈ ps, p ∈ l
  | 0, _, ps, h => (List.not_mem_nil h).elim
  | i + 1, hi, ps, h => by
    unfold runN at h
    split at h
    · rcases List.mem_append.1 h with h | h
      · exact runN_mem l i (by omega) ps h
      · rw [List.mem_singleton] at h
        subst h
        have := runN_le l i
        refine ⟨by rw [List.length_take, List.length_drop]; omega, by rw [List.length_take, List.length_drop]; omega, fun p hp => List.mem_of_mem_drop (List.mem_of_mem_take hp)⟩
    · exact runN_mem l i (by omega) ps h
/-- A run's first pair, and its last one. -/
def hdP (ps : List Pr) : Pr := ps.getD 0 (0, 0)
def ltP (ps : List Pr) : Pr := ps.getD (ps.length - 1) (0, 0)
theorem hd_at {ps : List Pr} (h : 0 < ps.length) : ps[0]? = some (hdP ps) := by
  obtain ⟨p, hp⟩ := get_some' (l := ps) (k := 0) h
  unfold hdP
  rw [List.getD_eq_getElem?_getD, hp]
  rfl
theorem lt_at {ps : List Pr} (h : 0 < ps.length) : ps[ps.length - 1]? = some (ltP ps) := by
  obtain ⟨p, hp⟩ := get_some' (l := ps) (k := ps.length - 1) (by omega)
  unfold ltP
  rw [List.getD_eq_getElem?_getD, hp]
  rfl
def g12 (ps : List Pr) : List UInt8 := beB 4 (hdP ps).1 ++ beB 4 (ltP ps).1 ++ beB 4 (hdP ps).2
def m12 (pl : List (List Pr)) : List UInt8 := beB 2 12 ++ beB 2 0 ++ beB 4 (16 + 12 * (pl.length : Int)) ++ beB 4 0 ++ beB 4 (pl.length : Int) ++ pl.flatMap g12
theorem g12_len (ps : List Pr) : (g12 ps).length = 12 := by unfold g12; simp [beB_length]
theorem flat_len {α : Type} {f : α → List UInt8} {k : Nat} (hf : ∀ a, (f a).length = k) : ∀ l : List α, (l.flatMap f).length = l.length * k
  | [] => by simp
  | a :: l => by rw [List.flatMap_cons, List.length_append, hf, flat_len hf l, List.length_cons, Nat.add_mul]; omega
theorem m12_len (pl : List (List Pr)) : (m12 pl).length = 16 + 12 * pl.length := by
  unfold m12
  rw [List.length_append, flat_len g12_len]
  simp [beB_length]
  omega
theorem done_lt {w : World} {A : Option Addr} {n : Nat} {vs : List Value} (h : SlAt w A n vs) (h0 : 0 < n) : ∀ q, rowOf A = some q → q < w.heap.size := fun q hq => by
  obtain ⟨b, o, rfl, hb, _⟩ := h.2 0 h0
  have : b = q := Option.some.inj hq
  omega
/-- What a maker answers. -/
def MkR (N : List UInt8) (w : World) (e : Ending) (w' : World) : Prop := ∃ A c, e = .returned (.tuple #[.slice A N.length c, .int .i64 0]) ∧ Bs w' A N c ∧ Below w.heap.size w w'
set_option maxRecDepth 20000 in
set_option maxHeartbeats 4000000 in
theorem made12_any {w : World} {A : Option Addr} {n c : Nat} {l : List Pr} (h : RowsAt w A n 2 (l.map prC)) (hn : n ≤ 8192) (hc : n ≤ c) (hb : PB l) :
    Calls Try.prog 38 #[.slice A n c] w (MkR (m12 (runL l)) w) := by
  have hl := h.len
  rw [List.length_map] at hl
  have hr := runs_any h (by omega) hc hb
  have hmem := runN_mem l l.length (Nat.le_refl _)
  have hrl := runN_len l l.length
  change (runL l).length ≤ l.length at hrl
  change ∀ ps ∈ runL l, _ at hmem
  have hpb : ∀ ps ∈ runL l, PB ps := fun ps hps p hp => hb p ((hmem ps hps).2.2 p hp)
  generalize runL l = pl at hmem hrl hpb hr
  have HR := Lib.hid hr
  have HM := Lib.hid hmem
  have HPB := Lib.hid hpb
  clear h hmem hpb hr
  obtain ⟨pn, hpn⟩ : ∃ pn, pl.length = pn := ⟨_, rfl⟩
  have hpn1 : pn ≤ 8192 := by omega
  have HPN := Lib.hid hpn
  obtain ⟨N, hN⟩ : ∃ N, m12 pl = N := ⟨_, rfl⟩
  rw [hN]
  have hNl : N.length = 16 + 12 * pn := by rw [← hN, m12_len, hpn]
  have HN : Hid (N = beB 2 12 ++ beB 2 0 ++ beB 4 (16 + 12 * (pn : Int)) ++ beB 4 0 ++ beB 4 (pn : Int) ++ pl.flatMap g12) := Lib.hid (by rw [← hN]; unfold m12; rw [hpn])
  have HNL := Lib.hid hNl
  clear hpn hN hNl
  go_enter Try.func38, Try.ntmps38
  go_upto_region 3 with (first
    | (go_at_call 64; (with_reducible refine HR.out.mono ?_); rintro e w1 ⟨Ap, cp, m, vs, hvm, rfl, hown, hz, hbl⟩; obtain rfl : m = pn := (hvm.symm.trans hz.len).trans HPN.out; have HOW := Lib.hid hown; have HZ := Lib.hid hz; have HB1 := Lib.hid hbl; have HVM := Lib.hid hvm; clear hown hz hbl hvm)
    | fail)
  have HW0 := Lib.hid (aft_refl (W := w1))
  have HSL : Hid (SlAt w1 Ap m vs) := Lib.hid (by obtain ⟨A', c', e', hsl, -⟩ := of_own1 HOW.out; injection e' with e1 e2 e3; rw [e1]; exact hsl)
  have hroom : (0 : Int) ≤ 16 + 12 * (m : Int) := by omega
  have hroom2 : 16 + 12 * (m : Int) ≤ 1099511627776 := by omega
  go_wp2_with (first
    | (go_at_call 60; (with_reducible refine (to_I w1 w1 _ hroom aft_refl [] (by simp)).mono ?_); rintro e w2 ⟨g, rfl, hI⟩; have HI := Lib.hid hI; clear hI)
    | (go_at_call 61; (with_reducible refine (u16_I HI.out hroom hroom2 _).mono ?_); rintro e w3 ⟨rfl, hI⟩; replace HI := Lib.hid hI; clear hI)
    | (go_at_call 70; (with_reducible refine (u32_I HI.out hroom hroom2 _).mono ?_); rintro e w4 ⟨rfl, hI⟩; replace HI := Lib.hid hI; clear hI)
    | fail)
  have hpl : vs.length = m := HVM.out
  obtain ⟨hds, hhd⟩ : ∃ x, beB 2 12 ++ beB 2 0 ++ beB 4 (16 + 12 * (m : Int)) ++ beB 4 0 ++ beB 4 (m : Int) = x := ⟨_, rfl⟩
  have HI0 : Hid (IW w1.heap.size w1 w4 g hds (16 + 12 * (m : Int)) []) := Lib.hid (by have := HI.out; rw [List.nil_append, hhd] at this; exact this)
  rw [hhd] at HN
  clear hhd HI
  go_loopw [27] (fun i wr => ∃ k : Nat, k ≤ m ∧ i = .int .i64 k ∧ Hid (IW w1.heap.size w1 wr g (hds ++ (pl.take k).flatMap g12) (16 + 12 * (m : Int)) [])) (fun i _ => m - (intOf i).toNat)
  case atStart => exact ⟨0, Nat.zero_le _, rfl, Lib.hid (by simpa using HI0.out)⟩
  case round =>
    obtain ⟨k, hk, rfl, HI⟩ := hrel
    by_cases hlt : k < m
    · have hkm : (k : Int) < m := by omega
      obtain ⟨ps, hps⟩ := get_some' (l := pl) (k := k) (by have := HPN.out; omega)
      obtain ⟨v, hv⟩ := get_some' (l := vs) (k := k) (by omega)
      obtain ⟨Ai, ci, rfl, hrw, hrq⟩ := HZ.out.at_ k _ _ hv hps
      obtain ⟨b, o, rfl, hb1, hc1⟩ := HSL.out.2 k hlt
      rw [hv] at hc1
      have hbr := HI.out.aft
      have r0 : wr.cell? ⟨b, o + k, none⟩ = some (.slice Ai ps.length ci) := (hbr.cell (p := ⟨b, _, none⟩) hb1).trans hc1
      obtain ⟨h0, hlen, hmm⟩ := HM.out ps (List.mem_of_getElem? hps)
      have hhd := hd_at h0
      have hlt2 := lt_at h0
      obtain ⟨z, hz⟩ : ∃ z, ps.length = z := ⟨_, rfl⟩
      obtain ⟨q, hq⟩ : ∃ q, z - 1 = q := ⟨_, rfl⟩
      have hqi : (z : Int) - 1 = q := by omega
      have hqz : (q : Int) < z := by omega
      have hz0 : (0 : Int) < z := by omega
      have hwq : IntKind.i64.wrap ((z : Int) - 1) = q := by rw [IntWalk.i64_in _ (by omega)]; exact hqi
      have hwq2 : IntKind.i64.wrap (q : Int) = q := IntWalk.i64_in _ (by omega)
      obtain ⟨bi, oi, rfl, hbi, hci⟩ := hrw.at_ (i := 0) (r := prC (hdP ps)) (by rw [List.getElem?_map, hhd]; rfl)
      obtain ⟨bi', oi', e', hbi', hci'⟩ := hrw.at_ (i := ps.length - 1) (r := prC (ltP ps)) (by rw [List.getElem?_map, hlt2]; rfl)
      injection e' with e'
      injection e' with e1 e2
      subst e1 e2
      rw [hz, hq] at hci'
      rw [hz] at r0
      have hg : g12 ps = beB 4 (hdP ps).1 ++ beB 4 (ltP ps).1 ++ beB 4 (hdP ps).2 := rfl
      have hfl : (pl.take (k + 1)).flatMap g12 = (pl.take k).flatMap g12 ++ g12 ps := by rw [take_snoc' hps, List.flatMap_append]; simp
      generalize hdP ps = hp at hci hg
      generalize ltP ps = lp at hci' hg
      obtain ⟨a0, a1⟩ := hp
      obtain ⟨d0, d1⟩ := lp
      have s0 : ∀ u, Aft w1 u → u.cell? ⟨bi, oi, none⟩ = some (.int .i64 a0) := fun u hu => (hu.cell (p := ⟨bi, _, none⟩) hbi).trans (by simpa using hci 0 _ rfl)
      have s1 : ∀ u, Aft w1 u → u.cell? ⟨bi, oi + 1, none⟩ = some (.int .i64 a1) := fun u hu => (hu.cell (p := ⟨bi, _, none⟩) hbi).trans (by simpa using hci 1 _ rfl)
      have s2 : ∀ u, Aft w1 u → u.cell? ⟨bi, oi + q * 2, none⟩ = some (.int .i64 d0) := fun u hu => (hu.cell (p := ⟨bi, _, none⟩) hbi).trans (by simpa using hci' 0 _ rfl)
      have HG : Hid (((hds ++ (pl.take k).flatMap g12) ++ beB 4 a0) ++ beB 4 d0 ++ beB 4 a1 = hds ++ (pl.take (k + 1)).flatMap g12) := Lib.hid (by rw [hfl, hg]; simp)
      have HBR := Lib.hid hbr
      clear hps hv hrw hrq hc1 hhd hlt2 hci hci' hg hfl hmm hbr hlen h0 hz hq
      go_upto_region 7 with fail
      have HAD := Lib.hid HBR.out.drew
      go_region_held (fun u => Aft w1 u) (first | (with_reducible exact HAD.out) | (with_reducible exact HA1.out) | (with_reducible exact HA2.out) | (with_reducible exact HA3.out)) (first
        | (go_at_call 70; (with_reducible refine (u32_I (HI.out.keep (w' := wr.drew) (bel_drew bel_refl).below) hroom hroom2 _).mono ?_); rintro e w5 ⟨rfl, hI⟩; have HI1 := Lib.hid hI; have HA1 := Lib.hid hI.aft; clear hI)
        | (go_at_call 70; (with_reducible refine (u32_I HI1.out hroom hroom2 _).mono ?_); rintro e w6 ⟨rfl, hI⟩; have HI2 := Lib.hid hI; have HA2 := Lib.hid hI.aft; clear hI)
        | (go_at_call 70; (with_reducible refine (u32_I HI2.out hroom hroom2 _).mono ?_); rintro e w7 ⟨rfl, hI⟩; have HI3 := Lib.hid hI; have HA3 := Lib.hid hI.aft; clear hI))
      all_goals
        have hI3 := HI3.out
        rw [HG.out] at hI3
        have HIF := Lib.hid hI3
        clear hI3 s0 s1 s2 r0
        go_wp2_with fail
        go_roundw
        case rel => exact ⟨k + 1, by omega, by go_num, HIF⟩
        case measure => simp [intOf]; omega
    · obtain rfl : k = m := by omega
      have hI := HI.out
      rw [List.take_of_length_le (by rw [HPN.out]; exact Nat.le_refl _), ← HN.out] at hI
      have hnl := HNL.out
      have HIN := Lib.hid hI
      have hnl2 : N.length ≤ 140737488355328 := by omega
      have hfit : (N.length : Int) ≤ 16 + 12 * (k : Int) := by omega
      have hbw := HB1.out.trans (hI.aft.mono HB1.out.size)
      have HBW := Lib.hid hbw
      clear hI hbw hnl
      go_wp2_with (first
        | (go_at_call 63; (with_reducible refine (done_I HIN.out hfit hnl2).mono ?_); rintro e w8 ⟨A8, c8, rfl, hs8, hb8, hq8, hc8⟩; have HS8 := Lib.hid hs8; have HB8 := Lib.hid hb8; have HR8 : Hid (0 < N.length → ∀ q, rowOf A8 = some q → q < w8.heap.size) := Lib.hid (done_lt hs8); clear hs8 hb8)
        | fail)
      go_ret2
      refine ⟨_, _, rfl, ⟨HS8.out, hc8, hnl2, HR8.out (by have := HNL.out; omega)⟩, HBW.out.trans (HB8.out.mono HBW.out.size)⟩
end Go.Proofs.Ytlbfefdmbdjjcaa

namespace Go.Proofs.Ytlbfefdmbdjjcaa
open Go.RowKit

/-- Pairs that rise, from code point f on, up to f + k. -/
def InP (l : List Pr) (f : Int) (k : Nat) : Prop := ∀ p ∈ l, f ≤ p.1 ∧ p.1 - f < k ∧ 0 ≤ p.2 ∧ p.2 ≤ 65535
def setP (f : Int) (g : List Int) (p : Pr) : List Int := g.set (p.1 - f).toNat p.2
def glP (l : List Pr) (f : Int) (k : Nat) : List Int := l.foldl (setP f) (List.replicate k 0)
theorem setP_len (f : Int) : ∀ (l : List Pr) (g : List Int), (l.foldl (setP f) g).length = g.length
  | [], _ => rfl
  | p :: l, g => by
    show (l.foldl (setP f) (setP f g p)).length = _
    rw [setP_len f l]
    unfold setP
    rw [List.length_set]
theorem setP_bd (f : Int) : ∀ (l : List Pr) (g : List Int), (∀ p ∈ l, 0 ≤ p.2 ∧ p.2 ≤ 65535) → (∀ x ∈ g, 0 ≤ x ∧ x ≤ 65535) → ∀ x ∈ l.foldl (setP f) g, 0 ≤ x ∧ x ≤ 65535
  | [], _, _, hg, x, hx => hg x hx
  | p :: l, g, hl, hg, x, hx => setP_bd f l (setP f g p) (fun q hq => hl q (List.mem_cons_of_mem _ hq)) (fun y hy => by
      rcases List.mem_or_eq_of_mem_set hy with h | h
      · exact hg y h
      · rw [h]; exact hl p List.mem_cons_self) x hx
def f6 (l : List Pr) : Int := if l = [] then 0 else (hdP l).1
def n6 (l : List Pr) : Nat := if l = [] then 0 else ((ltP l).1 - (hdP l).1 + 1).toNat
def m6 (l : List Pr) : List UInt8 := beB 2 6 ++ beB 2 (10 + 2 * (n6 l : Int)) ++ beB 2 0 ++ beB 2 (f6 l) ++ beB 2 (n6 l : Int) ++ (glP l (f6 l) (n6 l)).flatMap (beB 2)
theorem m6_len (l : List Pr) : (m6 l).length = 10 + 2 * n6 l := by
  unfold m6
  rw [List.length_append, flat_len (beB_length 2)]
  unfold glP
  rw [setP_len]
  simp [beB_length]
  omega
set_option maxRecDepth 20000 in
theorem make_ints (n : Nat) (h : n ≤ 16777216) (w : World) : (Instr.makeSlice 63 (.int .i64 n) (.int .i64 n)).run Try.prog w =
    .ok (.slice (some ⟨w.heap.size, 0, none⟩) n n) (w.alloc (.cells (Array.replicate n (.int .i64 0)) 3)) := by
  obtain ⟨i, hi, hz, hs, hb⟩ := info_parts int_info
  rw [run_make w 63 3 i _ Try.underlying63 hi hz .i64 .i64 n n (by omega) (Int.le_refl _) (by rw [hb]; omega) (by omega)]
  simp only [Int.toNat_natCast, hs, Nat.mul_one]
  congr 3
  apply Array.ext
  · simp [madeCells]
  · intro i h1 h2
    simp [madeCells, Value.cells, Nat.mod_one]
def Mk6R (k : Nat) (N : List UInt8) (w : World) (e : Ending) (w' : World) : Prop :=
  (8192 < k ∧ e = .returned (.tuple #[.slice none 0 0, .int .i64 3]) ∧ Below w.heap.size w w') ∨ (k ≤ 8192 ∧ MkR N w e w')
set_option maxRecDepth 20000 in
set_option maxHeartbeats 4000000 in
theorem made6_any {w : World} {A : Option Addr} {n c : Nat} {l : List Pr} (h : RowsAt w A n 2 (l.map prC)) (hn : n ≤ 8192) (hi : InP l (f6 l) (n6 l)) (hb : PB l) (hf : 0 ≤ f6 l ∧ f6 l ≤ 65535) (hk : (n6 l : Int) ≤ 65536) :
    Calls Try.prog 37 #[.slice A n c] w (Mk6R (n6 l) (m6 l) w) := by
  have hl := h.len
  rw [List.length_map] at hl
  subst hl
  have hml := m6_len l
  have hmn : m6 l = beB 2 6 ++ beB 2 (10 + 2 * (n6 l : Int)) ++ beB 2 0 ++ beB 2 (f6 l) ++ beB 2 (n6 l : Int) ++ (glP l (f6 l) (n6 l)).flatMap (beB 2) := rfl
  have hcs : (l = [] ∧ f6 l = 0 ∧ n6 l = 0) ∨ (0 < l.length ∧ (hdP l).1 = f6 l ∧ (ltP l).1 - f6 l + 1 = n6 l) := by
    by_cases h0 : l = []
    · exact .inl ⟨h0, if_pos h0, if_pos h0⟩
    · have h1 : 0 < l.length := List.length_pos_iff.2 h0
      have h2 : f6 l = (hdP l).1 := if_neg h0
      have h3 : n6 l = ((ltP l).1 - (hdP l).1 + 1).toNat := if_neg h0
      have h4 := hi _ (List.mem_of_getElem? (lt_at h1))
      rw [h2] at h4
      exact .inr ⟨h1, h2.symm, by rw [h3, h2]; omega⟩
  generalize f6 l = f at hi hmn hcs hf
  generalize n6 l = k at hi hmn hcs hk hml ⊢
  generalize m6 l = N at hml hmn ⊢
  have HCS := Lib.hid hcs
  have HI := Lib.hid hi
  have H := Lib.hid h
  have HMN := Lib.hid hmn
  have HML := Lib.hid hml
  have HPB := Lib.hid hb
  obtain ⟨hf0, hf1⟩ := hf
  clear hcs hi h hmn hml hb
  go_enter Try.func37, Try.ntmps37
  go_upto_region 2 with fail
  go_cut [14] (fun s14 wx => s14 = .bool (decide ((0 : Int) < l.length)) ∧ w = wx)
  case first =>
    go_wp2_with fail
    go_meet
    exact ⟨by simp, rfl⟩
  case rest =>
  obtain ⟨rfl, rfl⟩ := hcut
  rename_i hK
  refine hK _ _ ?_
  go_cut [4, 5] (fun s4 s5 wx => s4 = .int .i64 f ∧ s5 = .int .i64 k ∧ w = wx)
  case first =>
    rcases HCS.out with ⟨e1, e2, e3⟩ | ⟨e1, e2, e3⟩
    · subst e1 e2 e3
      go_wp2_with fail
      go_meet
      exact ⟨rfl, rfl, rfl⟩
    · obtain ⟨q, hq⟩ : ∃ q, l.length - 1 = q := ⟨_, rfl⟩
      obtain ⟨b, o, rfl, hb, hc0⟩ := H.out.at_ (i := 0) (r := prC (hdP l)) (by rw [List.getElem?_map, hd_at e1]; rfl)
      obtain ⟨b', o', e', hb', hc1⟩ := H.out.at_ (i := q) (r := prC (ltP l)) (by rw [← hq, List.getElem?_map, lt_at e1]; rfl)
      injection e' with e'
      injection e' with e4 e5
      subst e4 e5
      have hm0 := HPB.out _ (List.mem_of_getElem? (hd_at e1))
      have hm1 := HPB.out _ (List.mem_of_getElem? (lt_at e1))
      generalize hdP l = hp at hc0 e2 hm0
      generalize ltP l = lp at hc1 e3 hm1
      obtain ⟨a0, a1⟩ := hp
      obtain ⟨d0, d1⟩ := lp
      dsimp only at e2 e3 hm0 hm1
      have s0 : w.cell? ⟨b, o, none⟩ = some (.int .i64 a0) := by simpa using hc0 0 _ rfl
      have s1 : w.cell? ⟨b, o + q * 2, none⟩ = some (.int .i64 d0) := by simpa using hc1 0 _ rfl
      have hlq : (l.length : Int) - 1 = q := by omega
      have hql : (q : Int) < l.length := by omega
      have hll : (0 : Int) < l.length := by omega
      subst e2
      obtain ⟨x, hx⟩ : ∃ x, d0 - a0 = x := ⟨_, rfl⟩
      have hx1 : x + 1 = k := by omega
      clear e3 hc0 hc1 hq
      go_wp2_with fail
      go_meet
      exact ⟨rfl, rfl, rfl⟩
  case rest =>
    obtain ⟨rfl, rfl, rfl⟩ := hcut
    by_cases hbig : 8192 < k
    · have hbi : ¬ (k : Int) ≤ 8192 := by omega
      go_wp2_with fail
      go_ret2
      exact .inl ⟨hbig, rfl, Below.refl _ _⟩
    have hki : (k : Int) ≤ 8192 := by omega
    have hmk := make_ints k (by omega) w
    have HB0 : Hid (Blk (w.alloc (.cells (Array.replicate k (.int .i64 0)) 3)) w.heap.size 3 ((List.replicate k (0 : Int)).map (Value.int .i64))) := Lib.hid (by simpa using Blk.new w 3 ((List.replicate k (0 : Int)).map (Value.int .i64)))
    have HBW0 : Hid (Below w.heap.size w (w.alloc (.cells (Array.replicate k (.int .i64 0)) 3))) := Lib.hid (bel_alloc bel_refl).below
    go_wp2_with fail
    clear hmk
    go_loopw [35] (fun i wr => ∃ j : Nat, j ≤ l.length ∧ i = .int .i64 j ∧ Hid (Blk wr w.heap.size 3 (((l.take j).foldl (setP f) (List.replicate k 0)).map (Value.int .i64))) ∧ Hid (Below w.heap.size w wr)) (fun i _ => l.length - (intOf i).toNat)
    case atStart => exact ⟨0, Nat.zero_le _, rfl, HB0, HBW0⟩
    case round =>
      obtain ⟨j, hj, rfl, HG, HB⟩ := hrel
      by_cases hlt : j < l.length
      · obtain ⟨⟨p1, p2⟩, hp⟩ := get_some' hlt
        have hin := HI.out _ (List.mem_of_getElem? hp)
        obtain ⟨i1, i2, i3, i4⟩ := hin
        dsimp only at i1 i2 i3 i4
        obtain ⟨x, hx⟩ : ∃ x : Nat, p1 - f = x := ⟨(p1 - f).toNat, by omega⟩
        have hxk : x < k := by omega
        have hxi : (x : Int) < k := by omega
        obtain ⟨b, o, rfl, hb, hc⟩ := H.out.at_ (i := j) (r := prC (p1, p2)) (by rw [List.getElem?_map, hp]; rfl)
        have r0 : wr.cell? ⟨b, o + j * 2, none⟩ = some (.int .i64 p1) := (HB.out.cell (p := ⟨b, _, none⟩) hb).trans (hc 0 _ rfl)
        have r1 : wr.cell? ⟨b, o + j * 2 + 1, none⟩ = some (.int .i64 p2) := (HB.out.cell (p := ⟨b, _, none⟩) hb).trans (hc 1 _ rfl)
        have hgl : ((l.take j).foldl (setP f) (List.replicate k 0)).length = k := by rw [setP_len, List.length_replicate]
        have hfo : (l.take (j + 1)).foldl (setP f) (List.replicate k 0) = ((l.take j).foldl (setP f) (List.replicate k 0)).set x p2 := by
          rw [take_snoc' hp, List.foldl_append]
          show setP f _ (p1, p2) = _
          unfold setP
          rw [show ((p1, p2).1 - f).toNat = x by show (p1 - f).toNat = x; omega]
        generalize (l.take j).foldl (setP f) (List.replicate k 0) = gs at HG hgl hfo
        obtain ⟨y, hy⟩ := get_some' (l := gs) (k := x) (by omega)
        have r2 : wr.cell? ⟨w.heap.size, x, none⟩ = some (.int .i64 y) := by rw [HG.out.cell, List.getElem?_map, hy]; rfl
        have f2 := HG.out.frozen x
        have hgl2 := HG.out.lt
        have hjl : (j : Int) < l.length := by omega
        have HFO := Lib.hid hfo
        have hbs := HB.out.setCell (p := ⟨w.heap.size, x, none⟩) (Nat.le_refl _) (.int .i64 p2)
        have HBS := Lib.hid hbs
        have hsz := hbs.size
        clear hc hp hgl hfo hy hbs
        go_wp2_with fail
        go_roundw
        case rel => exact ⟨j + 1, by omega, by go_num, Lib.hid (by rw [HFO.out, List.map_set]; exact (HG.out.set x _).alloc _), Lib.hid (HBS.out.trans ((bel_alloc bel_refl).below.mono hsz))⟩
        case measure => simp [intOf]; omega
      · obtain rfl : j = l.length := by omega
        have hg := HG.out
        rw [List.take_length] at hg
        have hgd : l.foldl (setP f) (List.replicate k 0) = glP l f k := rfl
        rw [hgd] at hg
        have hgl : (glP l f k).length = k := by unfold glP; rw [setP_len, List.length_replicate]
        have hbd := setP_bd f l (List.replicate k 0) (fun p hp => ⟨(HI.out p hp).2.2.1, (HI.out p hp).2.2.2⟩) (fun x hx => by rw [List.mem_replicate] at hx; omega)
        rw [hgd] at hbd
        generalize glP l f k = gs at hg hgl hbd HMN
        have HG2 := Lib.hid hg
        have HGL := Lib.hid hgl
        have hroom : (0 : Int) ≤ 10 + 2 * (k : Int) := by omega
        have hroom2 : 10 + 2 * (k : Int) ≤ 1099511627776 := by omega
        clear hg hgl hgd HG hbd
        go_wp2_with (first
          | (go_at_call 60; (with_reducible refine (to_I wr wr _ hroom aft_refl [] (by simp)).mono ?_); rintro e w2 ⟨g, rfl, hI⟩; have HI2 := Lib.hid hI; clear hI)
          | (go_at_call 61; (with_reducible refine (u16_I HI2.out hroom hroom2 _).mono ?_); rintro e w3 ⟨rfl, hI⟩; replace HI2 := Lib.hid hI; clear hI)
          | fail)
        obtain ⟨hds, hhd⟩ : ∃ x, beB 2 6 ++ beB 2 (10 + 2 * (k : Int)) ++ beB 2 0 ++ beB 2 f ++ beB 2 (k : Int) = x := ⟨_, rfl⟩
        have HI0 : Hid (IW wr.heap.size wr w3 g hds (10 + 2 * (k : Int)) []) := Lib.hid (by have := HI2.out; rw [List.nil_append, hhd] at this; exact this)
        rw [hhd] at HMN
        obtain ⟨W, hW⟩ : ∃ W : World, W = wr := ⟨_, rfl⟩
        rw [← hW] at HI0 HG2 HB
        have hgW := HG2.out.lt
        clear hhd HI2 hW
        go_loopw [64] (fun i wq => ∃ j : Nat, j ≤ k ∧ i = .int .i64 j ∧ Hid (IW W.heap.size W wq g (hds ++ (gs.take j).flatMap (beB 2)) (10 + 2 * (k : Int)) [])) (fun i _ => k - (intOf i).toNat)
        case atStart => exact ⟨0, Nat.zero_le _, rfl, Lib.hid (by simpa using HI0.out)⟩
        case round =>
          obtain ⟨j, hj, rfl, HIJ⟩ := hrel
          by_cases hlt : j < k
          · have hjk : (j : Int) < k := by omega
            obtain ⟨y, hy⟩ := get_some' (l := gs) (k := j) (by have := HGL.out; omega)
            have r0 : wr.cell? ⟨w.heap.size, j, none⟩ = some (.int .i64 y) := (HIJ.out.below.cell (p := ⟨w.heap.size, _, none⟩) hgW).trans (by rw [HG2.out.cell, List.getElem?_map, hy]; rfl)
            have hfl : (gs.take (j + 1)).flatMap (beB 2) = (gs.take j).flatMap (beB 2) ++ beB 2 y := by rw [take_snoc' hy, List.flatMap_append]; simp
            have HFL := Lib.hid hfl
            have hsq : w.heap.size < wr.heap.size := Nat.lt_of_lt_of_le hgW HIJ.out.below.size
            clear hfl hy
            go_wp2_with (first
              | (go_at_call 61; (with_reducible refine (u16_I HIJ.out hroom hroom2 _).mono ?_); rintro e w5 ⟨rfl, hI⟩; rw [List.append_assoc, ← HFL.out] at hI; have HI5 := Lib.hid hI; clear hI)
              | fail)
            go_roundw
            case rel => exact ⟨j + 1, by omega, by go_num, HI5⟩
            case measure => simp [intOf]; omega
          · obtain rfl : j = k := by omega
            have hI := HIJ.out
            rw [List.take_of_length_le (by rw [HGL.out]; exact Nat.le_refl _), ← HMN.out] at hI
            have hnl := HML.out
            have HIN := Lib.hid hI
            have hnl2 : N.length ≤ 140737488355328 := by omega
            have hfit : (N.length : Int) ≤ 10 + 2 * (j : Int) := by omega
            have HBW := Lib.hid (HB.out.trans (hI.below.mono HB.out.size))
            clear hI hnl
            go_wp2_with (first
              | (go_at_call 63; (with_reducible refine (done_I HIN.out hfit hnl2).mono ?_); rintro e w8 ⟨A8, c8, rfl, hs8, hb8, hq8, hc8⟩; have HS8 := Lib.hid hs8; have HB8 := Lib.hid hb8; have HR8 : Hid (0 < N.length → ∀ q, rowOf A8 = some q → q < w8.heap.size) := Lib.hid (done_lt hs8); clear hs8 hb8)
              | fail)
            go_ret2
            exact .inr ⟨by omega, _, _, rfl, ⟨HS8.out, hc8, hnl2, HR8.out (by have := HML.out; omega)⟩, HBW.out.trans (HB8.out.mono HBW.out.size)⟩
end Go.Proofs.Ytlbfefdmbdjjcaa

namespace Go.Proofs.Ytlbfefdmbdjjcaa
open Go.RowKit

def m0 (l : List Pr) : List UInt8 := beB 2 0 ++ beB 2 262 ++ beB 2 0 ++ (glP l 0 256).flatMap (beB 1)
set_option maxRecDepth 20000 in
theorem m0_len (l : List Pr) : (m0 l).length = 262 := by
  unfold m0
  rw [List.length_append, flat_len (beB_length 1)]
  unfold glP
  rw [setP_len, List.length_append, List.length_append, beB_length, beB_length, List.length_replicate]
def byG (g : List Int) : List UInt8 := g.flatMap (beB 1)
theorem byG_map (g : List Int) : byG g = g.map (byteAt 1 0) := by
  unfold byG
  induction g with
  | nil => rfl
  | cons x g ih => rw [List.flatMap_cons, ih, beB_1]; rfl
theorem byV_at (x : Int) (h0 : 0 ≤ x) (h1 : x ≤ 255) : byteV (byteAt 1 0 x) = .int .u8 x := by
  have := byteV_of x
  rw [show x % 256 = x by omega] at this
  rw [this]
  unfold byteAt byteV
  simp [show x % 256 = x by omega]
theorem setP_b8 (f : Int) : ∀ (l : List Pr) (g : List Int), (∀ p ∈ l, 0 ≤ p.2 ∧ p.2 ≤ 255) → (∀ x ∈ g, 0 ≤ x ∧ x ≤ 255) → ∀ x ∈ l.foldl (setP f) g, 0 ≤ x ∧ x ≤ 255
  | [], _, _, hg, x, hx => hg x hx
  | p :: l, g, hl, hg, x, hx => setP_b8 f l (setP f g p) (fun q hq => hl q (List.mem_cons_of_mem _ hq)) (fun y hy => by
      rcases List.mem_or_eq_of_mem_set hy with h | h
      · exact hg y h
      · rw [h]; exact hl p List.mem_cons_self) x hx
set_option maxRecDepth 20000 in
set_option maxHeartbeats 4000000 in
theorem made0_any {w : World} {A : Option Addr} {n c : Nat} {l : List Pr} (h : RowsAt w A n 2 (l.map prC)) (hn : n ≤ 8192) (hi : ∀ p ∈ l, 0 ≤ p.1 ∧ p.1 ≤ 255 ∧ 0 ≤ p.2 ∧ p.2 ≤ 255) :
    Calls Try.prog 35 #[.slice A n c] w (MkR (m0 l) w) := by
  have hl := h.len
  rw [List.length_map] at hl
  subst hl
  have hml := m0_len l
  have hmn : m0 l = beB 2 0 ++ beB 2 262 ++ beB 2 0 ++ byG (glP l 0 256) := rfl
  generalize m0 l = N at hml hmn ⊢
  have HI := Lib.hid hi
  have H := Lib.hid h
  have HMN := Lib.hid hmn
  have HML := Lib.hid hml
  clear hi h hmn hml
  have hzc : Blk (w.alloc (.cells Try.zeroCells85 85)) w.heap.size 85 ((List.replicate 256 (0 : Int)).map (Value.int .u8)) := by
    rw [show Try.zeroCells85 = ((List.replicate 256 (0 : Int)).map (Value.int .u8)).toArray by kernel_rfl]
    exact Blk.new w _ _
  have HB0 := Lib.hid hzc
  have HBW0 : Hid (Below w.heap.size w (w.alloc (.cells Try.zeroCells85 85))) := Lib.hid (bel_alloc bel_refl).below
  clear hzc
  go_enter Try.func35, Try.ntmps35
  go_wp2_with fail
  go_loopw [9] (fun i wr => ∃ (j : Nat) (gs : List Int), j ≤ l.length ∧ i = .int .i64 j ∧ Hid ((l.take j).foldl (setP 0) (List.replicate 256 0) = gs) ∧ Hid (Blk wr w.heap.size 85 (gs.map (Value.int .u8))) ∧ Hid (Below w.heap.size w wr)) (fun i _ => l.length - (intOf i).toNat)
  case atStart => exact ⟨0, _, Nat.zero_le _, rfl, Lib.hid rfl, HB0, HBW0⟩
  case round =>
    obtain ⟨j, gs, hj, rfl, HGS, HG, HB⟩ := hrel
    have hgl : gs.length = 256 := by rw [← HGS.out, setP_len, List.length_replicate]
    by_cases hlt : j < l.length
    · obtain ⟨⟨p1, p2⟩, hp⟩ := get_some' hlt
      have hin := HI.out _ (List.mem_of_getElem? hp)
      obtain ⟨i1, i2, i3, i4⟩ := hin
      dsimp only at i1 i2 i3 i4
      obtain ⟨x, rfl⟩ : ∃ x : Nat, p1 = x := ⟨p1.toNat, by omega⟩
      have hxk : x < 256 := by omega
      have hxi : (x : Int) < 256 := by omega
      obtain ⟨b, o, rfl, hb, hc⟩ := H.out.at_ (i := j) (r := prC (x, p2)) (by rw [List.getElem?_map, hp]; rfl)
      have r0 : wr.cell? ⟨b, o + j * 2, none⟩ = some (.int .i64 x) := (HB.out.cell (p := ⟨b, _, none⟩) hb).trans (hc 0 _ rfl)
      have r1 : wr.cell? ⟨b, o + j * 2 + 1, none⟩ = some (.int .i64 p2) := (HB.out.cell (p := ⟨b, _, none⟩) hb).trans (hc 1 _ rfl)
      have hfo : (l.take (j + 1)).foldl (setP 0) (List.replicate 256 0) = gs.set x p2 := by
        rw [take_snoc' hp, List.foldl_append, HGS.out]
        show setP 0 _ ((x : Int), p2) = _
        unfold setP
        rw [show ((((x : Int), p2).1 - 0).toNat) = x by show ((x : Int) - 0).toNat = x; omega]
      obtain ⟨y, hy⟩ := get_some' (l := gs) (k := x) (by omega)
      have r2 : wr.cell? ⟨w.heap.size, x, none⟩ = some (.int .u8 y) := by rw [HG.out.cell, List.getElem?_map, hy]; rfl
      have f2 := HG.out.frozen x
      have hgl2 := HG.out.lt
      have hjl : (j : Int) < l.length := by omega
      have HFO := Lib.hid hfo
      have hbs := HB.out.setCell (p := ⟨w.heap.size, x, none⟩) (Nat.le_refl _) (.int .u8 p2)
      have HBS := Lib.hid hbs
      have hsz := hbs.size
      have hm8 : p2 % 256 = p2 := by omega
      clear hc hp hgl hfo hy hbs
      go_wp2_with fail
      go_roundw
      case rel => exact ⟨j + 1, gs.set x p2, by omega, by go_num, HFO, Lib.hid (by rw [List.map_set]; exact (HG.out.set x _).alloc _), Lib.hid (HBS.out.trans ((bel_alloc bel_refl).below.mono hsz))⟩
      case measure => simp [intOf]; omega
    · obtain rfl : j = l.length := by omega
      have hg := HGS.out
      rw [List.take_length] at hg
      have hbd := setP_bd 0 l (List.replicate 256 0) (fun p hp => by have := HI.out p hp; omega) (fun x hx => by rw [List.mem_replicate] at hx; omega)
      have hbd2 := setP_b8 0 l (List.replicate 256 0) (fun p hp => ⟨(HI.out p hp).2.2.1, (HI.out p hp).2.2.2⟩) (fun x hx => by rw [List.mem_replicate] at hx; omega)
      have HMN2 : Hid (N = beB 2 0 ++ beB 2 262 ++ beB 2 0 ++ byG gs) := Lib.hid (by rw [HMN.out, ← hg]; rfl)
      rw [hg] at hbd2
      have hsl : SlAt wr (some ⟨w.heap.size, 0, none⟩) 256 ((byG gs).map byteV) := slat_blk (Blk.to HG.out (by
        rw [byG_map, List.map_map]
        refine List.map_congr_left fun x hx => ?_
        exact (byV_at x (hbd2 x hx).1 (hbd2 x hx).2).symm)) (by rw [byG_map]; simp [hgl])
      have HSL := Lib.hid hsl
      have hgw := HG.out.lt
      have hgy : (byG gs).length = 256 := by rw [byG_map, List.length_map, hgl]
      have HGY := Lib.hid hgy
      have hro : (0 : Int) ≤ 262 := by decide
      have hro2 : (262 : Int) ≤ 1099511627776 := by decide
      clear hbd hbd2 hg hsl HG HGS hgl hgy
      go_upto_region 7 with fail
      have HAD := Lib.hid (aft_drew (W := wr))
      have HKS : Hid (∀ u, Aft wr u → SlAt u (some ⟨w.heap.size, 0, none⟩) 256 ((byG gs).map byteV)) := Lib.hid fun u hu => HSL.out.keep hu
      have HRQ : Hid (0 < 256 → ∀ q, rowOf (some (⟨w.heap.size, 0, none⟩ : Addr)) = some q → q < wr.heap.size) := Lib.hid fun _ q hq => by have : w.heap.size = q := Option.some.inj hq; omega
      have HNF : Hid ([] ++ beB 2 0 ++ beB 2 262 ++ beB 2 0 ++ byG gs = N) := Lib.hid (by rw [HMN2.out]; simp)
      have hfit : (N.length : Int) ≤ 262 := by rw [HML.out]; decide
      have hsmall : N.length ≤ 140737488355328 := by rw [HML.out]; omega
      have hnpos : 0 < N.length := by rw [HML.out]; omega
      go_region_held (fun u => Aft wr u) (first | (with_reducible exact HAD.out) | (with_reducible exact HA1.out) | (with_reducible exact HA2.out) | (with_reducible exact HA3.out) | (with_reducible exact HA4.out) | (with_reducible exact HA5.out) | (with_reducible exact HA6.out)) (first
        | (go_at_call 60; (with_reducible refine (to_I wr wr.drew _ hro HAD.out [] (by simp)).mono ?_); rintro e w2 ⟨g, rfl, hI⟩; have HI1 := Lib.hid hI; have HA1 := Lib.hid hI.aft; clear hI)
        | (go_at_call 61; (with_reducible refine (u16_I HI1.out hro hro2 _).mono ?_); rintro e w3 ⟨rfl, hI⟩; have HI2 := Lib.hid hI; have HA2 := Lib.hid hI.aft; clear hI HI1)
        | (go_at_call 61; (with_reducible refine (u16_I HI2.out hro hro2 _).mono ?_); rintro e w4 ⟨rfl, hI⟩; have HI3 := Lib.hid hI; have HA3 := Lib.hid hI.aft; clear hI HI2)
        | (go_at_call 61; (with_reducible refine (u16_I HI3.out hro hro2 _).mono ?_); rintro e w5 ⟨rfl, hI⟩; have HI4 := Lib.hid hI; have HA4 := Lib.hid hI.aft; clear hI HI3)
        | (go_at_call 62; (with_reducible refine (data_I HI4.out hro hro2 (some ⟨w.heap.size, 0, none⟩) 256 256 (byG gs) HGY.out (HKS.out _ HA4.out) HRQ.out).mono ?_); rintro e w6 ⟨rfl, hI⟩; rw [HNF.out] at hI; have HI5 := Lib.hid hI; have HA5 := Lib.hid hI.aft; clear hI HI4)
        | (go_at_call 63; (with_reducible refine (done_I HI5.out hfit hsmall).mono ?_); rintro e w8 ⟨A8, c8, rfl, hs8, hb8, hq8, hc8⟩; have HS8 := Lib.hid hs8; have HB8 := Lib.hid hb8; have HA6 := Lib.hid (HA5.out.call hb8); have HR8 : Hid (0 < N.length → ∀ q, rowOf A8 = some q → q < w8.heap.size) := Lib.hid (done_lt hs8); clear hs8 hb8))
      go_wp2_with fail
      go_ret2
      exact ⟨_, _, rfl, ⟨HS8.out, hc8, hsmall, HR8.out hnpos⟩, HB.out.trans (Below.mono HA6.out HB.out.size)⟩
end Go.Proofs.Ytlbfefdmbdjjcaa

namespace Go.Proofs.Ytlbfefdmbdjjcaa
open Go.RowKit

/-- Parts in memory, in a box of their own; their slices lie below block B. -/
structure Pb (B : Nat) (w : World) (b4 : Nat) (Ap : Option Addr) (m cp : Nat) (vs : List Value) (pl : List (List Pr)) : Prop where
  blk : Blk w b4 90 [.slice Ap m cp]
  sl : SlAt w Ap m vs
  zp : Zp B w vs pl
  ne : ∀ ps ∈ pl, 0 < ps.length ∧ ps.length ≤ 8192 ∧ PB ps
  le : B ≤ w.heap.size
  m1 : m ≤ 8193
theorem Pb.keep {B : Nat} {w w' : World} {b4 : Nat} {Ap : Option Addr} {m cp : Nat} {vs : List Value} {pl : List (List Pr)} (h : Pb B w b4 Ap m cp vs pl) (hb : Below w.heap.size w w') : Pb B w' b4 Ap m cp vs pl :=
  ⟨h.blk.below hb h.blk.lt, h.sl.keep hb, h.zp.keep (hb.mono h.le), h.ne, Nat.le_trans h.le hb.size, h.m1⟩
def wBox (b9 g : Nat) : List (Nat × Obj) := [(b9, .cells #[.pointer (some ⟨g, 0, none⟩)] 86 (0, 0))]
set_option maxRecDepth 20000 in
set_option maxHeartbeats 4000000 in
theorem put2_any {W wi : World} {g b9 : Nat} {N : List UInt8} {room : Int} {Ai : Option Addr} {z ci : Nat} {ps : List Pr} (h : IW W.heap.size W wi g N room (wBox b9 g)) (hr0 : 0 ≤ room) (hr1 : room ≤ 1099511627776) (hz : ps.length = z) (hz0 : 0 < z) (hz1 : z ≤ 8192) (_hb : PB ps) (hr : RowsAt wi Ai z 2 (ps.map prC)) :
    Calls Try.prog 66 #[.slice Ai z ci, .pointer (some ⟨b9, 0, none⟩)] wi fun e w' => e = .returned (.tuple #[]) ∧ IW W.heap.size W w' g (N ++ beB 2 (ltP ps).1) room (wBox b9 g) := by
  have HH := Lib.hid (h.keep (w' := wi) (Below.refl _ _))
  have hk9 := (h.first).1
  have h9l := (h.first).2.2
  clear h
  obtain ⟨q, hq⟩ : ∃ q, z - 1 = q := ⟨_, rfl⟩
  obtain ⟨bi, oi, rfl, hbi, hci⟩ := hr.at_ (i := q) (r := prC (ltP ps)) (by rw [← hq, ← hz, List.getElem?_map, lt_at (by omega)]; rfl)
  have hqi : (z : Int) - 1 = q := by omega
  have hqz : (q : Int) < z := by omega
  have hwq : IntKind.i64.wrap ((z : Int) - 1) = q := by rw [IntWalk.i64_in _ (by omega)]; exact hqi
  have hwq2 : IntKind.i64.wrap (q : Int) = q := IntWalk.i64_in _ (by omega)
  generalize ltP ps = hp at hci ⊢
  obtain ⟨a0, a1⟩ := hp
  have s0 : wi.cell? ⟨bi, oi + q * 2, none⟩ = some (.int .i64 a0) := by simpa using hci 0 _ rfl
  clear hci hr hq
  go_enter Try.func66, Try.ntmps66
  go_wp2_with fail
  refine wp_region_drew_tail 8 (by kernel_rfl) (by kernel_rfl) ?_
  simp only [List.take_succ_cons, List.take_zero, List.drop_succ_cons, List.drop_zero]
  repeat (go_big_quiet_step (fail))
  refine wpQuiet_nil ?_
  rintro _ ⟨nq, rfl⟩
  go_wp2_with (first
    | (go_at_call 61; (with_reducible refine (u16_I (HH.out.keep (bel_drewN bel_refl).below) hr0 hr1 _).mono ?_); rintro e w1 ⟨rfl, hI⟩; have HI := Lib.hid hI; clear hI)
    | fail)
  with_reducible refine bodyPost_end (v := .tuple #[]) (by simp [results, Try.results66]) rfl ?_
  exact ⟨rfl, HI.out⟩
set_option maxRecDepth 20000 in
set_option maxHeartbeats 4000000 in
theorem put3_any {W wi : World} {g b9 : Nat} {N : List UInt8} {room : Int} {Ai : Option Addr} {z ci : Nat} {ps : List Pr} (h : IW W.heap.size W wi g N room (wBox b9 g)) (hr0 : 0 ≤ room) (hr1 : room ≤ 1099511627776) (hz : ps.length = z) (hz0 : 0 < z) (hz1 : z ≤ 8192) (hb : PB ps) (hr : RowsAt wi Ai z 2 (ps.map prC)) :
    Calls Try.prog 67 #[.slice Ai z ci, .pointer (some ⟨b9, 0, none⟩)] wi fun e w' => e = .returned (.tuple #[]) ∧ IW W.heap.size W w' g (N ++ beB 2 (hdP ps).1) room (wBox b9 g) := by
  have HH := Lib.hid (h.keep (w' := wi) (Below.refl _ _))
  have hk9 := (h.first).1
  have h9l := (h.first).2.2
  clear h
  obtain ⟨bi, oi, rfl, hbi, hci⟩ := hr.at_ (i := 0) (r := prC (hdP ps)) (by rw [List.getElem?_map, hd_at (by omega)]; rfl)
  have hpb := hb _ (List.mem_of_getElem? (hd_at (ps := ps) (by omega)))
  have hz2 : (0 : Int) < z := by omega
  generalize hdP ps = hp at hci hpb ⊢
  obtain ⟨a0, a1⟩ := hp
  dsimp only at hpb
  obtain ⟨⟨pb0, pb1⟩, pb2, pb3⟩ := hpb
  have s0 : wi.cell? ⟨bi, oi, none⟩ = some (.int .i64 a0) := by simpa using hci 0 _ rfl
  have s1 : wi.cell? ⟨bi, oi + 1, none⟩ = some (.int .i64 a1) := by simpa using hci 1 _ rfl
  have hwr : IntKind.i64.wrap (a1 - a0) = a1 - a0 := IntWalk.i64_in _ (by omega)
  clear hci hr hb
  go_enter Try.func67, Try.ntmps67
  go_wp2_with fail
  refine wp_region_drew_tail 5 (by kernel_rfl) (by kernel_rfl) ?_
  simp only [List.take_succ_cons, List.take_zero, List.drop_succ_cons, List.drop_zero]
  repeat (go_big_quiet_step (fail))
  refine wpQuiet_nil ?_
  rintro _ ⟨nq, rfl⟩
  go_wp2_with (first
    | (go_at_call 61; (with_reducible refine (u16_I (HH.out.keep (bel_drewN bel_refl).below) hr0 hr1 _).mono ?_); rintro e w1 ⟨rfl, hI⟩; have HI := Lib.hid hI; clear hI)
    | fail)
  with_reducible refine bodyPost_end (v := .tuple #[]) (by simp [results, Try.results67]) rfl ?_
  exact ⟨rfl, HI.out⟩
set_option maxRecDepth 20000 in
set_option maxHeartbeats 4000000 in
theorem put4_any {W wi : World} {g b9 : Nat} {N : List UInt8} {room : Int} {Ai : Option Addr} {z ci : Nat} {ps : List Pr} (h : IW W.heap.size W wi g N room (wBox b9 g)) (hr0 : 0 ≤ room) (hr1 : room ≤ 1099511627776) (hz : ps.length = z) (hz0 : 0 < z) (hz1 : z ≤ 8192) (hb : PB ps) (hr : RowsAt wi Ai z 2 (ps.map prC)) :
    Calls Try.prog 68 #[.slice Ai z ci, .pointer (some ⟨b9, 0, none⟩)] wi fun e w' => e = .returned (.tuple #[]) ∧ IW W.heap.size W w' g (N ++ beB 2 ((hdP ps).2 - (hdP ps).1)) room (wBox b9 g) := by
  have HH := Lib.hid (h.keep (w' := wi) (Below.refl _ _))
  have hk9 := (h.first).1
  have h9l := (h.first).2.2
  clear h
  obtain ⟨bi, oi, rfl, hbi, hci⟩ := hr.at_ (i := 0) (r := prC (hdP ps)) (by rw [List.getElem?_map, hd_at (by omega)]; rfl)
  have hpb := hb _ (List.mem_of_getElem? (hd_at (ps := ps) (by omega)))
  have hz2 : (0 : Int) < z := by omega
  generalize hdP ps = hp at hci hpb ⊢
  obtain ⟨a0, a1⟩ := hp
  dsimp only at hpb
  obtain ⟨⟨pb0, pb1⟩, pb2, pb3⟩ := hpb
  have s0 : wi.cell? ⟨bi, oi, none⟩ = some (.int .i64 a0) := by simpa using hci 0 _ rfl
  have s1 : wi.cell? ⟨bi, oi + 1, none⟩ = some (.int .i64 a1) := by simpa using hci 1 _ rfl
  have hwr : IntKind.i64.wrap (a1 - a0) = a1 - a0 := IntWalk.i64_in _ (by omega)
  clear hci hr hb
  go_enter Try.func68, Try.ntmps68
  go_wp2_with fail
  refine wp_region_drew_tail 10 (by kernel_rfl) (by kernel_rfl) ?_
  simp only [List.take_succ_cons, List.take_zero, List.drop_succ_cons, List.drop_zero]
  repeat (go_big_quiet_step (fail))
  refine wpQuiet_nil ?_
  rintro _ ⟨nq, rfl⟩
  go_wp2_with (first
    | (go_at_call 61; (with_reducible refine (u16_I (HH.out.keep (bel_drewN bel_refl).below) hr0 hr1 _).mono ?_); rintro e w1 ⟨rfl, hI⟩; have HI := Lib.hid hI; clear hI)
    | fail)
  with_reducible refine bodyPost_end (v := .tuple #[]) (by simp [results, Try.results68]) rfl ?_
  exact ⟨rfl, HI.out⟩
set_option maxRecDepth 20000 in
set_option maxHeartbeats 4000000 in
theorem put5_any {W wi : World} {g b9 : Nat} {N : List UInt8} {room : Int} {Ai : Option Addr} {z ci : Nat} {ps : List Pr} (h : IW W.heap.size W wi g N room (wBox b9 g)) (hr0 : 0 ≤ room) (hr1 : room ≤ 1099511627776) (_hz : ps.length = z) (_hz0 : 0 < z) (_hz1 : z ≤ 8192) (_hb : PB ps) (_hr : RowsAt wi Ai z 2 (ps.map prC)) :
    Calls Try.prog 69 #[.slice Ai z ci, .pointer (some ⟨b9, 0, none⟩)] wi fun e w' => e = .returned (.tuple #[]) ∧ IW W.heap.size W w' g (N ++ beB 2 0) room (wBox b9 g) := by
  have HH := Lib.hid (h.keep (w' := wi) (Below.refl _ _))
  have hk9 := (h.first).1
  have h9l := (h.first).2.2
  clear h
  go_enter Try.func69, Try.ntmps69
  go_wp2_with (first
    | (go_at_call 61; (with_reducible refine (u16_I HH.out hr0 hr1 _).mono ?_); rintro e w1 ⟨rfl, hI⟩; have HI := Lib.hid hI; clear hI)
    | fail)
  with_reducible refine bodyPost_end (v := .tuple #[]) (by simp [results, Try.results69]) rfl ?_
  exact ⟨rfl, HI.out⟩
set_option maxRecDepth 20000 in
set_option maxHeartbeats 4000000 in
theorem each2_any {W w : World} {g b4 b9 B : Nat} {N : List UInt8} {room : Int} {Ap : Option Addr} {m cp : Nat} {vs : List Value} {pl : List (List Pr)} (h : IW W.heap.size W w g N room (wBox b9 g)) (hr0 : 0 ≤ room) (hr1 : room ≤ 1099511627776) (hp : Pb B W b4 Ap m cp vs pl) :
    Calls Try.prog 65 #[.func (.func 66) #[] #[.pointer (some ⟨b9, 0, none⟩)], .pointer (some ⟨b4, 0, none⟩)] w fun e w' => e = .returned (.tuple #[]) ∧ IW W.heap.size W w' g (N ++ pl.flatMap fun ps => beB 2 (ltP ps).1) room (wBox b9 g) := by
  have hb4 := hp.blk.lt
  have c4 : w.cell? ⟨b4, 0, none⟩ = some (.slice Ap m cp) := (h.below.cell (p := ⟨b4, 0, none⟩) hb4).trans (hp.blk.cell 0)
  have hsz := h.size
  have hpm : pl.length = m := by rw [← hp.zp.len]; exact hp.sl.1
  have hm1 := hp.m1
  have H := Lib.hid h
  have HP := Lib.hid hp
  clear h hp
  go_enter Try.func65, Try.ntmps65
  go_wp2_with fail
  go_loopw [7] (fun i wr => ∃ k : Nat, k ≤ m ∧ i = .int .i64 k ∧ Hid (IW W.heap.size W wr g (N ++ (pl.take k).flatMap fun ps => beB 2 (ltP ps).1) room (wBox b9 g))) (fun i _ => m - (intOf i).toNat)
  case atStart => exact ⟨0, Nat.zero_le _, rfl, Lib.hid (by simpa using H.out)⟩
  case round =>
    obtain ⟨k, hk, rfl, HI⟩ := hrel
    by_cases hlt : k < m
    · have hkm : (k : Int) < m := by omega
      obtain ⟨ps, hps⟩ := get_some' (l := pl) (k := k) (by omega)
      obtain ⟨v, hv⟩ := get_some' (l := vs) (k := k) (by rw [HP.out.zp.len]; omega)
      obtain ⟨Ai, ci, rfl, hrw, hrq⟩ := HP.out.zp.at_ k _ _ hv hps
      obtain ⟨b, o, rfl, hb1, hc1⟩ := HP.out.sl.2 k hlt
      rw [hv] at hc1
      obtain ⟨n0, n1, n2⟩ := HP.out.ne ps (List.mem_of_getElem? hps)
      have r0 : wr.cell? ⟨b, o + k, none⟩ = some (.slice Ai ps.length ci) := (HI.out.below.cell (p := ⟨b, _, none⟩) hb1).trans hc1
      have hpt := put2_any (ci := ci) HI.out hr0 hr1 rfl n0 n1 n2 (hrw.keepB HI.out.below (fun _ q hq => Nat.lt_of_lt_of_le (hrq q hq) HP.out.le))
      have hfl : (pl.take (k + 1)).flatMap (fun ps => beB 2 (ltP ps).1) = (pl.take k).flatMap (fun ps => beB 2 (ltP ps).1) ++ beB 2 (ltP ps).1 := by rw [take_snoc' hps, List.flatMap_append]; simp
      have hzw := Nat.lt_of_lt_of_le hb1 HI.out.below.size
      rw [List.append_assoc, ← hfl] at hpt
      have HPT := Lib.hid hpt
      clear hps hv hrw hrq hc1 hpt hfl n0 n1 n2
      go_wp2_with (first
        | (go_at_call 66; (with_reducible refine HPT.out.mono ?_); rintro e w1 ⟨rfl, hI⟩; have HI1 := Lib.hid hI; clear hI)
        | fail)
      go_roundw
      case rel => exact ⟨k + 1, by omega, by go_num, HI1⟩
      case measure => simp [intOf]; omega
    · obtain rfl : k = m := by omega
      have hI := HI.out
      rw [List.take_of_length_le (by omega)] at hI
      have HIF := Lib.hid hI
      clear hI
      go_wp2_with fail
      with_reducible refine bodyPost_end (v := .tuple #[]) (by simp [results, Try.results65]) rfl ?_
      exact ⟨rfl, HIF.out⟩
set_option maxRecDepth 20000 in
set_option maxHeartbeats 4000000 in
theorem each3_any {W w : World} {g b4 b9 B : Nat} {N : List UInt8} {room : Int} {Ap : Option Addr} {m cp : Nat} {vs : List Value} {pl : List (List Pr)} (h : IW W.heap.size W w g N room (wBox b9 g)) (hr0 : 0 ≤ room) (hr1 : room ≤ 1099511627776) (hp : Pb B W b4 Ap m cp vs pl) :
    Calls Try.prog 65 #[.func (.func 67) #[] #[.pointer (some ⟨b9, 0, none⟩)], .pointer (some ⟨b4, 0, none⟩)] w fun e w' => e = .returned (.tuple #[]) ∧ IW W.heap.size W w' g (N ++ pl.flatMap fun ps => beB 2 (hdP ps).1) room (wBox b9 g) := by
  have hb4 := hp.blk.lt
  have c4 : w.cell? ⟨b4, 0, none⟩ = some (.slice Ap m cp) := (h.below.cell (p := ⟨b4, 0, none⟩) hb4).trans (hp.blk.cell 0)
  have hsz := h.size
  have hpm : pl.length = m := by rw [← hp.zp.len]; exact hp.sl.1
  have hm1 := hp.m1
  have H := Lib.hid h
  have HP := Lib.hid hp
  clear h hp
  go_enter Try.func65, Try.ntmps65
  go_wp2_with fail
  go_loopw [7] (fun i wr => ∃ k : Nat, k ≤ m ∧ i = .int .i64 k ∧ Hid (IW W.heap.size W wr g (N ++ (pl.take k).flatMap fun ps => beB 2 (hdP ps).1) room (wBox b9 g))) (fun i _ => m - (intOf i).toNat)
  case atStart => exact ⟨0, Nat.zero_le _, rfl, Lib.hid (by simpa using H.out)⟩
  case round =>
    obtain ⟨k, hk, rfl, HI⟩ := hrel
    by_cases hlt : k < m
    · have hkm : (k : Int) < m := by omega
      obtain ⟨ps, hps⟩ := get_some' (l := pl) (k := k) (by omega)
      obtain ⟨v, hv⟩ := get_some' (l := vs) (k := k) (by rw [HP.out.zp.len]; omega)
      obtain ⟨Ai, ci, rfl, hrw, hrq⟩ := HP.out.zp.at_ k _ _ hv hps
      obtain ⟨b, o, rfl, hb1, hc1⟩ := HP.out.sl.2 k hlt
      rw [hv] at hc1
      obtain ⟨n0, n1, n2⟩ := HP.out.ne ps (List.mem_of_getElem? hps)
      have r0 : wr.cell? ⟨b, o + k, none⟩ = some (.slice Ai ps.length ci) := (HI.out.below.cell (p := ⟨b, _, none⟩) hb1).trans hc1
      have hpt := put3_any (ci := ci) HI.out hr0 hr1 rfl n0 n1 n2 (hrw.keepB HI.out.below (fun _ q hq => Nat.lt_of_lt_of_le (hrq q hq) HP.out.le))
      have hfl : (pl.take (k + 1)).flatMap (fun ps => beB 2 (hdP ps).1) = (pl.take k).flatMap (fun ps => beB 2 (hdP ps).1) ++ beB 2 (hdP ps).1 := by rw [take_snoc' hps, List.flatMap_append]; simp
      have hzw := Nat.lt_of_lt_of_le hb1 HI.out.below.size
      rw [List.append_assoc, ← hfl] at hpt
      have HPT := Lib.hid hpt
      clear hps hv hrw hrq hc1 hpt hfl n0 n1 n2
      go_wp2_with (first
        | (go_at_call 67; (with_reducible refine HPT.out.mono ?_); rintro e w1 ⟨rfl, hI⟩; have HI1 := Lib.hid hI; clear hI)
        | fail)
      go_roundw
      case rel => exact ⟨k + 1, by omega, by go_num, HI1⟩
      case measure => simp [intOf]; omega
    · obtain rfl : k = m := by omega
      have hI := HI.out
      rw [List.take_of_length_le (by omega)] at hI
      have HIF := Lib.hid hI
      clear hI
      go_wp2_with fail
      with_reducible refine bodyPost_end (v := .tuple #[]) (by simp [results, Try.results65]) rfl ?_
      exact ⟨rfl, HIF.out⟩
set_option maxRecDepth 20000 in
set_option maxHeartbeats 4000000 in
theorem each4_any {W w : World} {g b4 b9 B : Nat} {N : List UInt8} {room : Int} {Ap : Option Addr} {m cp : Nat} {vs : List Value} {pl : List (List Pr)} (h : IW W.heap.size W w g N room (wBox b9 g)) (hr0 : 0 ≤ room) (hr1 : room ≤ 1099511627776) (hp : Pb B W b4 Ap m cp vs pl) :
    Calls Try.prog 65 #[.func (.func 68) #[] #[.pointer (some ⟨b9, 0, none⟩)], .pointer (some ⟨b4, 0, none⟩)] w fun e w' => e = .returned (.tuple #[]) ∧ IW W.heap.size W w' g (N ++ pl.flatMap fun ps => beB 2 ((hdP ps).2 - (hdP ps).1)) room (wBox b9 g) := by
  have hb4 := hp.blk.lt
  have c4 : w.cell? ⟨b4, 0, none⟩ = some (.slice Ap m cp) := (h.below.cell (p := ⟨b4, 0, none⟩) hb4).trans (hp.blk.cell 0)
  have hsz := h.size
  have hpm : pl.length = m := by rw [← hp.zp.len]; exact hp.sl.1
  have hm1 := hp.m1
  have H := Lib.hid h
  have HP := Lib.hid hp
  clear h hp
  go_enter Try.func65, Try.ntmps65
  go_wp2_with fail
  go_loopw [7] (fun i wr => ∃ k : Nat, k ≤ m ∧ i = .int .i64 k ∧ Hid (IW W.heap.size W wr g (N ++ (pl.take k).flatMap fun ps => beB 2 ((hdP ps).2 - (hdP ps).1)) room (wBox b9 g))) (fun i _ => m - (intOf i).toNat)
  case atStart => exact ⟨0, Nat.zero_le _, rfl, Lib.hid (by simpa using H.out)⟩
  case round =>
    obtain ⟨k, hk, rfl, HI⟩ := hrel
    by_cases hlt : k < m
    · have hkm : (k : Int) < m := by omega
      obtain ⟨ps, hps⟩ := get_some' (l := pl) (k := k) (by omega)
      obtain ⟨v, hv⟩ := get_some' (l := vs) (k := k) (by rw [HP.out.zp.len]; omega)
      obtain ⟨Ai, ci, rfl, hrw, hrq⟩ := HP.out.zp.at_ k _ _ hv hps
      obtain ⟨b, o, rfl, hb1, hc1⟩ := HP.out.sl.2 k hlt
      rw [hv] at hc1
      obtain ⟨n0, n1, n2⟩ := HP.out.ne ps (List.mem_of_getElem? hps)
      have r0 : wr.cell? ⟨b, o + k, none⟩ = some (.slice Ai ps.length ci) := (HI.out.below.cell (p := ⟨b, _, none⟩) hb1).trans hc1
      have hpt := put4_any (ci := ci) HI.out hr0 hr1 rfl n0 n1 n2 (hrw.keepB HI.out.below (fun _ q hq => Nat.lt_of_lt_of_le (hrq q hq) HP.out.le))
      have hfl : (pl.take (k + 1)).flatMap (fun ps => beB 2 ((hdP ps).2 - (hdP ps).1)) = (pl.take k).flatMap (fun ps => beB 2 ((hdP ps).2 - (hdP ps).1)) ++ beB 2 ((hdP ps).2 - (hdP ps).1) := by rw [take_snoc' hps, List.flatMap_append]; simp
      have hzw := Nat.lt_of_lt_of_le hb1 HI.out.below.size
      rw [List.append_assoc, ← hfl] at hpt
      have HPT := Lib.hid hpt
      clear hps hv hrw hrq hc1 hpt hfl n0 n1 n2
      go_wp2_with (first
        | (go_at_call 68; (with_reducible refine HPT.out.mono ?_); rintro e w1 ⟨rfl, hI⟩; have HI1 := Lib.hid hI; clear hI)
        | fail)
      go_roundw
      case rel => exact ⟨k + 1, by omega, by go_num, HI1⟩
      case measure => simp [intOf]; omega
    · obtain rfl : k = m := by omega
      have hI := HI.out
      rw [List.take_of_length_le (by omega)] at hI
      have HIF := Lib.hid hI
      clear hI
      go_wp2_with fail
      with_reducible refine bodyPost_end (v := .tuple #[]) (by simp [results, Try.results65]) rfl ?_
      exact ⟨rfl, HIF.out⟩
set_option maxRecDepth 20000 in
set_option maxHeartbeats 4000000 in
theorem each5_any {W w : World} {g b4 b9 B : Nat} {N : List UInt8} {room : Int} {Ap : Option Addr} {m cp : Nat} {vs : List Value} {pl : List (List Pr)} (h : IW W.heap.size W w g N room (wBox b9 g)) (hr0 : 0 ≤ room) (hr1 : room ≤ 1099511627776) (hp : Pb B W b4 Ap m cp vs pl) :
    Calls Try.prog 65 #[.func (.func 69) #[] #[.pointer (some ⟨b9, 0, none⟩)], .pointer (some ⟨b4, 0, none⟩)] w fun e w' => e = .returned (.tuple #[]) ∧ IW W.heap.size W w' g (N ++ pl.flatMap fun _ps => beB 2 0) room (wBox b9 g) := by
  have hb4 := hp.blk.lt
  have c4 : w.cell? ⟨b4, 0, none⟩ = some (.slice Ap m cp) := (h.below.cell (p := ⟨b4, 0, none⟩) hb4).trans (hp.blk.cell 0)
  have hsz := h.size
  have hpm : pl.length = m := by rw [← hp.zp.len]; exact hp.sl.1
  have hm1 := hp.m1
  have H := Lib.hid h
  have HP := Lib.hid hp
  clear h hp
  go_enter Try.func65, Try.ntmps65
  go_wp2_with fail
  go_loopw [7] (fun i wr => ∃ k : Nat, k ≤ m ∧ i = .int .i64 k ∧ Hid (IW W.heap.size W wr g (N ++ (pl.take k).flatMap fun ps => beB 2 0) room (wBox b9 g))) (fun i _ => m - (intOf i).toNat)
  case atStart => exact ⟨0, Nat.zero_le _, rfl, Lib.hid (by simpa using H.out)⟩
  case round =>
    obtain ⟨k, hk, rfl, HI⟩ := hrel
    by_cases hlt : k < m
    · have hkm : (k : Int) < m := by omega
      obtain ⟨ps, hps⟩ := get_some' (l := pl) (k := k) (by omega)
      obtain ⟨v, hv⟩ := get_some' (l := vs) (k := k) (by rw [HP.out.zp.len]; omega)
      obtain ⟨Ai, ci, rfl, hrw, hrq⟩ := HP.out.zp.at_ k _ _ hv hps
      obtain ⟨b, o, rfl, hb1, hc1⟩ := HP.out.sl.2 k hlt
      rw [hv] at hc1
      obtain ⟨n0, n1, n2⟩ := HP.out.ne ps (List.mem_of_getElem? hps)
      have r0 : wr.cell? ⟨b, o + k, none⟩ = some (.slice Ai ps.length ci) := (HI.out.below.cell (p := ⟨b, _, none⟩) hb1).trans hc1
      have hpt := put5_any (ci := ci) HI.out hr0 hr1 rfl n0 n1 n2 (hrw.keepB HI.out.below (fun _ q hq => Nat.lt_of_lt_of_le (hrq q hq) HP.out.le))
      have hfl : (pl.take (k + 1)).flatMap (fun ps => beB 2 0) = (pl.take k).flatMap (fun ps => beB 2 0) ++ beB 2 0 := by rw [take_snoc' hps, List.flatMap_append]; simp
      have hzw := Nat.lt_of_lt_of_le hb1 HI.out.below.size
      rw [List.append_assoc, ← hfl] at hpt
      have HPT := Lib.hid hpt
      clear hps hv hrw hrq hc1 hpt hfl n0 n1 n2
      go_wp2_with (first
        | (go_at_call 69; (with_reducible refine HPT.out.mono ?_); rintro e w1 ⟨rfl, hI⟩; have HI1 := Lib.hid hI; clear hI)
        | fail)
      go_roundw
      case rel => exact ⟨k + 1, by omega, by go_num, HI1⟩
      case measure => simp [intOf]; omega
    · obtain rfl : k = m := by omega
      have hI := HI.out
      rw [List.take_of_length_le (by omega)] at hI
      have HIF := Lib.hid hI
      clear hI
      go_wp2_with fail
      with_reducible refine bodyPost_end (v := .tuple #[]) (by simp [results, Try.results65]) rfl ?_
      exact ⟨rfl, HIF.out⟩
end Go.Proofs.Ytlbfefdmbdjjcaa

namespace Go.Proofs.Ytlbfefdmbdjjcaa
open Go.RowKit

def sent : List Pr := [(65535, 65536)]
def m4 (pl : List (List Pr)) : List UInt8 :=
  let n : Int := pl.length
  let lg : Nat := Nat.log2 pl.length
  let p : Int := (2 ^ lg : Nat)
  beB 2 4 ++ beB 2 (16 + 8 * n) ++ beB 2 0 ++ beB 2 (2 * n) ++ beB 2 (2 * p) ++ beB 2 lg ++ beB 2 (2 * (n - p)) ++
  (pl.flatMap fun ps => beB 2 (ltP ps).1) ++ beB 2 0 ++ (pl.flatMap fun ps => beB 2 (hdP ps).1) ++ (pl.flatMap fun ps => beB 2 ((hdP ps).2 - (hdP ps).1)) ++ (pl.flatMap fun _ => beB 2 0)
theorem m4_len (pl : List (List Pr)) : (m4 pl).length = 16 + 8 * pl.length := by
  unfold m4
  dsimp only
  simp only [List.length_append, beB_length, flat_len (fun ps : List Pr => beB_length 2 (ltP ps).1), flat_len (fun ps : List Pr => beB_length 2 (hdP ps).1), flat_len (fun ps : List Pr => beB_length 2 ((hdP ps).2 - (hdP ps).1)), flat_len (fun _ : List Pr => beB_length 2 0)]
  omega
def Mk4R (n : Nat) (N : List UInt8) (w : World) (e : Ending) (w' : World) : Prop :=
  (8189 < n ∧ e = .returned (.tuple #[.slice none 0 0, .int .i64 3]) ∧ Below w.heap.size w w') ∨ (n ≤ 8189 ∧ MkR N w e w')
set_option maxRecDepth 20000 in
set_option maxHeartbeats 4000000 in
theorem made4_any {w : World} {A : Option Addr} {n c : Nat} {l : List Pr} (h : RowsAt w A n 2 (l.map prC)) (hn : n ≤ 8192) (hc : n ≤ c) (hb : PB l) :
    Calls Try.prog 36 #[.slice A n c] w (Mk4R (runL l ++ [sent]).length (m4 (runL l ++ [sent])) w) := by
  have hl := h.len
  rw [List.length_map] at hl
  have hr := runs_any h (by omega) hc hb
  have hmem := runN_mem l l.length (Nat.le_refl _)
  have hrl := runN_len l l.length
  change (runL l).length ≤ l.length at hrl
  change ∀ ps ∈ runL l, _ at hmem
  have hpb : ∀ ps ∈ runL l, 0 < ps.length ∧ ps.length ≤ 8192 ∧ PB ps := fun ps hps => ⟨(hmem ps hps).1, by have := (hmem ps hps).2.1; omega, fun p hp => hb p ((hmem ps hps).2.2 p hp)⟩
  generalize runL l = pl at hmem hrl hpb hr
  have HR := Lib.hid hr
  have HPB := Lib.hid hpb
  clear h hmem hpb hr hb
  obtain ⟨N, hN⟩ : ∃ N, m4 (pl ++ [sent]) = N := ⟨_, rfl⟩
  have hNl : N.length = 16 + 8 * (pl ++ [sent]).length := by rw [← hN, m4_len]
  rw [hN]
  have HN := Lib.hid hN
  clear hN
  obtain ⟨m, hm⟩ : ∃ m, (pl ++ [sent]).length = m := ⟨_, rfl⟩
  rw [hm] at hNl ⊢
  have HM2 : Hid (m = pl.length + 1) := Lib.hid (by rw [← hm]; simp)
  have hmb : m ≤ 8193 := by have := HM2.out; omega
  have hm1 : 1 ≤ m := by have := HM2.out; omega
  have HM := Lib.hid hm
  have HNL := Lib.hid hNl
  clear hm hNl
  go_enter Try.func36, Try.ntmps36
  go_upto_region 2 with (first
    | (go_at_call 64; (with_reducible refine HR.out.mono ?_); rintro e w1 ⟨Ap, cp, k, vs, hvm, rfl, hown, hz, hbl⟩
       have hbx := (bel_alloc (o := .cells #[.slice (some ⟨w1.heap.size, 0, none⟩) 1 1] 34) (bel_alloc (o := .cells #[.int .i64 65535, .int .i64 65536] 43) (bel_refl (a := w1)))).below
       have hmk : k + 1 = m := by have := HM2.out; have := hz.len; omega
       have HMK := Lib.hid hmk
       have hk2 : k ≤ 8192 := by omega
       have HZ := Lib.hid (hz.keep (hbx.mono hbl.size))
       have HOW := Lib.hid (own_keep hown fun q hq => hbx.block q (own_lt hown q hq).2)
       have HOL := Lib.hid (own_lt hown)
       have HB1 := Lib.hid (hbl.trans (hbx.mono hbl.size))
       have hb1s := hbl.size
       have HVM := Lib.hid hvm
       have HST : Hid (Blk ((w1.alloc (.cells #[.int .i64 65535, .int .i64 65536] 43)).alloc (.cells #[.slice (some ⟨w1.heap.size, 0, none⟩) 1 1] 34)) w1.heap.size 43 [.int .i64 65535, .int .i64 65536]) := Lib.hid ((Blk.new w1 _ [_, _]).alloc _)
       have HRD : Hid (Reads ((w1.alloc (.cells #[.int .i64 65535, .int .i64 65536] 43)).alloc (.cells #[.slice (some ⟨w1.heap.size, 0, none⟩) 1 1] 34)) ((w1.alloc (.cells #[.int .i64 65535, .int .i64 65536] 43)).alloc (.cells #[.slice (some ⟨w1.heap.size, 0, none⟩) 1 1] 34)).heap.size 1 (some ⟨w1.heap.size + 1, 0, none⟩) 1 [.slice (some ⟨w1.heap.size, 0, none⟩) 1 1]) := Lib.hid (by
         rw [World.size_alloc]
         have := reads_new (w1.alloc (.cells #[.int .i64 65535, .int .i64 65536] 43)) [.slice (some ⟨w1.heap.size, 0, none⟩) 1 1] 34 1 1 rfl
         rw [World.size_alloc] at this ⊢
         exact this)
       clear hown hz hbl hvm hbx hmk)
    | (at_builtin; obtain ⟨i0, zz, hi0, hzz0, hzz1, hzz2, hzz3⟩ := pl_parts; refine wpList_append_any _ (by rfl) (.tmp 12) (.tmp 15) _ (by rfl) w.heap.size 34 i0 zz 1 24 Try.underlying90 hi0 hzz0 hzz1 hzz2 hzz3 (by omega) _ k _ (by rfl) HOW.out _ _ 1 _ _ (by rfl) HRD.out (by simp [Value.oneCell']) (by unfold maxLen; omega) (by omega) HB1.out.size ?_; intro v' w9 ho9 hg9 hr9; obtain ⟨A9, c9, rfl, hs9, _⟩ := of_own1 ho9
       have HS9 := Lib.hid hs9
       have hb9 := grown_below' hg9 HB1.out.size (fun q hq => (own_lt HOW.out q hq).1)
       have HZ9 := Lib.hid (HZ.out.keep hb9)
       have HB9 := Lib.hid (HB1.out.trans hb9)
       have HT9 := Lib.hid (HST.out.grown hg9 (fun e => by have := (HOL.out _ e).2; omega))
       have hz9 := hg9.size
       clear ho9 hg9 hr9 hs9 hb9)
    | fail)
  obtain ⟨W, hW⟩ : ∃ W, w9.alloc (.cells #[.slice A9 (k + 1) c9] 90) = W := ⟨_, rfl⟩
  have hbW : Below w9.heap.size w9 W := by rw [← hW]; exact (bel_alloc bel_refl).below
  have hzW : W.heap.size = w9.heap.size + 1 := by rw [← hW]; simp
  have hblk : Blk W w9.heap.size 90 [.slice A9 (k + 1) c9] := by rw [← hW]; exact Blk.new w9 _ [_]
  have hz91 : w1.heap.size + 2 ≤ w9.heap.size := by simpa using hz9
  have hPb : Pb (w1.heap.size + 1) W w9.heap.size A9 (k + 1) c9 (vs ++ [.slice (some ⟨w1.heap.size, 0, none⟩) 1 1]) (pl ++ [sent]) := by
    refine ⟨hblk, HS9.out.keep hbW, (((HZ9.out.mono (by omega)).snoc (A := some ⟨w1.heap.size, 0, none⟩) (c := 1) (ps := sent) (m := 1) rfl (RowsAt.of_blk (rows := [prC (65535, 65536)]) HT9.out (fun r hr => by rw [List.mem_singleton] at hr; subst hr; rfl)) (fun q hq => by have : w1.heap.size = q := Option.some.inj hq; omega)).keep (hbW.mono (by omega))), ?_, by omega, by omega⟩
    intro ps hps
    rcases List.mem_append.1 hps with h | h
    · exact HPB.out ps h
    · rw [List.mem_singleton] at h
      subst h
      refine ⟨by decide, by decide, fun p hp => ?_⟩
      rw [show sent = [((65535 : Int), (65536 : Int))] from rfl, List.mem_singleton] at hp
      subst hp
      dsimp only
      omega
  rw [HMK.out] at hPb
  have HP := Lib.hid hPb
  have HBW := Lib.hid (HB9.out.trans (hbW.mono (by omega)))
  have hwW : w.heap.size ≤ W.heap.size := by omega
  obtain ⟨b4, hb4⟩ : ∃ b4, w9.heap.size = b4 := ⟨_, rfl⟩
  rw [hb4] at HP hzW
  rw [hW, hb4, HMK.out]
  have c4 : W.cell? ⟨b4, 0, none⟩ = some (.slice A9 m c9) := HP.out.blk.cell 0
  have hl4 := HP.out.blk.lt
  clear hW hbW hblk hPb hb4 HMK HS9 HZ9 HT9 HB9 HST HRD HOL HOW HB1 HZ HVM hz9 hz91 hb1s
  by_cases hbig : 8189 < m
  · have hbi : ¬ (m : Int) ≤ 8189 := by omega
    go_wp2_with fail
    go_ret2
    exact .inl ⟨hbig, rfl, HBW.out⟩
  have hmi : (m : Int) ≤ 8189 := by omega
  go_wp2_with fail
  go_loop [7, 8] (fun p lg => ∃ j x : Nat, p = .int .i64 x ∧ lg = .int .i64 j ∧ Hid (2 ^ j = x) ∧ x ≤ m ∧ 1 ≤ x ∧ j ≤ x) (fun p _ => m - (intOf p).toNat)
  case atStart => exact ⟨0, 1, rfl, rfl, Lib.hid rfl, hm1, Nat.le_refl _, by omega⟩
  case round =>
    obtain ⟨j, x, rfl, rfl, HX, hx1, hx2, hx3⟩ := hrel
    by_cases hlt : x * 2 ≤ m
    · have hlti : (x : Int) * 2 ≤ m := by omega
      have HX2 : Hid (2 ^ (j + 1) = x * 2) := Lib.hid (by rw [Nat.pow_succ, HX.out])
      go_wp2_with fail
      go_round
      case rel => exact ⟨j + 1, x * 2, by go_num, by go_num, HX2, hlt, by omega, by omega⟩
      case measure => simp [intOf]; omega
    · have hlti : ¬ (x : Int) * 2 ≤ m := by omega
      have hlg : Nat.log2 m = j := (Nat.log2_eq_iff (by omega)).2 ⟨by rw [HX.out]; exact hx1, by rw [Nat.pow_succ, HX.out]; omega⟩
      have hnn := HN.out
      unfold m4 at hnn
      dsimp only at hnn
      rw [HM.out, hlg, HX.out] at hnn
      have HNN := Lib.hid hnn
      have hroom : (0 : Int) ≤ 16 + 8 * (m : Int) := by omega
      have hroom2 : 16 + 8 * (m : Int) ≤ 1099511627776 := by omega
      clear hnn hlg HN
      go_upto_region 10 with (first
        | (go_at_call 60; (with_reducible refine (to_I W W _ hroom aft_refl [] (by simp)).mono ?_); rintro e w2 ⟨g, rfl, hI⟩; have HI2 := Lib.hid hI; clear hI)
        | (go_at_call 61; (with_reducible refine (u16_I HI2.out hroom hroom2 _).mono ?_); rintro e w3 ⟨rfl, hI⟩; replace HI2 := Lib.hid hI; clear hI)
        | fail)
      obtain ⟨hds, hhd⟩ : ∃ y, beB 2 4 ++ beB 2 (16 + 8 * (m : Int)) ++ beB 2 0 ++ beB 2 (2 * (m : Int)) ++ beB 2 (2 * (x : Int)) ++ beB 2 (j : Int) ++ beB 2 (2 * ((m : Int) - x)) = y := ⟨_, rfl⟩
      have hI3 : IW W.heap.size W (w3.alloc (.cells #[.pointer (some ⟨g, 0, none⟩)] 86)) g hds (16 + 8 * (m : Int)) (wBox w3.heap.size g) := by
        have := HI2.out.new (.cells #[.pointer (some ⟨g, 0, none⟩)] 86)
        rw [List.nil_append, hhd] at this
        exact this
      rw [hhd] at HNN
      obtain ⟨b9, hb9⟩ : ∃ b9, w3.heap.size = b9 := ⟨_, rfl⟩
      obtain ⟨wq, hwq⟩ : ∃ wq, w3.alloc (.cells #[.pointer (some ⟨g, 0, none⟩)] 86) = wq := ⟨_, rfl⟩
      rw [hwq, hb9] at hI3
      rw [hwq, hb9]
      have HI3 := Lib.hid hI3
      have hnl := HNL.out
      have hnl2 : N.length ≤ 140737488355328 := by omega
      have hfit : (N.length : Int) ≤ 16 + 8 * (m : Int) := by omega
      clear hI3 hwq hb9 hhd HI2 hnl hlt hlti c4
      go_wp2_with (first
        | (go_at_call 65; (with_reducible refine (each2_any HI3.out hroom hroom2 HP.out).mono ?_); rintro e w4 ⟨rfl, hI⟩; have hq4 := (hI.first).1; have hl9 := (hI.first).2.2; have HI4 := Lib.hid hI; clear hI HI3)
        | (go_at_call 61; (with_reducible refine (u16_I HI4.out hroom hroom2 _).mono ?_); rintro e w5 ⟨rfl, hI⟩; have HI5 := Lib.hid hI; clear hI HI4)
        | (go_at_call 65; (with_reducible refine (each3_any HI5.out hroom hroom2 HP.out).mono ?_); rintro e w6 ⟨rfl, hI⟩; have HI6 := Lib.hid hI; clear hI HI5)
        | (go_at_call 65; (with_reducible refine (each4_any HI6.out hroom hroom2 HP.out).mono ?_); rintro e w7 ⟨rfl, hI⟩; have HI7 := Lib.hid hI; clear hI HI6)
        | (go_at_call 65; (with_reducible refine (each5_any HI7.out hroom hroom2 HP.out).mono ?_); rintro e w8 ⟨rfl, hI⟩; rw [HNN.out] at hI; have hq8 := (hI.first).1; have hl8 := (hI.first).2.2; have HI8 := Lib.hid hI; clear hI HI7)
        | (go_at_call 63; (with_reducible refine (done_I HI8.out hfit hnl2).mono ?_); rintro e w10 ⟨A10, c10, rfl, hs8, hb8, hq8, hc8⟩; have HS8 := Lib.hid hs8; have HB8 := Lib.hid hb8; have HR8 : Hid (0 < N.length → ∀ q, rowOf A10 = some q → q < w10.heap.size) := Lib.hid (done_lt hs8); clear hs8 hb8)
        | fail)
      go_ret2
      have hbe := HBW.out.trans (HI8.out.below.mono hwW)
      exact .inr ⟨by omega, _, _, rfl, ⟨HS8.out, hc8, hnl2, HR8.out (by have := HNL.out; omega)⟩, hbe.trans (HB8.out.mono hbe.size)⟩
end Go.Proofs.Ytlbfefdmbdjjcaa

namespace Go.Proofs.Ytlbfefdmbdjjcaa
open Go.RowKit

theorem mayL_cons {lc lg last : Int} {p : Pr} {l : List Pr} (h : mayL lc lg last (p :: l) = true) : (last < p.1 ∧ p.1 ≤ lc ∧ 1 ≤ p.2 ∧ p.2 ≤ lg) ∧ mayL lc lg p.1 l = true := by
  have h' : (decide (last < p.1 ∧ p.1 ≤ lc ∧ 1 ≤ p.2 ∧ p.2 ≤ lg) && mayL lc lg p.1 l) = true := h
  rw [Bool.and_eq_true, decide_eq_true_eq] at h'
  exact h'
theorem mayL_all {lc lg : Int} : ∀ {l : List Pr} {last : Int}, mayL lc lg last l = true → ∀ p ∈ l, last < p.1 ∧ p.1 ≤ lc ∧ 1 ≤ p.2 ∧ p.2 ≤ lg
  | [], _, _, _, hs => (List.not_mem_nil hs).elim
  | a :: l, last, h, s, hs => by
    obtain ⟨h1, h2⟩ := mayL_cons h
    rcases List.mem_cons.1 hs with rfl | hs
    · exact h1
    · have := mayL_all h2 s hs
      omega
theorem mayL_pair {lc lg : Int} : ∀ {l : List Pr} {last : Int}, mayL lc lg last l = true → ∀ (i j : Nat) (a b : Pr), l[i]? = some a → l[j]? = some b → i < j → a.1 < b.1
  | [], _, _, _, _, _, _, ha, _, _ => by simp at ha
  | x :: l, last, h, i, j, a, b, ha, hb, hij => by
    obtain ⟨h1, h2⟩ := mayL_cons h
    obtain ⟨j', rfl⟩ : ∃ j', j = j' + 1 := ⟨j - 1, by omega⟩
    rw [List.getElem?_cons_succ] at hb
    cases i with
    | zero =>
      simp only [List.getElem?_cons_zero, Option.some.injEq] at ha
      subst ha
      have := mayL_all h2 b (List.mem_of_getElem? hb)
      omega
    | succ i =>
      rw [List.getElem?_cons_succ] at ha
      exact mayL_pair h2 i j' a b ha hb (by omega)
theorem most_bd (f : Int) : mostC f ≤ 1114111 ∧ mostG f ≤ 65535 := by
  unfold mostC mostG
  refine ⟨?_, ?_⟩
  · split <;> (try split) <;> (try split) <;> omega
  · split <;> omega
theorem may_pb {f : Int} {l : List Pr} (h : mayS f l = true) : PB l := fun p hp => by
  have h1 := mayL_all h p hp
  have h2 := most_bd f
  omega
theorem may_in6 {l : List Pr} (h : mayS 6 l = true) : InP l (f6 l) (n6 l) ∧ (0 ≤ f6 l ∧ f6 l ≤ 65535) ∧ (n6 l : Int) ≤ 65536 := by
  have hall := mayL_all h
  have hc : mostC 6 = 65535 := rfl
  have hg : mostG 6 = 65535 := rfl
  rw [hc, hg] at hall
  by_cases h0 : l = []
  · subst h0
    exact ⟨fun p hp => (List.not_mem_nil hp).elim, by decide, by decide⟩
  · have h1 : 0 < l.length := List.length_pos_iff.2 h0
    have h2 : f6 l = (hdP l).1 := if_neg h0
    have h3 : n6 l = ((ltP l).1 - (hdP l).1 + 1).toNat := if_neg h0
    have a1 := hall _ (List.mem_of_getElem? (hd_at h1))
    have a2 := hall _ (List.mem_of_getElem? (lt_at h1))
    have key : ∀ p ∈ l, (hdP l).1 ≤ p.1 ∧ p.1 ≤ (ltP l).1 := by
      intro p hp
      obtain ⟨i, hi⟩ := List.getElem?_of_mem hp
      have hil := (List.getElem?_eq_some_iff.1 hi).1
      constructor
      · rcases Nat.eq_zero_or_pos i with e | e
        · subst e
          have := hi.symm.trans (hd_at h1)
          injection this with this
          rw [this]
          exact Int.le_refl _
        · exact Int.le_of_lt (mayL_pair h 0 i _ _ (hd_at h1) hi e)
      · rcases Nat.lt_or_ge i (l.length - 1) with e | e
        · exact Int.le_of_lt (mayL_pair h i _ _ _ hi (lt_at h1) e)
        · have e2 : i = l.length - 1 := by omega
          rw [e2] at hi
          have := hi.symm.trans (lt_at h1)
          injection this with this
          rw [this]
          exact Int.le_refl _
    rw [h2, h3]
    refine ⟨fun p hp => ?_, by omega, by omega⟩
    have k1 := key p hp
    have k2 := hall p hp
    omega
/-- What Make says: a number of an error, or bytes. -/
def mkS (f : Int) (l : List Pr) : Except Int (List UInt8) :=
  if isFmtB f = false then .error 81 else if mayS f l = false then .error 1 else if 8192 < l.length then .error 3
  else if f = 0 then .ok (m0 l)
  else if f = 4 then (if 8189 < (runL l ++ [sent]).length then .error 3 else .ok (m4 (runL l ++ [sent])))
  else if f = 6 then (if 8192 < n6 l then .error 3 else .ok (m6 l))
  else .ok (m12 (runL l))
def MkV (v : Except Int (List UInt8)) (w : World) (e : Ending) (w' : World) : Prop :=
  match v with
  | .error x => e = .returned (.tuple #[.slice none 0 0, .int .i64 x]) ∧ Below w.heap.size w w'
  | .ok N => MkR N w e w'
theorem mk_err {v : Except Int (List UInt8)} {x : Int} {w w' : World} (h : v = .error x) (hb : Below w.heap.size w w') : MkV v w (.returned (.tuple #[.slice none 0 0, .int .i64 x])) w' := by subst h; exact ⟨rfl, hb⟩
/-- The value of a maker's answer, told apart later. -/
theorem mkv_form {v : Except Int (List UInt8)} {w0 w w' : World} {e : Ending} (h : MkV v w e w') (hb : Below w0.heap.size w0 w) : ∃ A n c x, e = .returned (.tuple #[.slice A n c, .int .i64 x]) ∧ MkV v w0 (.returned (.tuple #[.slice A n c, .int .i64 x])) w' := by
  cases v with
  | error x =>
    obtain ⟨rfl, h2⟩ := h
    exact ⟨_, _, _, _, rfl, rfl, hb.trans (h2.mono hb.size)⟩
  | ok N =>
    obtain ⟨A, c, rfl, h2, h3⟩ := h
    exact ⟨_, _, _, _, rfl, _, _, rfl, h2, hb.trans (h3.mono hb.size)⟩
set_option maxRecDepth 20000 in
set_option maxHeartbeats 4000000 in
theorem Make_any {w : World} {A : Option Addr} {n c : Nat} {l : List Pr} (f : Int) (h : RowsAt w A n 2 (l.map prC)) (hn : n ≤ 1000000) (hc : n ≤ c) :
    Calls Try.prog 15 #[.int .i64 f, .slice A n c] w (MkV (mkS f l) w) := by
  have hl := h.len
  rw [List.length_map] at hl
  have hv : mkS f l = _ := rfl
  obtain ⟨fb, hfb⟩ : ∃ b, isFmtB f = b := ⟨_, rfl⟩
  have HIF := Lib.hid fun wi => isFormat_any f wi
  rw [hfb] at HIF
  cases fb with
  | false =>
    have hv2 : mkS f l = .error 81 := if_pos hfb
    have HV := Lib.hid hv2
    clear h hv hv2 hfb
    go_enter Try.func15, Try.ntmps15
    go_wp2_with (first
      | (go_at_call 24; (with_reducible refine (HIF.out _).mono ?_); rintro e w1 ⟨rfl, hb⟩; have HB1 := Lib.hid hb; clear hb)
      | fail)
    go_ret2
    exact mk_err HV.out HB1.out
  | true =>
    obtain ⟨mb, hmb⟩ : ∃ b, mayS f l = b := ⟨_, rfl⟩
    have HMM : Hid (∀ wi, Below w.heap.size w wi → Calls Try.prog 34 #[.int .i64 f, .slice A n c] wi fun e w' => e = .returned (.bool mb) ∧ Below wi.heap.size wi w') := Lib.hid fun wi hb => by
      rw [← hmb]
      exact mayMake_any f (h.keep hb) hn
    have hs0 : mkS f l = if mayS f l = false then .error 1 else if 8192 < l.length then .error 3
      else if f = 0 then .ok (m0 l)
      else if f = 4 then (if 8189 < (runL l ++ [sent]).length then .error 3 else .ok (m4 (runL l ++ [sent])))
      else if f = 6 then (if 8192 < n6 l then .error 3 else .ok (m6 l))
      else .ok (m12 (runL l)) := if_neg (by rw [hfb]; simp)
    cases mb with
    | false =>
      have hv2 := hs0.trans (if_pos hmb)
      have HV := Lib.hid hv2
      clear h hv hv2 hfb hs0 hmb
      go_enter Try.func15, Try.ntmps15
      go_wp2_with (first
        | (go_at_call 24; (with_reducible refine (HIF.out _).mono ?_); rintro e w1 ⟨rfl, hb⟩; have HB1 := Lib.hid hb; clear hb)
        | (go_at_call 34; (with_reducible refine (HMM.out _ HB1.out).mono ?_); rintro e w2 ⟨rfl, hb⟩; have HB2 := Lib.hid (HB1.out.trans (hb.mono HB1.out.size)); clear hb)
        | fail)
      go_ret2
      exact mk_err HV.out HB2.out
    | true =>
      have hv2 := hs0.trans (if_neg (by rw [hmb]; simp))
      by_cases hlong : 8192 < l.length
      · have hv3 := hv2.trans (if_pos hlong)
        have HV := Lib.hid hv3
        have hln : ¬ (n : Int) ≤ 8192 := by omega
        clear h hv hv2 hv3 hfb hs0 hmb
        go_enter Try.func15, Try.ntmps15
        go_wp2_with (first
          | (go_at_call 24; (with_reducible refine (HIF.out _).mono ?_); rintro e w1 ⟨rfl, hb⟩; have HB1 := Lib.hid hb; clear hb)
          | (go_at_call 34; (with_reducible refine (HMM.out _ HB1.out).mono ?_); rintro e w2 ⟨rfl, hb⟩; have HB2 := Lib.hid (HB1.out.trans (hb.mono HB1.out.size)); clear hb)
          | fail)
        go_ret2
        exact mk_err HV.out HB2.out
      have hv3 := hv2.trans (if_neg hlong)
      have hln : (n : Int) ≤ 8192 := by omega
      have hn8 : n ≤ 8192 := by omega
      have hpb := may_pb hmb
      have hcs : (f == 0) = true ∨ ((f == 0) = false ∧ (f == 4) = true) ∨ ((f == 0) = false ∧ (f == 4) = false ∧ (f == 6) = true) ∨ ((f == 0) = false ∧ (f == 4) = false ∧ (f == 6) = false) := by
        simp only [beq_iff_eq, beq_eq_false_iff_ne]
        omega
      rcases hcs with e0 | ⟨e0, e4⟩ | ⟨e0, e4, e6⟩ | ⟨e0, e4, e6⟩
      · have hf : f = 0 := by simpa using e0
        have hin : ∀ p ∈ l, 0 ≤ p.1 ∧ p.1 ≤ 255 ∧ 0 ≤ p.2 ∧ p.2 ≤ 255 := fun p hp => by
          have h1 := mayL_all hmb p hp
          rw [hf] at h1
          have hc0 : mostC 0 = 255 := rfl
          have hg0 : mostG 0 = 255 := rfl
          omega
        have hvv : mkS f l = .ok (m0 l) := by rw [hv3]; rw [if_pos hf]
        have HMD : Hid (∀ wi, Below w.heap.size w wi → Calls Try.prog 35 #[.slice A n c] wi (MkV (mkS f l) wi)) := Lib.hid fun wi hb => by
          rw [hvv]
          exact made0_any (h.keep hb) hn8 hin
        clear hv hv2 hv3 hs0 hvv
        generalize mkS f l = V at HMD ⊢
        clear h hfb hmb hpb hf
        go_enter Try.func15, Try.ntmps15
        go_wp2_with (first
          | (go_at_call 24; (with_reducible refine (HIF.out _).mono ?_); rintro e w1 ⟨rfl, hb⟩; have HB1 := Lib.hid hb; clear hb)
          | (go_at_call 34; (with_reducible refine (HMM.out _ HB1.out).mono ?_); rintro e w2 ⟨rfl, hb⟩; have HB2 := Lib.hid (HB1.out.trans (hb.mono HB1.out.size)); clear hb)
          | (go_at_call 35; (with_reducible refine (HMD.out _ HB2.out).mono ?_); rintro e w3 hm; obtain ⟨A3, n3, c3, x3, rfl, hm2⟩ := mkv_form hm HB2.out; have HM3 := Lib.hid hm2; clear hm hm2)
          | fail)
        go_ret2
        exact HM3.out
      · have hf : f = 4 := by simpa using e4
        have hvv : mkS f l = if 8189 < (runL l ++ [sent]).length then .error 3 else .ok (m4 (runL l ++ [sent])) := by rw [hv3]; rw [if_neg (by omega), if_pos hf]
        have HMD : Hid (∀ wi, Below w.heap.size w wi → Calls Try.prog 36 #[.slice A n c] wi (MkV (mkS f l) wi)) := Lib.hid fun wi hb => by
          rw [hvv]
          refine (made4_any (h.keep hb) hn8 hc hpb).mono ?_
          rintro e w' (⟨h1, h2, h3⟩ | ⟨h1, h2⟩)
          · rw [if_pos h1]
            exact ⟨h2, h3⟩
          · rw [if_neg (by omega)]
            exact h2
        clear hv hv2 hv3 hs0 hvv
        generalize mkS f l = V at HMD ⊢
        clear h hfb hmb hpb hf
        go_enter Try.func15, Try.ntmps15
        go_wp2_with (first
          | (go_at_call 24; (with_reducible refine (HIF.out _).mono ?_); rintro e w1 ⟨rfl, hb⟩; have HB1 := Lib.hid hb; clear hb)
          | (go_at_call 34; (with_reducible refine (HMM.out _ HB1.out).mono ?_); rintro e w2 ⟨rfl, hb⟩; have HB2 := Lib.hid (HB1.out.trans (hb.mono HB1.out.size)); clear hb)
          | (go_at_call 36; (with_reducible refine (HMD.out _ HB2.out).mono ?_); rintro e w3 hm; obtain ⟨A3, n3, c3, x3, rfl, hm2⟩ := mkv_form hm HB2.out; have HM3 := Lib.hid hm2; clear hm hm2)
          | fail)
        go_ret2
        exact HM3.out
      · have hf : f = 6 := by simpa using e6
        subst hf
        obtain ⟨i1, i2, i3⟩ := may_in6 hmb
        have hf : (6 : Int) = 6 := rfl
        have hvv : mkS 6 l = if 8192 < n6 l then .error 3 else .ok (m6 l) := by rw [hv3]; rw [if_neg (by decide), if_neg (by decide), if_pos rfl]
        have HMD : Hid (∀ wi, Below w.heap.size w wi → Calls Try.prog 37 #[.slice A n c] wi (MkV (mkS 6 l) wi)) := Lib.hid fun wi hb => by
          rw [hvv]
          refine (made6_any (h.keep hb) hn8 i1 hpb i2 i3).mono ?_
          rintro e w' (⟨h1, h2, h3⟩ | ⟨h1, h2⟩)
          · rw [if_pos h1]
            exact ⟨h2, h3⟩
          · rw [if_neg (by omega)]
            exact h2
        clear hv hv2 hv3 hs0 hvv
        generalize mkS 6 l = V at HMD ⊢
        clear h hfb hmb hpb hf
        go_enter Try.func15, Try.ntmps15
        go_wp2_with (first
          | (go_at_call 24; (with_reducible refine (HIF.out _).mono ?_); rintro e w1 ⟨rfl, hb⟩; have HB1 := Lib.hid hb; clear hb)
          | (go_at_call 34; (with_reducible refine (HMM.out _ HB1.out).mono ?_); rintro e w2 ⟨rfl, hb⟩; have HB2 := Lib.hid (HB1.out.trans (hb.mono HB1.out.size)); clear hb)
          | (go_at_call 37; (with_reducible refine (HMD.out _ HB2.out).mono ?_); rintro e w3 hm; obtain ⟨A3, n3, c3, x3, rfl, hm2⟩ := mkv_form hm HB2.out; have HM3 := Lib.hid hm2; clear hm hm2)
          | fail)
        go_ret2
        exact HM3.out
      · have hf : f ≠ 0 ∧ f ≠ 4 ∧ f ≠ 6 := by simp only [beq_eq_false_iff_ne] at e0 e4 e6; exact ⟨e0, e4, e6⟩
        have hvv : mkS f l = .ok (m12 (runL l)) := by rw [hv3]; rw [if_neg hf.1, if_neg hf.2.1, if_neg hf.2.2]
        have HMD : Hid (∀ wi, Below w.heap.size w wi → Calls Try.prog 38 #[.slice A n c] wi (MkV (mkS f l) wi)) := Lib.hid fun wi hb => by
          rw [hvv]
          exact made12_any (h.keep hb) hn8 hc hpb
        clear hv hv2 hv3 hs0 hvv
        generalize mkS f l = V at HMD ⊢
        clear h hfb hmb hpb hf
        go_enter Try.func15, Try.ntmps15
        go_wp2_with (first
          | (go_at_call 24; (with_reducible refine (HIF.out _).mono ?_); rintro e w1 ⟨rfl, hb⟩; have HB1 := Lib.hid hb; clear hb)
          | (go_at_call 34; (with_reducible refine (HMM.out _ HB1.out).mono ?_); rintro e w2 ⟨rfl, hb⟩; have HB2 := Lib.hid (HB1.out.trans (hb.mono HB1.out.size)); clear hb)
          | (go_at_call 38; (with_reducible refine (HMD.out _ HB2.out).mono ?_); rintro e w3 hm; obtain ⟨A3, n3, c3, x3, rfl, hm2⟩ := mkv_form hm HB2.out; have HM3 := Lib.hid hm2; clear hm hm2)
          | fail)
        go_ret2
        exact HM3.out
end Go.Proofs.Ytlbfefdmbdjjcaa

namespace Go.Proofs.Ytlbfefdmbdjjcaa
open Go.RowKit Go.Shelf

@[go_sem ↓] theorem eql_fn (W : World) (F : Fn) (a b : Array Value) : (binOp .eql 46 (.func F a b) .nilFunc).run Try.prog W = .ok (.bool false) W := by kernel_rfl
theorem all_exp (p : Value) (hp : (∃ m, p = .pointer (some ⟨m, 0, none⟩)) ∨ p = .pointer none) (fr tt : Int) (w : World) : Calls Try.prog 20 #[p, .int .i64 fr, .int .i64 tt] w fun e w' =>
    e = .returned (.func (.func 44) #[] #[.pointer (some ⟨w.heap.size, 0, none⟩), .pointer (some ⟨w.heap.size + 1, 0, none⟩), .pointer (some ⟨w.heap.size + 2, 0, none⟩)]) ∧ ((w.alloc (.cells #[p] 24)).alloc (.cells #[.int .i64 fr] 3)).alloc (.cells #[.int .i64 tt] 3) = w' := all_any p hp fr tt w
theorem all_bel (m : Nat) (fr tt : Int) (w : World) : Calls Try.prog 20 #[.pointer (some ⟨m, 0, none⟩), .int .i64 fr, .int .i64 tt] w fun e w' =>
    e = .returned (.func (.func 44) #[] #[.pointer (some ⟨w.heap.size, 0, none⟩), .pointer (some ⟨w.heap.size + 1, 0, none⟩), .pointer (some ⟨w.heap.size + 2, 0, none⟩)]) ∧ Below w.heap.size w w' :=
  (all_any _ (.inl ⟨m, rfl⟩) fr tt w).mono fun e w' ⟨h1, h2⟩ => ⟨h1, by rw [← h2]; exact (bel_alloc (bel_alloc (bel_alloc bel_refl))).below⟩
theorem gl_is {w : World} {m : Nat} {fmt n : Int} {A : Option Addr} {k c : Nat} {es : List Sg} {l : List Sv} {code x : Int} (he : es.map sgV = l) (hx : glS l n code = x) (h : Mp w m fmt n A k c es) :
    Calls Try.prog 12 #[.pointer (some ⟨m, 0, none⟩), .int .i64 code] w fun e w' => e = .returned (.int .i64 x) ∧ Below w.heap.size w w' := by
  subst he hx
  exact glyph_any code h
def abc : List Pr := [(65, 1), (66, 2), (67, 3)]
def abcB : List UInt8 := [0, 4, 0, 32, 0, 0, 0, 4, 0, 4, 0, 1, 0, 0, 0, 67, 255, 255, 0, 0, 0, 65, 255, 255, 255, 192, 0, 1, 0, 0, 0, 0]
def abcS : List Sv := [⟨65, 67, 65 + 65472, true, none, 65472⟩, ⟨65535, 65535, 65535 + 1, true, none, 1⟩]
theorem abc_mk : mkS 4 abc = .ok abcB := by kernel_rfl
theorem abc_ld : ldV abcB 3 = .ok 4 abcS := by kernel_rfl
theorem bad_ld : ldV [0, 2, 0, 0] 3 = .err 81 := by kernel_rfl
theorem abc_65 : glS abcS 3 65 = 1 := by kernel_rfl
theorem abc_66 : glS abcS 3 66 = 2 := by kernel_rfl
theorem abc_67 : glS abcS 3 67 = 0 := by kernel_rfl
theorem abc_68 : glS abcS 3 68 = 0 := by kernel_rfl
set_option maxRecDepth 20000 in
set_option maxHeartbeats 4000000 in
theorem lives_any (w : World) : Calls Try.prog 9 #[] w fun e w' => e = .returned (.bool true) ∧ Below w.heap.size w w' := by
  obtain ⟨w1, hw1⟩ : ∃ w1, w.alloc (.cells #[.int .i64 65, .int .i64 1, .int .i64 66, .int .i64 2, .int .i64 67, .int .i64 3] 43) = w1 := ⟨_, rfl⟩
  have hb1 : Below w.heap.size w w1 := by rw [← hw1]; exact (bel_alloc bel_refl).below
  have hr : RowsAt w1 (some ⟨w.heap.size, 0, none⟩) 3 2 (abc.map prC) := by rw [← hw1]; exact RowsAt.of_blk (rows := abc.map prC) (Blk.new w _ _) (fun r hr => by obtain ⟨p, _, rfl⟩ := List.mem_map.1 hr; rfl)
  have hmk := Make_any (c := 3) 4 hr (by omega) (Nat.le_refl _)
  rw [abc_mk] at hmk
  have hmk2 : Calls Try.prog 15 #[.int .i64 4, .slice (some ⟨w.heap.size, 0, none⟩) 3 3] w1 fun e w' => ∃ A c, e = .returned (.tuple #[.slice A 32 c, .int .i64 0]) ∧ Bs w' A abcB c ∧ Below w1.heap.size w1 w' := hmk
  have HMK := Lib.hid hmk2
  have HB1 := Lib.hid hb1
  have hld := fun (wi : World) (A : Option Addr) (c : Nat) (h : Bs wi A abcB c) => Load_any (m := 32) 3 rfl h.sl h.cap (by decide) h.row
  rw [abc_ld] at hld
  have HLD := Lib.hid hld
  have hl2 := fun (wi : World) => Load_any (w := wi.alloc (.cells #[.int .u8 0, .int .u8 2, .int .u8 0, .int .u8 0] 5)) (bs := [0, 2, 0, 0]) (A := some ⟨wi.heap.size, 0, none⟩) (m := 4) (c := 4) 3 rfl (slat_blk (Blk.new wi 5 (([0, 2, 0, 0] : List UInt8).map byteV)) rfl) (Nat.le_refl _) (by decide) (fun q hq => by have : wi.heap.size = q := Option.some.inj hq; simp; omega)
  rw [bad_ld] at hl2
  have HL2 := Lib.hid hl2
  have hw1' := hw1
  clear hb1 hr hmk hmk2 hld hl2
  go_enter Try.func9, Try.ntmps9
  go_wp2_with (first
    | (go_at_call 15; (with_reducible refine HMK.out.mono ?_); rintro e w2 ⟨A2, c2, rfl, hs2, hb2⟩; have HS2 := Lib.hid hs2; have HB2 := Lib.hid (HB1.out.trans (hb2.mono HB1.out.size)); clear hs2 hb2)
    | (go_at_call 10; (with_reducible refine (HLD.out _ _ _ HS2.out).mono ?_); rintro e w3 ⟨⟨m, A3, k3, c3, es, rfl, he, hm, hp⟩, hb3⟩; have HE := Lib.hid he; have HP3 := Lib.hid hp; have HB3 := Lib.hid (HB2.out.trans (hb3.mono HB2.out.size)); clear he hp hb3 HS2)
    | (go_at_call 10; (with_reducible refine (HL2.out _).mono ?_); rintro e w4 ⟨rfl, hb4⟩; have hb5 := (bel_alloc bel_refl).below.trans (hb4.mono (by simp)); have HP4 := Lib.hid (HP3.out.keep hb5); have HB4 := Lib.hid (HB3.out.trans (hb5.mono HB3.out.size)); clear hb4 hb5)
    | (go_at_call 20; (with_reducible refine (all_bel _ _ _ _).mono ?_); rintro e w5 ⟨rfl, hb5⟩; have HP5 := Lib.hid (HP4.out.keep hb5); have HB5 := Lib.hid (HB4.out.trans (hb5.mono HB4.out.size)); clear hb5)
    | (go_at_call 12; (with_reducible refine (gl_is HE.out abc_65 HP5.out).mono ?_); rintro e w6 ⟨rfl, hb6⟩; have HP6 := Lib.hid (HP5.out.keep hb6); have HB6 := Lib.hid (HB5.out.trans (hb6.mono HB5.out.size)); clear hb6)
    | (go_at_call 12; (with_reducible refine (gl_is HE.out abc_66 HP6.out).mono ?_); rintro e w7 ⟨rfl, hb7⟩; have HP7 := Lib.hid (HP6.out.keep hb7); have HB7 := Lib.hid (HB6.out.trans (hb7.mono HB6.out.size)); clear hb7)
    | (go_at_call 12; (with_reducible refine (gl_is HE.out abc_67 HP7.out).mono ?_); rintro e w8 ⟨rfl, hb8⟩; have HP8 := Lib.hid (HP7.out.keep hb8); have HB8 := Lib.hid (HB7.out.trans (hb8.mono HB7.out.size)); clear hb8)
    | (go_at_call 12; (with_reducible refine (gl_is HE.out abc_68 HP8.out).mono ?_); rintro e w9 ⟨rfl, hb9⟩; have HP9 := Lib.hid (HP8.out.keep hb9); have HB9 := Lib.hid (HB8.out.trans (hb9.mono HB8.out.size)); clear hb9)
    | (go_at_call 19; (with_reducible refine (format_any HP9.out).mono ?_); rintro e w10 ⟨rfl, rfl⟩)
    | fail)
  go_ret
  exact ⟨rfl, HB9.out⟩
theorem all_nil {u : World} (n pb : Nat) (_fr _tt : Value) (p1 p2 : Nat) (hp : Blk u pb 24 [.pointer none]) {Kp : World → World → Prop} :
    GivesB n Try.prog 44 #[.pointer (some ⟨pb, 0, none⟩), .pointer (some ⟨p1, 0, none⟩), .pointer (some ⟨p2, 0, none⟩)] ppR Kp (fun _ _ => False) (fun xs => xs = []) (fun _ => False) u := by
  intro l J Jx W hW hJ hJx hY h0
  have hp' := hp.keepB hW
  have c0 : W.cell? ⟨pb, 0, none⟩ = some (.pointer none) := hp'.cell 0
  have cl := hp'.lt
  clear hp hJx hY hp'
  refine callsIn_of_wp Try.func44 rfl trivial ?_ rfl
  simp only [Try.ntmps44, List.size_toArray, List.length_cons, List.length_nil, Nat.reduceAdd, Nat.reduceSub, Array.replicate_succ, Array.replicate_zero, List.push_toArray, List.append_toArray, List.nil_append, List.cons_append]
  gi_wp2_with fail
  refine bodyPost_ret (v := .tuple #[]) (by simp [results, Try.results44]) rfl ⟨⟨_, rfl⟩, .inl ⟨[], rfl, h0⟩⟩
theorem nil_stable {w0 : World} {n : Nat} : BStable n (fun (_ : List (Int × Int)) W => Below n w0 W) := fun _ _ _ h hb => h.trans hb
set_option maxRecDepth 100000 in
set_option maxHeartbeats 4000000 in
theorem charmapNobody_any (code : Int) (w : World) : Calls Try.prog 7 #[.int .i64 code] w fun e w' => e = .returned (.bool true) ∧ Below w.heap.size w w' := by
  refine (callsIn_wide (n := 9)).1 (callsIn_of_wp_marks Try.func7 rfl trivial ?_ rfl)
  simp only [Try.ntmps7, List.size_toArray, List.length_cons, List.length_nil, Nat.reduceAdd, Nat.reduceSub, Array.replicate_succ, Array.replicate_zero, List.push_toArray, List.append_toArray, List.nil_append, List.cons_append]
  refine wpIn_wide.2 ?_
  go_wp2_with (first
    | (go_at_call 20; (with_reducible refine (all_exp _ (.inr rfl) _ _ _).mono ?_); rintro e w1 ⟨rfl, rfl⟩)
    | (go_at_call 9; (with_reducible refine (lives_any _).mono ?_); rintro e w2 ⟨rfl, hb2⟩; obtain ⟨hc2, hf2, hz2⟩ := bcell hb2; (try simp at hz2); have HB2 := Lib.hid hb2; clear hb2))
  obtain ⟨W1, hW1⟩ : ∃ W1, (((w.alloc (.cells #[.bool false] 4)).alloc (.cells #[.pointer none] 24)).alloc (.cells #[.int .i64 0] 3)).alloc (.cells #[.int .i64 100] 3) = W1 := ⟨_, rfl⟩
  have hal : Below w.heap.size w W1 := by rw [← hW1]; exact (bel_alloc (bel_alloc (bel_alloc (bel_alloc bel_refl)))).below
  have hrb : Blk W1 w.heap.size 4 [.bool false] := by rw [← hW1]; exact (((Blk.new w 4 [_]).alloc _).alloc _).alloc _
  have hcb : Blk W1 (w.heap.size + 1) 24 [.pointer none] := by rw [← hW1]; exact ((Blk.newAt _ 24 [_] (by simp)).alloc _).alloc _
  rw [hW1] at HB2
  have hz3 : w.heap.size + 4 ≤ w2.heap.size := by omega
  clear hc2 hf2 hz2
  have HRB := Lib.hid (hrb.keepB HB2.out)
  have HCB := Lib.hid (hcb.keepB HB2.out)
  have HBW : Hid (Below w.heap.size w w2) := Lib.hid (hal.trans (HB2.out.mono hal.size))
  have HZ3 := Lib.hid hz3
  clear hal hrb hcb HB2 hW1
  refine (wpIn_wide (n := 9)).1 ?_
  refine wpIn_range_b (P := Try.prog) (n := 9) (gf := 44) (lb := #[.pointer (some ⟨w.heap.size + 1, 0, none⟩), .pointer (some ⟨w.heap.size + 1 + 1, 0, none⟩), .pointer (some ⟨w.heap.size + 1 + 2, 0, none⟩)]) rfl (enters_of Try.func44 (by kernel_rfl) rfl)
    (all_nil 8 (w.heap.size + 1) undef undef _ _ HCB.out (Kp := fun _ _ => True))
    (fun _ _ => trivial) (fun _ _ _ _ _ _ _ _ => trivial) (Below.refl _ _) (fun _ => rfl)
    (fun _ W => Below w2.heap.size w2 W) (fun _ _ _ => False) nil_stable (fun _ _ _ _ h _ => h) (Below.refl _ _)
    ?a1 (fun _ W => W) (fun _ _ => Below.refl _ _) (fun _ _ _ => trivial) ?assign (fun _ _ _ _ _ _ _ _ _ _ _ h => h.elim) ?done (fun _ _ _ _ _ h => h.elim)
  case assign =>
    intro l x W K hK
    simp only [ppR, List.zip_toArray, List.zip_cons_cons, List.zip_nil_right, List.foldl_toArray, List.foldl_cons, List.foldl_nil, List.setIfInBounds_toArray, List.set_cons_succ, List.set_cons_zero]
    gi_wp2
    exact hK
  case' done =>
    intro D xs W hD hS hI hDW
    have HR2 := Lib.hid (HRB.out.keepB hI)
    have HW2 := Lib.hid (HBW.out.trans (hI.mono HBW.out.size))
    have HD := Lib.hid (And.intro hD (And.intro hDW hI.size))
    have r0 : W.cell? ⟨w.heap.size, 0, none⟩ = some (.bool false) := HR2.out.cell 0
    have f0 := HR2.out.frozen 0
    have rl := HR2.out.lt
    clear hD hDW hI hS HRB HCB HBW
    go_wp2_with (first
      | (go_at_call 12; (with_reducible refine (glyph_nil _ _).mono ?_); rintro e w3 ⟨rfl, rfl⟩)
      | (go_at_call 19; (with_reducible refine (format_nil _).mono ?_); rintro e w3 ⟨rfl, rfl⟩)
      | fail)
  case done =>
    have hD := HD.out.1
    have hz2 := HZ3.out
    have hne : D ≠ w.heap.size := by omega
    have hD6 : (W.setCell ⟨w.heap.size, 0, none⟩ (.bool true)).heap[D]? = some (.deferred (some [])) := (Below.heap_setCell _ _ _ _ hne).trans HD.out.2.1
    have hR6 : Blk (W.setCell ⟨w.heap.size, 0, none⟩ (.bool true)) w.heap.size 4 [.bool true] := HR2.out.set 0 _
    have hpb : Below w2.heap.size (W.setCell ⟨w.heap.size, 0, none⟩ (.bool true)) ((W.setCell ⟨w.heap.size, 0, none⟩ (.bool true)).putObj D (.deferred none)) := belowK_b (w := w2) (Nat.le_refl _) _ D _ _ hD hD6 rfl rfl
    have hR7 := hR6.below hpb (by omega)
    have c7 : ((W.setCell ⟨w.heap.size, 0, none⟩ (.bool true)).putObj D (.deferred none)).cell? ⟨w.heap.size, 0, none⟩ = some (.bool true) := hR7.cell 0
    have hX : Below w.heap.size w (W.setCell ⟨w.heap.size, 0, none⟩ (.bool true)) := HW2.out.setCell (by simp) _
    refine ⟨by simp, .inl ⟨_, _, rfl, run_takeDeferred hD6, ?_⟩⟩
    refine ⟨.bool true, ?_, rfl, hX.trans (hpb.mono (by omega))⟩
    simp [results, Try.f7, go_sem, c7]
end Go.Proofs.Ytlbfefdmbdjjcaa

namespace Go.Proofs.Ytlbfefdmbdjjcaa
open Go.RowKit

theorem dot_of {W : World} {cs : List Value} (hl : cs.length = 2) (h : CellsOk W [.int .i64, .int .i64] (fun j => cs[j]?)) : ∃ a b, cs = [.int .i64 a, .int .i64 b] := by
  simp only [CellsOk, and_true] at h
  obtain ⟨⟨u, hu, ku⟩, v, hv, kv⟩ := h
  simp only [CellOk] at ku kv
  obtain ⟨x, rfl, -⟩ := ku
  obtain ⟨y, rfl, -⟩ := kv
  match cs, hl with
  | [p, q], _ =>
    simp at hu hv
    exact ⟨x, y, by rw [hu, hv]⟩
theorem box_of {W : World} {cs : List Value} (hl : cs.length = 4) (h : CellsOk W [.int .i64, .int .i64, .int .i64, .int .i64] (fun j => cs[j]?)) : ∃ a b c d, cs = [.int .i64 a, .int .i64 b, .int .i64 c, .int .i64 d] := by
  simp only [CellsOk, and_true] at h
  obtain ⟨⟨u, hu, ku⟩, ⟨v, hv, kv⟩, ⟨s, hs, ks⟩, t, ht, kt⟩ := h
  simp only [CellOk] at ku kv ks kt
  obtain ⟨x, rfl, -⟩ := ku
  obtain ⟨y, rfl, -⟩ := kv
  obtain ⟨z, rfl, -⟩ := ks
  obtain ⟨o, rfl, -⟩ := kt
  match cs, hl with
  | [p, q, r, m], _ =>
    simp at hu hv hs ht
    exact ⟨x, y, z, o, by rw [hu, hv, hs, ht]⟩
end Go.Proofs.Ytlbfefdmbdjjcaa
