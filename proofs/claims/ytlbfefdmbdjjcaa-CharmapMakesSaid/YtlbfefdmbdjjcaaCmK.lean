/-
  Layer 08: Load.
-/
import Derived.Test.YtlbfefdmbdjjcaaCmJ
namespace Go.Proofs.Ytlbfefdmbdjjcaa
open Go.RowKit

theorem slat_take {w : World} {A : Option Addr} {n k : Nat} {bs : List UInt8} (h : SlAt w A n (bs.map byteV)) (hk : k ≤ n) : SlAt w A k ((bs.take k).map byteV) := by
  have hn := h.1
  rw [List.length_map] at hn
  refine ⟨by rw [List.length_map, List.length_take]; omega, fun i hi => ?_⟩
  obtain ⟨b, o, hA, hb, hc⟩ := h.2 i (by omega)
  refine ⟨b, o, hA, hb, hc.trans ?_⟩
  rw [List.getElem?_map, List.getElem?_map, List.getElem?_take, if_pos hi]
theorem LdR.form {v : Option (List Sv)} {w w' : World} {e : Ending} (h : LdR v w e w') : ∃ A k c ok, e = .returned (.tuple #[.slice A k c, .bool ok]) ∧ LdR v w (.returned (.tuple #[.slice A k c, .bool ok])) w' := by
  have h' := h
  obtain ⟨h1, h2⟩ := h
  cases v with
  | none =>
    obtain ⟨A, k, c, rfl⟩ := h1
    exact ⟨_, _, _, _, rfl, h'⟩
  | some l =>
    obtain ⟨A, k, c, es, rfl, _, _⟩ := h1
    exact ⟨_, _, _, _, rfl, h'⟩
set_option maxRecDepth 20000 in
set_option maxHeartbeats 8000000 in
theorem load_any {w : World} {bs : List UInt8} {A : Option Addr} {m c : Nat} (fmt : Int) (hn : bs.length = m) (hs : SlAt w A m (bs.map byteV)) (hc : m ≤ c) (hm : m ≤ 1000000) (hA : ∀ k, rowOf A = some k → k < w.heap.size) :
    Calls Try.prog 26 #[.slice A m c, .int .i64 fmt] w (LdR (loadS bs fmt) w) := by
  have h0 := Lib.hid (load0_any hn hs hc (by omega))
  have h4 := Lib.hid (load4_any hn hs hc hm hA)
  have h6 := Lib.hid (load6_any hn hs hc (by omega) hA)
  have h12 := Lib.hid (load12_any hn hs hc hm hA)
  clear hn hs hA
  have hcs : (fmt == 0) = true ∧ loadS bs fmt = load0S bs ∨ ((fmt == 0) = false ∧ (fmt == 4) = true) ∧ loadS bs fmt = load4S bs ∨ ((fmt == 0) = false ∧ (fmt == 4) = false ∧ (fmt == 6) = true) ∧ loadS bs fmt = load6S bs ∨ ((fmt == 0) = false ∧ (fmt == 4) = false ∧ (fmt == 6) = false) ∧ loadS bs fmt = load12S bs := by
    unfold loadS
    by_cases e0 : fmt = 0
    · exact .inl ⟨by simpa using e0, if_pos e0⟩
    · by_cases e4 : fmt = 4
      · exact .inr (.inl ⟨⟨by simpa using e0, by simpa using e4⟩, by rw [if_neg e0, if_pos e4]⟩)
      · by_cases e6 : fmt = 6
        · exact .inr (.inr (.inl ⟨⟨by simpa using e0, by simpa using e4, by simpa using e6⟩, by rw [if_neg e0, if_neg e4, if_pos e6]⟩))
        · exact .inr (.inr (.inr ⟨⟨by simpa using e0, by simpa using e4, by simpa using e6⟩, by rw [if_neg e0, if_neg e4, if_neg e6]⟩))
  rcases hcs with ⟨e0, hv⟩ | ⟨⟨e0, e4⟩, hv⟩ | ⟨⟨e0, e4, e6⟩, hv⟩ | ⟨⟨e0, e4, e6⟩, hv⟩
  · rw [hv]
    generalize load0S bs = v at h0
    clear hv h4 h6 h12
    go_enter Try.func26, Try.ntmps26
    go_wp2_with (first | (go_at_call 50; (with_reducible refine h0.out.mono ?_); rintro e w1 hv; obtain ⟨A1, k1, c1, ok, rfl, hv2⟩ := hv.form; have HV := Lib.hid hv2; clear hv2 hv) | fail)
    go_ret2
    exact HV.out
  · rw [hv]
    generalize load4S bs = v at h4
    clear hv h0 h6 h12
    go_enter Try.func26, Try.ntmps26
    go_wp2_with (first | (go_at_call 51; (with_reducible refine h4.out.mono ?_); rintro e w1 hv; obtain ⟨A1, k1, c1, ok, rfl, hv2⟩ := hv.form; have HV := Lib.hid hv2; clear hv2 hv) | fail)
    go_ret2
    exact HV.out
  · rw [hv]
    generalize load6S bs = v at h6
    clear hv h0 h4 h12
    go_enter Try.func26, Try.ntmps26
    go_wp2_with (first | (go_at_call 52; (with_reducible refine h6.out.mono ?_); rintro e w1 hv; obtain ⟨A1, k1, c1, ok, rfl, hv2⟩ := hv.form; have HV := Lib.hid hv2; clear hv2 hv) | fail)
    go_ret2
    exact HV.out
  · rw [hv]
    generalize load12S bs = v at h12
    clear hv h0 h4 h6
    go_enter Try.func26, Try.ntmps26
    go_wp2_with (first | (go_at_call 53; (with_reducible refine h12.out.mono ?_); rintro e w1 hv; obtain ⟨A1, k1, c1, ok, rfl, hv2⟩ := hv.form; have HV := Lib.hid hv2; clear hv2 hv) | fail)
    go_ret2
    exact HV.out
def LoadR (v : LdV) (n : Int) (w : World) (e : Ending) (w' : World) : Prop :=
  (match v with
    | .err x => e = .returned (.tuple #[.pointer none, .int .i64 x])
    | .ok fmt l => ∃ m A k c es, e = .returned (.tuple #[.pointer (some ⟨m, 0, none⟩), .int .i64 0]) ∧ es.map sgV = l ∧ w.heap.size ≤ m ∧ Mp w' m fmt n A k c es) ∧ Below w.heap.size w w'
theorem lo_err {v : LdV} {n x : Int} {w w' : World} (h : v = .err x) (hb : Below w.heap.size w w') : LoadR v n w (.returned (.tuple #[.pointer none, .int .i64 x])) w' := by subst h; exact ⟨rfl, hb⟩
theorem lo_ok {v : LdV} {n fmt : Int} {w w' : World} {m : Nat} {A : Option Addr} {k c : Nat} {es : List Sg} (h : v = .ok fmt (es.map sgV)) (hm : w.heap.size ≤ m) (hp : Mp w' m fmt n A k c es) (hb : Below w.heap.size w w') : LoadR v n w (.returned (.tuple #[.pointer (some ⟨m, 0, none⟩), .int .i64 0])) w' := by
  subst h; exact ⟨⟨_, _, _, _, _, rfl, rfl, hm, hp⟩, hb⟩
set_option maxRecDepth 20000 in
set_option maxHeartbeats 8000000 in
theorem Load_any {w : World} {bs : List UInt8} {A : Option Addr} {m c : Nat} (n : Int) (hn : bs.length = m) (hs : SlAt w A m (bs.map byteV)) (hc : m ≤ c) (hm : m ≤ 1000000) (hA : ∀ k, rowOf A = some k → k < w.heap.size) :
    Calls Try.prog 10 #[.slice A m c, .int .i64 n] w (LoadR (ldV bs n) n w) := by
  by_cases hnb : n < 1 ∨ 65535 < n
  · have hv : ldV bs n = .err 1 := by unfold ldV; rw [if_pos hnb]
    have HV := Lib.hid hv
    have hcs : n < 1 ∨ (¬ n < 1 ∧ ¬ n ≤ 65535) := by omega
    clear hv hnb hs
    rcases hcs with q1 | ⟨q1, q2⟩
    all_goals
      go_enter Try.func10, Try.ntmps10
      go_wp2_with fail
      go_ret2
      exact lo_err HV.out (Below.refl _ _)
  have n0 : ¬ n < 1 := by omega
  have n1 : n ≤ 65535 := by omega
  have HN := Lib.hid (cu_new hn hs hc (by omega) hA)
  obtain ⟨f, hf⟩ : ∃ f : Int, (numF bs (0, false) 2 : Int) = f := ⟨_, rfl⟩
  obtain ⟨s1, h1⟩ : ∃ s, advF bs (0, false) 2 = s := ⟨_, rfl⟩
  have HF := Lib.hid hf
  have H1 := Lib.hid h1
  by_cases h2 : m < 2
  · have hb : s1.2 = true := by rw [← h1, advF_bad (.inr (by show bs.length < 0 + 2; omega))]
    have hv : ldV bs n = .err 80 := by unfold ldV; rw [if_neg hnb, if_pos (by omega)]
    have HV := Lib.hid hv
    have HD : Hid (∀ wi, Cu w wi bs s1 A c → Calls Try.prog 23 #[.pointer (some ⟨w.heap.size, 0, none⟩)] wi fun e w' => e = .returned (.int .i64 30) ∧ wi = w') := Lib.hid fun wi h => by have := cu_done h; rw [hb] at this; exact this
    clear hv hb h1 hf hs hn hA hnb
    go_enter Try.func10, Try.ntmps10
    go_wp2_with (first
      | (go_at_call 21; (with_reducible refine HN.out.mono ?_); rintro e w1 ⟨rfl, hu⟩; have HC0 := Lib.hid hu; clear hu)
      | (go_at_call 22; (with_reducible refine (cu_u16 HC0.out HF.out H1.out).mono ?_); rintro e w3 ⟨rfl, hu⟩; have HC1 := Lib.hid hu; clear hu HC0)
      | (go_at_call 23; (with_reducible refine (HD.out _ HC1.out).mono ?_); rintro e w1 ⟨rfl, rfl⟩)
      | fail)
    go_ret2
    exact lo_err HV.out HC1.out.bel
  have e1 : s1 = (2, false) := by rw [← h1, advF_ok (by omega)]
  subst e1
  have ef : be16 bs 0 = f := by rw [← hf, numF_ok (by omega)]; rfl
  have hv : ldV bs n = if isFmtB f = false then .err 81 else if sizeS bs f < 0 ∨ (m : Int) < sizeS bs f then .err 80 else ldM (loadS (bs.take (sizeS bs f).toNat) f) f := by
    unfold ldV
    rw [if_neg hnb, if_neg (by omega), ef, hn]
  have HV := Lib.hid hv
  have HD : Hid (∀ wi, Cu w wi bs (2, false) A c → Calls Try.prog 23 #[.pointer (some ⟨w.heap.size, 0, none⟩)] wi fun e w' => e = .returned (.int .i64 0) ∧ wi = w') := Lib.hid fun wi h => cu_done h
  obtain ⟨fb, hfb⟩ : ∃ b, isFmtB f = b := ⟨_, rfl⟩
  have HIF := Lib.hid fun wi => isFormat_any f wi
  rw [hfb] at HIF
  cases fb with
  | false =>
    have hv2 := hv.trans (if_pos hfb)
    have HV2 := Lib.hid hv2
    clear hv hv2 h1 hf hs hn hA hnb ef HV
    go_enter Try.func10, Try.ntmps10
    go_wp2_with (first
      | (go_at_call 21; (with_reducible refine HN.out.mono ?_); rintro e w1 ⟨rfl, hu⟩; have HC0 := Lib.hid hu; clear hu)
      | (go_at_call 22; (with_reducible refine (cu_u16 HC0.out HF.out H1.out).mono ?_); rintro e w3 ⟨rfl, hu⟩; have HC1 := Lib.hid hu; clear hu HC0)
      | (go_at_call 23; (with_reducible refine (HD.out _ HC1.out).mono ?_); rintro e w1 ⟨rfl, rfl⟩)
      | (go_at_call 24; (with_reducible refine (HIF.out _).mono ?_); rintro e w4 ⟨rfl, hb⟩; have HB4 := Lib.hid (HC1.out.bel.trans (hb.mono HC1.out.bel.size)); clear hb)
      | fail)
    go_ret2
    exact lo_err HV2.out HB4.out
  | true =>
    have hv2 := hv.trans (if_neg (by rw [hfb]; simp))
    obtain ⟨z, hz⟩ : ∃ z : Int, sizeS bs f = z := ⟨_, rfl⟩
    rw [hz] at hv2
    have HSZ : Hid (∀ wi, Below w.heap.size w wi → Calls Try.prog 25 #[.slice A m c, .int .i64 f] wi (IntR z wi)) := Lib.hid fun wi hb => by
      have := size_any f hn (hs.keep hb) hc (by omega) (fun k hk => Nat.lt_of_lt_of_le (hA k hk) hb.size)
      rw [hz] at this
      exact this
    by_cases hzb : z < 0 ∨ (m : Int) < z
    · have hv3 := hv2.trans (if_pos hzb)
      have HV3 := Lib.hid hv3
      have hcs : z < 0 ∨ (¬ z < 0 ∧ ¬ z ≤ m) := by omega
      clear hv hv2 hv3 h1 hf hs hn hA hnb ef HV hzb hz
      rcases hcs with q1 | ⟨q1, q2⟩
      all_goals
        go_enter Try.func10, Try.ntmps10
        go_wp2_with (first
          | (go_at_call 21; (with_reducible refine HN.out.mono ?_); rintro e w1 ⟨rfl, hu⟩; have HC0 := Lib.hid hu; clear hu)
          | (go_at_call 22; (with_reducible refine (cu_u16 HC0.out HF.out H1.out).mono ?_); rintro e w3 ⟨rfl, hu⟩; have HC1 := Lib.hid hu; clear hu HC0)
          | (go_at_call 23; (with_reducible refine (HD.out _ HC1.out).mono ?_); rintro e w1 ⟨rfl, rfl⟩)
          | (go_at_call 24; (with_reducible refine (HIF.out _).mono ?_); rintro e w4 ⟨rfl, hb⟩; have HB4 := Lib.hid (HC1.out.bel.trans (hb.mono HC1.out.bel.size)); clear hb)
          | (go_at_call 25; (with_reducible refine (HSZ.out _ HB4.out).mono ?_); rintro e w5 ⟨rfl, hb⟩; have HB5 := Lib.hid (HB4.out.trans (hb.mono HB4.out.size)); clear hb)
          | fail)
        go_ret2
        exact lo_err HV3.out HB5.out
    have hv3 := hv2.trans (if_neg hzb)
    obtain ⟨k, rfl⟩ : ∃ k : Nat, z = k := ⟨z.toNat, by omega⟩
    rw [Int.toNat_natCast] at hv3
    have hkm : k ≤ m := by omega
    have hkm' : (k : Int) ≤ m := by omega
    have hkc : k ≤ c := by omega
    have HLD : Hid (∀ wi, Below w.heap.size w wi → Calls Try.prog 26 #[.slice A k c, .int .i64 f] wi (LdR (loadS (bs.take k) f) wi)) := Lib.hid fun wi hb => by
      exact load_any f (by rw [List.length_take]; omega) (slat_take (hs.keep hb) hkm) hkc (by omega) (fun k hk => Nat.lt_of_lt_of_le (hA k hk) hb.size)
    have hrs : ∀ l, loadS (bs.take k) f = some l → SvRise l ∧ l.length ≤ 1114112 := fun l h => loadS_rise h (by rw [List.length_take]; omega)
    cases hl : loadS (bs.take k) f with
    | none =>
      rw [hl] at hv3 HLD
      have HV3 := Lib.hid (hv3.trans (show ldM _ f = _ from rfl))
      clear hv hv2 hv3 h1 hf hs hn hA hnb ef HV hzb hz hrs
      go_enter Try.func10, Try.ntmps10
      go_wp2_with (first
        | (go_at_call 21; (with_reducible refine HN.out.mono ?_); rintro e w1 ⟨rfl, hu⟩; have HC0 := Lib.hid hu; clear hu)
        | (go_at_call 22; (with_reducible refine (cu_u16 HC0.out HF.out H1.out).mono ?_); rintro e w3 ⟨rfl, hu⟩; have HC1 := Lib.hid hu; clear hu HC0)
        | (go_at_call 23; (with_reducible refine (HD.out _ HC1.out).mono ?_); rintro e w1 ⟨rfl, rfl⟩)
        | (go_at_call 24; (with_reducible refine (HIF.out _).mono ?_); rintro e w4 ⟨rfl, hb⟩; have HB4 := Lib.hid (HC1.out.bel.trans (hb.mono HC1.out.bel.size)); clear hb)
        | (go_at_call 25; (with_reducible refine (HSZ.out _ HB4.out).mono ?_); rintro e w5 ⟨rfl, hb⟩; have HB5 := Lib.hid (HB4.out.trans (hb.mono HB4.out.size)); clear hb)
        | (go_at_call 26; (with_reducible refine (HLD.out _ HB5.out).mono ?_); rintro e w6 ⟨⟨A6, k6, c6, rfl⟩, hb⟩; have HB6 := Lib.hid (HB5.out.trans (hb.mono HB5.out.size)); clear hb)
        | fail)
      go_ret2
      exact lo_err HV3.out HB6.out
    | some l =>
      rw [hl] at hv3 HLD
      have HRS := Lib.hid (hrs _ hl)
      have HV3 := Lib.hid (hv3.trans (show ldM _ f = _ from rfl))
      clear hv hv2 hv3 h1 hf hs hn hA hnb ef HV hzb hz hrs
      go_enter Try.func10, Try.ntmps10
      go_wp2_with (first
        | (go_at_call 21; (with_reducible refine HN.out.mono ?_); rintro e w1 ⟨rfl, hu⟩; have HC0 := Lib.hid hu; clear hu)
        | (go_at_call 22; (with_reducible refine (cu_u16 HC0.out HF.out H1.out).mono ?_); rintro e w3 ⟨rfl, hu⟩; have HC1 := Lib.hid hu; clear hu HC0)
        | (go_at_call 23; (with_reducible refine (HD.out _ HC1.out).mono ?_); rintro e w1 ⟨rfl, rfl⟩)
        | (go_at_call 24; (with_reducible refine (HIF.out _).mono ?_); rintro e w4 ⟨rfl, hb⟩; have HB4 := Lib.hid (HC1.out.bel.trans (hb.mono HC1.out.bel.size)); clear hb)
        | (go_at_call 25; (with_reducible refine (HSZ.out _ HB4.out).mono ?_); rintro e w5 ⟨rfl, hb⟩; have HB5 := Lib.hid (HB4.out.trans (hb.mono HB4.out.size)); clear hb)
        | (go_at_call 26; (with_reducible refine (HLD.out _ HB5.out).mono ?_); rintro e w6 ⟨⟨A6, k6, c6, es, rfl, rfl, hsg⟩, hb⟩; have HB6 := Lib.hid (HB5.out.trans (hb.mono HB5.out.size)); have HSG := Lib.hid hsg; clear hb hsg)
        | fail)
      go_ret2
      have hln := HSG.out.len
      have hk1 := HRS.out.2
      rw [List.length_map] at hk1
      exact lo_ok HV3.out HB6.out.size ⟨Blk.newAt _ _ [.int .i64 f, .int .i64 n, .slice A6 k6 c6] rfl, HSG.out.keep (bel_alloc bel_refl).below, HRS.out.1, by omega, n1, by omega⟩ (HB6.out.trans ((bel_alloc bel_refl).below.mono HB6.out.size))
end Go.Proofs.Ytlbfefdmbdjjcaa
