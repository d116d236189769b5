/-
  Layer 08: format 4.
-/
import Derived.Test.YtlbfefdmbdjjcaaCmH
namespace Go.Proofs.Ytlbfefdmbdjjcaa
open Go.RowKit

theorem OwI.tn {B : Nat} {w w' : World} {A : Option Addr} {L c r : Nat} {xs : List Int} (h : OwI B w A L c xs) (ht : Tn (fun i => i = r) w w') (hr : r < B) : OwI B w' A L c xs :=
  h.stay ht.size fun k hB hk => ht.block k hk (by omega)
theorem cu_u16T {w wi : World} {bs : List UInt8} {s : Nat × Bool} {A : Option Addr} {c : Nat} (h : Cu w wi bs s A c) {s' : Nat × Bool} {x : Int} (hx : (numF bs s 2 : Int) = x) (hs : advF bs s 2 = s') :
    Calls Try.prog 22 #[.pointer (some ⟨w.heap.size, 0, none⟩)] wi fun e w' => e = .returned (.int .i64 x) ∧ Cu w w' bs s' A c ∧ Tn (fun i => i = w.heap.size) wi w' := by
  subst hs hx
  exact (rU16_any wi _ bs s A c h.rd).mono fun e w' ⟨he, hr, ht⟩ => ⟨he, h.turn hr ht, Tn.turn1 ht⟩
theorem cu_wordsT {w wi : World} {bs : List UInt8} {s : Nat × Bool} {A : Option Addr} {c : Nat} (h : Cu w wi bs s A c) {s' : Nat × Bool} {x : Int} {l : List Int} (k : Nat) (hk : x = k) (hn : k ≤ 1114112) (hl : wL bs s k = l) (hs : wS bs s k = s') :
    Calls Try.prog 78 #[.pointer (some ⟨w.heap.size, 0, none⟩), .int .i64 x] wi fun e w' => ∃ A' c', e = .returned (.slice A' k c') ∧ OwI wi.heap.size w' A' k c' l ∧ Cu w w' bs s' A c ∧ Tn (fun i => i = w.heap.size) wi w' := by
  subst hs hk hl
  have hz := h.bel.size
  exact (words_any k h.rd (fun k hk => by have := h.row k hk; omega) hn).mono fun e w' ⟨A', c', he, ho, hr, ht⟩ => ⟨A', c', he, ho, ⟨hr, h.bel.trans (ht.below (fun i hi => by omega) hz), h.row⟩, ht⟩
/-- Segment i of n in format 4, its first and its last code point told. -/
def seg4 (bs : List UInt8) (n i : Nat) : Option Sv :=
  let e := be16 bs (14 + 2 * i)
  let f := be16 bs (16 + 2 * n + 2 * i)
  let d := be16 bs (16 + 4 * n + 2 * i)
  let o := be16 bs (16 + 6 * n + 2 * i)
  if o = 0 ∨ (o = 65535 ∧ f = 65535) then some ⟨f, e, f + d, true, none, d⟩
  else (lisS bs (16 + 6 * n + 2 * i + o.toNat) o.toNat (e - f + 1).toNat).map fun xs => ⟨f, e, f + d, true, some xs, d⟩
def segs4 (bs : List UInt8) (n : Nat) : Nat → Option (List Sv)
  | 0 => some []
  | i + 1 => (segs4 bs n i).bind fun l =>
    if be16 bs (14 + 2 * i) < be16 bs (16 + 2 * n + 2 * i) ∨ be16 bs (16 + 2 * n + 2 * i) ≤ lastL (-1) l then none
    else (seg4 bs n i).map fun s => l ++ [s]
theorem segs4_none {bs : List UInt8} {n i : Nat} (h : segs4 bs n i = none) : ∀ j, i ≤ j → segs4 bs n j = none := by
  intro j hj
  obtain ⟨k, rfl⟩ : ∃ k, j = i + k := ⟨j - i, by omega⟩
  induction k with
  | zero => exact h
  | succ k ih =>
    show (segs4 bs n (i + k)).bind _ = none
    rw [ih (by omega)]
    rfl
def load4S (bs : List UInt8) : Option (List Sv) :=
  if bs.length < 8 then none
  else if bs.length % 2 ≠ 0 ∨ be16 bs 6 % 2 ≠ 0 ∨ be16 bs 6 / 2 < 1 ∨ (bs.length : Int) < 16 + 8 * (be16 bs 6 / 2) then none
  else (segs4 bs (be16 bs 6 / 2).toNat (be16 bs 6 / 2).toNat).bind fun l => if lastL (-1) l = 65535 then some l else none
set_option maxRecDepth 20000 in
set_option maxHeartbeats 8000000 in
theorem load4_any {w : World} {bs : List UInt8} {A : Option Addr} {m c : Nat} (hn : bs.length = m) (hs : SlAt w A m (bs.map byteV)) (hc : m ≤ c) (hm : m ≤ 1000000) (hA : ∀ k, rowOf A = some k → k < w.heap.size) :
    Calls Try.prog 51 #[.slice A m c] w (LdR (load4S bs) w) := by
  have HN := Lib.hid (cu_new hn hs hc (by omega) hA)
  obtain ⟨s1, h1⟩ : ∃ s, skF bs (0, false) 6 = s := ⟨_, rfl⟩
  obtain ⟨t, ht⟩ : ∃ t : Nat, numF bs s1 2 = t := ⟨_, rfl⟩
  obtain ⟨s2, h2⟩ : ∃ s, advF bs s1 2 = s := ⟨_, rfl⟩
  have htb := numF_lt bs s1 2
  rw [ht] at htb
  have ht1 : t ≤ 65535 := by omega
  obtain ⟨n, hnt⟩ : ∃ n : Nat, t / 2 = n := ⟨_, rfl⟩
  have htd : (t : Int).tdiv 2 = (n : Nat) := by rw [Int.tdiv_eq_ediv_of_nonneg (by omega)]; omega
  have hn1 : n ≤ 32767 := by omega
  have H1 := Lib.hid h1
  have HT : Hid ((numF bs s1 2 : Int) = (t : Nat)) := Lib.hid (by rw [ht])
  have H2 := Lib.hid h2
  have HND := Lib.hid hn
  have hmt : (m : Int).tmod 2 = (m : Int) % 2 := Int.tmod_eq_emod_of_nonneg (by omega)
  have htt : (t : Int).tmod 2 = (t : Int) % 2 := Int.tmod_eq_emod_of_nonneg (by omega)
  have hdef : (m % 2 ≠ 0 ∨ t % 2 ≠ 0 ∨ n < 1 ∨ m < 16 + 8 * n) → load4S bs = none := by
    intro h
    unfold load4S
    by_cases h8 : bs.length < 8
    · rw [if_pos h8]
    · rw [if_neg h8]
      rw [sk_of, if_neg (by simp; omega)] at h1
      rw [← h1, numF_ok (by omega)] at ht
      have e : be16 bs 6 = (t : Nat) := by rw [← ht]; rfl
      rw [e, if_pos (by omega)]
  have h8 : ¬ (m % 2 ≠ 0 ∨ t % 2 ≠ 0 ∨ n < 1 ∨ m < 16 + 8 * n) → s2 = (8, false) ∧ load4S bs = (segs4 bs n n).bind fun l => if lastL (-1) l = 65535 then some l else none := by
    intro h
    have h6 : ¬ bs.length < 8 := by omega
    rw [sk_of, if_neg (by simp; omega)] at h1
    refine ⟨by rw [← h2, ← h1, advF_ok (by omega)], ?_⟩
    rw [← h1, numF_ok (by omega)] at ht
    have e : be16 bs 6 = (t : Nat) := by rw [← ht]; rfl
    have e2 : ((t : Int) / 2) = (n : Nat) := by omega
    unfold load4S
    rw [if_neg h6, e, if_neg (by omega), e2, Int.toNat_natCast]
  by_cases hbad : m % 2 ≠ 0 ∨ t % 2 ≠ 0 ∨ n < 1 ∨ m < 16 + 8 * n
  · have hv := hdef hbad
    have HV := Lib.hid hv
    have hcs : ((m : Int) % 2 != 0) = true ∨ (((m : Int) % 2 != 0) = false ∧ ((t : Int) % 2 != 0) = true) ∨ (((m : Int) % 2 != 0) = false ∧ ((t : Int) % 2 != 0) = false ∧ (n : Int) < 1) ∨ (((m : Int) % 2 != 0) = false ∧ ((t : Int) % 2 != 0) = false ∧ ¬ (n : Int) < 1 ∧ (m : Int) < 16 + 8 * n) := by
      simp only [bne_iff_ne, bne_eq_false_iff_eq]
      omega
    clear hv h1 ht h2 htb hnt hn hdef h8 hs hA hbad
    rcases hcs with q1 | ⟨q1, q2⟩ | ⟨q1, q2, q3⟩ | ⟨q1, q2, q3, q4⟩
    all_goals
      go_enter Try.func51, Try.ntmps51
      go_wp2_with (first
        | (go_at_call 21; (with_reducible refine HN.out.mono ?_); rintro e w1 ⟨rfl, hu⟩; have HC0 := Lib.hid hu; clear hu)
        | (go_at_call 48; (with_reducible refine (cu_seek HC0.out 6 nat6 H1.out).mono ?_); rintro e w2 ⟨⟨v2, rfl⟩, hu⟩; have HC1 := Lib.hid hu; clear hu HC0)
        | (go_at_call 22; (with_reducible refine (cu_u16 HC1.out HT.out H2.out).mono ?_); rintro e w3 ⟨rfl, hu⟩; have HC2 := Lib.hid hu; clear hu HC1)
        | fail)
      go_ret2
      exact ld_no HV.out HC2.out.bel
  · obtain ⟨e2, hv⟩ := h8 hbad
    subst e2
    have HV := Lib.hid hv
    have hgd : ((m : Int) % 2 != 0) = false ∧ ((t : Int) % 2 != 0) = false ∧ ¬ (n : Int) < 1 ∧ ¬ (m : Int) < 16 + 8 * n := by
      simp only [bne_eq_false_iff_eq]
      omega
    obtain ⟨q1, q2, q3, q4⟩ := hgd
    have hmn : 16 + 8 * n ≤ m := by omega
    have HMN := Lib.hid hmn
    obtain ⟨le, hle⟩ : ∃ l, wL bs (14, false) n = l := ⟨_, rfl⟩
    obtain ⟨lf, hlf⟩ : ∃ l, wL bs (16 + 2 * n, false) n = l := ⟨_, rfl⟩
    obtain ⟨ld, hld⟩ : ∃ l, wL bs (16 + 4 * n, false) n = l := ⟨_, rfl⟩
    obtain ⟨lo, hlo⟩ : ∃ l, wL bs (16 + 6 * n, false) n = l := ⟨_, rfl⟩
    have A8 : Hid (advF bs (8, false) 6 = (14, false)) := Lib.hid (by rw [advF_ok (by omega)])
    have LE := Lib.hid hle
    have LF := Lib.hid hlf
    have LD := Lib.hid hld
    have LO := Lib.hid hlo
    have S1 : Hid (wS bs (14, false) n = (14 + 2 * n, false)) := Lib.hid (wS_ok (by omega))
    have A9 : Hid (advF bs (14 + 2 * n, false) 2 = (16 + 2 * n, false)) := Lib.hid (by rw [advF_ok (by omega), show 14 + 2 * n + 2 = 16 + 2 * n by omega])
    have S2 : Hid (wS bs (16 + 2 * n, false) n = (16 + 4 * n, false)) := Lib.hid (by rw [wS_ok (by omega), show 16 + 2 * n + 2 * n = 16 + 4 * n by omega])
    have S3 : Hid (wS bs (16 + 4 * n, false) n = (16 + 6 * n, false)) := Lib.hid (by rw [wS_ok (by omega), show 16 + 4 * n + 2 * n = 16 + 6 * n by omega])
    clear hv h1 ht h2 htb hnt hdef h8 hbad hle hlf hld hlo
    have HS := Lib.hid hs
    have HAA := Lib.hid hA
    clear hs hA hn
    obtain ⟨pd, hpd⟩ : ∃ x : Int, (numF bs (14 + 2 * n, false) 2 : Int) = x := ⟨_, rfl⟩
    have PD := Lib.hid hpd
    clear hpd
    go_enter Try.func51, Try.ntmps51
    go_wp2_with (first
      | (go_at_call 21; (with_reducible refine HN.out.mono ?_); rintro e w1 ⟨rfl, hu⟩; have HC0 := Lib.hid hu; clear hu)
      | (go_at_call 48; (with_reducible refine (cu_seek HC0.out 6 nat6 H1.out).mono ?_); rintro e w2 ⟨⟨v2, rfl⟩, hu⟩; have HC1 := Lib.hid hu; clear hu HC0)
      | (go_at_call 22; (with_reducible refine (cu_u16 HC1.out HT.out H2.out).mono ?_); rintro e w3 ⟨rfl, hu⟩; have HC2 := Lib.hid hu; clear hu HC1)
      | (go_at_call 77; (with_reducible refine (cu_take HC2.out 6 nat6 (by omega) A8.out).mono ?_); rintro e w4 ⟨⟨v4, rfl⟩, hu⟩; have HC3 := Lib.hid hu; clear hu HC2)
      | (go_at_call 78; (with_reducible refine (cu_wordsT (x := (n : Int)) HC3.out n rfl (by omega) LE.out S1.out).mono ?_); rintro e w5 ⟨A5, c5, rfl, ho, hu, ht⟩; have HC5 := Lib.hid hu; have HO5 := Lib.hid ho; have hr5 : w.heap.size < w4.heap.size := HC3.out.rd.blk.lt; clear hu ho ht HC3)
      | (go_at_call 22; (with_reducible refine (cu_u16T HC5.out PD.out A9.out).mono ?_); rintro e w6 ⟨rfl, hu, ht⟩; have HC6 := Lib.hid hu; have HT6 := Lib.hid ht; clear hu HC5 ht)
      | (go_at_call 78; (with_reducible refine (cu_wordsT (x := (n : Int)) HC6.out n rfl (by omega) LF.out S2.out).mono ?_); rintro e w7 ⟨A7, c7, rfl, ho, hu, ht⟩; have HC7 := Lib.hid hu; have HO7 := Lib.hid ho; have HT7 := Lib.hid ht; clear hu ho ht HC6)
      | (go_at_call 78; (with_reducible refine (cu_wordsT (x := (n : Int)) HC7.out n rfl (by omega) LD.out S3.out).mono ?_); rintro e w8 ⟨A8', c8, rfl, ho, hu, ht⟩; have HC8 := Lib.hid hu; have HO8 := Lib.hid ho; have HT8 := Lib.hid ht; clear hu ho ht HC7)
      | (go_at_call 79; (with_reducible refine (at_W _ _ _ _ _ _ _ HC8.out.rd).mono ?_); rintro e w9 ⟨rfl, rfl⟩)
      | (go_at_call 78; (with_reducible refine (cu_wordsT (x := (n : Int)) HC8.out n rfl (by omega) LO.out rfl).mono ?_); rintro e w9 ⟨A9', c9, rfl, ho, hu, ht⟩; have HC9 := Lib.hid hu; have HO9 := Lib.hid ho; have HT9 := Lib.hid ht; clear hu ho ht)
      | fail)
    have hz5 := HO5.out.le
    have HL1 : Hid (SlAt w9 A5 n (le.map (Value.int .i64))) := Lib.hid ((HO5.out.tn (((HT6.out.trans HT7.out).trans HT8.out).trans HT9.out) hr5).sl)
    have HL2 : Hid (SlAt w9 A7 n (lf.map (Value.int .i64))) := Lib.hid ((HO7.out.tn (HT8.out.trans HT9.out) (by have := HT6.out.size; omega)).sl)
    have HL3 : Hid (SlAt w9 A8' n (ld.map (Value.int .i64))) := Lib.hid ((HO8.out.tn HT9.out (by have := HT6.out.size; have := HT7.out.size; omega)).sl)
    have HL4 : Hid (SlAt w9 A9' n (lo.map (Value.int .i64))) := Lib.hid HO9.out.sl
    have HBW := Lib.hid HC9.out.bel
    have hwz := HC9.out.rd.blk.lt
    clear HO5 HO7 HO8 HO9 HT6 HT7 HT8 HT9 HC9 hr5 hz5 q3
    have q3 : 0 < n := by omega
    go_loopw [12, 13, 66] (fun vl la i wr => ∃ (j : Nat) (Al : Option Addr) (kl cl : Nat) (es : List Sg) (z : Int), j ≤ n ∧ i = .int .i64 j ∧ vl = .slice Al kl cl ∧ la = .int .i64 z ∧ kl ≤ j ∧ Hid (segs4 bs n j = some (es.map sgV) ∧ lastL (-1) (es.map sgV) = z) ∧ Hid (SgP w9.heap.size wr Al kl cl es) ∧ Hid (Below w9.heap.size w9 wr) ∧ (-1 ≤ z ∧ z ≤ 65535)) (fun _ _ i _ => n - (intOf i).toNat)
    case atStart => exact ⟨0, none, 0, 0, [], -1, Nat.zero_le _, rfl, rfl, rfl, Nat.le_refl _, Lib.hid ⟨rfl, rfl⟩, Lib.hid (SgP.nil (Nat.le_refl _)), Lib.hid (Below.refl _ _), by omega, by omega⟩
    case round =>
      obtain ⟨j, Al, kl, cl, es, z, hj, rfl, rfl, rfl, hkl, HE, HP, HB, hz0, hz1⟩ := hrel
      have hzr := HB.out.size
      by_cases hlt : j < n
      · obtain ⟨ve, hve⟩ : ∃ x : Int, be16 bs (14 + 2 * j) = x := ⟨_, rfl⟩
        obtain ⟨vf, hvf⟩ : ∃ x : Int, be16 bs (16 + 2 * n + 2 * j) = x := ⟨_, rfl⟩
        obtain ⟨vd, hvd⟩ : ∃ x : Int, be16 bs (16 + 4 * n + 2 * j) = x := ⟨_, rfl⟩
        obtain ⟨vo, hvo⟩ : ∃ x : Int, be16 bs (16 + 6 * n + 2 * j) = x := ⟨_, rfl⟩
        have be := be16_bd bs (14 + 2 * j)
        have bf := be16_bd bs (16 + 2 * n + 2 * j)
        have bd := be16_bd bs (16 + 4 * n + 2 * j)
        have bo := be16_bd bs (16 + 6 * n + 2 * j)
        rw [hve] at be
        rw [hvf] at bf
        rw [hvd] at bd
        rw [hvo] at bo
        obtain ⟨be0, be1⟩ := be
        obtain ⟨bf0, bf1⟩ := bf
        obtain ⟨bd0, bd1⟩ := bd
        obtain ⟨bo0, bo1⟩ := bo
        have hm2 := HMN.out
        have hnd := HND.out
        obtain ⟨b1, o1, rfl, hb1, p1⟩ := slat_get HL1.out (i := j) (x := ve) (by rw [← LE.out, wL_at (by omega) hlt, hve])
        obtain ⟨b2, o2, rfl, hb2, p2⟩ := slat_get HL2.out (i := j) (x := vf) (by rw [← LF.out, wL_at (by omega) hlt, hvf])
        obtain ⟨b3, o3, rfl, hb3, p3⟩ := slat_get HL3.out (i := j) (x := vd) (by rw [← LD.out, wL_at (by omega) hlt, hvd])
        obtain ⟨b4, o4, rfl, hb4, p4⟩ := slat_get HL4.out (i := j) (x := vo) (by rw [← LO.out, wL_at (by omega) hlt, hvo])
        have r1 := (HB.out.cell (p := ⟨b1, _, none⟩) hb1).trans p1
        have r2 := (HB.out.cell (p := ⟨b2, _, none⟩) hb2).trans p2
        have r3 := (HB.out.cell (p := ⟨b3, _, none⟩) hb3).trans p3
        have r4 := (HB.out.cell (p := ⟨b4, _, none⟩) hb4).trans p4
        clear p1 p2 p3 p4 hm2 hnd
        have hjn : (j : Int) < n := by omega
        have hseg : seg4 bs n j = if vo = 0 ∨ (vo = 65535 ∧ vf = 65535) then some ⟨vf, ve, vf + vd, true, none, vd⟩ else (lisS bs (16 + 6 * n + 2 * j + vo.toNat) vo.toNat (ve - vf + 1).toNat).map fun xs => ⟨vf, ve, vf + vd, true, some xs, vd⟩ := by
          unfold seg4
          simp only [hve, hvf, hvd, hvo]
        have hsu : segs4 bs n (j + 1) = if ve < vf ∨ vf ≤ z then none else (seg4 bs n j).map fun s => es.map sgV ++ [s] := by
          show (segs4 bs n j).bind _ = _
          rw [HE.out.1]
          simp only [Option.bind_some, hve, hvf, HE.out.2]
        have HSEG := Lib.hid hseg
        have HSU := Lib.hid hsu
        clear hseg hsu hve hvf hvd hvo
        by_cases hbad : ve < vf ∨ vf ≤ z
        · have hno : load4S bs = none := by
            rw [HV.out, segs4_none (HSU.out.trans (if_pos hbad)) n (by omega)]
            rfl
          have HNO := Lib.hid hno
          have hcs : ve < vf ∨ (¬ ve < vf ∧ vf ≤ z) := by omega
          clear hno hbad
          rcases hcs with g1 | ⟨g1, g2⟩
          all_goals
            have hw1 : w.heap.size ≤ w9.heap.size := Nat.le_of_lt hwz
            go_upto_region 18 with fail
            go_region
            go_wp2_with fail
            go_ret2
            exact ld_no HNO.out (HBW.out.trans ((HB.out.trans ((bel_drew (bel_alloc bel_refl)).below.mono hzr)).mono hw1))
        · have g1 : ¬ ve < vf := by omega
          have g2 : ¬ vf ≤ z := by omega
          have hsu2 := HSU.out.trans (if_neg hbad)
          clear HSU hbad
          by_cases hnl : vo = 0 ∨ (vo = 65535 ∧ vf = 65535)
          · rw [HSEG.out, if_pos hnl] at hsu2
            have HSU2 := Lib.hid hsu2
            have hcs : (vo != 0) = false ∨ ((vo != 0) = true ∧ (vo == 65535) = true ∧ (vf == 65535) = true) := by simp; omega
            clear hsu2 hnl HSEG
            rcases hcs with g3 | ⟨g3, g4, g5⟩
            all_goals
              go_upto_region 18 with fail
              go_region
              go_upto_region 29 with fail
              obtain ⟨wb, hwb⟩ : ∃ wb, (wr.alloc (.cells #[.int .i64 vf, .int .i64 ve, .int .i64 (vf + vd), .bool true, .slice none 0 0, .int .i64 vd] 65)).drew = wb := ⟨_, rfl⟩
              have hb8 : Below wr.heap.size wr wb := by rw [← hwb]; exact (bel_drew (bel_alloc bel_refl)).below
              have HPb := Lib.hid (HP.out.keep hb8)
              have HBB := Lib.hid (HB.out.trans (hb8.mono hzr))
              have HBb := Lib.hid (Blk.to (show Blk wb wr.heap.size 65 [.int .i64 vf, .int .i64 ve, .int .i64 (vf + vd), .bool true, .slice none 0 0, .int .i64 vd] by rw [← hwb]; exact (Blk.new wr _ _).drew) rfl)
              rw [hwb]
              clear hwb r1 r2 r3 r4 HP
              have t0 : wb.cell? ⟨wr.heap.size, 0, none⟩ = some (.int .i64 vf) := HBb.out.cell 0
              have t1 : wb.cell? ⟨wr.heap.size, 1, none⟩ = some (.int .i64 ve) := HBb.out.cell 1
              have t2 : wb.cell? ⟨wr.heap.size, 2, none⟩ = some (.int .i64 (vf + vd)) := HBb.out.cell 2
              have t3 : wb.cell? ⟨wr.heap.size, 3, none⟩ = some (.bool true) := HBb.out.cell 3
              have t4 : wb.cell? ⟨wr.heap.size, 4, none⟩ = some (.slice none 0 0) := HBb.out.cell 4
              have t5 : wb.cell? ⟨wr.heap.size, 5, none⟩ = some (.int .i64 vd) := HBb.out.cell 5
              have tl := HBb.out.lt
              have hbc := (bel_alloc (o := .cells #[.int .i64 vf, .int .i64 ve, .int .i64 (vf + vd), .bool true, .slice none 0 0, .int .i64 vd] 65) (bel_refl (a := wb))).below
              have HPc := Lib.hid (HPb.out.keep hbc)
              have HOc : Hid (OwI w9.heap.size (wb.alloc (.cells #[.int .i64 vf, .int .i64 ve, .int .i64 (vf + vd), .bool true, .slice none 0 0, .int .i64 vd] 65)) none ([] : List Int).length 0 ([] : List Int)) := Lib.hid (OwI.nilB HPc.out.le)
              have HBc : Hid (Below w9.heap.size w9 (wb.alloc (.cells #[.int .i64 vf, .int .i64 ve, .int .i64 (vf + vd), .bool true, .slice none 0 0, .int .i64 vd] 65))) := Lib.hid ((HBB.out).trans (hbc.mono (by have := HBB.out.size; omega)))
              have HOWN := Lib.hid HPc.out.own
              have hrd : Reads (wb.alloc (.cells #[.int .i64 vf, .int .i64 ve, .int .i64 (vf + vd), .bool true, .slice none 0 0, .int .i64 vd] 65)) (wb.alloc (.cells #[.int .i64 vf, .int .i64 ve, .int .i64 (vf + vd), .bool true, .slice none 0 0, .int .i64 vd] 65)).heap.size 6 (some ⟨wb.heap.size, 0, none⟩) 1 (sgC ⟨vf, ve, vf + vd, true, none, 0, ([] : List Int), vd⟩) := by
                rw [World.size_alloc]
                exact reads_new wb (sgC ⟨vf, ve, vf + vd, true, none, 0, ([] : List Int), vd⟩) _ 6 1 rfl
              have HRD := Lib.hid hrd
              obtain ⟨i0, zz, hi0, hzz0, hzz1, hzz2, hzz3⟩ := sg_parts
              clear hrd hbc
              go_wp2_with (first
                | (at_builtin; refine wpList_append_any _ (by rfl) (.tmp 130) (.tmp 132) _ (by rfl) w9.heap.size 65 i0 zz 6 64 Try.underlying54 hi0 hzz0 hzz1 hzz2 hzz3 (by omega) _ kl _ (by rfl) HOWN.out _ _ 1 _ _ (by rfl) HRD.out (by simpa using sgC_one [(⟨vf, ve, vf + vd, true, none, 0, ([] : List Int), vd⟩ : Sg)]) (by unfold maxLen; omega) (by omega) HPc.out.le ?_; intro v' w12 ho12 hg12 hr12; obtain ⟨A12, c12, rfl, hp12, hb12⟩ := HPc.out.more (v := ⟨vf, ve, vf + vd, true, none, 0, ([] : List Int), vd⟩) HOc.out (fun k hk => by cases hk) ho12 hg12 hr12; have HP12 := Lib.hid hp12; have HB12 := Lib.hid hb12; clear ho12 hg12 hr12 hp12 hb12)
                | fail)
              refine ⟨⟨j + 1, A12, kl + 1, c12, es ++ [⟨vf, ve, vf + vd, true, none, 0, ([] : List Int), vd⟩], ve, by omega, by go_num, rfl, rfl, by omega, Lib.hid ⟨by rw [HSU2.out, List.map_append]; rfl, by rw [List.map_append]; exact lastL_snoc _ _ _⟩, HP12, Lib.hid (HBc.out.trans HB12.out), by omega, by omega⟩, by simp [intOf]; omega⟩
          · rw [HSEG.out, if_neg hnl] at hsu2
            obtain ⟨on, rfl⟩ : ∃ on : Nat, vo = on := ⟨vo.toNat, by omega⟩
            obtain ⟨mm, hmm⟩ : ∃ mm : Nat, ve - vf + 1 = mm := ⟨(ve - vf + 1).toNat, by omega⟩
            rw [hmm, Int.toNat_natCast, Int.toNat_natCast] at hsu2
            have hcs : (((on : Int) != 0) = true ∧ ((on : Int) == 65535) = false) ∨ (((on : Int) != 0) = true ∧ ((on : Int) == 65535) = true ∧ (vf == 65535) = false) := by simp; omega
            obtain ⟨wb, hwb⟩ : ∃ wb, (wr.alloc (.cells #[.int .i64 vf, .int .i64 ve, .int .i64 (vf + vd), .bool true, .slice none 0 0, .int .i64 vd] 65)).drew = wb := ⟨_, rfl⟩
            have hb8 : Below wr.heap.size wr wb := by rw [← hwb]; exact (bel_drew (bel_alloc bel_refl)).below
            have HPb := Lib.hid (HP.out.keep hb8)
            have HBB := Lib.hid (HB.out.trans (hb8.mono hzr))
            have HBw := Lib.hid (HBW.out.trans (HBB.out.mono (Nat.le_of_lt hwz)))
            have HBb := Lib.hid (Blk.to (show Blk wb wr.heap.size 65 [.int .i64 vf, .int .i64 ve, .int .i64 (vf + vd), .bool true, .slice none 0 0, .int .i64 vd] by rw [← hwb]; exact (Blk.new wr _ _).drew) rfl)
            have HWB := Lib.hid hwb
            have hwr : w.heap.size ≤ wr.heap.size := by omega
            have HBC : Hid (wr.heap.size < wb.heap.size) := Lib.hid HBb.out.lt
            have hli := listed_any (c := c) (w := wb) (n := m) HND.out (HS.out.keep HBw.out) hc hm (fun k hk => Nat.lt_of_lt_of_le (HAA.out k hk) HBw.out.size) (f := vf) (l := ve) (g := vf + vd) (d := vd) (p := 16 + 6 * n + 2 * j) (off := on) (m := mm) (q := 16 + 6 * n + 2 * j + on) bf0 hmm (by omega) (by omega) (by omega) (by omega) rfl
            rw [show ((16 + 6 * n + 2 * j : Nat) : Int) = 16 + 6 * (n : Int) + 2 * (j : Int) by omega] at hli
            obtain ⟨lv, hlv⟩ : ∃ lv, lisS bs (16 + 6 * n + 2 * j + on) on mm = lv := ⟨_, rfl⟩
            rw [hlv] at hli hsu2
            clear HSEG hwb hlv hnl
            cases lv with
            | none =>
              have hno : load4S bs = none := by
                rw [HV.out, segs4_none hsu2 n (by omega)]
                rfl
              have HNO := Lib.hid hno
              have HLI := Lib.hid hli
              clear hno hsu2 hli
              rcases hcs with ⟨g3, g4⟩ | ⟨g3, g4, g5⟩
              all_goals
                go_upto_region 18 with fail
                go_region
                go_upto_region 26 with fail
                rw [HWB.out]
                have s0 : wb.cell? ⟨wr.heap.size, 0, none⟩ = some (.int .i64 vf) := HBb.out.cell 0
                have s1 : wb.cell? ⟨wr.heap.size, 1, none⟩ = some (.int .i64 ve) := HBb.out.cell 1
                have s2 : wb.cell? ⟨wr.heap.size, 2, none⟩ = some (.int .i64 (vf + vd)) := HBb.out.cell 2
                have s3 : wb.cell? ⟨wr.heap.size, 3, none⟩ = some (.bool true) := HBb.out.cell 3
                have s4 : wb.cell? ⟨wr.heap.size, 4, none⟩ = some (.slice none 0 0) := HBb.out.cell 4
                have s5 : wb.cell? ⟨wr.heap.size, 5, none⟩ = some (.int .i64 vd) := HBb.out.cell 5
                have tl := HBb.out.lt
                go_wp2_with (first
                  | (go_at_call 80; (with_reducible refine HLI.out.mono ?_); rintro e w10 ⟨hb10, A10, c10, xs, ok, rfl, ho10, rfl⟩; have HB10 := Lib.hid hb10; have HO10 := Lib.hid ho10; have HK10 := Lib.hid (HBb.out.below hb10 HBb.out.lt); clear hb10 ho10
                     have y0 : w10.cell? ⟨wr.heap.size, 0, none⟩ = some (.int .i64 vf) := HK10.out.cell 0
                     have x0 := HK10.out.frozen 0
                     have y1 : w10.cell? ⟨wr.heap.size, 1, none⟩ = some (.int .i64 ve) := HK10.out.cell 1
                     have x1 := HK10.out.frozen 1
                     have y2 : w10.cell? ⟨wr.heap.size, 2, none⟩ = some (.int .i64 (vf + vd)) := HK10.out.cell 2
                     have x2 := HK10.out.frozen 2
                     have y3 : w10.cell? ⟨wr.heap.size, 3, none⟩ = some (.bool true) := HK10.out.cell 3
                     have x3 := HK10.out.frozen 3
                     have y4 : w10.cell? ⟨wr.heap.size, 4, none⟩ = some (.slice none 0 0) := HK10.out.cell 4
                     have x4 := HK10.out.frozen 4
                     have y5 : w10.cell? ⟨wr.heap.size, 5, none⟩ = some (.int .i64 vd) := HK10.out.cell 5
                     have x5 := HK10.out.frozen 5
                     have hl10 := HK10.out.lt)
                  | fail)
                go_ret2
                exact ld_no HNO.out (((((((HBw.out.trans (HB10.out.mono (Nat.le_trans (Nat.le_of_lt hwz) HBB.out.size))).setCell hwr _).setCell hwr _).setCell hwr _).setCell hwr _).setCell hwr _).setCell hwr _)
            | some ys =>
              rw [show (Option.map (fun s => es.map sgV ++ [s]) (Option.map (fun xs => (⟨vf, ve, vf + vd, true, some xs, vd⟩ : Sv)) (some ys))) = some (es.map sgV ++ [⟨vf, ve, vf + vd, true, some ys, vd⟩]) from rfl] at hsu2
              have HSU2 := Lib.hid hsu2
              have HLI := Lib.hid hli
              clear hsu2 hli
              rcases hcs with ⟨g3, g4⟩ | ⟨g3, g4, g5⟩
              all_goals
                go_upto_region 18 with fail
                go_region
                go_upto_region 26 with fail
                rw [HWB.out]
                have s0 : wb.cell? ⟨wr.heap.size, 0, none⟩ = some (.int .i64 vf) := HBb.out.cell 0
                have s1 : wb.cell? ⟨wr.heap.size, 1, none⟩ = some (.int .i64 ve) := HBb.out.cell 1
                have s2 : wb.cell? ⟨wr.heap.size, 2, none⟩ = some (.int .i64 (vf + vd)) := HBb.out.cell 2
                have s3 : wb.cell? ⟨wr.heap.size, 3, none⟩ = some (.bool true) := HBb.out.cell 3
                have s4 : wb.cell? ⟨wr.heap.size, 4, none⟩ = some (.slice none 0 0) := HBb.out.cell 4
                have s5 : wb.cell? ⟨wr.heap.size, 5, none⟩ = some (.int .i64 vd) := HBb.out.cell 5
                have tl := HBb.out.lt
                go_upto_region 29 with (first
                  | (go_at_call 80; (with_reducible refine HLI.out.mono ?_); rintro e w10 ⟨hb10, A10, c10, xs, ok, rfl, ho10, rfl, rfl, hsm⟩; have HB10 := Lib.hid hb10; have HO10 := Lib.hid ho10; have HSM := Lib.hid hsm; have HK10 := Lib.hid (HBb.out.below hb10 HBb.out.lt); clear hb10 ho10 hsm
                     have y0 : w10.cell? ⟨wr.heap.size, 0, none⟩ = some (.int .i64 vf) := HK10.out.cell 0
                     have x0 := HK10.out.frozen 0
                     have y1 : w10.cell? ⟨wr.heap.size, 1, none⟩ = some (.int .i64 ve) := HK10.out.cell 1
                     have x1 := HK10.out.frozen 1
                     have y2 : w10.cell? ⟨wr.heap.size, 2, none⟩ = some (.int .i64 (vf + vd)) := HK10.out.cell 2
                     have x2 := HK10.out.frozen 2
                     have y3 : w10.cell? ⟨wr.heap.size, 3, none⟩ = some (.bool true) := HK10.out.cell 3
                     have x3 := HK10.out.frozen 3
                     have y4 : w10.cell? ⟨wr.heap.size, 4, none⟩ = some (.slice none 0 0) := HK10.out.cell 4
                     have x4 := HK10.out.frozen 4
                     have y5 : w10.cell? ⟨wr.heap.size, 5, none⟩ = some (.int .i64 vd) := HK10.out.cell 5
                     have x5 := HK10.out.frozen 5
                     have hl10 := HK10.out.lt)
                  | fail)
                obtain ⟨w11, hw11⟩ : ∃ w11, ((((((w10.setCell ⟨wr.heap.size, 0, none⟩ (.int .i64 vf)).setCell ⟨wr.heap.size, 1, none⟩ (.int .i64 ve)).setCell ⟨wr.heap.size, 2, none⟩ (.int .i64 (vf + vd))).setCell ⟨wr.heap.size, 3, none⟩ (.bool true)).setCell ⟨wr.heap.size, 4, none⟩ (.slice A10 xs.length c10)).setCell ⟨wr.heap.size, 5, none⟩ (.int .i64 vd)) = w11 := ⟨_, rfl⟩
                rw [hw11]
                have hO11 : OwI wb.heap.size w11 A10 xs.length c10 xs := by rw [← hw11]; exact (((((HO10.out.set (p := ⟨wr.heap.size, 0, none⟩) tl _).set (p := ⟨wr.heap.size, 1, none⟩) tl _).set (p := ⟨wr.heap.size, 2, none⟩) tl _).set (p := ⟨wr.heap.size, 3, none⟩) tl _).set (p := ⟨wr.heap.size, 4, none⟩) tl _).set (p := ⟨wr.heap.size, 5, none⟩) tl _
                have hB11 : Below wr.heap.size wr w11 := by rw [← hw11]; exact ((((((hb8.trans (HB10.out.mono (Nat.le_of_lt tl))).setCell (p := ⟨wr.heap.size, 0, none⟩) (Nat.le_refl _) _).setCell (p := ⟨wr.heap.size, 1, none⟩) (Nat.le_refl _) _).setCell (p := ⟨wr.heap.size, 2, none⟩) (Nat.le_refl _) _).setCell (p := ⟨wr.heap.size, 3, none⟩) (Nat.le_refl _) _).setCell (p := ⟨wr.heap.size, 4, none⟩) (Nat.le_refl _) _).setCell (p := ⟨wr.heap.size, 5, none⟩) (Nat.le_refl _) _
                have hK11 : Blk w11 wr.heap.size 65 [.int .i64 vf, .int .i64 ve, .int .i64 (vf + vd), .bool true, .slice A10 xs.length c10, .int .i64 vd] := by rw [← hw11]; exact Blk.to ((((((HK10.out.set 0 _).set 1 _).set 2 _).set 3 _).set 4 _).set 5 _) rfl
                have HO11 := Lib.hid hO11
                clear HBb HPb
                have HBb := Lib.hid hK11
                have HPb := Lib.hid (HP.out.keep hB11)
                replace HBB := Lib.hid (HB.out.trans (hB11.mono hzr))
                have htl := hB11.size
                clear hw11 hO11 hK11 hB11 r1 r2 r3 r4 s0 s1 s2 s3 s4 s5 y0 y1 y2 y3 y4 y5 x0 x1 x2 x3 x4 x5 HLI HK10
                clear tl
                have t0 : w11.cell? ⟨wr.heap.size, 0, none⟩ = some (.int .i64 vf) := HBb.out.cell 0
                have t1 : w11.cell? ⟨wr.heap.size, 1, none⟩ = some (.int .i64 ve) := HBb.out.cell 1
                have t2 : w11.cell? ⟨wr.heap.size, 2, none⟩ = some (.int .i64 (vf + vd)) := HBb.out.cell 2
                have t3 : w11.cell? ⟨wr.heap.size, 3, none⟩ = some (.bool true) := HBb.out.cell 3
                have t4 : w11.cell? ⟨wr.heap.size, 4, none⟩ = some (.slice A10 xs.length c10) := HBb.out.cell 4
                have t5 : w11.cell? ⟨wr.heap.size, 5, none⟩ = some (.int .i64 vd) := HBb.out.cell 5
                have tl := HBb.out.lt
                have hbc := (bel_alloc (o := .cells #[.int .i64 vf, .int .i64 ve, .int .i64 (vf + vd), .bool true, .slice A10 xs.length c10, .int .i64 vd] 65) (bel_refl (a := w11))).below
                have HPc := Lib.hid (HPb.out.keep hbc)
                have HOc : Hid (OwI w9.heap.size (w11.alloc (.cells #[.int .i64 vf, .int .i64 ve, .int .i64 (vf + vd), .bool true, .slice A10 xs.length c10, .int .i64 vd] 65)) A10 xs.length c10 xs) := Lib.hid ((HO11.out.keep hbc).lower (by have := HB.out.size; have := HBC.out; omega))
                have HBc : Hid (Below w9.heap.size w9 (w11.alloc (.cells #[.int .i64 vf, .int .i64 ve, .int .i64 (vf + vd), .bool true, .slice A10 xs.length c10, .int .i64 vd] 65))) := Lib.hid ((HBB.out).trans (hbc.mono (by have := HBB.out.size; omega)))
                have HOWN := Lib.hid HPc.out.own
                have hrd : Reads (w11.alloc (.cells #[.int .i64 vf, .int .i64 ve, .int .i64 (vf + vd), .bool true, .slice A10 xs.length c10, .int .i64 vd] 65)) (w11.alloc (.cells #[.int .i64 vf, .int .i64 ve, .int .i64 (vf + vd), .bool true, .slice A10 xs.length c10, .int .i64 vd] 65)).heap.size 6 (some ⟨w11.heap.size, 0, none⟩) 1 (sgC ⟨vf, ve, vf + vd, true, A10, c10, xs, vd⟩) := by
                  rw [World.size_alloc]
                  exact reads_new w11 (sgC ⟨vf, ve, vf + vd, true, A10, c10, xs, vd⟩) _ 6 1 rfl
                have HRD := Lib.hid hrd
                obtain ⟨i0, zz, hi0, hzz0, hzz1, hzz2, hzz3⟩ := sg_parts
                clear hrd hbc
                go_wp2_with (first
                  | (at_builtin; refine wpList_append_any _ (by rfl) (.tmp 130) (.tmp 132) _ (by rfl) w9.heap.size 65 i0 zz 6 64 Try.underlying54 hi0 hzz0 hzz1 hzz2 hzz3 (by omega) _ kl _ (by rfl) HOWN.out _ _ 1 _ _ (by rfl) HRD.out (by simpa using sgC_one [(⟨vf, ve, vf + vd, true, A10, c10, xs, vd⟩ : Sg)]) (by unfold maxLen; omega) (by omega) HPc.out.le ?_; intro v' w12 ho12 hg12 hr12; obtain ⟨A12, c12, rfl, hp12, hb12⟩ := HPc.out.more (v := ⟨vf, ve, vf + vd, true, A10, c10, xs, vd⟩) HOc.out (fun k hk e => by have h1 := (HO11.out.row k hk).1; have h2 := (HP.out.row k e).2; have := HBC.out; omega) ho12 hg12 hr12; have HP12 := Lib.hid hp12; have HB12 := Lib.hid hb12; clear ho12 hg12 hr12 hp12 hb12)
                  | fail)
                refine ⟨⟨j + 1, A12, kl + 1, c12, es ++ [⟨vf, ve, vf + vd, true, A10, c10, xs, vd⟩], ve, by omega, by go_num, rfl, rfl, by omega, Lib.hid ⟨by rw [HSU2.out, List.map_append]; simp [sgV, HSM.out], by rw [List.map_append]; exact lastL_snoc _ _ _⟩, HP12, Lib.hid (HBc.out.trans HB12.out), by omega, by omega⟩, by simp [intOf]; omega⟩
      · obtain rfl : j = n := by omega
        have hfin : load4S bs = if z = 65535 then some (es.map sgV) else none := by
          rw [HV.out, HE.out.1]
          simp only [Option.bind_some, HE.out.2]
        by_cases hz : z = 65535
        · rw [if_pos hz] at hfin
          have HFI := Lib.hid hfin
          have hzb : (z == 65535) = true := by simpa using hz
          clear hfin hz
          go_wp2_with fail
          go_ret2
          exact ld_yes HFI.out HP.out.list (HBW.out.trans (HB.out.mono (Nat.le_of_lt hwz)))
        · rw [if_neg hz] at hfin
          have HFI := Lib.hid hfin
          have hzb : (z == 65535) = false := by simpa using hz
          clear hfin hz
          go_wp2_with fail
          go_ret2
          exact ld_no HFI.out (HBW.out.trans (HB.out.mono (Nat.le_of_lt hwz)))
end Go.Proofs.Ytlbfefdmbdjjcaa
