/-
  Layer 08: format 12.
-/
import Derived.Test.YtlbfefdmbdjjcaaCmF
namespace Go.Proofs.Ytlbfefdmbdjjcaa
open Go.RowKit

theorem cu_u32T {w wi : World} {bs : List UInt8} {s : Nat × Bool} {A : Option Addr} {c : Nat} (h : Cu w wi bs s A c) {s' : Nat × Bool} {x : Int} (hx : (numF bs s 4 : Int) = x) (hs : advF bs s 4 = s') :
    Calls Try.prog 49 #[.pointer (some ⟨w.heap.size, 0, none⟩)] wi fun e w' => e = .returned (.int .i64 x) ∧ Cu w w' bs s' A c ∧ Tn (fun i => i = w.heap.size) wi w' := by
  subst hs hx
  exact (rU32_any wi _ bs s A c h.rd).mono fun e w' ⟨he, hr, ht⟩ => ⟨he, h.turn hr ht, Tn.turn1 ht⟩
/-- Segments that rise from behind 'last' on, none ending behind a limit. -/
def upB (lim : Int) : Int → List Sv → Bool
  | _, [] => true
  | last, s :: t => decide (s.f ≤ s.l ∧ last < s.f ∧ s.l ≤ lim) && upB lim s.l t
def lastL : Int → List Sv → Int
  | last, [] => last
  | _, s :: t => lastL s.l t
theorem upB_append (lim : Int) : ∀ (a b : List Sv) (last : Int), upB lim last (a ++ b) = (upB lim last a && upB lim (lastL last a) b)
  | [], _, _ => rfl
  | s :: a, b, last => by
    show (decide _ && upB lim s.l (a ++ b)) = _
    rw [upB_append lim a b s.l, ← Bool.and_assoc]
    rfl
theorem lastL_snoc : ∀ (a : List Sv) (s : Sv) (last : Int), lastL last (a ++ [s]) = s.l
  | [], _, _ => rfl
  | _ :: a, s, _ => lastL_snoc a s _
theorem upB_one {lim last : Int} {s : Sv} : upB lim last [s] = decide (s.f ≤ s.l ∧ last < s.f ∧ s.l ≤ lim) := by
  show (decide _ && true) = _
  rw [Bool.and_true]
def seg12 (bs : List UInt8) (i : Nat) : Sv := ⟨be32 bs (16 + 12 * i), be32 bs (20 + 12 * i), be32 bs (24 + 12 * i), false, none, 0⟩
def segs12 (bs : List UInt8) (n : Nat) : List Sv := (List.range n).map (seg12 bs)
theorem segs12_succ (bs : List UInt8) (n : Nat) : segs12 bs (n + 1) = segs12 bs n ++ [seg12 bs n] := by unfold segs12; rw [List.range_succ, List.map_append]; rfl
theorem segs12_split (bs : List UInt8) {k n : Nat} (h : k ≤ n) : ∃ t, segs12 bs n = segs12 bs k ++ t := by
  obtain ⟨j, rfl⟩ : ∃ j, n = k + j := ⟨n - k, by omega⟩
  induction j with
  | zero => exact ⟨[], by simp⟩
  | succ j ih =>
    obtain ⟨t, ht⟩ := ih (by omega)
    exact ⟨t ++ [seg12 bs (k + j)], by rw [← Nat.add_assoc, segs12_succ, ht, List.append_assoc]⟩
def load12S (bs : List UInt8) : Option (List Sv) :=
  if bs.length < 16 then none
  else if ((bs.length : Int) - 16) / 12 < be32 bs 12 then none
  else if upB 1114111 (-1) (segs12 bs (be32 bs 12).toNat) = true then some (segs12 bs (be32 bs 12).toNat) else none
set_option maxRecDepth 20000 in
set_option maxHeartbeats 8000000 in
theorem load12_any {w : World} {bs : List UInt8} {A : Option Addr} {n c : Nat} (hn : bs.length = n) (hs : SlAt w A n (bs.map byteV)) (hc : n ≤ c) (hm : n ≤ 1000000) (hA : ∀ k, rowOf A = some k → k < w.heap.size) :
    Calls Try.prog 53 #[.slice A n c] w (LdR (load12S bs) w) := by
  have HN := Lib.hid (cu_new hn hs hc (by omega) hA)
  clear hs hA
  obtain ⟨s1, h1⟩ : ∃ s, skF bs (0, false) 12 = s := ⟨_, rfl⟩
  obtain ⟨k, hk⟩ : ∃ k : Nat, numF bs s1 4 = k := ⟨_, rfl⟩
  obtain ⟨s2, h2⟩ : ∃ s, advF bs s1 4 = s := ⟨_, rfl⟩
  have hkb := numF_lt bs s1 4
  rw [hk] at hkb
  have hkb' : (k : Int) ≤ 4294967295 := by omega
  have H1 := Lib.hid h1
  have HK : Hid ((numF bs s1 4 : Int) = (k : Nat)) := Lib.hid (by rw [hk])
  have H2 := Lib.hid h2
  by_cases h16 : n < 16
  · have hb : s2.2 = true := by
      rw [sk_of] at h1
      by_cases h12 : bs.length < 12
      · rw [if_pos (.inr h12)] at h1
        rw [← h2, ← h1, advF_bad (.inl rfl)]
      · rw [if_neg (by simp; omega)] at h1
        rw [← h2, ← h1, advF_bad (.inr (by show bs.length < 12 + 4; omega))]
    have hv : load12S bs = none := by unfold load12S; rw [if_pos (by omega)]
    have HV := Lib.hid hv
    have HD : Hid (∀ wi, Cu w wi bs s2 A c → Calls Try.prog 23 #[.pointer (some ⟨w.heap.size, 0, none⟩)] wi fun e w' => e = .returned (.int .i64 30) ∧ wi = w') := Lib.hid fun wi h => by have := cu_done h; rw [hb] at this; exact this
    clear hv h1 hk h2 hkb hb hn
    go_enter Try.func53, Try.ntmps53
    go_wp2_with (first
      | (go_at_call 21; (with_reducible refine HN.out.mono ?_); rintro e w1 ⟨rfl, hu⟩; have HC0 := Lib.hid hu; clear hu)
      | (go_at_call 48; (with_reducible refine (cu_seek HC0.out 12 nat12 H1.out).mono ?_); rintro e w2 ⟨⟨v2, rfl⟩, hu⟩; have HC1 := Lib.hid hu; clear hu HC0)
      | (go_at_call 49; (with_reducible refine (cu_u32 HC1.out HK.out H2.out).mono ?_); rintro e w3 ⟨rfl, hu⟩; have HC2 := Lib.hid hu; clear hu HC1)
      | (go_at_call 23; (with_reducible refine (HD.out _ HC2.out).mono ?_); rintro e w1 ⟨rfl, rfl⟩)
      | fail)
    go_ret2
    exact ld_no HV.out HC2.out.bel
  · have e1 : s1 = (12, false) := by rw [← h1, sk_of, if_neg (by simp; omega)]
    subst e1
    have e2 : s2 = (16, false) := by rw [← h2, advF_ok (by omega)]
    subst e2
    have ek : be32 bs 12 = (k : Nat) := by rw [← hk, numF_ok (by omega)]; rfl
    have hv : load12S bs = if ((n : Int) - 16) / 12 < k then none else if upB 1114111 (-1) (segs12 bs k) = true then some (segs12 bs k) else none := by
      unfold load12S
      rw [if_neg (by omega), ek, hn, Int.toNat_natCast]
    have HV := Lib.hid hv
    have HD : Hid (∀ wi, Cu w wi bs (16, false) A c → Calls Try.prog 23 #[.pointer (some ⟨w.heap.size, 0, none⟩)] wi fun e w' => e = .returned (.int .i64 0) ∧ wi = w') := Lib.hid fun wi h => cu_done h
    have HL : Hid (∀ wi, Cu w wi bs (16, false) A c → Calls Try.prog 81 #[.pointer (some ⟨w.heap.size, 0, none⟩)] wi fun e w' => e = .returned (.int .i64 ((n : Int) - 16)) ∧ Cu w w' bs (16, false) A c) := Lib.hid fun wi h => by
      have := cu_left h
      rw [hn] at this
      exact this
    have ht : ((n : Int) - 16).tdiv 12 = ((n : Int) - 16) / 12 := Int.tdiv_eq_ediv_of_nonneg (by omega)
    clear hv h1 hk h2 hkb ek
    by_cases c1 : ((n : Int) - 16) / 12 < k
    · have hno := HV.out.trans (if_pos c1)
      have HNO := Lib.hid hno
      obtain ⟨q, hq⟩ : ∃ q, ((n : Int) - 16) / 12 = q := ⟨_, rfl⟩
      rw [hq] at ht c1
      have hqb : 0 ≤ q ∧ q ≤ 1000000 := by omega
      obtain ⟨hq0, hq1⟩ := hqb
      clear hno hn hq
      go_enter Try.func53, Try.ntmps53
      go_wp2_with (first
        | (go_at_call 21; (with_reducible refine HN.out.mono ?_); rintro e w1 ⟨rfl, hu⟩; have HC0 := Lib.hid hu; clear hu)
        | (go_at_call 48; (with_reducible refine (cu_seek HC0.out 12 nat12 H1.out).mono ?_); rintro e w2 ⟨⟨v2, rfl⟩, hu⟩; have HC1 := Lib.hid hu; clear hu HC0)
        | (go_at_call 49; (with_reducible refine (cu_u32 HC1.out HK.out H2.out).mono ?_); rintro e w3 ⟨rfl, hu⟩; have HC2 := Lib.hid hu; clear hu HC1)
        | (go_at_call 23; (with_reducible refine (HD.out _ HC2.out).mono ?_); rintro e w1 ⟨rfl, rfl⟩)
        | (go_at_call 81; (with_reducible refine (HL.out _ HC2.out).mono ?_); rintro e w5 ⟨rfl, hu⟩; have HC4 := Lib.hid hu; clear hu)
        | fail)
      go_ret2
      exact ld_no HNO.out HC4.out.bel
    · have hno := HV.out.trans (if_neg c1)
      have HNO := Lib.hid hno
      have hk2 : 12 * k + 16 ≤ n := by omega
      obtain ⟨q, hq⟩ : ∃ q, ((n : Int) - 16) / 12 = q := ⟨_, rfl⟩
      rw [hq] at ht c1
      have hqb : 0 ≤ q ∧ q ≤ 1000000 := by omega
      obtain ⟨hq0, hq1⟩ := hqb
      have HND := Lib.hid hn
      clear hno hn hq
      go_enter Try.func53, Try.ntmps53
      go_wp2_with (first
        | (go_at_call 21; (with_reducible refine HN.out.mono ?_); rintro e w1 ⟨rfl, hu⟩; have HC0 := Lib.hid hu; clear hu)
        | (go_at_call 48; (with_reducible refine (cu_seek HC0.out 12 nat12 H1.out).mono ?_); rintro e w2 ⟨⟨v2, rfl⟩, hu⟩; have HC1 := Lib.hid hu; clear hu HC0)
        | (go_at_call 49; (with_reducible refine (cu_u32 HC1.out HK.out H2.out).mono ?_); rintro e w3 ⟨rfl, hu⟩; have HC2 := Lib.hid hu; clear hu HC1)
        | (go_at_call 23; (with_reducible refine (HD.out _ HC2.out).mono ?_); rintro e w1 ⟨rfl, rfl⟩)
        | (go_at_call 81; (with_reducible refine (HL.out _ HC2.out).mono ?_); rintro e w5 ⟨rfl, hu⟩; have HC4 := Lib.hid hu; clear hu HC2)
        | fail)
      have hz5 := HC4.out.rd.blk.lt
      clear c1 ht
      go_loopw [6, 7, 26] (fun vl la i wr => ∃ (j : Nat) (Al : Option Addr) (kl cl : Nat) (es : List Sg) (z : Int), j ≤ k ∧ i = .int .i64 j ∧ vl = .slice Al kl cl ∧ la = .int .i64 z ∧ kl ≤ j ∧ Hid (es.map sgV = segs12 bs j ∧ upB 1114111 (-1) (segs12 bs j) = true ∧ lastL (-1) (segs12 bs j) = z) ∧ Hid (SgP (w.heap.size + 1) wr Al kl cl es) ∧ Hid (Cu w wr bs (16 + 12 * j, false) A c) ∧ (-1 ≤ z ∧ z ≤ 1114111)) (fun _ _ i _ => k - (intOf i).toNat)
      case atStart => exact ⟨0, none, 0, 0, [], -1, Nat.zero_le _, rfl, rfl, rfl, Nat.le_refl _, Lib.hid ⟨rfl, rfl, rfl⟩, Lib.hid (SgP.nil hz5), HC4, by omega, by omega⟩
      case round =>
        obtain ⟨j, Al, kl, cl, es, z, hj, rfl, rfl, rfl, hkl, HE, HP, HC, hz0, hz1⟩ := hrel
        by_cases hlt : j < k
        · have hnn := HND.out
          obtain ⟨f, hf⟩ : ∃ f : Int, be32 bs (16 + 12 * j) = f := ⟨_, rfl⟩
          obtain ⟨l, hl⟩ : ∃ f : Int, be32 bs (20 + 12 * j) = f := ⟨_, rfl⟩
          obtain ⟨g, hg⟩ : ∃ f : Int, be32 bs (24 + 12 * j) = f := ⟨_, rfl⟩
          have bf := be32_bd bs (16 + 12 * j)
          have bl := be32_bd bs (20 + 12 * j)
          have bg := be32_bd bs (24 + 12 * j)
          rw [hf] at bf
          rw [hl] at bl
          rw [hg] at bg
          obtain ⟨bf0, bf1⟩ := bf
          obtain ⟨bl0, bl1⟩ := bl
          obtain ⟨bg0, bg1⟩ := bg
          have N1 : Hid ((numF bs (16 + 12 * j, false) 4 : Int) = f) := Lib.hid (by rw [numF_ok (by omega)]; exact hf)
          have A1 : Hid (advF bs (16 + 12 * j, false) 4 = (20 + 12 * j, false)) := Lib.hid (by rw [advF_ok (by omega), show 16 + 12 * j + 4 = 20 + 12 * j by omega])
          have N2 : Hid ((numF bs (20 + 12 * j, false) 4 : Int) = l) := Lib.hid (by rw [numF_ok (by omega)]; exact hl)
          have A2 : Hid (advF bs (20 + 12 * j, false) 4 = (24 + 12 * j, false)) := Lib.hid (by rw [advF_ok (by omega), show 20 + 12 * j + 4 = 24 + 12 * j by omega])
          have N3 : Hid ((numF bs (24 + 12 * j, false) 4 : Int) = g) := Lib.hid (by rw [numF_ok (by omega)]; exact hg)
          have A3 : Hid (advF bs (24 + 12 * j, false) 4 = (16 + 12 * (j + 1), false)) := Lib.hid (by rw [advF_ok (by omega), show 24 + 12 * j + 4 = 16 + 12 * (j + 1) by omega])
          have hseg : seg12 bs j = ⟨f, l, g, false, none, 0⟩ := by unfold seg12; rw [hf, hl, hg]
          have hsu := segs12_succ bs j
          rw [hseg] at hsu
          have HSU := Lib.hid hsu
          obtain ⟨tl, htl⟩ := segs12_split bs (show j + 1 ≤ k by omega)
          have HTL := Lib.hid htl
          have hall : ¬ (f ≤ l ∧ z < f ∧ l ≤ 1114111) → load12S bs = none := fun h => by
            rw [HNO.out, if_neg]
            rw [HTL.out, upB_append, HSU.out, upB_append, HE.out.2.2, upB_one]
            simp only [decide_eq_false h, Bool.and_false, Bool.false_and]
            simp
          have HALL := Lib.hid hall
          clear hf hl hg hseg hsu htl hall hnn
          by_cases hok : f ≤ l ∧ z < f ∧ l ≤ 1114111
          · obtain ⟨o1, o2, o3⟩ := hok
            have o1' : ¬ l < f := by omega
            have o2' : ¬ f ≤ z := by omega
            have o3' : decide ((1114111 : Int) < l) = false := by simp; omega
            clear HALL
            go_upto_region 14 with (first
              | (go_at_call 49; (with_reducible refine (cu_u32T HC.out N1.out A1.out).mono ?_); rintro e w6 ⟨rfl, hu, ht6⟩; have HC6 := Lib.hid hu; have HT6 := Lib.hid ht6; clear hu HC ht6)
              | (go_at_call 49; (with_reducible refine (cu_u32T HC6.out N2.out A2.out).mono ?_); rintro e w7 ⟨rfl, hu, ht7⟩; have HC7 := Lib.hid hu; have HT7 := Lib.hid (HT6.out.trans ht7); clear hu HC6 ht7)
              | (go_at_call 49; (with_reducible refine (cu_u32T HC7.out N3.out A3.out).mono ?_); rintro e w8 ⟨rfl, hu, ht8⟩; have HC8 := Lib.hid hu; have HT8 := Lib.hid (HT7.out.trans ht8); clear hu HC7 ht8)
              | fail)
            have HP8 := Lib.hid (HP.out.turn HT8.out (fun i hi => by omega))
            obtain ⟨wb, hwb⟩ : ∃ wb, w8.alloc (.cells #[.int .i64 f, .int .i64 l, .int .i64 g, .bool false, .slice none 0 0, .int .i64 0] 65) = wb := ⟨_, rfl⟩
            have hb8 : Below w8.heap.size w8 wb := by rw [← hwb]; exact (bel_alloc bel_refl).below
            have HCb := Lib.hid (HC8.out.keep hb8)
            have HPb := Lib.hid (HP8.out.keep hb8)
            have HBb := Lib.hid (Blk.to (show Blk wb w8.heap.size 65 [.int .i64 f, .int .i64 l, .int .i64 g, .bool false, .slice none 0 0, .int .i64 0] by rw [← hwb]; exact Blk.new w8 _ _) rfl)
            obtain ⟨sb, hsb⟩ : ∃ sb, w8.heap.size = sb := ⟨_, rfl⟩
            rw [hsb] at HBb
            rw [hwb, hsb]
            have t0 : wb.cell? ⟨sb, 0, none⟩ = some (.int .i64 f) := HBb.out.cell 0
            have t1 : wb.cell? ⟨sb, 1, none⟩ = some (.int .i64 l) := HBb.out.cell 1
            have t2 : wb.cell? ⟨sb, 2, none⟩ = some (.int .i64 g) := HBb.out.cell 2
            have t3 : wb.cell? ⟨sb, 3, none⟩ = some (.bool false) := HBb.out.cell 3
            have t4 : wb.cell? ⟨sb, 4, none⟩ = some (.slice none 0 0) := HBb.out.cell 4
            have t5 : wb.cell? ⟨sb, 5, none⟩ = some (.int .i64 0) := HBb.out.cell 5
            have tl := HBb.out.lt
            have hbc := (bel_alloc (o := .cells #[.int .i64 f, .int .i64 l, .int .i64 g, .bool false, .slice none 0 0, .int .i64 0] 65) (bel_refl (a := wb))).below
            have HCc := Lib.hid (HCb.out.keep hbc)
            have HPc := Lib.hid (HPb.out.keep hbc)
            have HOWN := Lib.hid HPc.out.own
            have hrd : Reads (wb.alloc (.cells #[.int .i64 f, .int .i64 l, .int .i64 g, .bool false, .slice none 0 0, .int .i64 0] 65)) (wb.alloc (.cells #[.int .i64 f, .int .i64 l, .int .i64 g, .bool false, .slice none 0 0, .int .i64 0] 65)).heap.size 6 (some ⟨wb.heap.size, 0, none⟩) 1 (sgC ⟨f, l, g, false, none, 0, [], 0⟩) := by
              rw [World.size_alloc]
              exact reads_new wb (sgC ⟨f, l, g, false, none, 0, [], 0⟩) _ 6 1 rfl
            have HRD := Lib.hid hrd
            obtain ⟨i0, zz, hi0, hzz0, hzz1, hzz2, hzz3⟩ := sg_parts
            clear hrd hbc hb8 hwb hsb HP HT6 HT7 HT8 HP8 HC8 HBb N1 N2 N3 A1 A2 A3
            go_wp2_with (first
              | (at_builtin; refine wpList_append_any _ (by rfl) (.tmp 53) (.tmp 55) _ (by rfl) (w.heap.size + 1) 65 i0 zz 6 64 Try.underlying54 hi0 hzz0 hzz1 hzz2 hzz3 (by omega) _ kl _ (by rfl) HOWN.out _ _ 1 _ _ (by rfl) HRD.out (by simpa using sgC_one [(⟨f, l, g, false, none, 0, [], 0⟩ : Sg)]) (by unfold maxLen; omega) (by omega) HPc.out.le ?_; intro v' w9 ho9 hg9 hr9; obtain ⟨A9, c9, rfl, hp9, hb9⟩ := HPc.out.more (v := ⟨f, l, g, false, none, 0, [], 0⟩) (OwI.nilB HPc.out.le) (fun k hk => by cases hk) ho9 hg9 hr9; have HP9 := Lib.hid hp9; have HB9 := Lib.hid hb9; have HG9 := Lib.hid hg9; clear ho9 hg9 hr9 hp9 hb9)
              | fail)
            refine ⟨⟨j + 1, A9, kl + 1, c9, es ++ [⟨f, l, g, false, none, 0, [], 0⟩], l, by omega, by go_num, rfl, rfl, by omega, Lib.hid ⟨by rw [List.map_append, HE.out.1, HSU.out]; rfl, by rw [HSU.out, upB_append, HE.out.2.1, HE.out.2.2, upB_one, decide_eq_true ⟨o1, o2, o3⟩]; rfl, by rw [HSU.out, lastL_snoc]⟩, HP9, Lib.hid ⟨HCc.out.rd.grownB (B := w.heap.size + 1) HG9.out (by omega) (fun k hk => Nat.lt_succ_of_lt (HCc.out.row k hk)) (fun k hk => (own_lt HOWN.out k hk).1), HCc.out.bel.trans (HB9.out.mono (by omega)), HCc.out.row⟩, by omega, by omega⟩, by simp [intOf]; omega⟩
          · have HNO2 := Lib.hid (HALL.out hok)
            have hbad : l < f ∨ (¬ l < f ∧ f ≤ z) ∨ (¬ l < f ∧ ¬ f ≤ z ∧ decide ((1114111 : Int) < l) = true) := by simp; omega
            clear hok HALL
            rcases hbad with o1 | ⟨o1, o2⟩ | ⟨o1, o2, o3⟩
            all_goals
              go_wp2_with (first
                | (go_at_call 49; (with_reducible refine (cu_u32T HC.out N1.out A1.out).mono ?_); rintro e w6 ⟨rfl, hu, ht6⟩; have HC6 := Lib.hid hu; have HT6 := Lib.hid ht6; clear hu HC ht6)
                | (go_at_call 49; (with_reducible refine (cu_u32T HC6.out N2.out A2.out).mono ?_); rintro e w7 ⟨rfl, hu, ht7⟩; have HC7 := Lib.hid hu; have HT7 := Lib.hid (HT6.out.trans ht7); clear hu HC6 ht7)
                | (go_at_call 49; (with_reducible refine (cu_u32T HC7.out N3.out A3.out).mono ?_); rintro e w8 ⟨rfl, hu, ht8⟩; have HC8 := Lib.hid hu; have HT8 := Lib.hid (HT7.out.trans ht8); clear hu HC7 ht8)
                | fail)
              go_ret2
              exact ld_no HNO2.out (HC8.out.bel.trans ((bel_alloc bel_refl).below.mono HC8.out.bel.size))
        · obtain rfl : j = k := by omega
          have hfin := HNO.out
          rw [HE.out.2.1, if_pos rfl, ← HE.out.1] at hfin
          have HFI := Lib.hid hfin
          clear hfin
          go_wp2_with fail
          go_ret2
          exact ld_yes HFI.out HP.out.list HC.out.bel
end Go.Proofs.Ytlbfefdmbdjjcaa
