/-
  Layer 22: CoverLines.
-/
import Derived.Test.YtbjggiihbdhmbaaCqA
import Derived.Test.YtbjggiihbdhmbaaCpE
namespace Go.Proofs.Ytbjggiihbdhmbaa
open Go.RowKit Go.Shelf

theorem New_no {b : B4} (h : cellE b.x0 b.y0 b.x1 b.y1 ≠ 0) (w : World) : Calls Try.prog 9 #[.agg #[.int .i64 b.x0, .int .i64 b.y0, .int .i64 b.x1, .int .i64 b.y1]] w fun e w' => e = .returned (.tuple #[.pointer none, .int .i64 (cellE b.x0 b.y0 b.x1 b.y1)]) ∧ Below w.heap.size w w' := by
  have := New_any b w
  unfold NewR NewNo at this
  simp only [h, if_false] at this
  exact this
set_option maxRecDepth 100000 in
set_option maxHeartbeats 4000000 in
theorem coverLines_no (b : B4) (A : Option Addr) (n c : Nat) (stop : Int) (w : World) (hno : smallB b = false) : Calls Try.prog 3 #[.agg #[.int .i64 b.x0, .int .i64 b.y0, .int .i64 b.x1, .int .i64 b.y1], .slice A n c, .int .i64 stop] w fun e w' => e = .returned (.bool true) ∧ Below w.heap.size w w' := by
  have KM := fun w => cellBox_any b.x0 b.y0 b.x1 b.y1 w
  by_cases hc : cellE b.x0 b.y0 b.x1 b.y1 = 0
  · have KS := fun w => small_any b w
    rw [hno] at KS
    rw [hc] at KM
    have HS := Lib.hid KS
    have HM := Lib.hid KM
    have HN := Lib.hid (fun w => New_yes hc w)
    clear KS KM hno hc
    go_enter Try.func3, Try.ntmps3
    go_wp2_with (first
      | (go_at_call 9; (with_reducible refine (HN.out _).mono ?_); rintro e w1 ⟨g, k, rfl, hcc, hg, hk, hb1⟩; obtain ⟨hc1, hf1, hz1⟩ := bcell hb1; (try simp at hz1); have HCC := Lib.hid hcc; clear hcc)
      | (go_at_call 10; (with_reducible refine (lives_any _).mono ?_); rintro e w2 ⟨rfl, hb2⟩; obtain ⟨hc2, hf2, hz2⟩ := bcell hb2; (try simp at hz2)) | (go_at_call 11; (with_reducible refine (HM.out _).mono ?_); rintro e w3 ⟨rfl, hb3⟩; obtain ⟨hc3, hf3, hz3⟩ := bcell hb3; (try simp at hz3)) | (go_at_call 12; (with_reducible refine (HS.out _).mono ?_); rintro e w4 ⟨rfl, hb4⟩; obtain ⟨hc4, hf4, hz4⟩ := bcell hb4; (try simp at hz4)) | fail)
    go_ret
    refine ⟨rfl, Bel.below ?_⟩
    repeat (first | with_reducible exact bel_refl | with_reducible apply bel_alloc | with_reducible apply bel_drewN | with_reducible apply bel_drew | (with_reducible refine bel_set ?_ ?_; rotate_left; · first | (simp; done) | (simp; omega) | omega) | with_reducible refine bel_call (by assumption) ?_)
  · have KN := fun w => New_no hc w
    obtain ⟨ee, hee⟩ : ∃ ee, cellE b.x0 b.y0 b.x1 b.y1 = ee := ⟨_, rfl⟩
    rw [hee] at KM KN hc
    have HN := Lib.hid KN
    have HM := Lib.hid KM
    have h0 : (ee != 0) = true := by simpa using hc
    clear KN KM hno hee hc
    go_enter Try.func3, Try.ntmps3
    go_wp2_with (first | (go_at_call 9; (with_reducible refine (HN.out _).mono ?_); rintro e w1 ⟨rfl, hb1⟩; obtain ⟨hc1, hf1, hz1⟩ := bcell hb1; (try simp at hz1)) | (go_at_call 10; (with_reducible refine (lives_any _).mono ?_); rintro e w2 ⟨rfl, hb2⟩; obtain ⟨hc2, hf2, hz2⟩ := bcell hb2; (try simp at hz2)) | (go_at_call 11; (with_reducible refine (HM.out _).mono ?_); rintro e w3 ⟨rfl, hb3⟩; obtain ⟨hc3, hf3, hz3⟩ := bcell hb3; (try simp at hz3)) | fail)
    go_ret
    refine ⟨rfl, Bel.below ?_⟩
    repeat (first | with_reducible exact bel_refl | with_reducible apply bel_alloc | with_reducible apply bel_drewN | with_reducible apply bel_drew | (with_reducible refine bel_set ?_ ?_; rotate_left; · first | (simp; done) | (simp; omega) | omega) | with_reducible refine bel_call (by assumption) ?_)
theorem Tn.of_turn {S : Nat → Prop} {A B : World} {k : Nat} (h : Turn A B k none) (hk : S k) : Tn S A B := ⟨h.os, h.tape, h.output, h.size, fun i hi hn => h.block i hi (fun e => hn (by rw [e]; exact hk)) (fun e => by cases e)⟩
def S3 (k kc ka : Nat) : Nat → Prop := fun i => i = k ∨ i = kc ∨ i = ka
/-- The loop over the lines: both cells hold the same. -/
def LnsI (b : B4) (g k g2 kc ka : Nat) (W0 : World) (W : World) : Prop := ∃ cs, Cc W g k b cs ∧ Rc W g2 kc ka b cs ∧ Tn (S3 k kc ka) W0 W
set_option maxRecDepth 100000 in
set_option maxHeartbeats 4000000 in
theorem coverLines_yes (b : B4) (A : Option Addr) (ds : List Dt) (c : Nat) (stop : Int) (w : World) (hd : Ds w A ds) (hn : ds.length ≤ 8796093022208) (hs : smallB b = true) : Calls Try.prog 3 #[.agg #[.int .i64 b.x0, .int .i64 b.y0, .int .i64 b.x1, .int .i64 b.y1], .slice A ds.length c, .int .i64 stop] w fun e w' => e = .returned (.bool true) ∧ Below w.heap.size w w' := by
  have KS := fun w => small_any b w
  have hc0 := (smallB_true.1 hs).1
  have hbx := BoxOk.of hc0
  have KM := fun w => cellBox_any b.x0 b.y0 b.x1 b.y1 w
  rw [hs] at KS
  rw [hc0] at KM
  have HS := Lib.hid KS
  have HM := Lib.hid KM
  have HN := Lib.hid (fun w => New_yes hc0 w)
  have HR := Lib.hid (fun w => rNew_any b hbx w)
  have HBX := Lib.hid hbx
  have HD := Lib.hid hd
  clear KS KM hs hbx hc0 hd
  go_enter Try.func3, Try.ntmps3
  go_wp2_with (first
    | (go_at_call 9; (with_reducible refine (HN.out _).mono ?_); rintro e w1 ⟨g, k, rfl, hcc, hg, hk, hb1⟩; obtain ⟨hc1, hf1, hz1⟩ := bcell hb1; (try simp at hz1); have HCC := Lib.hid hcc; clear hcc)
    | (go_at_call 10; (with_reducible refine (lives_any _).mono ?_); rintro e w2 ⟨rfl, hb2⟩; obtain ⟨hc2, hf2, hz2⟩ := bcell hb2; (try simp at hz2)) | (go_at_call 11; (with_reducible refine (HM.out _).mono ?_); rintro e w3 ⟨rfl, hb3⟩; obtain ⟨hc3, hf3, hz3⟩ := bcell hb3; (try simp at hz3)) | (go_at_call 12; (with_reducible refine (HS.out _).mono ?_); rintro e w4 ⟨rfl, hb4⟩; obtain ⟨hc4, hf4, hz4⟩ := bcell hb4; (try simp at hz4))
    | (go_at_call 13; (with_reducible refine (HR.out _).mono ?_); rintro e w5 ⟨g2, kc, ka, rfl, hrc, hg2, hkc, hka, hb5⟩; obtain ⟨hc5, hf5, hz5⟩ := bcell hb5; (try simp at hz5); have HRC := Lib.hid hrc; clear hrc)
    | fail)
  have hX5 : Blk w5 w.heap.size 23 [.int .i64 b.x0, .int .i64 b.y0, .int .i64 b.x1, .int .i64 b.y1] := by
    repeat (with_reducible refine Blk.belowI (by with_reducible assumption) (by (try simp); try omega) ?_)
    exact Blk.newAt _ _ [_, _, _, _] rfl
  have hB5 : Below w.heap.size w w5 := by
    refine Bel.below ?_
    repeat (first | with_reducible exact bel_refl | with_reducible apply bel_alloc | with_reducible apply bel_drewN | with_reducible apply bel_drew | (with_reducible refine bel_set ?_ ?_; rotate_left; · first | (simp; done) | (simp; omega) | omega) | with_reducible refine bel_call (by assumption) ?_)
  have hC5 : Cc w5 g k b (zerC (numB b)) := (((HCC.out.keepB hb2).keepB hb3).keepB hb4).keepB hb5
  have hkl := HCC.out.row.lt
  have hk' := hk
  simp at hk'
  have hkb : w.heap.size + 1 ≤ k := by omega
  clear hk'
  have hkcb : w.heap.size + 1 ≤ kc := by omega
  have hkab : w.heap.size + 1 ≤ ka := by omega
  have hkkc : k < kc := by omega
  have hkka : k < ka := by omega
  have hgg := HCC.out.blk.lt
  have hsz5 : w.heap.size + 1 ≤ w5.heap.size := by omega
  have HX := Lib.hid hX5
  have HB := Lib.hid hB5
  have HC5 := Lib.hid hC5
  have hst : LnsI b g k g2 kc ka w5 w5 := ⟨_, hC5, HRC.out, Tn.refl _⟩
  have HST := Lib.hid hst
  clear hc1 hf1 hz1 hb1 hc2 hf2 hz2 hb2 hc3 hf3 hz3 hb3 hc4 hf4 hz4 hb4 hc5 hf5 hz5 hb5 hX5 hB5 hC5 hst HCC hg hk hg2 hkc hka hkl hgg
  go_loopw [11] (fun s wr => ∃ j : Nat, j ≤ 60 ∧ s = .int .i64 j ∧ Hid (LnsI b g k g2 kc ka w5 wr)) (fun s _ => 60 - (intOf s).toNat)
  case atStart => exact ⟨0, Nat.zero_le _, rfl, HST⟩
  case round =>
    obtain ⟨j, hj, rfl, HI⟩ := hrel
    obtain ⟨cs, hcc, hrc, htn⟩ := HI.out
    by_cases hgo : (j : Int) + 1 < ds.length ∧ j < 60
    · obtain ⟨hg1, hg2⟩ := hgo
      obtain ⟨a, ha⟩ := get_some (show j < ds.length by omega)
      obtain ⟨d, hd⟩ := get_some (show j + 1 < ds.length by omega)
      obtain ⟨ab, ao, hAe, habl, a0, a1⟩ := HD.out j a ha
      obtain ⟨ab2, ao2, hAe2, -, d0, d1⟩ := HD.out (j + 1) d hd
      rw [hAe] at hAe2
      injection hAe2 with hAe2
      injection hAe2 with e1 e2
      subst e1 e2
      have hnS : ¬ S3 k kc ka ab := fun e => by rcases e with rfl | rfl | rfl <;> omega
      have hnX : ¬ S3 k kc ka w.heap.size := fun e => by rcases e with e | e | e <;> omega
      have HTW : Hid (Tn (S3 k kc ka) w wr) := Lib.hid (Tn.behind HB.out htn)
      have hty : ∀ {W : World} {cs : List Ce}, Cc W g k b cs → ∀ {i : Nat} {t : TypeId} {xs : List Value}, Blk W i t xs → t ≠ 79 → i ≠ k := fun h _ _ _ hb ht => blk_ne_type hb h.row ht
      have hgk : g ≠ k := hty hcc hcc.blk (by decide)
      have hgkc : g ≠ kc := blk_ne_type hcc.blk hrc.cov (by decide)
      have hgka : g ≠ ka := blk_ne_type hcc.blk hrc.are (by decide)
      have hg2k : g2 ≠ k := hty hcc hrc.blk (by decide)
      have q0 : wr.cell? ⟨ab, ao + j * 2, none⟩ = some (.int .i64 a.1) := HTW.out.cell a0 hnS
      have q1 : wr.cell? ⟨ab, ao + j * 2 + 1, none⟩ = some (.int .i64 a.2) := HTW.out.cell a1 hnS
      have q2 : wr.cell? ⟨ab, ao + (j + 1) * 2, none⟩ = some (.int .i64 d.1) := HTW.out.cell d0 hnS
      have q3 : wr.cell? ⟨ab, ao + (j + 1) * 2 + 1, none⟩ = some (.int .i64 d.2) := HTW.out.cell d1 hnS
      have hwsz := HTW.out.size
      have habl2 : ab < wr.heap.size := by omega
      have hj1 : (j : Int) + 1 < ds.length := hg1
      have hw1 : IntKind.i64.wrap ((j : Int) + 1) = (j : Int) + 1 := IntWalk.i64_in _ (by omega)
      have hw2 : (0 : Int) ≤ (j : Int) + 1 := by omega
      have hw3 : ((j : Int) + 1).toNat = j + 1 := by omega
      have hj2 : (j : Int) < ds.length := by omega
      have HNS := Lib.hid (And.intro hnS hnX)
      have HGK := Lib.hid (And.intro hgk (And.intro hgkc (And.intro hgka hg2k)))
      have HCX := Lib.hid hcc
      have HRX := Lib.hid hrc
      have HTX := Lib.hid htn
      have KP := fun w => In_ok HBX.out a w
      have KQ := fun w => In_ok HBX.out d w
      subst hAe
      clear ha hd hcc hrc htn hnS hnX hty hgk hgkc hgka hg2k HI
      go_upto_region 13 with fail
      refine wp_region_drew_tail 10 (by kernel_rfl) (by kernel_rfl) ?_
      simp only [List.take_succ_cons, List.take_zero, List.drop_succ_cons, List.drop_zero]
      repeat (go_big_quiet_step (fail))
      refine wpQuiet_nil ?_
      rintro _ ⟨nq, rfl⟩
      have hdr := (bel_drewN (n := nq) (bel_refl (a := wr))).below
      have hccd := HCX.out.keepB hdr
      have HCD := Lib.hid hccd
      have HRD := Lib.hid (HRX.out.keepB hdr)
      have HBD := Lib.hid hdr
      have HTD : Hid (Tn (S3 k kc ka) wr (wr.drewN nq)) := Lib.hid (.of_below hdr)
      clear hdr hccd
      generalize wr.drewN nq = wd at HCD HTD HRD HBD ⊢
      cases hall : inB b a && inB b d with
      | true =>
        rw [Bool.and_eq_true] at hall
        obtain ⟨hp, hq⟩ := hall
        rw [hp] at KP
        rw [hq] at KQ
        have HKP := Lib.hid KP
        have HKQ := Lib.hid KQ
        have HLY := Lib.hid (Line_yes HCD.out a d hp hq)
        have HPP := Lib.hid (And.intro hp hq)
        clear KP KQ hp hq q0 q1 q2 q3
        go_upto_region 14 with (first | (go_at_call 14; (with_reducible refine HLY.out.mono ?_); rintro e w8 ⟨rfl, hcc8, ht8⟩; have HC8 := Lib.hid hcc8; have HT8 := Lib.hid ht8; clear hcc8 ht8) | fail)
        have ht : Tn (S3 k kc ka) wr w8 := HTD.out.trans (.of_turn HT8.out (.inl rfl))
        have hX8 := (HTX.out.trans ht).blk HX.out HNS.out.2
        have q0 : w8.cell? ⟨ab, ao + j * 2, none⟩ = some (.int .i64 a.1) := (HTW.out.trans ht).cell a0 HNS.out.1
        have q1 : w8.cell? ⟨ab, ao + j * 2 + 1, none⟩ = some (.int .i64 a.2) := (HTW.out.trans ht).cell a1 HNS.out.1
        have q2 : w8.cell? ⟨ab, ao + (j + 1) * 2, none⟩ = some (.int .i64 d.1) := (HTW.out.trans ht).cell d0 HNS.out.1
        have q3 : w8.cell? ⟨ab, ao + (j + 1) * 2 + 1, none⟩ = some (.int .i64 d.2) := (HTW.out.trans ht).cell d1 HNS.out.1
        have x0 : w8.cell? ⟨w.heap.size, 0, none⟩ = some (.int .i64 b.x0) := hX8.cell 0
        have x1 : w8.cell? ⟨w.heap.size, 1, none⟩ = some (.int .i64 b.y0) := hX8.cell 1
        have x2 : w8.cell? ⟨w.heap.size, 2, none⟩ = some (.int .i64 b.x1) := hX8.cell 2
        have x3 : w8.cell? ⟨w.heap.size, 3, none⟩ = some (.int .i64 b.y1) := hX8.cell 3
        have xl := hX8.lt
        have al8 : ab < w8.heap.size := by have := ht.size; omega
        have HT := Lib.hid ht
        clear ht hX8
        refine wp_region_bw_lit (by kernel_rfl) (by kernel_rfl) ?_
        repeat (go_big_quiet_step (first | (go_at_call 15; with_reducible exact Calls.bw_of (HKP.out _)) | (go_at_call 15; with_reducible exact Calls.bw_of (HKQ.out _))))
        refine wpQuiet_nil ?_
        rintro _ ⟨u, rfl⟩
        have hbu := u.prop
        have hzu := u.prop.size
        try simp at hzu
        have HU := Lib.hid hbu
        have al10 : ab < u.val.heap.size := Nat.lt_of_lt_of_le al8 hbu.size
        have r0 : u.val.cell? ⟨ab, ao + j * 2, none⟩ = some (.int .i64 a.1) := (hbu.cell (p := ⟨ab, _, none⟩) al8).trans q0
        have r1 : u.val.cell? ⟨ab, ao + j * 2 + 1, none⟩ = some (.int .i64 a.2) := (hbu.cell (p := ⟨ab, _, none⟩) al8).trans q1
        have r2 : u.val.cell? ⟨ab, ao + (j + 1) * 2, none⟩ = some (.int .i64 d.1) := (hbu.cell (p := ⟨ab, _, none⟩) al8).trans q2
        have r3 : u.val.cell? ⟨ab, ao + (j + 1) * 2 + 1, none⟩ = some (.int .i64 d.2) := (hbu.cell (p := ⟨ab, _, none⟩) al8).trans q3
        clear q0 q1 q2 q3 x0 x1 x2 x3 hbu hzu
        generalize u.val = w10 at *
        go_upto_region 17 with fail
        refine wp_region_drew_tail 10 (by kernel_rfl) (by kernel_rfl) ?_
        simp only [List.take_succ_cons, List.take_zero, List.drop_succ_cons, List.drop_zero]
        repeat (go_big_quiet_step (fail))
        refine wpQuiet_nil ?_
        rintro _ ⟨nq, rfl⟩
        have hdr := (bel_drewN (n := nq) (bel_refl (a := w10))).below
        have HUD := Lib.hid (HU.out.trans (hdr.mono HU.out.size))
        clear hdr r0 r1 r2 r3
        generalize w10.drewN nq = w11 at HUD ⊢
        have HR11 : Hid (Rc w11 g2 kc ka b cs) := Lib.hid (Rc.keepB ⟨HT8.out.blk HRD.out.blk HGK.out.2.2.2 (fun e => by cases e), HT8.out.blk HRD.out.cov (by omega) (fun e => by cases e), HT8.out.blk HRD.out.are (by omega) (fun e => by cases e), HRD.out.ne, HRD.out.len, HRD.out.box⟩ HUD.out)
        go_wp2_with (first | (go_at_call 16; (with_reducible refine (rLine_any HR11.out a d HPP.out.1 HPP.out.2).mono ?_); rintro e w12 ⟨⟨v', rfl⟩, hrc12, ht12⟩; have HRC12 := Lib.hid hrc12; have HT12 := Lib.hid ht12; clear hrc12 ht12) | fail)
        have hfin : LnsI b g k g2 kc ka w5 w12 := by
          refine ⟨lineC b cs a d, (HC8.out.keepB HUD.out).tn HT12.out ?_ ?_, HRC12.out, (HTX.out.trans HT.out).trans ((Tn.of_below HUD.out).trans (HT12.out.mono (fun i h => .inl (.inr h))))⟩
          · rintro (e | e)
            · exact HGK.out.2.1 e
            · exact HGK.out.2.2.1 e
          · rintro (e | e) <;> omega
        have HF := Lib.hid hfin
        clear hfin
        go_roundw
        case rel => exact ⟨j + 1, by omega, by go_num, HF⟩
        case measure => simp [intOf]; omega
      | false =>
        have HLN := Lib.hid (Line_no HCD.out a d hall)
        clear q0 q1 q2 q3
        have hcase : (inB b a = false) ∨ (inB b a = true ∧ inB b d = false) := by
          cases h : inB b a
          · exact .inl rfl
          · rw [h, Bool.true_and] at hall; exact .inr ⟨rfl, hall⟩
        clear hall
        rcases hcase with hp | ⟨hp, hq⟩
        all_goals
          rw [hp] at KP
          try rw [hq] at KQ
          have HKP := Lib.hid KP
          have HKQ := Lib.hid KQ
          clear KP KQ hp
          try clear hq
          go_upto_region 14 with (first | (go_at_call 14; (with_reducible refine HLN.out.mono ?_); rintro e w8 ⟨rfl, hb8⟩; have HB8 := Lib.hid hb8; clear hb8) | fail)
          have hb : Below wr.heap.size wr w8 := HBD.out.trans (HB8.out.mono HBD.out.size)
          have ht : Tn (S3 k kc ka) wr w8 := .of_below hb
          have hX8 := (HTX.out.trans ht).blk HX.out HNS.out.2
          have q0 : w8.cell? ⟨ab, ao + j * 2, none⟩ = some (.int .i64 a.1) := (HTW.out.trans ht).cell a0 HNS.out.1
          have q1 : w8.cell? ⟨ab, ao + j * 2 + 1, none⟩ = some (.int .i64 a.2) := (HTW.out.trans ht).cell a1 HNS.out.1
          have q2 : w8.cell? ⟨ab, ao + (j + 1) * 2, none⟩ = some (.int .i64 d.1) := (HTW.out.trans ht).cell d0 HNS.out.1
          have q3 : w8.cell? ⟨ab, ao + (j + 1) * 2 + 1, none⟩ = some (.int .i64 d.2) := (HTW.out.trans ht).cell d1 HNS.out.1
          have x0 : w8.cell? ⟨w.heap.size, 0, none⟩ = some (.int .i64 b.x0) := hX8.cell 0
          have x1 : w8.cell? ⟨w.heap.size, 1, none⟩ = some (.int .i64 b.y0) := hX8.cell 1
          have x2 : w8.cell? ⟨w.heap.size, 2, none⟩ = some (.int .i64 b.x1) := hX8.cell 2
          have x3 : w8.cell? ⟨w.heap.size, 3, none⟩ = some (.int .i64 b.y1) := hX8.cell 3
          have xl := hX8.lt
          have al8 : ab < w8.heap.size := by have := ht.size; omega
          have HBW := Lib.hid hb
          clear ht hX8 hb
          refine wp_region_bw_lit (by kernel_rfl) (by kernel_rfl) ?_
          repeat (go_big_quiet_step (first | (go_at_call 15; with_reducible exact Calls.bw_of (HKP.out _)) | (go_at_call 15; with_reducible exact Calls.bw_of (HKQ.out _))))
          refine wpQuiet_nil ?_
          rintro _ ⟨u, rfl⟩
          have hbu := u.prop
          have hzu := u.prop.size
          try simp at hzu
          have hb10 : Below wr.heap.size wr u.val := HBW.out.trans (hbu.mono HBW.out.size)
          have hfin : LnsI b g k g2 kc ka w5 u.val := ⟨cs, HCX.out.keepB hb10, HRX.out.keepB hb10, HTX.out.call hb10⟩
          have HF := Lib.hid hfin
          clear hfin hb10 q0 q1 q2 q3 x0 x1 x2 x3 hbu hzu
          generalize u.val = w10 at HF ⊢
          go_wp2_with fail
          go_roundw
          case rel => exact ⟨j + 1, by omega, by go_num, HF⟩
          case measure => simp [intOf]; omega
    · have hX1 := htn.blk HX.out (fun e => by rcases e with e | e | e <;> omega)
      have x0 : wr.cell? ⟨w.heap.size, 0, none⟩ = some (.int .i64 b.x0) := hX1.cell 0
      have x1 : wr.cell? ⟨w.heap.size, 1, none⟩ = some (.int .i64 b.y0) := hX1.cell 1
      have xl := hX1.lt
      have hz : atC b cs (b.x0 - 1) b.y0 = (0, 0) := by
        unfold atC
        rw [if_neg]
        unfold placeB
        rw [show withinB (b.x0 - 1) b.x0 b.x1 = false by rw [← Bool.not_eq_true, withinB_true]; omega, Bool.false_and]
        decide
      have KA := At_any hcc (b.x0 - 1) b.y0
      rw [hz] at KA
      have HKA := Lib.hid KA
      have HHO := Lib.hid (fun w' (hb : Below wr.heap.size wr w') => holds_any (hcc.keepB hb) (hrc.keepB hb) stop)
      have HBW : Hid (Below w.heap.size w wr) := Lib.hid (HB.out.trans (htn.below (fun i hi e => by rcases e with e | e | e <;> omega) (by omega)))
      have hx1 : -16384 ≤ b.x0 ∧ b.x0 ≤ 16384 := by have := HBX.out.x0; have := HBX.out.x1; have := HBX.out.x; omega
      obtain ⟨hx1, hx2⟩ := hx1
      have hcase : ¬ (j : Int) + 1 < ds.length ∨ ((j : Int) + 1 < ds.length ∧ ¬ j < 60) := by omega
      clear hcc hrc htn hX1 hz KA HI hgo
      rcases hcase with h1 | ⟨h1, h2⟩
      all_goals
        go_wp2_with (first
          | (go_at_call 17; (with_reducible refine HKA.out.mono ?_); rintro e w8 ⟨rfl, hb8⟩; have HB8 := Lib.hid hb8)
          | (go_at_call 18; (with_reducible refine (HHO.out _ hb8).mono ?_); rintro e w9 ⟨rfl, hb9⟩; have HB9 := Lib.hid hb9)
          | fail)
        go_ret
        exact ⟨rfl, HBW.out.trans ((HB8.out.trans (HB9.out.mono HB8.out.size)).mono HBW.out.size)⟩
theorem dots_of {w : World} {A : Option Addr} {n : Nat} (h : ∀ i, i < n → ∃ b o, A = some ⟨b, o, none⟩ ∧ b < w.heap.size ∧ CellsOk w [.int .i64, .int .i64] (fun j => w.cell? ⟨b, o + (i * [CK.int .i64, .int .i64].length + j), none⟩)) :
    ∃ ds : List Dt, ds.length = n ∧ Ds w A ds := by
  obtain ⟨l, hl, hq⟩ := list_of (p := fun k (d : Dt) => ∃ b o, A = some ⟨b, o, none⟩ ∧ b < w.heap.size ∧ w.cell? ⟨b, o + k * 2, none⟩ = some (.int .i64 d.1) ∧ w.cell? ⟨b, o + k * 2 + 1, none⟩ = some (.int .i64 d.2)) n (fun k hk => by
    obtain ⟨b', o', hA', hb', hc'⟩ := h k hk
    simp only [CellsOk, and_true, Nat.add_zero, List.length_cons, List.length_nil, Nat.zero_add] at hc'
    obtain ⟨⟨u, hu, ku⟩, v, hv', kv⟩ := hc'
    simp only [CellOk] at ku kv
    obtain ⟨x, rfl, -⟩ := ku
    obtain ⟨y, rfl, -⟩ := kv
    exact ⟨(x, y), b', o', hA', hb', hu, by rw [Nat.add_assoc]; exact hv'⟩)
  exact ⟨l, hl, hq⟩
theorem coverLines_any (b : B4) (A : Option Addr) (ds : List Dt) (c : Nat) (stop : Int) (w : World) (hd : Ds w A ds) (hn : ds.length ≤ 8796093022208) : Calls Try.prog 3 #[.agg #[.int .i64 b.x0, .int .i64 b.y0, .int .i64 b.x1, .int .i64 b.y1], .slice A ds.length c, .int .i64 stop] w fun e w' => e = .returned (.bool true) ∧ Below w.heap.size w w' := by
  cases hs : smallB b with
  | false => exact coverLines_no b A ds.length c stop w hs
  | true => exact coverLines_yes b A ds c stop w hd hn hs
end Go.Proofs.Ytbjggiihbdhmbaa
