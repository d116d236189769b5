/-
  Layer 22: CoverDown.
-/
import Derived.Test.YtbjggiihbdhmbaaCpE
import Derived.Deep.DeepCutAuto
namespace Go.Proofs.Ytbjggiihbdhmbaa
open Go.RowKit Go.Shelf

set_option maxRecDepth 100000 in
set_option maxHeartbeats 4000000 in
theorem coverDown_no (b : B4) (p q : Dt) (w : World) (hno : (smallB b && (inB b p && inB b q)) = false) : Calls Try.prog 5 #[.agg #[.int .i64 b.x0, .int .i64 b.y0, .int .i64 b.x1, .int .i64 b.y1], .agg #[.int .i64 p.1, .int .i64 p.2], .agg #[.int .i64 q.1, .int .i64 q.2]] w fun e w' => e = .returned (.bool true) ∧ Below w.heap.size w w' := by
  have KS := fun w => small_any b w
  cases hs : smallB b with
  | false =>
    rw [hs] at KS
    have HS := Lib.hid KS
    clear KS hno hs
    go_enter Try.func5, Try.ntmps5
    go_wp2_with (first | (go_at_call 12; (with_reducible refine (HS.out _).mono ?_); rintro e w1 ⟨rfl, hb1⟩; obtain ⟨hc1, hf1, hz1⟩ := bcell hb1; (try simp at hz1)) | (go_at_call 10; (with_reducible refine (lives_any _).mono ?_); rintro e w2 ⟨rfl, hb2⟩; obtain ⟨hc2, hf2, hz2⟩ := bcell hb2; (try simp at hz2)) | fail)
    go_ret
    refine ⟨rfl, Bel.below ?_⟩
    repeat (first | with_reducible exact bel_refl | with_reducible apply bel_alloc | with_reducible apply bel_drewN | with_reducible apply bel_drew | (with_reducible refine bel_set ?_ ?_; rotate_left; · first | (simp; done) | (simp; omega) | omega) | with_reducible refine bel_call (by assumption) ?_)
  | true =>
    have hbx := BoxOk.of (smallB_true.1 hs).1
    have KP := fun w => In_ok hbx p w
    have KQ := fun w => In_ok hbx q w
    rw [hs] at KS hno
    rw [Bool.true_and] at hno
    have HS := Lib.hid KS
    cases hp : inB b p with
    | false =>
      rw [hp] at KP
      have HP := Lib.hid KP
      clear KS KP KQ hno hs hp hbx
      go_enter Try.func5, Try.ntmps5
      go_wp2_with (first | (go_at_call 12; (with_reducible refine (HS.out _).mono ?_); rintro e w1 ⟨rfl, hb1⟩; obtain ⟨hc1, hf1, hz1⟩ := bcell hb1; (try simp at hz1)) | (go_at_call 15; (with_reducible refine (HP.out _).mono ?_); rintro e w2 ⟨rfl, hb2⟩; obtain ⟨hc2, hf2, hz2⟩ := bcell hb2; (try simp at hz2)) | (go_at_call 10; (with_reducible refine (lives_any _).mono ?_); rintro e w3 ⟨rfl, hb3⟩; obtain ⟨hc3, hf3, hz3⟩ := bcell hb3; (try simp at hz3)) | fail)
      go_ret
      refine ⟨rfl, Bel.below ?_⟩
      repeat (first | with_reducible exact bel_refl | with_reducible apply bel_alloc | with_reducible apply bel_drewN | with_reducible apply bel_drew | (with_reducible refine bel_set ?_ ?_; rotate_left; · first | (simp; done) | (simp; omega) | omega) | with_reducible refine bel_call (by assumption) ?_)
    | true =>
      rw [hp] at KP hno
      rw [Bool.true_and] at hno
      rw [hno] at KQ
      have HP := Lib.hid KP
      have HQ := Lib.hid KQ
      clear KS KP KQ hno hs hp hbx
      go_enter Try.func5, Try.ntmps5
      go_wp2_with (first | (go_at_call 12; (with_reducible refine (HS.out _).mono ?_); rintro e w1 ⟨rfl, hb1⟩; obtain ⟨hc1, hf1, hz1⟩ := bcell hb1; (try simp at hz1)) | (go_at_call 15; (with_reducible refine (HP.out _).mono ?_); rintro e w2 ⟨rfl, hb2⟩; obtain ⟨hc2, hf2, hz2⟩ := bcell hb2; (try simp at hz2)) | (go_at_call 15; (with_reducible refine (HQ.out _).mono ?_); rintro e w3 ⟨rfl, hb3⟩; obtain ⟨hc3, hf3, hz3⟩ := bcell hb3; (try simp at hz3)) | (go_at_call 10; (with_reducible refine (lives_any _).mono ?_); rintro e w4 ⟨rfl, hb4⟩; obtain ⟨hc4, hf4, hz4⟩ := bcell hb4; (try simp at hz4)) | fail)
      go_ret
      refine ⟨rfl, Bel.below ?_⟩
      repeat (first | with_reducible exact bel_refl | with_reducible apply bel_alloc | with_reducible apply bel_drewN | with_reducible apply bel_drew | (with_reducible refine bel_set ?_ ?_; rotate_left; · first | (simp; done) | (simp; omega) | omega) | with_reducible refine bel_call (by assumption) ?_)
theorem dn_clamp (p q : Dt) (y : Int) : dnS p q * (clampY y (dnB p q).2 - clampY y (dnA p q).2) = clampY y q.2 - clampY y p.2 := by
  unfold dnS dnA dnB
  split <;> omega
set_option maxRecDepth 100000 in
set_option maxHeartbeats 4000000 in
theorem coverDown_yes (b : B4) (p q : Dt) (w : World) (hs : smallB b = true) (hp : inB b p = true) (hq : inB b q = true) : Calls Try.prog 5 #[.agg #[.int .i64 b.x0, .int .i64 b.y0, .int .i64 b.x1, .int .i64 b.y1], .agg #[.int .i64 p.1, .int .i64 p.2], .agg #[.int .i64 q.1, .int .i64 q.2]] w fun e w' => e = .returned (.bool true) ∧ Below w.heap.size w w' := by
  have KS := fun w => small_any b w
  have hc0 := (smallB_true.1 hs).1
  have hbx := BoxOk.of hc0
  have KP := fun w => In_ok hbx p w
  have KQ := fun w => In_ok hbx q w
  rw [hs] at KS
  rw [hp] at KP
  rw [hq] at KQ
  have HS := Lib.hid KS
  have HP := Lib.hid KP
  have HQ := Lib.hid KQ
  have HN := Lib.hid (fun w => New_yes hc0 w)
  have HPP := Lib.hid hp
  have HQQ := Lib.hid hq
  have HBX := Lib.hid hbx
  clear KS KP KQ hs hp hq hbx hc0
  go_enter Try.func5, Try.ntmps5
  go_wp2_with (first
    | (go_at_call 12; (with_reducible refine (HS.out _).mono ?_); rintro e w1 ⟨rfl, hb1⟩; obtain ⟨hc1, hf1, hz1⟩ := bcell hb1; (try simp at hz1)) | (go_at_call 15; (with_reducible refine (HP.out _).mono ?_); rintro e w2 ⟨rfl, hb2⟩; obtain ⟨hc2, hf2, hz2⟩ := bcell hb2; (try simp at hz2)) | (go_at_call 15; (with_reducible refine (HQ.out _).mono ?_); rintro e w3 ⟨rfl, hb3⟩; obtain ⟨hc3, hf3, hz3⟩ := bcell hb3; (try simp at hz3))
    | (go_at_call 9; (with_reducible refine (HN.out _).mono ?_); rintro e w4 ⟨g, k, rfl, hcc, hg, hk, hb4⟩; obtain ⟨hc4, hf4, hz4⟩ := bcell hb4; have HCC := Lib.hid hcc; clear hcc)
    | (go_at_call 10; (with_reducible refine (lives_any _).mono ?_); rintro e w5 ⟨rfl, hb5⟩; obtain ⟨hc5, hf5, hz5⟩ := bcell hb5; (try simp at hz5)) | fail)
  have hz3' : w.heap.size + 3 ≤ w3.heap.size := by omega
  have hX5 : Blk w5 w.heap.size 23 [.int .i64 b.x0, .int .i64 b.y0, .int .i64 b.x1, .int .i64 b.y1] := by
    repeat (with_reducible refine Blk.belowI (by with_reducible assumption) (by (try simp); try omega) ?_)
    exact ((Blk.newAt _ _ [_, _, _, _] rfl).alloc _).alloc _
  have hP5 : Blk w5 (w.heap.size + 1) 36 [.int .i64 p.1, .int .i64 p.2] := by
    repeat (with_reducible refine Blk.belowI (by with_reducible assumption) (by (try simp); try omega) ?_)
    exact (Blk.newAt _ _ [_, _] (by simp)).alloc _
  have hQ5 : Blk w5 (w.heap.size + 1 + 1) 36 [.int .i64 q.1, .int .i64 q.2] := by
    repeat (with_reducible refine Blk.belowI (by with_reducible assumption) (by (try simp); try omega) ?_)
    exact Blk.newAt _ _ [_, _] (by simp)
  have hB5 : Below w.heap.size w w5 := by
    refine Bel.below ?_
    repeat (first | with_reducible exact bel_refl | with_reducible apply bel_alloc | with_reducible apply bel_drewN | with_reducible apply bel_drew | (with_reducible refine bel_set ?_ ?_; rotate_left; · first | (simp; done) | (simp; omega) | omega) | with_reducible refine bel_call (by assumption) ?_)
  have hC5 := HCC.out.keepB hb5
  have hkb : w.heap.size + 3 ≤ k := by omega
  have hsz5 : w.heap.size + 3 ≤ w5.heap.size := by omega
  have H5 := Lib.hid (And.intro hP5 (And.intro hQ5 (And.intro hX5 (And.intro hB5 hC5))))
  clear hc1 hf1 hz1 hb1 hc2 hf2 hz2 hb2 hc3 hf3 hz3 hb3 hc4 hf4 hz4 hb4 hc5 hf5 hz5 hb5 HCC hP5 hQ5 hX5 hB5 hC5 hg hk hz3'
  (go_at_call 14; (with_reducible refine (Line_yes H5.out.2.2.2.2 p q HPP.out HQQ.out).mono ?_); rintro e w6 ⟨rfl, hcc6, ht6⟩)
  obtain ⟨hP5, hQ5, hX5, hB5, -⟩ := H5.out
  have hP6 := ht6.blk hP5 (by omega) (fun e => by cases e)
  have hQ6 := ht6.blk hQ5 (by omega) (fun e => by cases e)
  have hX6 := ht6.blk hX5 (by omega) (fun e => by cases e)
  have hB6 := hB5.trans (below_turn ht6 (by omega) (by omega))
  have hsz6 : w.heap.size + 3 ≤ w6.heap.size := by have := ht6.size; omega
  have H6 := Lib.hid (And.intro hX6 (And.intro hB6 hcc6))
  have p1 : w6.cell? ⟨w.heap.size + 1, 1, none⟩ = some (.int .i64 p.2) := hP6.cell 1
  have q1 : w6.cell? ⟨w.heap.size + 1 + 1, 1, none⟩ = some (.int .i64 q.2) := hQ6.cell 1
  have pl := hP6.lt
  have ql := hQ6.lt
  have x1 : w6.cell? ⟨w.heap.size, 1, none⟩ = some (.int .i64 b.y0) := hX6.cell 1
  have xl := hX6.lt
  clear hP5 hQ5 hX5 hB5 H5 ht6 hP6 hQ6 hX6 hB6 hcc6
  go_upto_region 6 with fail
  go_quiet (fail)
  have HXX := Lib.hid H6.out.1
  have p1' : (w6.drewN nq).cell? ⟨w.heap.size + 1, 1, none⟩ = some (.int .i64 p.2) := p1
  have q1' : (w6.drewN nq).cell? ⟨w.heap.size + 1 + 1, 1, none⟩ = some (.int .i64 q.2) := q1
  go_upto_if 66 with fail
  go_cut [9, 10, 11] (fun s9 s10 s11 wx => s9 = .int .i64 (dnA p q).2 ∧ s10 = .int .i64 (dnB p q).2 ∧ s11 = .int .i64 (dnS p q) ∧ Hid (Below w6.heap.size w6 wx))
  case first =>
    by_cases hgt : q.2 < p.2
    · go_wp2_with fail
      go_quiet (fail)
      go_wp2_with fail
      go_meet
      rw [show dnA p q = q from if_pos (by omega), show dnB p q = p from if_pos (by omega), show dnS p q = -1 from if_pos (by omega)]
      exact ⟨rfl, rfl, rfl, Lib.hid (bel_drewN (bel_drewN bel_refl)).below⟩
    · go_wp2_with fail
      go_meet
      rw [show dnA p q = p from if_neg (by omega), show dnB p q = q from if_neg (by omega), show dnS p q = 1 from if_neg (by omega)]
      exact ⟨rfl, rfl, rfl, Lib.hid (bel_drewN bel_refl).below⟩
  case rest =>
    obtain ⟨rfl, rfl, rfl, HBC⟩ := hcut
    obtain ⟨wz, hwz⟩ : ∃ wz, wz = wc := ⟨_, rfl⟩
    subst hwz
    have hX0 := HXX.out.keepB HBC.out
    have hle := dn_le p q
    have hcl := dn_clamp p q
    have hsg := dnS_one p q
    obtain ⟨i1, i2⟩ := dn_in HPP.out HQQ.out
    have i1' := inB_true.1 i1
    have i2' := inB_true.1 i2
    generalize (dnA p q).2 = tp at *
    generalize (dnB p q).2 = en at *
    generalize dnS p q = sg at *
    obtain ⟨-, t1, t2⟩ := i1'
    obtain ⟨-, e1, e2⟩ := i2'
    have hbx := HBX.out
    have hh := hig_cast hbx
    have hw := wid_cast hbx
    have hwdd : widB b = b.x1 - b.x0 + 1 := rfl
    have hln := len_nat hbx H6.out.2.2.len
    obtain ⟨bx0, bx1, bx, by0, by1, byy, -⟩ := hbx
    have HCL := Lib.hid hcl
    have HW := Lib.hid (And.intro hw (And.intro hh (And.intro hwdd hln)))
    have HCC := Lib.hid (H6.out.2.2.keepB HBC.out)
    have HX := Lib.hid hX0
    have HBW : Hid (Below w.heap.size w wz) := Lib.hid (H6.out.2.1.trans (HBC.out.mono H6.out.2.1.size))
    have x1' : wz.cell? ⟨w.heap.size, 1, none⟩ = some (.int .i64 b.y0) := hX0.cell 1
    have xl' := hX0.lt
    have hsc : w.heap.size ≤ wz.heap.size := by omega
    clear p1 q1 p1' q1' pl ql x1 xl i1 i2 hh hw hwdd hln hcl hX0 HXX H6 HBC
    go_wp2_with fail
    clear x1'
    go_loopw [12] (fun y wr => ∃ (j : Nat) (Y : Int), j ≤ higN b ∧ Hid (Y = b.y0 + j) ∧ y = .int .i64 Y ∧ Hid (Below wz.heap.size wz wr)) (fun y _ => (b.y1 - intOf y).toNat)
    case atStart => exact ⟨0, b.y0, Nat.zero_le _, Lib.hid (by simp), rfl, Lib.hid (Below.refl _ _)⟩
    case round =>
      obtain ⟨j, Y, hj, HY, rfl, HB⟩ := hrel
      obtain ⟨hw, hh, hwdd, hln⟩ := HW.out
      have hY := HY.out
      have hX1 := HX.out.keepB HB.out
      have x3 : wr.cell? ⟨w.heap.size, 3, none⟩ = some (.int .i64 b.y1) := hX1.cell 3
      have x0 : wr.cell? ⟨w.heap.size, 0, none⟩ = some (.int .i64 b.x0) := hX1.cell 0
      have xl := hX1.lt
      by_cases hlt : j < higN b
      · have hlt2 : Y < b.y1 := by omega
        have hY0 : b.y0 ≤ Y := by omega
        obtain ⟨D, hD⟩ : ∃ D, clampY Y q.2 - clampY Y p.2 = D := ⟨_, rfl⟩
        have hDb : D = if max (64 * Y) tp < min (64 * Y + 64) en then sg * (min (64 * Y + 64) en - max (64 * Y) tp) else 0 := by
          rw [← hD, ← HCL.out Y]
          unfold clampY
          rcases hsg with rfl | rfl <;> (repeat' split) <;> omega
        have hDr : -64 ≤ D ∧ D ≤ 64 := by rcases hsg with rfl | rfl <;> (rw [hDb]; split <;> omega)
        have hrow : rowSum (lineC b (zerC (numB b)) p q) (j * widN b) (widN b) = D := by
          rw [lineO_eq, rowSum_eq]
          · rw [line_row HBX.out j HPP.out HQQ.out, ← hY, hD]
            exact IntWalk.wrap64_in _ (by omega)
          · have h1 : (lineC b (zerC (numB b)) p q).length = numB b := by rw [lineC_len]; simp [zerC]
            rw [h1] at hln
            rw [hln]
            have : (j + 1) * widN b ≤ higN b * widN b := Nat.mul_le_mul_right _ hlt
            rw [Nat.add_mul] at this
            omega
        have HROW := Lib.hid hrow
        have HDB := Lib.hid hDb
        obtain ⟨d1, d2⟩ := hDr
        obtain ⟨wo, hwo⟩ : ∃ wo : World, wo = wr := ⟨_, rfl⟩
        clear hw hh hwdd hln hY hX1 hD hDb hrow hj
        go_upto_if 86 with fail
        go_cut [13] (fun s wx => s = .int .i64 (max (64 * Y) tp) ∧ wr = wx)
        case first =>
          by_cases c : 64 * Y < tp
          all_goals
            go_wp2_with fail
            go_meet
            exact ⟨int_eq (by omega), rfl⟩
        case rest =>
          obtain ⟨rfl, rfl⟩ := hcut
          generalize hfr : max (64 * Y) tp = fr at *
          have hfr1 : -1048576 ≤ fr ∧ fr ≤ 1048576 := by omega
          have hfr2 : fr = 64 * Y ∨ fr = tp := by omega
          obtain ⟨f1, f2⟩ := hfr1
          clear hfr
          go_upto_if 90 with fail
          go_cut [14] (fun s wx => s = .int .i64 (min (64 * Y + 64) en) ∧ wr = wx)
          case first =>
            by_cases c : en < 64 * Y + 64
            all_goals
              go_wp2_with fail
              go_meet
              exact ⟨int_eq (by omega), rfl⟩
          case rest =>
            obtain ⟨rfl, rfl⟩ := hcut
            generalize hto : min (64 * Y + 64) en = tt at *
            have hto1 : -1048576 ≤ tt ∧ tt ≤ 1048576 := by omega
            obtain ⟨g1, g2⟩ := hto1
            clear hto hfr2
            go_upto_if 94 with fail
            go_cut [15] (fun s wx => s = .int .i64 D ∧ wr = wx)
            case first =>
              have hD := HDB.out
              clear HDB
              by_cases c : fr < tt
              · rw [if_pos c] at hD
                rcases hsg with rfl | rfl
                all_goals
                  go_wp2_with fail
                  go_meet
                  exact ⟨int_eq (by omega), rfl⟩
              · rw [if_neg c] at hD
                go_wp2_with fail
                go_meet
                exact ⟨int_eq (by omega), rfl⟩
            case rest =>
              obtain ⟨rfl, rfl⟩ := hcut
              go_wp2_with fail
              clear x0 x3 xl
              go_loopw [16, 17] (fun s x wq => ∃ (m : Nat) (S X : Int), m ≤ widN b ∧ Hid (X = b.x0 + m) ∧ x = .int .i64 X ∧ Hid (rowSum (lineC b (zerC (numB b)) p q) (j * widN b) m = S) ∧ s = .int .i64 S ∧ Hid (Below wz.heap.size wz wq)) (fun _ x _ => (b.x1 + 1 - intOf x).toNat)
              case atStart => exact ⟨0, 0, b.x0, Nat.zero_le _, Lib.hid (by simp), rfl, Lib.hid rfl, rfl, HB⟩
              case round =>
                obtain ⟨m, S, X, hm, HX2, rfl, HS2, rfl, HB2⟩ := hrel
                have hX2 := HX2.out
                have hY := HY.out
                obtain ⟨hw, hh, hwdd, hln⟩ := HW.out
                have hXb := HX.out.keepB HB2.out
                have x2 : wr.cell? ⟨w.heap.size, 2, none⟩ = some (.int .i64 b.x1) := hXb.cell 2
                have xl := hXb.lt
                by_cases hlm : m < widN b
                · have hlm2 : X ≤ b.x1 := by omega
                  have hcc := HCC.out.keepB HB2.out
                  have KA := At_any hcc X Y
                  have hsc1 := (step_cell HBX.out (lineC b (zerC (numB b)) p q) hlt hlm).1
                  rw [← hX2, ← hY] at hsc1
                  generalize atC b (lineC b (zerC (numB b)) p q) X Y = z at *
                  obtain ⟨z1, z2⟩ := z
                  have hnext : rowSum (lineC b (zerC (numB b)) p q) (j * widN b) (m + 1) = wrap64 (S + z1) := by rw [rowSum, HS2.out, ← hsc1]
                  have HNX := Lib.hid hnext
                  have HKA := Lib.hid KA
                  have hX3 : -16384 ≤ X := by omega
                  clear hX2 hY hw hh hwdd hln hXb hcc KA hsc1 hnext
                  go_wp2_with (first | (go_at_call 17; (with_reducible refine HKA.out.mono ?_); rintro e w8 ⟨rfl, hb8⟩; have HB8 := Lib.hid hb8; clear hb8) | fail)
                  go_roundw
                  case rel => exact ⟨m + 1, wrap64 (S + z1), X + 1, by omega, Lib.hid (by have := HX2.out; omega), rfl, HNX, rfl, Lib.hid (HB2.out.trans (HB8.out.mono HB2.out.size))⟩
                  case measure => simp [intOf]; omega
                · have hlm2 : ¬ X ≤ b.x1 := by omega
                  have hme : m = widN b := by omega
                  have hSD : S = D := by rw [← HS2.out, ← HROW.out, hme]
                  subst hSD
                  clear hX2 hY hw hh hwdd hln hXb hme
                  go_wp2_with fail
                  go_roundw
                  case rel => exact ⟨j + 1, Y + 1, by omega, Lib.hid (by have := HY.out; omega), rfl, HB2⟩
                  case measure => simp [intOf]; omega
      · have hlt2 : ¬ Y < b.y1 := by omega
        clear hw hh hwdd hln hY hX1
        go_wp2_with fail
        go_ret
        exact ⟨rfl, HBW.out.trans (HB.out.mono hsc)⟩
theorem coverDown_any (b : B4) (p q : Dt) (w : World) : Calls Try.prog 5 #[.agg #[.int .i64 b.x0, .int .i64 b.y0, .int .i64 b.x1, .int .i64 b.y1], .agg #[.int .i64 p.1, .int .i64 p.2], .agg #[.int .i64 q.1, .int .i64 q.2]] w fun e w' => e = .returned (.bool true) ∧ Below w.heap.size w w' := by
  cases hs : smallB b with
  | false => exact coverDown_no b p q w (by rw [hs]; rfl)
  | true =>
    cases hp : inB b p with
    | false => exact coverDown_no b p q w (by rw [hs, hp]; rfl)
    | true =>
      cases hq : inB b q with
      | false => exact coverDown_no b p q w (by rw [hs, hp, hq]; rfl)
      | true => exact coverDown_yes b p q w hs hp hq
end Go.Proofs.Ytbjggiihbdhmbaa
