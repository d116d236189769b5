/-
  Layer 22: the bits of a piece, gone over by an iterator.
-/
import Derived.Test.YtbflncfhbmlibaaCoE
import Derived.Sort.BigQuietIn

namespace Go.Proofs.Ytbflncfhbmlibaa

open Go.RowKit Go.Shelf

attribute [local go_sem] Oper.semAt_some

/-- The iterator's own: where it is on the way. -/
def ColI (J : List Bt → World → Prop) (N bb ba : Nat) (a b : Dt) (r : Nat) (s6 : Value) (wr : World) : Prop :=
  ∃ (u v : Int) (pre : List Bt), s6 = .int .i64 (nx a b u) ∧ (sizeI (b.1 - u)).toNat = r ∧ btw a.1 b.1 u ∧ btw a.2 b.2 v ∧ pre ++ bitsR a b u v = bitsR a b a.1 a.2 ∧ J pre wr ∧
    Blk wr bb 37 [.int .i64 b.1, .int .i64 b.2] ∧ Blk wr ba 37 [.int .i64 a.1, .int .i64 a.2] ∧ Blk wr N 37 [.int .i64 u, .int .i64 v] ∧ N ≤ wr.heap.size

set_option maxRecDepth 20000 in
set_option maxHeartbeats 4000000 in
theorem cols_gives {u : World} {a b : Dt} (n bb ba : Nat) (hb : Blk u bb 37 [.int .i64 b.1, .int .i64 b.2]) (ha : Blk u ba 37 [.int .i64 a.1, .int .i64 a.2]) (fa : dotB a = true) (fb : dotB b = true)
    {Kp : World → World → Prop} (hKp : ∀ {A B : World}, Kp A B → A.heap.size ≤ B.heap.size ∧ ∀ k t cs, (k = bb ∨ k = ba ∨ u.heap.size ≤ k) → Blk A k t cs → Blk B k t cs) :
    GivesB n Try.prog 103 #[.pointer (some ⟨bb, 0, none⟩), .pointer (some ⟨ba, 0, none⟩)] btV Kp (fun pre x => pre ++ [x] <+: bitsR a b a.1 a.2) (fun xs => xs = bitsR a b a.1 a.2) (fun _ => True) u := by
  intro l J Jx W hW hJ hJx hY h0
  obtain ⟨a1, a2⟩ := a
  obtain ⟨b1, b2⟩ := b
  dsimp only at hb ha hY ⊢
  have ha' := ha.keepB hW
  have hb' := hb.keepB hW
  have a0 : W.cell? ⟨ba, 0, none⟩ = some (.int .i64 a1) := ha'.cell 0
  have a1' : W.cell? ⟨ba, 1, none⟩ = some (.int .i64 a2) := ha'.cell 1
  have b0 : W.cell? ⟨bb, 0, none⟩ = some (.int .i64 b1) := hb'.cell 0
  have b1' : W.cell? ⟨bb, 1, none⟩ = some (.int .i64 b2) := hb'.cell 1
  have al := ha'.lt
  have bl := hb'.lt
  have hfa := dotB_true.1 fa
  have hfb := dotB_true.1 fb
  dsimp only at hfa hfb
  obtain ⟨⟨x1, x2⟩, x3, x4⟩ := hfa
  obtain ⟨⟨y1, y2⟩, y3, y4⟩ := hfb
  have hus := hW.size
  have HA := Lib.hid ha'
  have HB := Lib.hid hb'
  have HJ := Lib.hid hJ
  have HY := Lib.hid hY
  have H0 := Lib.hid h0
  have HC := Lib.hid (fun w => Ceil26_any a1 w (by omega) (by omega))
  have s1 : IntKind.i64.wrap (b1 - a1) = b1 - a1 := IntWalk.i64_in _ (by omega)
  have s2 : IntKind.i64.wrap (a1 - b1) = a1 - b1 := IntWalk.i64_in _ (by omega)
  have hsz : max (b1 - a1) (a1 - b1) = sizeI (b1 - a1) := size_max2 b1 a1
  have HSZ := Lib.hid hsz
  have hbl : bb < W.heap.size := bl
  have hst : ∀ nq, ColI J W.heap.size bb ba (a1, a2) (b1, b2) (sizeI (b1 - a1)).toNat (.int .i64 (nx (a1, a2) (b1, b2) a1)) ((((W.drewN nq).alloc (.cells #[.int .i64 0, .int .i64 0] 37)).setCell ⟨W.heap.size, 0, none⟩ (.int .i64 a1)).setCell ⟨W.heap.size, 1, none⟩ (.int .i64 a2)) := fun nq => by
    have hb2 : Below W.heap.size W ((((W.drewN nq).alloc (.cells #[.int .i64 0, .int .i64 0] 37)).setCell ⟨W.heap.size, 0, none⟩ (.int .i64 a1)).setCell ⟨W.heap.size, 1, none⟩ (.int .i64 a2)) := (((bel_alloc (bel_drewN (n := nq) (bel_refl (a := W)))).below.setCell (Nat.le_refl _) _).setCell (Nat.le_refl _) _)
    have h7 : Blk ((W.drewN nq).alloc (.cells #[.int .i64 0, .int .i64 0] 37)) W.heap.size 37 [.int .i64 0, .int .i64 0] := Blk.newAt _ _ [_, _] (by simp)
    exact ⟨a1, a2, [], rfl, rfl, btw_l _ _, btw_l _ _, rfl, HJ.out _ _ _ H0.out hb2, hb'.keepB hb2, ha'.keepB hb2, (h7.set 0 _).set 1 _, by simp⟩
  have HST := Lib.hid hst
  clear ha hb hJ hJx hY h0 ha' hb' hW hst hsz
  refine callsIn_of_wp Try.func103 rfl trivial ?_ rfl
  simp only [Try.ntmps103, List.size_toArray, List.length_cons, List.length_nil, Nat.reduceAdd, Nat.reduceSub, Array.replicate_succ, Array.replicate_zero, List.push_toArray, List.append_toArray, List.nil_append, List.cons_append]
  gi_upto_region 0 with (fail)
  refine wpIn_region_free free_wide (by kernel_rfl) (by kernel_rfl) (by kernel_rfl) ?_
  repeat (go_big_quiet_step (fail))
  refine wpQuiet_nil ?_
  rintro _ ⟨nq, rfl⟩
  rw [HSZ.out]
  clear s1 s2
  have KF := Floor26_any a1
  have HF := Lib.hid KF
  clear KF
  by_cases hdn : b1 < a1
  all_goals
    first
      | (have hst4 : stp (a1, a2) (b1, b2) = -64 := if_pos hdn
         have hx0 : (-(-a1 / 64) - 1) * 64 = nx (a1, a2) (b1, b2) a1 := by unfold nx; rw [if_pos hdn]; omega)
      | (have hst4 : stp (a1, a2) (b1, b2) = 64 := if_neg hdn
         have hx0 : (a1 / 64 + 1) * 64 = nx (a1, a2) (b1, b2) a1 := by unfold nx; rw [if_neg hdn]; omega)
    have HX0 := Lib.hid hx0
    have HS4 := Lib.hid hst4
    clear hx0 hst4
    gi_wp2_with (first
      | (refine ⟨trivial, fun he => (by cases he), ?_⟩; (with_reducible refine (callsIn_wide.2 (HF.out _)).mono ?_); rintro e w4 ⟨rfl, rfl⟩)
      | (refine ⟨trivial, fun he => (by cases he), ?_⟩; (with_reducible refine (callsIn_wide.2 (HC.out _)).mono ?_); rintro e w4 ⟨rfl, rfl⟩))
    gi_loopg [6] ((sizeI (b1 - a1)).toNat) (fun r s6 wr => ColI J W.heap.size bb ba (a1, a2) (b1, b2) r s6 wr)
    case atStart => rw [HX0.out]; exact HST.out nq
    case round =>
      clear HX0 HST hdn HF HC
      obtain ⟨p, v, pre, rfl, hr, hbu, hbv, hpre, hJ1, hb, ha, h7, hNr⟩ := hrel
      have b0 : wr.cell? ⟨bb, 0, none⟩ = some (.int .i64 b1) := hb.cell 0
      have b1' : wr.cell? ⟨bb, 1, none⟩ = some (.int .i64 b2) := hb.cell 1
      have a0 : wr.cell? ⟨ba, 0, none⟩ = some (.int .i64 a1) := ha.cell 0
      have a1' : wr.cell? ⟨ba, 1, none⟩ = some (.int .i64 a2) := ha.cell 1
      have c70 : wr.cell? ⟨W.heap.size, 0, none⟩ = some (.int .i64 p) := h7.cell 0
      have c71 : wr.cell? ⟨W.heap.size, 1, none⟩ = some (.int .i64 v) := h7.cell 1
      have bl' := hb.lt
      have al' := ha.lt
      have l7 := h7.lt
      have hnb := nx_bd hbu ⟨x1, x2⟩ ⟨y1, y2⟩
      have hcond := nx_cond hbu
      obtain ⟨x, hx⟩ : ∃ x, nx (a1, a2) (b1, b2) p = x := ⟨_, rfl⟩
      rw [hx] at hnb hcond ⊢
      obtain ⟨hxl, hxh⟩ := hnb
      have hbu' := hbu
      have hbv' := hbv
      unfold btw at hbu' hbv'
      dsimp only at hbu' hbv' hcond
      have HX := Lib.hid hx
      have HR := Lib.hid hr
      have HBU := Lib.hid hbu
      have HBV := Lib.hid hbv
      have HPR := Lib.hid hpre
      have HJ1 := Lib.hid hJ1
      have H7 := Lib.hid h7
      have HBB := Lib.hid hb
      have HAA := Lib.hid ha
      clear hx hr hbu hbv hpre hJ1 h7 hb ha
      by_cases hgo : min a1 b1 < x ∧ x < max a1 b1
      · obtain ⟨hg1, hg2⟩ := hgo
        have HNE := Lib.hid (hcond.1 ⟨hg1, hg2⟩)
        clear hcond
        gi_upto_region 7 with (fail)
        have hxs : stepX p b1 = x := by rw [← HX.out]; exact nx_step HBU.out HNE.out
        have hbx : btw a1 b1 x := by rw [← hxs]; exact stepX_btw' HBU.out
        have hne : a1 ≠ b1 := fun e => stepX_ne HNE.out (by have h := HBU.out; unfold btw at h; dsimp only at h; omega)
        have hz := zAt_btw (a := (a1, a2)) (b := (b1, b2)) hbx hne
        obtain ⟨nr, hnr⟩ : ∃ nr, near ((b2 - a2) * sizeI (x - a1)) (sizeI (b1 - a1)) = nr := ⟨_, rfl⟩
        have hzz : zAt (a1, a2) (b1, b2) x = a2 + nr := by rw [← hnr]; rfl
        rw [hzz] at hz
        have hz' := hz
        unfold btw at hz' hbx
        dsimp only at hz' hbx
        have hs0 : max (x - a1) (a1 - x) = sizeI (x - a1) := size_max2 x a1
        have hs1 : 1 ≤ sizeI (b1 - a1) ∧ sizeI (b1 - a1) ≤ 4194304 := by unfold sizeI; split <;> omega
        have hs2 : 0 ≤ sizeI (x - a1) ∧ sizeI (x - a1) ≤ 4194304 := by unfold sizeI; split <;> omega
        have KA := fun w => along_any (w := w) (b2 - a2) (sizeI (x - a1)) (sizeI (b1 - a1)) (by omega) (by omega) (by omega) (by omega) (by omega) (by omega)
        rw [hnr, ← hs0] at KA
        have HKA := Lib.hid KA
        have HZ := Lib.hid hz
        have HZZ := Lib.hid hzz
        have HXS := Lib.hid hxs
        have t1 : IntKind.i64.wrap (b2 - a2) = b2 - a2 := IntWalk.i64_in _ (by omega)
        have t2 : IntKind.i64.wrap (x - a1) = x - a1 := IntWalk.i64_in _ (by omega)
        have t3 : IntKind.i64.wrap (a1 - x) = a1 - x := IntWalk.i64_in _ (by omega)
        have t4 : IntKind.i64.wrap (a2 + nr) = a2 + nr := IntWalk.i64_in _ (by omega)
        have q0 : ∀ u, Aft wr u → u.cell? ⟨bb, 1, none⟩ = some (.int .i64 b2) := fun u hu => (hu.cell (p := ⟨_, _, none⟩) bl').trans b1'
        have q1 : ∀ u, Aft wr u → u.cell? ⟨ba, 0, none⟩ = some (.int .i64 a1) := fun u hu => (hu.cell (p := ⟨_, _, none⟩) al').trans a0
        have q2 : ∀ u, Aft wr u → u.cell? ⟨ba, 1, none⟩ = some (.int .i64 a2) := fun u hu => (hu.cell (p := ⟨_, _, none⟩) al').trans a1'
        clear KA hz hzz hz' hs0 hs1 hs2 hbx hne hnr hxs
        gi_cut [8] from 101 (fun s8 wx => ∃ b8, s8 = .pointer (some ⟨b8, 0, none⟩) ∧ wr.heap.size ≤ b8 ∧ Hid (Blk wx b8 37 [.int .i64 x, .int .i64 (a2 + nr)]) ∧ Hid (Aft wr wx))
        case first =>
          clear a0 a1' b0 b1' c70 c71
          refine wpIn_wide.2 ?_
          go_region_held (fun u => Aft wr u) (first | (with_reducible exact aft_drew) | (with_reducible exact (Aft.alloc aft_refl _).drew) | (with_reducible exact HA1.out) | (with_reducible exact HA1.out.alloc _) | ((with_reducible refine Aft.set (Aft.set ?_ ?_ _) ?_ _); (· exact HA1.out); all_goals (exact Nat.le_refl _)))
            (first
              | (go_at_call 102; (with_reducible refine (HKA.out _).mono ?_); rintro e w1 ⟨rfl, hb1⟩; have HA1 : Hid (Aft wr w1) := Lib.hid (aft_drew.call hb1); clear hb1)
              | (go_at_call 102; (with_reducible refine (HKA.out _).mono ?_); rintro e w1 ⟨rfl, hb1⟩; have HA1 : Hid (Aft wr w1) := Lib.hid ((Aft.alloc aft_refl _).drew.call hb1); have HZ1 : Hid (Blk w1 wr.heap.size 37 [.int .i64 0, .int .i64 0]) := Lib.hid ((Blk.new wr 37 [.int .i64 0, .int .i64 0]).drew.keepB hb1); have z0 := HZ1.out.cell 0; have z1 := HZ1.out.cell 1; have g0 := HZ1.out.frozen 0; have g1 := HZ1.out.frozen 1; simp at z0 z1; clear hb1))
          all_goals (go_wp2_with fail; gi_meet)
          all_goals first
            | exact ⟨_, rfl, HA1.out.size, Lib.hid (Blk.new w1 37 [_, _]), Lib.hid (HA1.out.alloc _)⟩
            | exact ⟨_, rfl, Nat.le_refl _, Lib.hid ((HZ1.out.set 0 _).set 1 _), Lib.hid ((HA1.out.set (Nat.le_refl _) _).set (Nat.le_refl _) _)⟩
        case rest =>
          obtain ⟨b8, rfl, hb8, H8, HW⟩ := hcut
          clear q0 q1 q2 t1 t2 t3 t4 HKA a0 a1' b0 b1' c70 c71
          have H7c := Lib.hid (H7.out.keepB HW.out)
          have d70 : wc.cell? ⟨W.heap.size, 0, none⟩ = some (.int .i64 p) := H7c.out.cell 0
          have d71 : wc.cell? ⟨W.heap.size, 1, none⟩ = some (.int .i64 v) := H7c.out.cell 1
          have d80 : wc.cell? ⟨b8, 0, none⟩ = some (.int .i64 x) := H8.out.cell 0
          have d81 : wc.cell? ⟨b8, 1, none⟩ = some (.int .i64 (a2 + nr)) := H8.out.cell 1
          have dl7 := H7c.out.lt
          have dl8 := H8.out.lt
          have hpx : pre ++ [⟨p, v, x, a2 + nr⟩] ++ bitsR (a1, a2) (b1, b2) x (a2 + nr) = bitsR (a1, a2) (b1, b2) a1 a2 := by
            have h1 := HPR.out
            have h2 := bitsR_step (a := (a1, a2)) (b := (b1, b2)) (u := p) (v := v) HNE.out
            rw [HXS.out, HZZ.out] at h2
            rw [h2] at h1
            rw [← h1]
            simp
          have HBW : Hid (Below W.heap.size wr wc) := Lib.hid (HW.out.mono hNr)
          have hzw := HW.out.size
          gi_upto_region 8 with (fail)
          refine wpIn_region_drew_tail 9 free_wide (by kernel_rfl) (by kernel_rfl) (by kernel_rfl) ?_
          simp only [List.take_succ_cons, List.take_zero, List.drop_succ_cons, List.drop_zero]
          repeat (go_big_quiet_step ((go_at_call 51; exact Calls.q_left (Floor26_any _ _))))
          refine wpQuiet_nil ?_
          rintro _ ⟨nq2, rfl⟩
          obtain ⟨fn, tmps, assign, body, hy, hR⟩ := HY.out pre ⟨p, v, x, a2 + nr⟩ (wc.drewN nq2) (by simp; omega) (HJ.out _ _ _ HJ1.out ((HBW.out.trans ((bel_drewN bel_refl).below.mono (by omega))))) ⟨_, hpx⟩
          have HRY := Lib.hid hR
          have HPX := Lib.hid hpx
          dsimp only [btV, Bt.col] at hy
          clear hR hpx
          gi_wp2
          refine ⟨fun he => (by cases he), HRY.out.mono ?_⟩
          rintro e W4 (⟨rfl, hJ4, hk4⟩ | ⟨rfl, hJx4⟩)
          · obtain ⟨hz4, hk4⟩ := hKp hk4
            have hzd : (wc.drewN nq2).heap.size = wc.heap.size := rfl
            rw [hzd] at hz4
            have g8 := hk4 b8 _ _ (.inr (.inr (by omega))) (H8.out.drewN nq2)
            have g7 := hk4 W.heap.size _ _ (.inr (.inr hus)) (H7c.out.drewN nq2)
            have gb := hk4 bb _ _ (.inl rfl) ((HBB.out.keepB HW.out).drewN nq2)
            have ga := hk4 ba _ _ (.inr (.inl rfl)) ((HAA.out.keepB HW.out).drewN nq2)
            have y70 : W4.cell? ⟨W.heap.size, 0, none⟩ = some (.int .i64 p) := g7.cell 0
            have y71 : W4.cell? ⟨W.heap.size, 1, none⟩ = some (.int .i64 v) := g7.cell 1
            have y80 : W4.cell? ⟨b8, 0, none⟩ = some (.int .i64 x) := g8.cell 0
            have y81 : W4.cell? ⟨b8, 1, none⟩ = some (.int .i64 (a2 + nr)) := g8.cell 1
            have f70 := g7.frozen 0
            have f71 := g7.frozen 1
            have y7l := g7.lt
            have y8l := g8.lt
            have hnb : bb ≠ W.heap.size := by omega
            have hna : ba ≠ W.heap.size := by omega
            have hnx : nx (a1, a2) (b1, b2) x = x + stp (a1, a2) (b1, b2) := by rw [← HX.out]; exact nx_next
            rw [HS4.out] at hnx
            have hfin : ColI J W.heap.size bb ba (a1, a2) (b1, b2) (sizeI (b1 - x)).toNat (.int .i64 (nx (a1, a2) (b1, b2) x)) ((W4.setCell ⟨W.heap.size, 0, none⟩ (.int .i64 x)).setCell ⟨W.heap.size, 1, none⟩ (.int .i64 (a2 + nr))) := by
              refine ⟨x, a2 + nr, _, rfl, rfl, by have := stepX_btw' HBU.out; rwa [HXS.out] at this, HZ.out, HPX.out, ?_, (gb.far hnb _).far hnb _, (ga.far hna _).far hna _, (g7.set 0 _).set 1 _, by simp; omega⟩
              exact HJ.out _ _ _ hJ4 (((Below.refl _ W4).setCell (by simp) _).setCell (by simp) _)
            rw [hnx] at hfin
            have HMS : Hid ((sizeI (b1 - x)).toNat < gk) := Lib.hid (by
              have h1 := stepX_near HNE.out
              rw [HXS.out] at h1
              have h2 := HR.out
              omega)
            have HFI := Lib.hid hfin
            clear g8 g7 gb ga hJ4 hk4 hfin hy d70 d71 d80 d81 hnx
            gi_wp2
            gi_roundg ((sizeI (b1 - x)).toNat)
            case rel => exact HFI.out
            case measure => exact HMS.out
          · have HJ4 := Lib.hid hJx4
            clear hJx4 hy
            gi_wp2
            refine bodyPost_ret (results_none rfl _ _ _) rfl ?_
            exact ⟨⟨_, rfl⟩, .inr ⟨_, trivial, HJ4.out⟩⟩
      · have HEQ : Hid (stepX p b1 = b1) := Lib.hid (Classical.not_not.1 fun h => hgo (hcond.2 h))
        clear hcond
        have hgo' : x ≤ min a1 b1 ∨ (min a1 b1 < x ∧ max a1 b1 ≤ x) := by omega
        clear hgo
        rcases hgo' with hg1 | ⟨hg1, hg2⟩
        all_goals
          gi_upto_region 10 with (fail)
          refine wpIn_region_drew_tail 10 free_wide (by kernel_rfl) (by kernel_rfl) (by kernel_rfl) ?_
          simp only [List.take_succ_cons, List.take_zero, List.drop_succ_cons, List.drop_zero]
          repeat (go_big_quiet_step ((go_at_call 51; exact Calls.q_left (Floor26_any _ _))))
          refine wpQuiet_nil ?_
          rintro _ ⟨nq2, rfl⟩
          have hpx : pre ++ [⟨p, v, b1, b2⟩] = bitsR (a1, a2) (b1, b2) a1 a2 := by
            have h1 := HPR.out
            rw [bitsR_end HEQ.out] at h1
            exact h1
          obtain ⟨fn, tmps, assign, body, hy, hR⟩ := HY.out pre ⟨p, v, b1, b2⟩ (wr.drewN nq2) (by simp; omega) (HJ.out _ _ _ HJ1.out ((bel_drewN bel_refl).below.mono hNr)) ⟨[], by rw [hpx, List.append_nil]⟩
          rw [hpx] at hR
          have HRY := Lib.hid hR
          dsimp only [btV, Bt.col] at hy
          clear hR hpx
          gi_wp2
          refine ⟨fun he => (by cases he), HRY.out.mono ?_⟩
          rintro e W4 (⟨rfl, hJ4, hk4⟩ | ⟨rfl, hJx4⟩)
          · have HJ4 := Lib.hid hJ4
            clear hJ4 hk4 hy
            gi_wp2
            refine bodyPost_end (v := .tuple #[]) (by simp [results, Try.results103]) rfl ?_
            exact ⟨⟨_, rfl⟩, .inl ⟨_, rfl, HJ4.out⟩⟩
          · have HJ4 := Lib.hid hJx4
            clear hJx4 hy
            gi_wp2
            refine bodyPost_end (v := .tuple #[]) (by simp [results, Try.results103]) rfl ?_
            exact ⟨⟨_, rfl⟩, .inr ⟨_, trivial, HJ4.out⟩⟩

end Go.Proofs.Ytbflncfhbmlibaa
