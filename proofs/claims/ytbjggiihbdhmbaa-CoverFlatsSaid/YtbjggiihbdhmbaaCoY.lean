/-
  Layer 22: the document: what a piece leaves.
-/
import Derived.Test.YtbjggiihbdhmbaaCoX
import Derived.Deep.DeepCutAuto
namespace Go.Proofs.Ytbjggiihbdhmbaa
open Go.RowKit Go.Shelf

abbrev TwoB (kc ka : Nat) : Nat → Prop := fun i => i = kc ∨ i = ka
/-- The loop over a piece's columns, with r to go. -/
def RPcI (w : World) (g kc ka : Nat) (b : B4) (sg : Int) (cs : List Ce) (p : Pc) (ba bb r : Nat) (s8 s9 : Value) (W : World) : Prop :=
  ∃ (u v : Int) (pre : List Bt), s8 = .int .i64 u ∧ s9 = .int .i64 v ∧ (sizeI (p.B.1 - u)).toNat = r ∧ btw p.A.1 p.B.1 u ∧ btw p.A.2 p.B.2 v ∧ pre ++ bitsR p.A p.B u v = bitsR p.A p.B p.A.1 p.A.2 ∧
    Rc W g kc ka b (pre.foldl (bitC b sg p.row) cs) ∧ Tn (TwoB kc ka) w W ∧ Blk W w.heap.size 57 (pcC p) ∧ Blk W ba 36 [.int .i64 p.A.1, .int .i64 p.A.2] ∧ Blk W bb 36 [.int .i64 p.B.1, .int .i64 p.B.2]
set_option maxRecDepth 100000 in
set_option maxHeartbeats 4000000 in
theorem rpiece_any {w : World} {g kc ka : Nat} {b : B4} {cs : List Ce} (h : Rc w g kc ka b cs) (sg : Int) (p : Pc) (hsg : sg = 1 ∨ sg = -1) (fA : dotB p.A = true) (fB : dotB p.B = true) (hpl : ∀ t ∈ bitsR p.A p.B p.A.1 p.A.2, placeB b t.col p.row = true) :
    Calls Try.prog 38 #[.pointer (some ⟨g, 0, none⟩), .agg #[.int .i64 p.row, .int .i64 p.A.1, .int .i64 p.A.2, .int .i64 p.B.1, .int .i64 p.B.2], .int .i64 sg] w (RBitR g kc ka b (pieceC b sg cs p) w) := by
  have HFA := Lib.hid fA
  have HFB := Lib.hid fB
  have HPL := Lib.hid hpl
  have H := Lib.hid h
  clear fA fB hpl h
  obtain ⟨row, ⟨A1, A2⟩, ⟨B1, B2⟩⟩ := p
  dsimp only at *
  have fa := dotB_true.1 HFA.out
  have fb := dotB_true.1 HFB.out
  dsimp only at fa fb
  obtain ⟨⟨x1, x2⟩, x3, x4⟩ := fa
  obtain ⟨⟨y1, y2⟩, y3, y4⟩ := fb
  go_enter Try.func38, Try.ntmps38
  go_upto_region 1 with fail
  have HP := Lib.hid (Blk.new w 57 [.int .i64 row, .int .i64 A1, .int .i64 A2, .int .i64 B1, .int .i64 B2])
  go_cut [6, 7] (fun s6 s7 wx => ∃ ba bb, s6 = .pointer (some ⟨ba, 0, none⟩) ∧ s7 = .pointer (some ⟨bb, 0, none⟩) ∧ Hid (w.heap.size < ba ∧ w.heap.size < bb ∧ ba < wx.heap.size ∧ bb < wx.heap.size) ∧ Hid (Blk wx w.heap.size 57 [.int .i64 row, .int .i64 A1, .int .i64 A2, .int .i64 B1, .int .i64 B2]) ∧ Hid (Blk wx ba 36 [.int .i64 A1, .int .i64 A2]) ∧ Hid (Blk wx bb 36 [.int .i64 B1, .int .i64 B2]) ∧ Hid (Below w.heap.size w wx))
  case first =>
    go_region
    all_goals (go_wp2_with fail; go_meet)
    · refine ⟨_, _, rfl, rfl, Lib.hid (by simp [World.drew]; omega), Lib.hid ((HP.out.alloc _).alloc _).drew, Lib.hid ((Blk.newAt _ _ [_, _] (by simp)).alloc _).drew, Lib.hid (Blk.newAt _ _ [_, _] (by simp)).drew, Lib.hid (bel_drew (bel_alloc (bel_alloc (bel_alloc bel_refl)))).below⟩
    · refine ⟨_, _, rfl, rfl, Lib.hid (by simp [World.drew]; omega), Lib.hid ((HP.out.alloc _).alloc _).drew, Lib.hid (Blk.newAt _ _ [_, _] (by simp)).drew, Lib.hid ((Blk.newAt _ _ [_, _] (by simp)).alloc _).drew, Lib.hid (bel_drew (bel_alloc (bel_alloc (bel_alloc bel_refl)))).below⟩
  case rest =>
    obtain ⟨ba, bb, rfl, rfl, HZ, HPc, HAc, HBc, HBW⟩ := hcut
    have a0 : wc.cell? ⟨ba, 0, none⟩ = some (.int .i64 A1) := HAc.out.cell 0
    have a1 : wc.cell? ⟨ba, 1, none⟩ = some (.int .i64 A2) := HAc.out.cell 1
    have al := HAc.out.lt
    go_wp2_with fail
    go_quiet (fail)
    go_wp2_with fail
    clear a0 a1 al HP
    have hst : RPcI w g kc ka b sg cs ⟨row, (A1, A2), (B1, B2)⟩ ba bb (sizeI (B1 - A1)).toNat (.int .i64 A1) (.int .i64 A2) (wc.drewN nq) :=
      ⟨A1, A2, [], rfl, rfl, rfl, btw_l _ _, btw_l _ _, rfl, H.out.keepB (below_drewN HBW.out nq), (Tn.of_below HBW.out).drewN nq, HPc.out.drewN nq, HAc.out.drewN nq, HBc.out.drewN nq⟩
    have HST := Lib.hid hst
    have HZ2 : Hid (w.heap.size < ba ∧ w.heap.size < bb) := Lib.hid ⟨HZ.out.1, HZ.out.2.1⟩
    clear hst HPc HAc HBc HBW HZ
    go_loopg [8, 9] ((sizeI (B1 - A1)).toNat) (fun r s8 s9 wr => RPcI w g kc ka b sg cs ⟨row, (A1, A2), (B1, B2)⟩ ba bb r s8 s9 wr)
    case atStart => exact HST.out
    case round =>
      obtain ⟨u, v, pre, rfl, rfl, hr, hbu, hbv, hpre, hrc, htn, hP, hA, hB⟩ := hrel
      dsimp only [pcC] at hr hbu hbv hP hA hB
      have p0 : wr.cell? ⟨w.heap.size, 0, none⟩ = some (.int .i64 row) := hP.cell 0
      have a0 : wr.cell? ⟨ba, 0, none⟩ = some (.int .i64 A1) := hA.cell 0
      have a1 : wr.cell? ⟨ba, 1, none⟩ = some (.int .i64 A2) := hA.cell 1
      have b0 : wr.cell? ⟨bb, 0, none⟩ = some (.int .i64 B1) := hB.cell 0
      have b1 : wr.cell? ⟨bb, 1, none⟩ = some (.int .i64 B2) := hB.cell 1
      have pl := hP.lt
      have al := hA.lt
      have bl := hB.lt
      have hu1 : -1048576 ≤ u ∧ u ≤ 1048576 := by unfold btw at hbu; omega
      have hv1 : -1048576 ≤ v ∧ v ≤ 1048576 := by unfold btw at hbv; omega
      obtain ⟨u1, u2⟩ := hu1
      obtain ⟨v1, v2⟩ := hv1
      obtain ⟨q1, hq1⟩ : ∃ q, u / 64 = q := ⟨_, rfl⟩
      obtain ⟨q2, hq2⟩ : ∃ q, -u / 64 = q := ⟨_, rfl⟩
      have KF1 := fun w => Floor_any u 64 w (by omega) (by omega) (by omega)
      have KF2 := fun w => Floor_any (-u) 64 w (by omega) (by omega) (by omega)
      rw [hq1] at KF1
      rw [hq2] at KF2
      have HF1 := Lib.hid KF1
      have HF2 := Lib.hid KF2
      have hq1b : -16385 ≤ q1 ∧ q1 ≤ 16385 := by omega
      have hq2b : -16385 ≤ q2 ∧ q2 ≤ 16385 := by omega
      obtain ⟨q1a, q1b⟩ := hq1b
      obtain ⟨q2a, q2b⟩ := hq2b
      obtain ⟨cx, hcx⟩ : ∃ cx, pre.foldl (bitC b sg row) cs = cx := ⟨_, rfl⟩
      dsimp only at hrc
      rw [hcx] at hrc
      have hsx : stepX u B1 = if u < B1 then (if 64 * (q1 + 1) < B1 then 64 * (q1 + 1) else B1) else if B1 < u then (if B1 < -64 * (q2 + 1) then -64 * (q2 + 1) else B1) else B1 := by rw [← hq1, ← hq2]; rfl
      have HRC := Lib.hid hrc
      have HTN := Lib.hid htn
      have HCX := Lib.hid hcx
      have HPR := Lib.hid hpre
      have HR := Lib.hid hr
      have HBU := Lib.hid hbu
      have HBV := Lib.hid hbv
      have HPP := Lib.hid hP
      have HAA := Lib.hid hA
      have HBB := Lib.hid hB
      have key : stepX u B1 = B1 ∧ ((u < B1 ∧ ¬ 64 * (q1 + 1) < B1) ∨ (¬ u < B1 ∧ B1 < u ∧ ¬ B1 < -64 * (q2 + 1)) ∨ (¬ u < B1 ∧ ¬ B1 < u)) ∨ stepX u B1 ≠ B1 ∧ ((u < B1 ∧ 64 * (q1 + 1) < B1 ∧ stepX u B1 = 64 * (q1 + 1)) ∨ (¬ u < B1 ∧ B1 < u ∧ B1 < -64 * (q2 + 1) ∧ stepX u B1 = -64 * (q2 + 1))) := by
        rw [hsx]
        (repeat' split) <;> omega
      clear KF1 KF2 hq1 hq2 hrc htn hcx hpre hr hbu hbv hP hA hB hsx
      rcases key with ⟨he, hc⟩ | ⟨he, hc⟩
      · have hend := bitsR_end (a := (A1, A2)) (b := (B1, B2)) (u := u) (v := v) he
        have hmem : (⟨u, v, B1, B2⟩ : Bt) ∈ bitsR (A1, A2) (B1, B2) A1 A2 := by rw [← HPR.out, hend]; simp
        have hbit := rbit_any HRC.out row sg ⟨u, v, B1, B2⟩ hsg ⟨⟨u1, u2⟩, ⟨v1, v2⟩, ⟨y1, y2⟩, y3, y4⟩ (HPL.out _ hmem)
        have hfin : bitC b sg row cx ⟨u, v, B1, B2⟩ = pieceC b sg cs ⟨row, (A1, A2), (B1, B2)⟩ := by
          unfold pieceC
          rw [← HPR.out, hend, List.foldl_append, HCX.out]
          rfl
        rw [hfin] at hbit
        have HBI := Lib.hid hbit
        clear hend hmem hbit hfin he
        rcases hc with ⟨c1, c2⟩ | ⟨c1, c2, c3⟩ | ⟨c1, c2⟩
        all_goals
          go_wp2_with (first
            | (go_at_call 24; (with_reducible refine (HF1.out _).mono ?_); rintro e w1 ⟨rfl, rfl⟩)
            | (go_at_call 24; (with_reducible refine (HF2.out _).mono ?_); rintro e w1 ⟨rfl, rfl⟩)
            | (go_at_call 54; (with_reducible refine HBI.out.mono ?_); rintro e w2 ⟨⟨v', rfl⟩, hc2, ht2⟩; have HC2 := Lib.hid hc2; have HT2 := Lib.hid ht2; clear hc2 ht2))
        all_goals
          refine bodyPost_ret (results_none rfl _ _ _) rfl ?_
          exact ⟨⟨_, rfl⟩, HC2.out, HTN.out.trans HT2.out⟩
      · have hstep := bitsR_step (a := (A1, A2)) (b := (B1, B2)) (u := u) (v := v) he
        have hnear := stepX_near he
        have hbx : btw A1 B1 (stepX u B1) := stepX_btw' HBU.out
        have hne : A1 ≠ B1 := fun e => stepX_ne he (by have := HBU.out; unfold btw at this; omega)
        have hbz : btw A2 B2 (zAt (A1, A2) (B1, B2) (stepX u B1)) := zAt_btw (a := (A1, A2)) (b := (B1, B2)) hbx hne
        obtain ⟨nx, hnx⟩ : ∃ nx, stepX u B1 = nx := ⟨_, rfl⟩
        dsimp only at hstep
        rw [hnx] at hstep hnear hbx hbz hc
        obtain ⟨nz, hnz⟩ : ∃ nz, zAt (A1, A2) (B1, B2) nx = nz := ⟨_, rfl⟩
        rw [hnz] at hstep hbz
        have hnx1 : -1048576 ≤ nx ∧ nx ≤ 1048576 := by unfold btw at hbx; omega
        have hnz1 : -1048576 ≤ nz ∧ nz ≤ 1048576 := by unfold btw at hbz; omega
        obtain ⟨n1, n2⟩ := hnx1
        obtain ⟨n3, n4⟩ := hnz1
        obtain ⟨sx, hsx⟩ : ∃ sx, sizeI (nx - A1) = sx := ⟨_, rfl⟩
        obtain ⟨sw, hsw⟩ : ∃ sw, sizeI (B1 - A1) = sw := ⟨_, rfl⟩
        have hsx1 : 0 ≤ sx ∧ sx ≤ 2097152 := by unfold sizeI at hsx; split at hsx <;> omega
        have hsw1 : 1 ≤ sw ∧ sw ≤ 2097152 := by unfold sizeI at hsw; split at hsw <;> omega
        obtain ⟨nr, hnr⟩ : ∃ nr, near ((B2 - A2) * sx) sw = nr := ⟨_, rfl⟩
        have hz1 : A2 + nr = nz := by rw [← hnz, ← hnr, ← hsx, ← hsw]; rfl
        have hmb := mul_bdd (a := B2 - A2) (b := sx) (A := 2097152) (B := 2097152) (by omega) (by omega) (by omega) (by omega)
        obtain ⟨m, hm⟩ : ∃ m, (B2 - A2) * sx = m := ⟨_, rfl⟩
        rw [hm] at hmb hnr
        have KN := fun w => rNear_any (w := w) m sw (by omega) (by omega) (by omega) (by omega)
        rw [hnr] at KN
        have KS1 := fun w => size_any (nx - A1) w (by omega) (by omega)
        have KS2 := fun w => size_any (B1 - A1) w (by omega) (by omega)
        rw [hsx] at KS1
        rw [hsw] at KS2
        have HKN := Lib.hid KN
        have HK1 := Lib.hid KS1
        have HK2 := Lib.hid KS2
        have hmem : (⟨u, v, nx, nz⟩ : Bt) ∈ bitsR (A1, A2) (B1, B2) A1 A2 := by rw [← HPR.out, hstep]; simp
        have hbit := rbit_any HRC.out row sg ⟨u, v, nx, nz⟩ hsg ⟨⟨u1, u2⟩, ⟨v1, v2⟩, ⟨n1, n2⟩, n3, n4⟩ (HPL.out _ hmem)
        have hbit' : ∀ n, Calls Try.prog 54 #[.pointer (some ⟨g, 0, none⟩), .int .i64 row, .int .i64 sg, .int .i64 u, .int .i64 v, .int .i64 nx, .int .i64 nz] (wr.drewN n) (RBitR g kc ka b (bitC b sg row cx ⟨u, v, nx, nz⟩) (wr.drewN n)) := fun n =>
          rbit_any (HRC.out.keepB (bel_drewN (n := n) (bel_refl (a := wr))).below) row sg ⟨u, v, nx, nz⟩ hsg ⟨⟨u1, u2⟩, ⟨v1, v2⟩, ⟨n1, n2⟩, n3, n4⟩ (HPL.out _ hmem)
        have HBI := Lib.hid hbit'
        have hpx : (pre ++ [⟨u, v, nx, nz⟩]) ++ bitsR (A1, A2) (B1, B2) nx nz = bitsR (A1, A2) (B1, B2) A1 A2 := by
          have := HPR.out
          rw [hstep] at this
          rw [← this]
          simp
        have hcx2 : (pre ++ [(⟨u, v, nx, nz⟩ : Bt)]).foldl (bitC b sg row) cs = bitC b sg row cx ⟨u, v, nx, nz⟩ := by rw [List.foldl_append, HCX.out]; rfl
        have s1 : IntKind.i64.wrap (B2 - A2) = B2 - A2 := IntWalk.i64_in _ (by omega)
        have s2 : IntKind.i64.wrap (nx - A1) = nx - A1 := IntWalk.i64_in _ (by omega)
        have s3 : IntKind.i64.wrap (B1 - A1) = B1 - A1 := IntWalk.i64_in _ (by omega)
        have s4 : IntKind.i64.wrap (A2 + nr) = nz := by rw [hz1]; exact IntWalk.i64_in _ (by omega)
        have s5 : IntKind.i64.wrap ((B2 - A2) * sx) = m := by rw [hm]; exact IntWalk.i64_in _ (by omega)
        have HSS := Lib.hid (And.intro s1 (And.intro s2 (And.intro s3 (And.intro s4 s5))))
        have HPX := Lib.hid hpx
        have HCX2 := Lib.hid hcx2
        have HBX := Lib.hid hbx
        have HBZ := Lib.hid hbz
        have HNE := Lib.hid hnear
        have hneB : ((nx == B1) = false) := by simp; omega
        have hx0 : nx ≠ B1 := by omega
        clear hstep hnear hbx hne hbz hnx hnz hsx hsw hsx1 hsw1 hnr hz1 hmb hm KN KS1 KS2 hmem hbit hbit' hpx hcx2 s1 s2 s3 s4 s5 he
        rcases hc with ⟨c1, c2, c3⟩ | ⟨c1, c2, c3, c4⟩
        all_goals
          first
            | (have c5 : ¬ B1 < u := by omega)
            | skip
        all_goals
          go_upto_region 14 with (first
            | (go_at_call 24; (with_reducible refine (HF1.out _).mono ?_); rintro e w1 ⟨rfl, rfl⟩)
            | (go_at_call 24; (with_reducible refine (HF2.out _).mono ?_); rintro e w1 ⟨rfl, rfl⟩))
        all_goals
          first | (rw [← c3]; clear c2 c3) | (rw [← c4]; clear c3 c4)
        all_goals
          obtain ⟨s1, s2, s3, s4, s5⟩ := HSS.out
          go_quiet ((first
            | (go_at_call 55; with_reducible exact Calls.q_left (HK1.out _))
            | (go_at_call 55; with_reducible exact Calls.q_left (HK2.out _))
            | (go_at_call 47; with_reducible exact Calls.q_left (HKN.out _))))
          clear s1 s2 s3 s4 s5
          have p0' : (wr.drewN nq).cell? ⟨w.heap.size, 0, none⟩ = some (.int .i64 row) := p0
          clear p0 a0 a1 b0 b1
          go_wp2_with (first
            | (go_at_call 54; (with_reducible refine (HBI.out _).mono ?_); rintro e w2 ⟨⟨v', rfl⟩, hc2, ht2⟩; have HC2 := Lib.hid hc2; have HT2 := Lib.hid ht2; clear hc2 ht2)
            | fail)
          go_roundg ((sizeI (B1 - nx)).toNat)
          case rel =>
            have ht := (HTN.out.drewN nq).trans HT2.out
            have hgc := HRC.out.cov
            have hga := HRC.out.are
            have hty : ∀ {a : Nat} {t : TypeId} {xs : List Value}, Blk wr a t xs → t ≠ 3 → ¬ TwoB kc ka a := fun h hne e => by
              rcases e with rfl | rfl
              · exact blk_ne_type h hgc hne rfl
              · exact blk_ne_type h hga hne rfl
            refine ⟨nx, nz, pre ++ [⟨u, v, nx, nz⟩], rfl, rfl, rfl, HBX.out, HBZ.out, HPX.out, ?_, ht, ?_, ?_, ?_⟩
            · dsimp only
              rw [HCX2.out]
              exact HC2.out
            · exact HT2.out.blk (HPP.out.drewN nq) (hty HPP.out (by decide))
            · exact HT2.out.blk (HAA.out.drewN nq) (hty HAA.out (by decide))
            · exact HT2.out.blk (HBB.out.drewN nq) (hty HBB.out (by decide))
          case measure =>
            have h1 := HNE.out
            have h2 := HR.out
            omega
end Go.Proofs.Ytbjggiihbdhmbaa
