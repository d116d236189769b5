/-
  exact.Convex of any closed lines; the document's Convex.
-/
import Derived.Test.YtnmnehgcliiofaaEyA
namespace Go.Proofs.Ytnmnehgcliiofaa
open Go.RowKit

set_option maxRecDepth 20000 in
set_option maxHeartbeats 2000000 in
theorem Convex_any {w : World} {A : Option Addr} {cc : Nat} {ls : List (List Dt)} (h : Dl w A ls) (hn : ls.length ≤ 1000) (hc : cnt ls ≤ 1000) :
    Calls Try.prog 38 #[.slice A ls.length cc] w fun e w' => e = .returned (.bool (mayL ls && cvB ls)) ∧ Below w.heap.size w w' := by
  have KM := flatMay_any (w := w) (c := cc) h hn hc
  cases hm : mayL ls
  · rw [show mayE ls = 10 by unfold mayE; rw [hm]; rfl] at KM
    replace KM := Lib.hid KM
    go_enter Try.func38, Try.ntmps38
    go_wp2_with (first | (go_at_call 56; (with_reducible refine KM.out.mono ?_); rintro e w1 ⟨rfl, hb1⟩; have HB1 := Lib.hid hb1; clear hb1))
    go_ret
    exact ⟨rfl, HB1.out⟩
  · rw [show mayE ls = 0 by unfold mayE; rw [hm]; rfl] at KM
    by_cases h1 : ls.length = 1
    · obtain ⟨c, rfl⟩ := List.length_eq_one_iff.1 h1
      by_cases h3 : 3 ≤ c.length
      · have K := Convex_one (cc := cc) h hm h3 (by simpa [cnt] using hc)
        rw [show cvB [c] = cvC c by simp [cvB, h3]]
        exact K
      · obtain ⟨b, o, A1, c1, rfl, hb, hcell, hds, hsm⟩ := h 0 c rfl
        have hcv : cvB [c] = false := by simp [cvB, h3]
        have h3' : (c.length : Int) < 3 := by omega
        rw [hcv]
        simp only [List.length_cons, List.length_nil, Nat.zero_add] at KM
        replace KM := Lib.hid KM
        change Calls Try.prog 38 #[.slice _ 1 cc] _ _
        go_enter Try.func38, Try.ntmps38
        go_wp2_with (first
          | (go_at_call 56; (with_reducible refine KM.out.mono ?_); rintro e w1 ⟨rfl, hb1⟩
             have HB1 := Lib.hid hb1
             have hcell1 : w1.cell? ⟨b, o + 0, none⟩ = some (.slice A1 c.length c1) := (hb1.cell (p := ⟨b, _, none⟩) hb).trans hcell
             simp at hcell1
             clear hb1))
        go_ret
        exact ⟨rfl, HB1.out⟩
    · have hcv : cvB ls = false := by
        unfold cvB
        split
        · simp at h1
        · rfl
      rw [hcv]
      have h1' : (ls.length : Int) ≠ 1 := by omega
      replace KM := Lib.hid KM
      go_enter Try.func38, Try.ntmps38
      go_wp2_with (first
        | (go_at_call 56; (with_reducible refine KM.out.mono ?_); rintro e w1 ⟨rfl, hb1⟩; have HB1 := Lib.hid hb1; clear hb1))
      go_ret
      exact ⟨rfl, HB1.out⟩
theorem rem_next {j m n d : Nat} (h : (j + d) % n = m) : ((j : Int) + d).tmod (n : Int) = m := by
  rw [← h, ← Int.natCast_add]
  exact (Int.ofNat_tmod (j + d) n).symm
set_option maxRecDepth 20000 in
set_option maxHeartbeats 8000000 in
theorem rConvex_one {w : World} {A : Option Addr} {cc : Nat} {c : List Dt} (h : Dl w A [c]) (hm : mayL [c] = true) (h3 : 3 ≤ c.length) (hc : c.length ≤ 1000) :
    Calls Try.prog 39 #[.slice A 1 cc] w fun e w' => e = .returned (.bool (cvC c)) ∧ Below w.heap.size w w' := by
  obtain ⟨b, o, A1, c1, rfl, hb, hcell, hds, hsm⟩ := h 0 c rfl
  simp at hcell
  have HDS := Lib.hid hds
  have hfit : ∀ (k : Nat) (d : Dt), c[k]? = some d → (-1048576 ≤ d.1 ∧ d.1 ≤ 1048576) ∧ (-1048576 ≤ d.2 ∧ d.2 ≤ 1048576) := fun k d hd => by
    have h1 : c.all fitDt = true := by simpa [mayL] using hm
    rw [List.all_eq_true] at h1
    have := h1 d (List.mem_of_getElem? hd)
    simpa only [fitDt, Bool.and_eq_true, fitD_true] using this
  have HFIT := Lib.hid hfit
  have hc3 : (3 : Int) ≤ c.length := by omega
  clear h hm hds hfit
  go_enter Try.func39, Try.ntmps39
  go_wp2_with fail
  have HTL := Lib.hid (tris_len c)
  obtain ⟨n0, hn0⟩ : ∃ n0, w.heap.size = n0 := ⟨_, rfl⟩
  clear hcell
  go_loopw [5, 6, 7, 8, 9] (fun up dn xs ys i wr => ∃ k : Nat, k ≤ c.length ∧ i = .int .i64 k ∧ up = .bool (upT ((tris c).take k)) ∧ dn = .bool (downT ((tris c).take k)) ∧ ∃ A2 A3 c2 c3, xs = .slice A2 k c2 ∧ ys = .slice A3 k c3 ∧ Hid (Two n0 wr A2 A3 k c2 c3 (xsT ((tris c).take k)) (ysT ((tris c).take k))) ∧ Hid (((tris c).take k).all (fun t => !sameT t) = true) ∧ Hid (Below n0 w wr)) (fun _ _ _ _ i _ => c.length - (intOf i).toNat)
  case atStart => exact ⟨0, Nat.zero_le _, rfl, rfl, rfl, none, none, 0, 0, rfl, rfl, Lib.hid ⟨OwI.nilB (by omega), OwI.nilB (by omega), fun k e => by cases e⟩, Lib.hid rfl, Lib.hid (Below.refl _ _)⟩
  case round =>
    obtain ⟨k, hk, rfl, rfl, rfl, A2, A3, c2, c3, rfl, rfl, HTW, HALL, HB⟩ := hrel
    by_cases hlt : k < c.length
    · obtain ⟨⟨ax, ay⟩, ha⟩ := get_some hlt
      have hcl0 : (c.length : Int) ≠ 0 := by omega
      have hwj : IntKind.i64.wrap ((k : Int) + 1) = (k : Int) + 1 := IntWalk.i64_in _ (by omega)
      have hwj2 : wrap64 ((k : Int) + 1) = (k : Int) + 1 := IntWalk.wrap64_in _ (by omega)
      have hwj3 : IntKind.i64.wrap ((k : Int) + 2) = (k : Int) + 2 := IntWalk.i64_in _ (by omega)
      have hwj4 : wrap64 ((k : Int) + 2) = (k : Int) + 2 := IntWalk.wrap64_in _ (by omega)
      have hk64 : (k : Int) < c.length := by omega
      have hk0 : (0 : Int) ≤ k := by omega
      obtain ⟨m1, hm1⟩ : ∃ m1, (k + 1) % c.length = m1 := ⟨_, rfl⟩
      obtain ⟨m2, hm2⟩ : ∃ m2, (k + 2) % c.length = m2 := ⟨_, rfl⟩
      have hml1 : m1 < c.length := hm1 ▸ next_lt hlt
      have hml2 : m2 < c.length := hm2 ▸ Nat.mod_lt _ (by omega)
      obtain ⟨⟨bx, by'⟩, hbd⟩ := get_some hml1
      obtain ⟨⟨dx, dy⟩, hdd⟩ := get_some hml2
      have htr := tris_at ha (by rw [hm1]; exact hbd) (by rw [hm2]; exact hdd)
      have HTR := Lib.hid htr
      obtain ⟨⟨fa1, fa2⟩, fa3, fa4⟩ := HFIT.out _ _ ha
      obtain ⟨⟨fb1, fb2⟩, fb3, fb4⟩ := HFIT.out _ _ hbd
      obtain ⟨⟨fd1, fd2⟩, fd3, fd4⟩ := HFIT.out _ _ hdd
      dsimp only at fa1 fa2 fa3 fa4 fb1 fb2 fb3 fb4 fd1 fd2 fd3 fd4
      obtain ⟨b2, o2, rfl, hb2, a0, a1⟩ := (HDS.out.keep (by rw [hn0]; exact HB.out)) k _ ha
      obtain ⟨b3, o3, hA3, hb3, p0, p1'⟩ := (HDS.out.keep (by rw [hn0]; exact HB.out)) m1 _ hbd
      obtain ⟨b4, o4, hA4, hb4, d0, d1⟩ := (HDS.out.keep (by rw [hn0]; exact HB.out)) m2 _ hdd
      injection hA3 with hA3
      injection hA3 with e1 e2
      subst e1 e2
      injection hA4 with hA4
      injection hA4 with e1 e2
      subst e1 e2
      dsimp only at a0 a1 p0 p1' d0 d1
      have kx1 : ∀ u, Aft wr u → u.cell? ⟨b2, o2 + k * 2, none⟩ = some (.int .i64 ax) := fun u hu => (hu.cell (p := ⟨b2, _, none⟩) hb2).trans a0
      have kx2 : ∀ u, Aft wr u → u.cell? ⟨b2, o2 + k * 2 + 1, none⟩ = some (.int .i64 ay) := fun u hu => (hu.cell (p := ⟨b2, _, none⟩) hb2).trans a1
      have kx3 : ∀ u, Aft wr u → u.cell? ⟨b2, o2 + m1 * 2, none⟩ = some (.int .i64 bx) := fun u hu => (hu.cell (p := ⟨b2, _, none⟩) hb2).trans p0
      have kx4 : ∀ u, Aft wr u → u.cell? ⟨b2, o2 + m1 * 2 + 1, none⟩ = some (.int .i64 by') := fun u hu => (hu.cell (p := ⟨b2, _, none⟩) hb2).trans p1'
      have kx5 : ∀ u, Aft wr u → u.cell? ⟨b2, o2 + m2 * 2, none⟩ = some (.int .i64 dx) := fun u hu => (hu.cell (p := ⟨b2, _, none⟩) hb2).trans d0
      have kx6 : ∀ u, Aft wr u → u.cell? ⟨b2, o2 + m2 * 2 + 1, none⟩ = some (.int .i64 dy) := fun u hu => (hu.cell (p := ⟨b2, _, none⟩) hb2).trans d1
      have hcl3 : c ≠ [] := by rintro rfl; simp at hcl0
      have hcl4 : ((c.length : Int) == 0) = false := by simpa using hcl0
      have hr1 : ((k : Int) + 1).tmod (c.length : Int) = m1 := rem_next hm1
      have hr2 : ((k : Int) + 2).tmod (c.length : Int) = m2 := rem_next hm2
      have hr1' : ((k : Int) + 1) % (c.length : Int) = m1 := by rw [← hr1, Int.tmod_eq_emod_of_nonneg (Int.add_nonneg hk0 (by decide))]
      have hr2' : ((k : Int) + 2) % (c.length : Int) = m2 := by rw [← hr2, Int.tmod_eq_emod_of_nonneg (Int.add_nonneg hk0 (by decide))]
      have hml1' : (m1 : Int) < c.length := Int.ofNat_lt.2 hml1
      have hml2' : (m2 : Int) < c.length := Int.ofNat_lt.2 hml2
      have hml3 : decide ((c.length : Int) ≤ m1) = false := decide_eq_false (Int.not_le.2 hml1')
      have hml4 : ¬ c.length ≤ m1 := Nat.not_le.2 hml1
      have hml5 : decide ((c.length : Int) ≤ m2) = false := decide_eq_false (Int.not_le.2 hml2')
      have hml6 : ¬ c.length ≤ m2 := Nat.not_le.2 hml2
      clear ha hbd hdd htr a0 a1 p0 p1' d0 d1
      replace hm1 := Lib.hid hm1
      replace hm2 := Lib.hid hm2
      have hsame : sameT ((ax, ay), (bx, by'), (dx, dy)) = eq2 ax ay bx by' := rfl
      have hturn : turnT ((ax, ay), (bx, by'), (dx, dy)) = (bx - ax) * (dy - by') - (dx - bx) * (by' - ay) := rfl
      have m1 := mul_22 (a := bx - ax) (b := dy - by') (by omega) (by omega)
      have m2 := mul_22 (a := dx - bx) (b := by' - ay) (by omega) (by omega)
      obtain ⟨t1, ht1⟩ : ∃ t1, (bx - ax) * (dy - by') = t1 := ⟨_, rfl⟩
      obtain ⟨t2, ht2⟩ : ∃ t2, (dx - bx) * (by' - ay) = t2 := ⟨_, rfl⟩
      rw [ht1] at m1
      rw [ht2] at m2
      rw [ht1, ht2] at hturn
      have q1 : IntKind.i64.wrap ((bx - ax) * (dy - by')) = t1 := by rw [ht1]; exact IntWalk.i64_in _ (by omega)
      have q2 : IntKind.i64.wrap ((dx - bx) * (by' - ay)) = t2 := by rw [ht2]; exact IntWalk.i64_in _ (by omega)
      have hu := upT_snoc HTR.out
      have hd := downT_snoc HTR.out
      rw [hturn] at hu hd
      have hxs := xsT_snoc HTR.out
      have hys := ysT_snoc HTR.out
      dsimp only at hxs hys
      have HU := Lib.hid hu
      have HDN := Lib.hid hd
      have HXS := Lib.hid hxs
      have HYS := Lib.hid hys
      have HSAME := Lib.hid hsame
      clear hu hd hxs hys hsame hturn ht1 ht2
      generalize upT ((tris c).take k) = U at *
      generalize downT ((tris c).take k) = D at *
      generalize xsT ((tris c).take k) = xs at *
      generalize ysT ((tris c).take k) = ys at *
      go_wp2_with fail
      go_cut [10, 11, 12] (fun s1 s2 s3 wx => ∃ p1 p2 p3, s1 = .pointer (some ⟨p1, 0, none⟩) ∧ s2 = .pointer (some ⟨p2, 0, none⟩) ∧ s3 = .pointer (some ⟨p3, 0, none⟩) ∧ (wr.heap.size ≤ p1 ∧ wr.heap.size ≤ p2) ∧ Hid (Blk wx p1 72 [.int .i64 ax, .int .i64 ay]) ∧ Hid (Blk wx p2 72 [.int .i64 bx, .int .i64 by']) ∧ Hid (Blk wx p3 72 [.int .i64 dx, .int .i64 dy]) ∧ Hid (Aft wr wx))
      case first =>
        go_region_held (fun u => Aft wr u) (first | (with_reducible exact aft_drew) | (with_reducible refine Aft.drew ?_; (repeat (first | (with_reducible exact aft_refl) | (with_reducible refine Aft.alloc ?_ _) | (with_reducible refine Aft.set ?_ ?_ _; rotate_left; (· simp)))); done)) (fail)
        all_goals (go_wp2_with fail; go_meet)
        all_goals
          refine ⟨_, _, _, rfl, rfl, rfl, ⟨?_, ?_⟩, Lib.hid ?_, Lib.hid ?_, Lib.hid ?_, Lib.hid (((aft_refl.alloc _).alloc _).alloc _).drew⟩
          all_goals first
            | exact Nat.le_refl _
            | omega
            | exact (((Blk.new wr 72 _).alloc _).alloc _).drew
            | exact ((Blk.newAt _ 72 _ (by simp)).alloc _).drew
            | exact (Blk.newAt _ 72 _ (by simp)).drew
      case rest =>
        obtain ⟨p1, p2, p3, rfl, rfl, rfl, ⟨hp1, hp2⟩, HPA, HPB, HPD, hAf⟩ := hcut
        have HB6 := Lib.hid (HB.out.trans (Below.mono hAf.out (show n0 ≤ wr.heap.size from HTW.out.x.le)))
        have HT6 := Lib.hid (HTW.out.keep hAf.out)
        have HF6 := Lib.hid hAf.out
        clear kx1 kx2 kx3 kx4 kx5 kx6 hcl3 hcl4 hr1 hr2 hr1' hr2' hwj hwj2 hwj3 hwj4 hml1' hml2' hml3 hml4 hml5 hml6 hAf
        have hba := HPA.out
        have hbb := HPB.out
        have g0 := HPA.out.cell 0
        have g1 := HPA.out.cell 1
        have g2 := HPB.out.cell 0
        have g3 := HPB.out.cell 1
        have g4 := HPD.out.cell 0
        have g5 := HPD.out.cell 1
        simp at g0 g1 g2 g3 g4 g5
        have hw1 : IntKind.i64.wrap (bx - ax) = bx - ax := IntWalk.i64_in _ (by omega)
        have hw2 : IntKind.i64.wrap (by' - ay) = by' - ay := IntWalk.i64_in _ (by omega)
        generalize wc = W6 at *
        cases he : eq2 ax ay bx by'
        · have hnew := all_snoc (p := fun t => !sameT t) HTR.out
          rw [HSAME.out, he, HALL.out] at hnew
          have HNEW := Lib.hid hnew
          clear hnew HSAME
          go_upto_region 14 with fail
          go_cut [5, 6] (fun s5 s6 wx => s5 = .bool (U || decide (0 < t1 - t2)) ∧ s6 = .bool (D || decide (t1 - t2 < 0)) ∧ wx = W6)
          case first =>
            cases U
            all_goals cases D
            all_goals go_wp2_with fail
            all_goals go_meet
            all_goals refine ⟨congrArg Value.bool ?_, congrArg Value.bool ?_, rfl⟩
            all_goals (first | (simp; done) | (rw [Bool.eq_iff_iff]; simp; omega) | (rw [Bool.eq_iff_iff]; simp))
          case rest =>
            obtain ⟨rfl, rfl, rfl⟩ := hcut
            generalize hU2 : (U || decide (0 < t1 - t2)) = U2 at *
            generalize hD2 : (D || decide (t1 - t2 < 0)) = D2 at *
            have HU2 := Lib.hid hU2
            have HD2 := Lib.hid hD2
            clear hU2 hD2
            go_upto_region 15 with fail
            have hS : ∀ u : World, (Blk u p1 72 [.int .i64 ax, .int .i64 ay] ∧ Blk u p2 72 [.int .i64 bx, .int .i64 by']) → (u.cell? ⟨p1, 0, none⟩ = some (.int .i64 ax) ∧ u.cell? ⟨p1, 1, none⟩ = some (.int .i64 ay)) ∧ (u.cell? ⟨p2, 0, none⟩ = some (.int .i64 bx) ∧ u.cell? ⟨p2, 1, none⟩ = some (.int .i64 by')) := fun u hu => ⟨⟨hu.1.cell 0, hu.1.cell 1⟩, hu.2.cell 0, hu.2.cell 1⟩
            have s0 := fun u hu => (hS u hu).1.1
            have s1 := fun u hu => (hS u hu).1.2
            have s2 := fun u hu => (hS u hu).2.1
            have s3 := fun u hu => (hS u hu).2.2
            have HS6 := Lib.hid (And.intro hba hbb)
            clear hS hba hbb
            have hrx := fun k' e => (HTW.out.x.row k' e).2
            have hry := fun k' e => (HTW.out.y.row k' e).2
            have hpw := HF6.out.size
            have HX0 := Lib.hid (show ∀ r, rowOf A2 = some r → r < wc.heap.size from fun r e => by have := hrx r e; omega)
            have HY0 := Lib.hid (show ∀ r, rowOf A3 = some r → r < wc.heap.size from fun r e => by have := hry r e; omega)
            have hpx : (rowOf A2 ≠ some p1 ∧ rowOf A2 ≠ some p2) ∧ (rowOf A3 ≠ some p1 ∧ rowOf A3 ≠ some p2) := ⟨⟨fun e => by have := hrx _ e; omega, fun e => by have := hrx _ e; omega⟩, fun e => by have := hry _ e; omega, fun e => by have := hry _ e; omega⟩
            have HPX := Lib.hid hpx
            clear hrx hry hpx
            have HV1 := Lib.hid (HT6.out.keep (bel_drew (bel_alloc (o := .cells #[.int .i64 (bx - ax)] 3) bel_refl)).below)
            have HV2 := Lib.hid (HT6.out.keep (bel_drew (bel_alloc (o := .cells #[.int .i64 (by' - ay)] 3) (bel_alloc (o := .cells #[.int .i64 (bx - ax)] 3) bel_refl))).below)
            have HV3 := Lib.hid (HT6.out.keep (bel_drew (bel_alloc (o := .cells #[.int .i64 (bx - ax)] 3) (bel_alloc (o := .cells #[.int .i64 (by' - ay)] 3) bel_refl))).below)
            have HM1 := Lib.hid ((slat_int wc (bx - ax)).keep (bel_drew bel_refl).below)
            have HM2 := Lib.hid ((slat_int wc (bx - ax)).keep (bel_drew (bel_alloc (o := .cells #[.int .i64 (by' - ay)] 3) bel_refl)).below)
            have hm3 := slat_int (wc.alloc (.cells #[.int .i64 (by' - ay)] 3)) (bx - ax)
            have hn2 := slat_int (wc.alloc (.cells #[.int .i64 (bx - ax)] 3)) (by' - ay)
            rw [World.size_alloc] at hm3 hn2
            have HM3 := Lib.hid (hm3.keep (bel_drew bel_refl).below)
            have HN2 := Lib.hid (hn2.keep (bel_drew bel_refl).below)
            have HN3 := Lib.hid ((slat_int wc (by' - ay)).keep (bel_drew (bel_alloc (o := .cells #[.int .i64 (bx - ax)] 3) bel_refl)).below)
            have hqw : n0 ≤ wc.heap.size := HT6.out.x.le
            clear hm3 hn2
            go_region_held_law (fun u => Blk u (p1) 72 [.int .i64 ax, .int .i64 ay] ∧ Blk u (p2) 72 [.int .i64 bx, .int .i64 by']) (first | (with_reducible exact ⟨HS6.out.1.drew, HS6.out.2.drew⟩) | (with_reducible exact ⟨(HS6.out.1.alloc _).drew, (HS6.out.2.alloc _).drew⟩) | (with_reducible exact ⟨((HS6.out.1.alloc _).alloc _).drew, ((HS6.out.2.alloc _).alloc _).drew⟩) | (with_reducible exact HS7.out) | (with_reducible exact ⟨HS7.out.1.alloc _, HS7.out.2.alloc _⟩) | (with_reducible exact HS8.out))
              (first
               | ((with_reducible refine step_append_oi2 ?_ (.tmp 88) (.tmp 94) ?_ ?_ HV1.out.x (some ⟨wc.heap.size, 0, none⟩) 1 1 ?_ [bx - ax] HM1.out ?_ ?_); (· rfl); (· rfl); (· rfl); (· rfl); (· omega); intro A4 c4 w7 ho7 hg7 hr7
                  have hz := apart_grown HV1.out.x HV1.out.y HV1.out.ne hg7 hr7
                  have HX7 := Lib.hid ho7
                  have HY7 := Lib.hid hz.1
                  have HN7 := Lib.hid hz.2
                  have HS7 := Lib.hid (And.intro (((HS6.out.1.alloc _).drew).grown hg7 HPX.out.1.1) (((HS6.out.2.alloc _).drew).grown hg7 HPX.out.1.2))
                  have HB7 := Lib.hid ((HB6.out.trans (((bel_drew (bel_alloc (o := .cells #[.int .i64 (bx - ax)] 3) (bel_refl (a := wc))))).below.mono hqw)).grown hg7 HV1.out.x.le (fun r e => (HV1.out.x.row r e).1))
                  clear ho7 hg7 hr7 hz)
               | ((with_reducible refine step_append_oi2 ?_ (.tmp 88) (.tmp 94) ?_ ?_ HV2.out.x (some ⟨wc.heap.size, 0, none⟩) 1 1 ?_ [bx - ax] HM2.out ?_ ?_); (· rfl); (· rfl); (· rfl); (· rfl); (· omega); intro A4 c4 w7 ho7 hg7 hr7
                  have hz := apart_grown HV2.out.x HV2.out.y HV2.out.ne hg7 hr7
                  have HX7 := Lib.hid ho7
                  have HY7 := Lib.hid hz.1
                  have HN7 := Lib.hid hz.2
                  have HS7 := Lib.hid (And.intro ((((HS6.out.1.alloc _).alloc _).drew).grown hg7 HPX.out.1.1) ((((HS6.out.2.alloc _).alloc _).drew).grown hg7 HPX.out.1.2))
                  have HB7 := Lib.hid ((HB6.out.trans (((bel_drew (bel_alloc (o := .cells #[.int .i64 (by' - ay)] 3) (bel_alloc (o := .cells #[.int .i64 (bx - ax)] 3) (bel_refl (a := wc)))))).below.mono hqw)).grown hg7 HV2.out.x.le (fun r e => (HV2.out.x.row r e).1))
                  have HM7 := Lib.hid (HN2.out.grown hg7 (fun e => by have := HX0.out _ e; omega))
                  clear ho7 hg7 hr7 hz)
               | ((with_reducible refine step_append_oi2 ?_ (.tmp 88) (.tmp 94) ?_ ?_ HV3.out.x (some ⟨wc.heap.size + 1, 0, none⟩) 1 1 ?_ [bx - ax] HM3.out ?_ ?_); (· rfl); (· rfl); (· rfl); (· rfl); (· omega); intro A4 c4 w7 ho7 hg7 hr7
                  have hz := apart_grown HV3.out.x HV3.out.y HV3.out.ne hg7 hr7
                  have HX7 := Lib.hid ho7
                  have HY7 := Lib.hid hz.1
                  have HN7 := Lib.hid hz.2
                  have HS7 := Lib.hid (And.intro ((((HS6.out.1.alloc _).alloc _).drew).grown hg7 HPX.out.1.1) ((((HS6.out.2.alloc _).alloc _).drew).grown hg7 HPX.out.1.2))
                  have HB7 := Lib.hid ((HB6.out.trans (((bel_drew (bel_alloc (o := .cells #[.int .i64 (bx - ax)] 3) (bel_alloc (o := .cells #[.int .i64 (by' - ay)] 3) (bel_refl (a := wc)))))).below.mono hqw)).grown hg7 HV3.out.x.le (fun r e => (HV3.out.x.row r e).1))
                  have HM7 := Lib.hid (HN3.out.grown hg7 (fun e => by have := HX0.out _ e; omega))
                  clear ho7 hg7 hr7 hz)
               | ((with_reducible refine step_append_oi2 ?_ (.tmp 96) (.tmp 102) ?_ ?_ (HY7.out.keep (bel_alloc (o := .cells #[.int .i64 (by' - ay)] 3) (bel_refl (a := w7))).below) (some ⟨w7.heap.size, 0, none⟩) 1 1 ?_ [by' - ay] (slat_int w7 (by' - ay)) ?_ ?_); (· rfl); (· rfl); (· rfl); (· rfl); (· omega); intro A5 c5 w8 ho8 hg8 hr8
                  have hz := apart_grown (HY7.out.keep (bel_alloc (o := .cells #[.int .i64 (by' - ay)] 3) (bel_refl (a := w7))).below) (HX7.out.keep (bel_alloc (o := .cells #[.int .i64 (by' - ay)] 3) (bel_refl (a := w7))).below) (fun r e e' => HN7.out r e' e) hg8 hr8
                  have HT8 : Hid (Two (n0) w8 A4 A5 (k + 1) c4 c5 (xs ++ [bx - ax]) (ys ++ [by' - ay])) := Lib.hid ⟨hz.1, ho8, fun r e e' => hz.2 r e' e⟩
                  have HS8 := Lib.hid (And.intro (((HS7.out.1.alloc _)).grown hg8 HPX.out.2.1) (((HS7.out.2.alloc _)).grown hg8 HPX.out.2.2))
                  have HB8 := Lib.hid ((HB7.out.trans ((bel_alloc (o := .cells #[.int .i64 (by' - ay)] 3) (bel_refl (a := w7))).below.mono (by have := HB7.out.size; omega))).grown hg8 ((HY7.out.keep (bel_alloc (o := .cells #[.int .i64 (by' - ay)] 3) (bel_refl (a := w7))).below)).le (fun r e => (OwI.row (HY7.out.keep (bel_alloc (o := .cells #[.int .i64 (by' - ay)] 3) (bel_refl (a := w7))).below) r e).1))
                  clear ho8 hg8 hr8 hz)
               | ((with_reducible refine step_append_oi2 ?_ (.tmp 96) (.tmp 102) ?_ ?_ HY7.out (some ⟨wc.heap.size + 1, 0, none⟩) 1 1 ?_ [by' - ay] HM7.out ?_ ?_); (· rfl); (· rfl); (· rfl); (· rfl); (· omega); intro A5 c5 w8 ho8 hg8 hr8
                  have hz := apart_grown HY7.out HX7.out (fun r e e' => HN7.out r e' e) hg8 hr8
                  have HT8 : Hid (Two (n0) w8 A4 A5 (k + 1) c4 c5 (xs ++ [bx - ax]) (ys ++ [by' - ay])) := Lib.hid ⟨hz.1, ho8, fun r e e' => hz.2 r e' e⟩
                  have HS8 := Lib.hid (And.intro ((HS7.out.1).grown hg8 HPX.out.2.1) ((HS7.out.2).grown hg8 HPX.out.2.2))
                  have HB8 := Lib.hid (HB7.out.grown hg8 (HY7.out).le (fun r e => (OwI.row HY7.out r e).1))
                  clear ho8 hg8 hr8 hz)
               | ((with_reducible refine step_append_oi2 ?_ (.tmp 96) (.tmp 102) ?_ ?_ HY7.out (some ⟨wc.heap.size, 0, none⟩) 1 1 ?_ [by' - ay] HM7.out ?_ ?_); (· rfl); (· rfl); (· rfl); (· rfl); (· omega); intro A5 c5 w8 ho8 hg8 hr8
                  have hz := apart_grown HY7.out HX7.out (fun r e e' => HN7.out r e' e) hg8 hr8
                  have HT8 : Hid (Two (n0) w8 A4 A5 (k + 1) c4 c5 (xs ++ [bx - ax]) (ys ++ [by' - ay])) := Lib.hid ⟨hz.1, ho8, fun r e e' => hz.2 r e' e⟩
                  have HS8 := Lib.hid (And.intro ((HS7.out.1).grown hg8 HPX.out.2.1) ((HS7.out.2).grown hg8 HPX.out.2.2))
                  have HB8 := Lib.hid (HB7.out.grown hg8 (HY7.out).le (fun r e => (OwI.row HY7.out r e).1))
                  clear ho8 hg8 hr8 hz))
            all_goals
              clear s0 s1 s2 s3
              go_wp2_with fail
              go_roundw
              case rel => exact ⟨k + 1, by omega, by go_num, by rw [HU.out], by rw [HDN.out], A4, A5, c4, c5, rfl, rfl, Lib.hid (by rw [HXS.out, HYS.out]; exact HT8.out), Lib.hid HNEW.out, HB8⟩
              case measure => simp [intOf]; omega
        · have hf : cvC c = false := by
            unfold cvC
            rw [all_no (p := fun t => !sameT t) HTR.out (by rw [HSAME.out, he]; rfl)]
            rfl
          have HBW : Hid (Below w.heap.size w W6) := Lib.hid (by rw [hn0]; exact HB6.out)
          go_wp2_with fail
          go_ret
          exact ⟨ret_bool' hf.symm, HBW.out⟩
    · obtain rfl : k = c.length := by omega
      have htk : (tris c).take c.length = tris c := by rw [← HTL.out]; exact List.take_length
      rw [htk] at HTW HALL
      rw [htk]
      have hcv : cvC c = ((upT (tris c) != downT (tris c)) && decide (chgR (xsT (tris c)) ≤ 2) && decide (chgR (ysT (tris c)) ≤ 2)) := by unfold cvC; rw [HALL.out]; rfl
      have hxl : (xsT (tris c)).length = c.length := by simp [xsT, HTL.out]
      have hyl : (ysT (tris c)).length = c.length := by simp [ysT, HTL.out]
      have KX := rchanges_any (w := wr) (A := A2) (c := c2) (l := xsT (tris c)) (by rw [hxl]; exact HTW.out.x.sl) (by omega)
      have KY := fun (W : World) (hb : Below wr.heap.size wr W) => rchanges_any (w := W) (A := A3) (c := c3) (l := ysT (tris c)) (by rw [hyl]; exact (HTW.out.y.keep hb).sl) (by omega)
      rw [hxl] at KX
      simp only [hyl] at KY
      have HBW : Hid (Below w.heap.size w wr) := Lib.hid (by rw [hn0]; exact HB.out)
      have HW : w.heap.size ≤ wr.heap.size := by rw [hn0]; exact HTW.out.x.le
      have HW' : n0 ≤ wr.heap.size := HTW.out.x.le
      generalize upT (tris c) = U at *
      generalize downT (tris c) = D at *
      generalize chgR (xsT (tris c)) = n1 at *
      generalize chgR (ysT (tris c)) = n2 at *
      have HCV := Lib.hid hcv
      clear hcv
      replace KX := Lib.hid KX
      replace KY := Lib.hid KY
      have hn1 : (decide (n1 ≤ 2) = true ∧ (n1 : Int) ≤ 2) ∨ (decide (n1 ≤ 2) = false ∧ (2 : Int) < n1) := by simp only [decide_eq_true_eq, decide_eq_false_iff_not]; omega
      have hn2 : (decide (n2 ≤ 2) = true ∧ (n2 : Int) ≤ 2) ∨ (decide (n2 ≤ 2) = false ∧ (2 : Int) < n2) := by simp only [decide_eq_true_eq, decide_eq_false_iff_not]; omega
      cases U
      all_goals cases D
      all_goals first
        | (go_wp2_with fail
           go_ret
           exact ⟨ret_bool' (by rw [HCV.out]; rfl), HBW.out⟩)
        | (rcases hn1 with ⟨ha, hb⟩ | ⟨ha, hb⟩
           all_goals rcases hn2 with ⟨ha', hb'⟩ | ⟨ha', hb'⟩
           all_goals go_wp2_with (first | (go_at_call 73; (with_reducible refine KX.out.mono ?_); rintro e w1 ⟨rfl, hb1⟩; have HB1 := Lib.hid hb1; clear hb1) | (go_at_call 73; (with_reducible refine (KY.out _ HB1.out).mono ?_); rintro e w2 ⟨rfl, hb2⟩; have HB3 := Lib.hid (HB1.out.trans (hb2.mono HB1.out.size)); clear hb2))
           all_goals go_ret
           all_goals refine ⟨ret_bool' (by rw [HCV.out, ha, ha']; first | rfl | (simp; omega)), ?_⟩
           all_goals (first | exact HBW.out | exact HBW.out.trans (HB3.out.mono HW) | exact HBW.out.trans (HB1.out.mono HW) | exact HB.out.trans (HB3.out.mono HW') | exact HB.out.trans (HB1.out.mono HW') | (rw [hn0]; first | exact HB.out.trans (HB3.out.mono HW') | exact HB.out.trans (HB1.out.mono HW'))))
end Go.Proofs.Ytnmnehgcliiofaa
