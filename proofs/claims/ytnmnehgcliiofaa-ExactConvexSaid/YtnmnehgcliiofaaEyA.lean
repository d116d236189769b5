/-
  exact.Convex: one closed line of three dots or more.
-/
import Derived.Test.YtnmnehgcliiofaaExZ
import Derived.Deep.DeepCutAuto
import Derived.Deep.RegionHeldLaw
namespace Go.Proofs.Ytnmnehgcliiofaa
open Go.RowKit

/-- What holds at each round: two lists of ints that lie apart. -/
structure Two (B : Nat) (w : World) (A1 A2 : Option Addr) (L c1 c2 : Nat) (xs ys : List Int) : Prop where
  x : OwI B w A1 L c1 xs
  y : OwI B w A2 L c2 ys
  ne : ∀ k, rowOf A1 = some k → rowOf A2 ≠ some k

theorem Two.keep {B : Nat} {w w' : World} {A1 A2 : Option Addr} {L c1 c2 : Nat} {xs ys : List Int} (h : Two B w A1 A2 L c1 c2 xs ys) (hb : Below w.heap.size w w') : Two B w' A1 A2 L c1 c2 xs ys := ⟨h.x.keep hb, h.y.keep hb, h.ne⟩
theorem OwI.grown {B : Nat} {w w' : World} {A : Option Addr} {L c : Nat} {xs : List Int} {row : Option Nat} (h : OwI B w A L c xs) (hg : w.grownBy w' row) (hne : ∀ k, rowOf A = some k → row ≠ some k) : OwI B w' A L c xs :=
  ⟨h.len, own_keep h.own fun k e => by
    rw [ownBlock_slice] at e
    exact hg.block k (h.row k e).2 (fun he => hne k e he.symm), Nat.le_trans h.le hg.size⟩
/-- An append to the one, the other lying apart. -/
theorem apart_grown {B : Nat} {w w' : World} {A1 A1' A2 : Option Addr} {L c L' c' : Nat} {xs ys : List Int} (_hx : OwI B w A1 L c xs) (hy : OwI B w A2 L' c' ys) (hne : ∀ k, rowOf A1 = some k → rowOf A2 ≠ some k) (hg : w.grownBy w' (rowOf A1)) (hr : rowOf A1' = rowOf A1 ∨ rowOf A1' = some w.heap.size) :
    OwI B w' A2 L' c' ys ∧ ∀ k, rowOf A1' = some k → rowOf A2 ≠ some k := by
  refine ⟨hy.grown hg fun k e e' => hne k e' e, fun k e e' => ?_⟩
  rcases hr with h | h
  · exact hne k (h ▸ e) e'
  · rw [h] at e
    injection e with e
    have := (hy.row k e').2
    omega
theorem Blk.grown {w w' : World} {b : Nat} {t : TypeId} {cs : List Value} {row : Option Nat} (h : Blk w b t cs) (hg : w.grownBy w' row) (hne : row ≠ some b) : Blk w' b t cs := (hg.block b h.lt (fun e => hne e.symm)).trans h
theorem SlAt.grown {w w' : World} {b n : Nat} {vs : List Value} {row : Option Nat} (h : SlAt w (some ⟨b, 0, none⟩) n vs) (hg : w.grownBy w' row) (hne : row ≠ some b) : SlAt w' (some ⟨b, 0, none⟩) n vs := by
  refine ⟨h.1, fun k hk => ?_⟩
  obtain ⟨b', o', hA, hlt, hc⟩ := h.2 k hk
  injection hA with hA
  injection hA with h1 h2
  subst h1 h2
  exact ⟨b, 0, rfl, Nat.lt_of_lt_of_le hlt hg.size, by rw [World.cell?_of_block (w := w) (w' := w') (hg.block b hlt (fun e => hne e.symm))]; exact hc⟩
set_option maxRecDepth 20000 in
set_option maxHeartbeats 8000000 in
theorem Convex_one {w : World} {A : Option Addr} {cc : Nat} {c : List Dt} (h : Dl w A [c]) (hm : mayL [c] = true) (h3 : 3 ≤ c.length) (hc : c.length ≤ 1000) :
    Calls Try.prog 38 #[.slice A 1 cc] w fun e w' => e = .returned (.bool (cvC c)) ∧ Below w.heap.size w w' := by
  have KM := flatMay_any (w := w) (c := cc) h (by simp) (by simp [cnt]; omega)
  rw [show mayE [c] = 0 by unfold mayE; rw [hm]; rfl] at KM
  simp only [List.length_cons, List.length_nil, Nat.zero_add] at KM
  obtain ⟨b, o, A1, c1, rfl, hb, hcell, hds, hsm⟩ := h 0 c rfl
  replace KM := Lib.hid KM
  have HDS := Lib.hid hds
  have hfit : ∀ (k : Nat) (d : Dt), c[k]? = some d → (-1048576 ≤ d.1 ∧ d.1 ≤ 1048576) ∧ (-1048576 ≤ d.2 ∧ d.2 ≤ 1048576) := fun k d hd => by
    have h1 : c.all fitDt = true := by simpa [mayL] using hm
    rw [List.all_eq_true] at h1
    have := h1 d (List.mem_of_getElem? hd)
    simpa only [fitDt, Bool.and_eq_true, fitD_true] using this
  have HFIT := Lib.hid hfit
  have hc3 : (3 : Int) ≤ c.length := by omega
  clear h hm hds hfit
  go_enter Try.func38, Try.ntmps38
  go_wp2_with (first
    | (go_at_call 56; (with_reducible refine KM.out.mono ?_); rintro e w1 ⟨rfl, hb1⟩
       have HB1 := Lib.hid hb1
       have hcell1 : w1.cell? ⟨b, o + 0, none⟩ = some (.slice A1 c.length c1) := (hb1.cell (p := ⟨b, _, none⟩) hb).trans hcell
       simp at hcell1
       clear hb1))
  obtain ⟨q, hq⟩ : ∃ q, w1.heap.size = q := ⟨_, rfl⟩
  obtain ⟨W2, hW2⟩ : ∃ W2, w1.alloc (.cells #[.slice A1 c.length c1] 91) = W2 := ⟨_, rfl⟩
  have hz2 : W2.heap.size = q + 1 := by rw [← hW2, ← hq]; simp
  have HQ : Hid (Blk W2 q 91 [.slice A1 c.length c1]) := Lib.hid (by rw [← hW2, ← hq]; exact Blk.new w1 _ _)
  have HB2 : Hid (Bel w.heap.size w W2) := Lib.hid (by rw [← hW2]; exact bel_alloc ⟨HB1.out, HB1.out.size⟩)
  have HDS2 := Lib.hid (HDS.out.keep HB2.out.below)
  rw [hW2, hq]
  clear hW2 hq hcell1 hcell HB1 KM
  have HTL := Lib.hid (tris_len c)
  go_loopw [5, 6, 7, 8, 35] (fun up dn xs ys i wr => ∃ k : Nat, k ≤ c.length ∧ i = .int .i64 k ∧ up = .bool (upT ((tris c).take k)) ∧ dn = .bool (downT ((tris c).take k)) ∧ ∃ A2 A3 c2 c3, xs = .slice A2 k c2 ∧ ys = .slice A3 k c3 ∧ Hid (Two (q + 1) wr A2 A3 k c2 c3 (xsT ((tris c).take k)) (ysT ((tris c).take k))) ∧ Hid (((tris c).take k).all (fun t => !sameT t) = true) ∧ Hid (Below (q + 1) W2 wr)) (fun _ _ _ _ i _ => c.length - (intOf i).toNat)
  case atStart => exact ⟨0, Nat.zero_le _, rfl, rfl, rfl, none, none, 0, 0, rfl, rfl, Lib.hid ⟨OwI.nilB (by omega), OwI.nilB (by omega), fun k e => by cases e⟩, Lib.hid rfl, Lib.hid (Below.refl _ _)⟩
  case round =>
    obtain ⟨k, hk, rfl, rfl, rfl, A2, A3, c2, c3, rfl, rfl, HTW, HALL, HB⟩ := hrel
    by_cases hlt : k < c.length
    · obtain ⟨⟨ax, ay⟩, ha⟩ := get_some hlt
      obtain ⟨⟨bx, by'⟩, hbd⟩ := get_some (next_lt hlt)
      obtain ⟨⟨dx, dy⟩, hdd⟩ := get_some (show (k + 2) % c.length < c.length from Nat.mod_lt _ (by omega))
      have htr := tris_at ha hbd hdd
      have HTR := Lib.hid htr
      obtain ⟨⟨fa1, fa2⟩, fa3, fa4⟩ := HFIT.out _ _ ha
      obtain ⟨⟨fb1, fb2⟩, fb3, fb4⟩ := HFIT.out _ _ hbd
      obtain ⟨⟨fd1, fd2⟩, fd3, fd4⟩ := HFIT.out _ _ hdd
      dsimp only at fa1 fa2 fa3 fa4 fb1 fb2 fb3 fb4 fd1 fd2 fd3 fd4
      have K1 := fun (W : World) (hb : Below (q + 1) W2 W) => at_any (w := W) (cb := q) (i := k) (m := k) (ii := (k : Int)) rfl (HDS2.out.keep (hb.mono (by omega))) ((HQ.out.below hb (Nat.lt_succ_self _)).cell 0) (Nat.mod_eq_of_lt hlt) ha
      have K2 := fun (W : World) (hb : Below (q + 1) W2 W) => at_any (w := W) (cb := q) (i := k + 1) (ii := (k : Int) + 1) (by omega) (HDS2.out.keep (hb.mono (by omega))) ((HQ.out.below hb (Nat.lt_succ_self _)).cell 0) rfl hbd
      have K3 := fun (W : World) (hb : Below (q + 1) W2 W) => at_any (w := W) (cb := q) (i := k + 2) (ii := (k : Int) + 2) (by omega) (HDS2.out.keep (hb.mono (by omega))) ((HQ.out.below hb (Nat.lt_succ_self _)).cell 0) rfl hdd
      replace K1 := Lib.hid K1
      replace K2 := Lib.hid K2
      replace K3 := Lib.hid K3
      have hk64 : (k : Int) < c.length := by omega
      clear ha hbd hdd htr
      have hsame : sameT ((ax, ay), (bx, by'), (dx, dy)) = eq2 ax ay bx by' := rfl
      have hturn : turnT ((ax, ay), (bx, by'), (dx, dy)) = (bx - ax) * (dy - by') - (dx - bx) * (by' - ay) := rfl
      have m1 := mul_22 (a := bx - ax) (b := dy - by') (by omega) (by omega)
      have m2 := mul_22 (a := dx - bx) (b := by' - ay) (by omega) (by omega)
      obtain ⟨t1, ht1⟩ : ∃ t1, (bx - ax) * (dy - by') = t1 := ⟨_, rfl⟩
      obtain ⟨t2, ht2⟩ : ∃ t2, (dx - bx) * (by' - ay) = t2 := ⟨_, rfl⟩
      rw [ht1] at m1
      rw [ht2] at m2
      rw [ht1, ht2] at hturn
      have q1 : IntKind.i64.wrap ((bx - ax) * (dy - by')) = t1 := by rw [ht1]; exact IntWalk.i64_in _ (by omega)
      have q2 : IntKind.i64.wrap ((dx - bx) * (by' - ay)) = t2 := by rw [ht2]; exact IntWalk.i64_in _ (by omega)
      have hu := upT_snoc HTR.out
      have hd := downT_snoc HTR.out
      rw [hturn] at hu hd
      have hxs := xsT_snoc HTR.out
      have hys := ysT_snoc HTR.out
      dsimp only at hxs hys
      have HU := Lib.hid hu
      have HDN := Lib.hid hd
      have HXS := Lib.hid hxs
      have HYS := Lib.hid hys
      have HSAME := Lib.hid hsame
      clear hu hd hxs hys hsame hturn ht1 ht2
      generalize upT ((tris c).take k) = U at *
      generalize downT ((tris c).take k) = D at *
      generalize xsT ((tris c).take k) = xs at *
      generalize ysT ((tris c).take k) = ys at *
      cases he : eq2 ax ay bx by'
      · have hnew := all_snoc (p := fun t => !sameT t) HTR.out
        rw [HSAME.out, he, HALL.out] at hnew
        have HNEW := Lib.hid hnew
        clear hnew HSAME
        go_upto_region 14 with (first
          | (go_at_call 71; (with_reducible refine (K1.out _ HB.out).mono ?_); rintro e w3 ⟨rfl, hb3⟩
             have HB3 := Lib.hid (HB.out.trans (hb3.mono (by have := HB.out.size; omega)))
             have HA3 : Hid (Aft wr w3) := Lib.hid hb3
             clear hb3)
          | (go_at_call 71; (with_reducible refine (K2.out _ HB3.out).mono ?_); rintro e w4 ⟨rfl, hb4⟩
             have HB4 := Lib.hid (HB3.out.trans (hb4.mono (by have := HB3.out.size; omega)))
             have HA4 := Lib.hid (HA3.out.call hb4)
             clear hb4)
          | (go_at_call 71; (with_reducible refine (K3.out _ HB4.out).mono ?_); rintro e w5 ⟨rfl, hb5⟩
             have HB5 := Lib.hid (HB4.out.trans (hb5.mono (by have := HB4.out.size; omega)))
             have HA5 := Lib.hid (HA4.out.call hb5)
             clear hb5))
        obtain ⟨p, hp⟩ : ∃ p, w5.heap.size = p := ⟨_, rfl⟩
        obtain ⟨W6, hW6⟩ : ∃ W6, (((w5.alloc (.cells #[.int .i64 ax, .int .i64 ay] 72)).alloc (.cells #[.int .i64 bx, .int .i64 by'] 72)).alloc (.cells #[.int .i64 dx, .int .i64 dy] 72)) = W6 := ⟨_, rfl⟩
        have hle := HB5.out.size
        have hba : Blk W6 p 72 [.int .i64 ax, .int .i64 ay] := by rw [← hW6, ← hp]; exact ((Blk.new w5 _ _).alloc _).alloc _
        have hbb : Blk W6 (p + 1) 72 [.int .i64 bx, .int .i64 by'] := by rw [← hW6, ← hp]; exact (Blk.newAt _ _ [.int .i64 bx, .int .i64 by'] (by simp)).alloc _
        have h56 : Below w5.heap.size w5 W6 := by rw [← hW6]; exact (bel_alloc (bel_alloc (bel_alloc bel_refl))).below
        have HB6 := Lib.hid (HB5.out.trans (h56.mono (by omega)))
        have HT6 := Lib.hid (HTW.out.keep (HA5.out.call h56))
        have hwp : wr.heap.size ≤ p := by rw [← hp]; exact Aft.size HA5.out
        rw [hp, hW6]
        clear hp hW6 h56
        go_cut [5, 6] (fun s5 s6 wx => s5 = .bool (U || decide (0 < t1 - t2)) ∧ s6 = .bool (D || decide (t1 - t2 < 0)) ∧ wx = W6)
        case first =>
          cases U
          all_goals cases D
          all_goals go_wp2_with fail
          all_goals go_meet
          all_goals refine ⟨congrArg Value.bool ?_, congrArg Value.bool ?_, rfl⟩
          all_goals (first | (simp; done) | (rw [Bool.eq_iff_iff]; simp; omega) | (rw [Bool.eq_iff_iff]; simp))
        case rest =>
          obtain ⟨rfl, rfl, rfl⟩ := hcut
          generalize hU2 : (U || decide (0 < t1 - t2)) = U2 at *
          generalize hD2 : (D || decide (t1 - t2 < 0)) = D2 at *
          have HU2 := Lib.hid hU2
          have HD2 := Lib.hid hD2
          clear hU2 hD2
          go_upto_region 15 with fail
          have hS : ∀ u : World, (Blk u p 72 [.int .i64 ax, .int .i64 ay] ∧ Blk u (p + 1) 72 [.int .i64 bx, .int .i64 by']) → (u.cell? ⟨p, 0, none⟩ = some (.int .i64 ax) ∧ u.cell? ⟨p, 1, none⟩ = some (.int .i64 ay)) ∧ (u.cell? ⟨p + 1, 0, none⟩ = some (.int .i64 bx) ∧ u.cell? ⟨p + 1, 1, none⟩ = some (.int .i64 by')) := fun u hu => ⟨⟨hu.1.cell 0, hu.1.cell 1⟩, hu.2.cell 0, hu.2.cell 1⟩
          have s0 := fun u hu => (hS u hu).1.1
          have s1 := fun u hu => (hS u hu).1.2
          have s2 := fun u hu => (hS u hu).2.1
          have s3 := fun u hu => (hS u hu).2.2
          have HS6 := Lib.hid (And.intro hba hbb)
          clear hS hba hbb
          have hrx := fun k' e => (HTW.out.x.row k' e).2
          have hry := fun k' e => (HTW.out.y.row k' e).2
          have hpw := HS6.out.1.lt
          have HX0 := Lib.hid (show ∀ r, rowOf A2 = some r → r < p from fun r e => by have := hrx r e; omega)
          have HY0 := Lib.hid (show ∀ r, rowOf A3 = some r → r < p from fun r e => by have := hry r e; omega)
          have hpx : (rowOf A2 ≠ some p ∧ rowOf A2 ≠ some (p + 1)) ∧ (rowOf A3 ≠ some p ∧ rowOf A3 ≠ some (p + 1)) := ⟨⟨fun e => by have := HX0.out _ e; omega, fun e => by have := HX0.out _ e; omega⟩, fun e => by have := HY0.out _ e; omega, fun e => by have := HY0.out _ e; omega⟩
          have HPX := Lib.hid hpx
          have hw1 : IntKind.i64.wrap (bx - ax) = bx - ax := IntWalk.i64_in _ (by omega)
          have hw2 : IntKind.i64.wrap (by' - ay) = by' - ay := IntWalk.i64_in _ (by omega)
          clear hrx hry hpx
          have HV1 := Lib.hid (HT6.out.keep (bel_drew (bel_alloc (o := .cells #[.int .i64 (bx - ax)] 3) bel_refl)).below)
          have HV2 := Lib.hid (HT6.out.keep (bel_drew (bel_alloc (o := .cells #[.int .i64 (by' - ay)] 3) (bel_alloc (o := .cells #[.int .i64 (bx - ax)] 3) bel_refl))).below)
          have HV3 := Lib.hid (HT6.out.keep (bel_drew (bel_alloc (o := .cells #[.int .i64 (bx - ax)] 3) (bel_alloc (o := .cells #[.int .i64 (by' - ay)] 3) bel_refl))).below)
          have HM1 := Lib.hid ((slat_int wc (bx - ax)).keep (bel_drew bel_refl).below)
          have HM2 := Lib.hid ((slat_int wc (bx - ax)).keep (bel_drew (bel_alloc (o := .cells #[.int .i64 (by' - ay)] 3) bel_refl)).below)
          have hm3 := slat_int (wc.alloc (.cells #[.int .i64 (by' - ay)] 3)) (bx - ax)
          have hn2 := slat_int (wc.alloc (.cells #[.int .i64 (bx - ax)] 3)) (by' - ay)
          rw [World.size_alloc] at hm3 hn2
          have HM3 := Lib.hid (hm3.keep (bel_drew bel_refl).below)
          have HN2 := Lib.hid (hn2.keep (bel_drew bel_refl).below)
          have HN3 := Lib.hid ((slat_int wc (by' - ay)).keep (bel_drew (bel_alloc (o := .cells #[.int .i64 (bx - ax)] 3) bel_refl)).below)
          have hqw : q + 1 ≤ wc.heap.size := HT6.out.x.le
          clear hm3 hn2
          go_region_held_law (fun u => Blk u p 72 [.int .i64 ax, .int .i64 ay] ∧ Blk u (p + 1) 72 [.int .i64 bx, .int .i64 by']) (first | (with_reducible exact ⟨HS6.out.1.drew, HS6.out.2.drew⟩) | (with_reducible exact ⟨(HS6.out.1.alloc _).drew, (HS6.out.2.alloc _).drew⟩) | (with_reducible exact ⟨((HS6.out.1.alloc _).alloc _).drew, ((HS6.out.2.alloc _).alloc _).drew⟩) | (with_reducible exact HS7.out) | (with_reducible exact ⟨HS7.out.1.alloc _, HS7.out.2.alloc _⟩) | (with_reducible exact HS8.out))
            (first
             | ((with_reducible refine step_append_oi2 ?_ (.tmp 85) (.tmp 91) ?_ ?_ HV1.out.x (some ⟨wc.heap.size, 0, none⟩) 1 1 ?_ [bx - ax] HM1.out ?_ ?_); (· rfl); (· rfl); (· rfl); (· rfl); (· omega); intro A4 c4 w7 ho7 hg7 hr7
                have hz := apart_grown HV1.out.x HV1.out.y HV1.out.ne hg7 hr7
                have HX7 := Lib.hid ho7
                have HY7 := Lib.hid hz.1
                have HN7 := Lib.hid hz.2
                have HS7 := Lib.hid (And.intro (((HS6.out.1.alloc _).drew).grown hg7 HPX.out.1.1) (((HS6.out.2.alloc _).drew).grown hg7 HPX.out.1.2))
                have HB7 := Lib.hid ((HB6.out.trans (((bel_drew (bel_alloc (o := .cells #[.int .i64 (bx - ax)] 3) (bel_refl (a := wc))))).below.mono hqw)).grown hg7 HV1.out.x.le (fun r e => (HV1.out.x.row r e).1))
                clear ho7 hg7 hr7 hz)
             | ((with_reducible refine step_append_oi2 ?_ (.tmp 85) (.tmp 91) ?_ ?_ HV2.out.x (some ⟨wc.heap.size, 0, none⟩) 1 1 ?_ [bx - ax] HM2.out ?_ ?_); (· rfl); (· rfl); (· rfl); (· rfl); (· omega); intro A4 c4 w7 ho7 hg7 hr7
                have hz := apart_grown HV2.out.x HV2.out.y HV2.out.ne hg7 hr7
                have HX7 := Lib.hid ho7
                have HY7 := Lib.hid hz.1
                have HN7 := Lib.hid hz.2
                have HS7 := Lib.hid (And.intro ((((HS6.out.1.alloc _).alloc _).drew).grown hg7 HPX.out.1.1) ((((HS6.out.2.alloc _).alloc _).drew).grown hg7 HPX.out.1.2))
                have HB7 := Lib.hid ((HB6.out.trans (((bel_drew (bel_alloc (o := .cells #[.int .i64 (by' - ay)] 3) (bel_alloc (o := .cells #[.int .i64 (bx - ax)] 3) (bel_refl (a := wc)))))).below.mono hqw)).grown hg7 HV2.out.x.le (fun r e => (HV2.out.x.row r e).1))
                have HM7 := Lib.hid (HN2.out.grown hg7 (fun e => by have := HX0.out _ e; omega))
                clear ho7 hg7 hr7 hz)
             | ((with_reducible refine step_append_oi2 ?_ (.tmp 85) (.tmp 91) ?_ ?_ HV3.out.x (some ⟨wc.heap.size + 1, 0, none⟩) 1 1 ?_ [bx - ax] HM3.out ?_ ?_); (· rfl); (· rfl); (· rfl); (· rfl); (· omega); intro A4 c4 w7 ho7 hg7 hr7
                have hz := apart_grown HV3.out.x HV3.out.y HV3.out.ne hg7 hr7
                have HX7 := Lib.hid ho7
                have HY7 := Lib.hid hz.1
                have HN7 := Lib.hid hz.2
                have HS7 := Lib.hid (And.intro ((((HS6.out.1.alloc _).alloc _).drew).grown hg7 HPX.out.1.1) ((((HS6.out.2.alloc _).alloc _).drew).grown hg7 HPX.out.1.2))
                have HB7 := Lib.hid ((HB6.out.trans (((bel_drew (bel_alloc (o := .cells #[.int .i64 (bx - ax)] 3) (bel_alloc (o := .cells #[.int .i64 (by' - ay)] 3) (bel_refl (a := wc)))))).below.mono hqw)).grown hg7 HV3.out.x.le (fun r e => (HV3.out.x.row r e).1))
                have HM7 := Lib.hid (HN3.out.grown hg7 (fun e => by have := HX0.out _ e; omega))
                clear ho7 hg7 hr7 hz)
             | ((with_reducible refine step_append_oi2 ?_ (.tmp 93) (.tmp 99) ?_ ?_ (HY7.out.keep (bel_alloc (o := .cells #[.int .i64 (by' - ay)] 3) (bel_refl (a := w7))).below) (some ⟨w7.heap.size, 0, none⟩) 1 1 ?_ [by' - ay] (slat_int w7 (by' - ay)) ?_ ?_); (· rfl); (· rfl); (· rfl); (· rfl); (· omega); intro A5 c5 w8 ho8 hg8 hr8
                have hz := apart_grown (HY7.out.keep (bel_alloc (o := .cells #[.int .i64 (by' - ay)] 3) (bel_refl (a := w7))).below) (HX7.out.keep (bel_alloc (o := .cells #[.int .i64 (by' - ay)] 3) (bel_refl (a := w7))).below) (fun r e e' => HN7.out r e' e) hg8 hr8
                have HT8 : Hid (Two (q + 1) w8 A4 A5 (k + 1) c4 c5 (xs ++ [bx - ax]) (ys ++ [by' - ay])) := Lib.hid ⟨hz.1, ho8, fun r e e' => hz.2 r e' e⟩
                have HS8 := Lib.hid (And.intro (((HS7.out.1.alloc _)).grown hg8 HPX.out.2.1) (((HS7.out.2.alloc _)).grown hg8 HPX.out.2.2))
                have HB8 := Lib.hid ((HB7.out.trans ((bel_alloc (o := .cells #[.int .i64 (by' - ay)] 3) (bel_refl (a := w7))).below.mono (by have := HB7.out.size; omega))).grown hg8 ((HY7.out.keep (bel_alloc (o := .cells #[.int .i64 (by' - ay)] 3) (bel_refl (a := w7))).below)).le (fun r e => (OwI.row (HY7.out.keep (bel_alloc (o := .cells #[.int .i64 (by' - ay)] 3) (bel_refl (a := w7))).below) r e).1))
                clear ho8 hg8 hr8 hz)
             | ((with_reducible refine step_append_oi2 ?_ (.tmp 93) (.tmp 99) ?_ ?_ HY7.out (some ⟨wc.heap.size + 1, 0, none⟩) 1 1 ?_ [by' - ay] HM7.out ?_ ?_); (· rfl); (· rfl); (· rfl); (· rfl); (· omega); intro A5 c5 w8 ho8 hg8 hr8
                have hz := apart_grown HY7.out HX7.out (fun r e e' => HN7.out r e' e) hg8 hr8
                have HT8 : Hid (Two (q + 1) w8 A4 A5 (k + 1) c4 c5 (xs ++ [bx - ax]) (ys ++ [by' - ay])) := Lib.hid ⟨hz.1, ho8, fun r e e' => hz.2 r e' e⟩
                have HS8 := Lib.hid (And.intro ((HS7.out.1).grown hg8 HPX.out.2.1) ((HS7.out.2).grown hg8 HPX.out.2.2))
                have HB8 := Lib.hid (HB7.out.grown hg8 (HY7.out).le (fun r e => (OwI.row HY7.out r e).1))
                clear ho8 hg8 hr8 hz)
             | ((with_reducible refine step_append_oi2 ?_ (.tmp 93) (.tmp 99) ?_ ?_ HY7.out (some ⟨wc.heap.size, 0, none⟩) 1 1 ?_ [by' - ay] HM7.out ?_ ?_); (· rfl); (· rfl); (· rfl); (· rfl); (· omega); intro A5 c5 w8 ho8 hg8 hr8
                have hz := apart_grown HY7.out HX7.out (fun r e e' => HN7.out r e' e) hg8 hr8
                have HT8 : Hid (Two (q + 1) w8 A4 A5 (k + 1) c4 c5 (xs ++ [bx - ax]) (ys ++ [by' - ay])) := Lib.hid ⟨hz.1, ho8, fun r e e' => hz.2 r e' e⟩
                have HS8 := Lib.hid (And.intro ((HS7.out.1).grown hg8 HPX.out.2.1) ((HS7.out.2).grown hg8 HPX.out.2.2))
                have HB8 := Lib.hid (HB7.out.grown hg8 (HY7.out).le (fun r e => (OwI.row HY7.out r e).1))
                clear ho8 hg8 hr8 hz))
          all_goals
            clear s0 s1 s2 s3
            go_wp2_with fail
            go_roundw
            case rel => exact ⟨k + 1, by omega, by go_num, by rw [HU.out], by rw [HDN.out], A4, A5, c4, c5, rfl, rfl, Lib.hid (by rw [HXS.out, HYS.out]; exact HT8.out), Lib.hid HNEW.out, HB8⟩
            case measure => simp [intOf]; omega
      · have hf : cvC c = false := by
          unfold cvC
          rw [all_no (p := fun t => !sameT t) HTR.out (by rw [HSAME.out, he]; rfl)]
          rfl
        have HF := Lib.hid hf
        clear hf
        go_wp2_with (first
          | (go_at_call 71; (with_reducible refine (K1.out _ HB.out).mono ?_); rintro e w3 ⟨rfl, hb3⟩
             have HB3 := Lib.hid (HB.out.trans (hb3.mono (by have := HB.out.size; omega)))
             have HA3 : Hid (Aft wr w3) := Lib.hid hb3
             clear hb3)
          | (go_at_call 71; (with_reducible refine (K2.out _ HB3.out).mono ?_); rintro e w4 ⟨rfl, hb4⟩
             have HB4 := Lib.hid (HB3.out.trans (hb4.mono (by have := HB3.out.size; omega)))
             have HA4 := Lib.hid (HA3.out.call hb4)
             clear hb4)
          | (go_at_call 71; (with_reducible refine (K3.out _ HB4.out).mono ?_); rintro e w5 ⟨rfl, hb5⟩
             have HB5 := Lib.hid (HB4.out.trans (hb5.mono (by have := HB4.out.size; omega)))
             have HA5 := Lib.hid (HA4.out.call hb5)
             clear hb5))
        have hle := HB5.out.size
        have HBW := Lib.hid (HB2.out.below.trans ((HB5.out.trans ((bel_alloc (o := .cells #[.int .i64 dx, .int .i64 dy] 72) (bel_alloc (o := .cells #[.int .i64 bx, .int .i64 by'] 72) (bel_alloc (o := .cells #[.int .i64 ax, .int .i64 ay] 72) (bel_refl (a := w5))))).below.mono (by omega))).mono (show w.heap.size ≤ q + 1 by have := HB2.out.le; omega)))
        go_ret
        exact ⟨ret_bool' HF.out.symm, HBW.out⟩
    · obtain rfl : k = c.length := by omega
      have htk : (tris c).take c.length = tris c := by rw [← HTL.out]; exact List.take_length
      rw [htk] at HTW HALL
      rw [htk]
      have hcv : cvC c = ((upT (tris c) != downT (tris c)) && decide (chgR (xsT (tris c)) ≤ 2) && decide (chgR (ysT (tris c)) ≤ 2)) := by unfold cvC; rw [HALL.out]; rfl
      have hxl : (xsT (tris c)).length = c.length := by simp [xsT, HTL.out]
      have hyl : (ysT (tris c)).length = c.length := by simp [ysT, HTL.out]
      have KX := changes_any (w := wr) (A := A2) (c := c2) (l := xsT (tris c)) (by rw [hxl]; exact HTW.out.x.sl) (by omega)
      have KY := changes_any (w := wr) (A := A3) (c := c3) (l := ysT (tris c)) (by rw [hyl]; exact HTW.out.y.sl) (by omega)
      rw [hxl, chg_eq] at KX
      rw [hyl, chg_eq] at KY
      have HBW := Lib.hid (HB2.out.below.trans (HB.out.mono (show w.heap.size ≤ q + 1 by have := HB2.out.le; omega)))
      have HW : w.heap.size ≤ wr.heap.size := HBW.out.size
      generalize upT (tris c) = U at *
      generalize downT (tris c) = D at *
      generalize chgR (xsT (tris c)) = n1 at *
      generalize chgR (ysT (tris c)) = n2 at *
      have HCV := Lib.hid hcv
      clear hcv
      replace KX := Lib.hid KX
      replace KY := Lib.hid KY
      have hn1 : (decide (n1 ≤ 2) = true ∧ (n1 : Int) ≤ 2) ∨ (decide (n1 ≤ 2) = false ∧ (2 : Int) < n1) := by simp only [decide_eq_true_eq, decide_eq_false_iff_not]; omega
      have hn2 : (decide (n2 ≤ 2) = true ∧ (n2 : Int) ≤ 2) ∨ (decide (n2 ≤ 2) = false ∧ (2 : Int) < n2) := by simp only [decide_eq_true_eq, decide_eq_false_iff_not]; omega
      cases U
      all_goals cases D
      all_goals first
        | (go_wp2_with fail
           go_ret
           exact ⟨ret_bool' (by rw [HCV.out]; rfl), HBW.out⟩)
        | (rcases hn1 with ⟨ha, hb⟩ | ⟨ha, hb⟩
           all_goals rcases hn2 with ⟨ha', hb'⟩ | ⟨ha', hb'⟩
           all_goals go_wp2_with (first | (go_at_call 72; (with_reducible refine (KX.out).mono ?_); rintro e w1 ⟨rfl, rfl⟩) | (go_at_call 72; (with_reducible refine (KY.out).mono ?_); rintro e w1 ⟨rfl, rfl⟩))
           all_goals go_ret
           all_goals exact ⟨ret_bool' (by rw [HCV.out, ha, ha']; first | rfl | (simp; omega)), HBW.out⟩)
end Go.Proofs.Ytnmnehgcliiofaa
