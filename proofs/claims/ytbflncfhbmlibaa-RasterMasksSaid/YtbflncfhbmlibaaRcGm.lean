/-
  Layer 22: what closed lines leave: the document's Flat.
  Layer 22: what closed lines leave: the document's AllIn and Flat.
  Layer 22, plain: what a line leaves, as a list of additions; what cancels; how far down a row goes.
  Layer 22: plain: pixels in order; cells behind turned blocks.
  Layer 22: the document: what a line leaves.
  Layer 22: the document: what a piece leaves.
  Layer 22: the document: what a bit leaves.
-/
import Derived.Test.YtbflncfhbmlibaaCoW
import Derived.Test.YtbflncfhbmlibaaTail
import Derived.Deep.DeepCutAuto
import Derived.Test.YtbflncfhbmlibaaCqH
namespace Go.Proofs.Ytbflncfhbmlibaa

open Go.RowKit Go.Shelf

def RBitR (g kc ka : Nat) (b : B4) (cs : List Ce) (w : World) (e : Ending) (w' : World) : Prop := (∃ v, e = .returned v) ∧ Rc w' g kc ka b cs ∧ Tn (fun i => i = kc ∨ i = ka) w w'

theorem bitC_set {b : B4} {sg row : Int} {cs : List Ce} {t : Bt} {q : Int} {j : Nat} {co ar d0 e2 : Int} (hq : Bt.col t = q) (hpl : placeB b q row = true) (hj : placeN b q row = j) (hjl : j < cs.length) (hc : cs[j]? = some (co, ar))
    (hd0 : sg * (t.z - t.v) = d0) (he2 : d0 * (t.u - q * 64 + t.w - q * 64) = e2) : bitC b sg row cs t = cs.set j (wrap64 (co + d0), wrap64 (ar + e2)) := by
  unfold bitC bitE bitD
  rw [hq, if_pos hpl, hj]
  rw [hd0, he2, Int.toNat_natCast]
  apply List.ext_getElem?
  intro i
  rw [List.getElem?_modify, List.getElem?_set]
  by_cases hij : j = i
  · subst hij
    rw [hc]
    simp [hjl, addC]
  · simp [hij]

set_option maxRecDepth 20000 in
set_option maxHeartbeats 4000000 in
theorem rbit_any {w : World} {g kc ka : Nat} {b : B4} {cs : List Ce} (h : Rc w g kc ka b cs) (row sg : Int) (t : Bt) (hsg : sg = 1 ∨ sg = -1) (hbd : (-1048576 ≤ t.u ∧ t.u ≤ 1048576) ∧ (-1048576 ≤ t.v ∧ t.v ≤ 1048576) ∧ (-1048576 ≤ t.w ∧ t.w ≤ 1048576) ∧ (-1048576 ≤ t.z ∧ t.z ≤ 1048576)) (hpl : placeB b t.col row = true) :
    Calls Try.prog 95 #[.pointer (some ⟨g, 0, none⟩), .int .i64 row, .int .i64 sg, .int .i64 t.u, .int .i64 t.v, .int .i64 t.w, .int .i64 t.z] w (RBitR g kc ka b (bitC b sg row cs t) w) := by
  obtain ⟨q, hq⟩ : ∃ q, Bt.col t = q := ⟨_, rfl⟩
  rw [hq] at hpl
  have hra := rplace_any h q row
  unfold rplaceI at hra
  rw [if_pos hpl] at hra
  obtain ⟨p1, p2, -, -⟩ := place_bd h.box hpl
  obtain ⟨j, hj⟩ : ∃ j : Nat, placeN b q row = j := ⟨(placeN b q row).toNat, by omega⟩
  have hjl : j < cs.length := by have := h.len; omega
  have hjl2 : (j : Int) < cs.length := by omega
  obtain ⟨⟨co, ar⟩, hc⟩ : ∃ c, cs[j]? = some c := ⟨_, List.getElem?_eq_getElem hjl⟩
  rw [hj] at hra
  obtain ⟨⟨u1, u2⟩, ⟨v1, v2⟩, ⟨w1', w2'⟩, z1, z2⟩ := hbd
  obtain ⟨d0, hd0⟩ : ∃ d0, sg * (t.z - t.v) = d0 := ⟨_, rfl⟩
  have hd1 : -2097152 ≤ d0 ∧ d0 ≤ 2097152 := by rcases hsg with rfl | rfl <;> omega
  obtain ⟨d1, d2⟩ := hd1
  have hqb : min t.u t.w / 64 = q := hq
  have hq1 : -16385 ≤ q := by omega
  have hq2 : q ≤ 16384 := by omega
  have hm := mul_bdd (a := d0) (b := t.u - q * 64 + t.w - q * 64) (A := 8388608) (B := 8388608) (by omega) (by omega) (by omega) (by omega)
  obtain ⟨e2, he2⟩ : ∃ e2, d0 * (t.u - q * 64 + t.w - q * 64) = e2 := ⟨_, rfl⟩
  rw [he2] at hm
  have hm1 : -70368744177664 ≤ e2 := by omega
  have hm2 : e2 ≤ 70368744177664 := by omega
  rw [bitC_set hq hpl hj hjl hc hd0 he2]
  obtain ⟨u, v, x, z⟩ := t
  dsimp only at *
  have KF := fun w => Floor_any (min u x) 64 w (by omega) (by omega) (by omega)
  rw [hqb] at KF
  have t0 : IntKind.i64.wrap (64 * q) = 64 * q := IntWalk.i64_in _ (by omega)
  have t1 : IntKind.i64.wrap (u - 64 * q) = u - 64 * q := IntWalk.i64_in _ (by omega)
  have t2 : IntKind.i64.wrap (u - 64 * q + x) = u - 64 * q + x := IntWalk.i64_in _ (by omega)
  have t3 : IntKind.i64.wrap (u - 64 * q + x - 64 * q) = u - 64 * q + x - 64 * q := IntWalk.i64_in _ (by omega)
  have t4 : IntKind.i64.wrap (d0 * (u - 64 * q + x - 64 * q)) = e2 := by rw [Int.mul_comm 64 q, he2]; exact IntWalk.i64_in _ (by omega)
  have t5 : wrap64 (sg * (z - v)) = d0 := by rw [hd0]; exact IntWalk.wrap64_in _ (by omega)
  have HTT := Lib.hid (And.intro t0 (And.intro t1 (And.intro t2 (And.intro t3 t4))))
  have HRA := Lib.hid hra
  have HKF := Lib.hid KF
  have HC := Lib.hid hc
  have H := Lib.hid h
  have HG := Lib.hid (And.intro h.gc h.ga)
  have HNE := Lib.hid h.ne
  have q1 : w.cell? ⟨kc, j, none⟩ = some (.int .i64 co) := (h.cov.cell j).trans (covL_at hc)
  have q2 : w.cell? ⟨ka, j, none⟩ = some (.int .i64 ar) := (h.are.cell j).trans (areL_at hc)
  have c4 : w.cell? ⟨g, 4, none⟩ = some (.slice (some ⟨kc, 0, none⟩) cs.length cs.length) := h.blk.cell 4
  have c5 : w.cell? ⟨g, 5, none⟩ = some (.slice (some ⟨ka, 0, none⟩) cs.length cs.length) := h.blk.cell 5
  have gl := h.blk.lt
  have kl := h.cov.lt
  have kal := h.are.lt
  have hcl := h.bd
  clear hra KF hc h p1 p2 hj hm hq hqb hpl t0 t1 t2 t3 t4 hd0 he2 hjl
  have key : ∃ mn, min u x = mn ∧ ((mn = x ∧ x < u) ∨ (mn = u ∧ ¬ x < u)) := ⟨_, rfl, by omega⟩
  obtain ⟨mn, hmn, hmc⟩ := key
  rw [hmn] at HKF
  clear hmn
  rcases hmc with ⟨rfl, hlt⟩ | ⟨rfl, hlt⟩
  all_goals
    go_enter Try.func95, Try.ntmps95
    go_upto_region 6 with (first
      | (go_at_call 44; (with_reducible refine (HKF.out _).mono ?_); rintro e w1 ⟨rfl, rfl⟩)
      | (go_at_call 65; (with_reducible refine HRA.out.mono ?_); rintro e w1 ⟨rfl, hb1⟩))
    have HB1 := Lib.hid hb1
    have k4 : w1.cell? ⟨g, 4, none⟩ = some (.slice (some ⟨kc, 0, none⟩) cs.length cs.length) := (hb1.cell (p := ⟨g, 4, none⟩) gl).trans c4
    have k6 : w1.cell? ⟨kc, j, none⟩ = some (.int .i64 co) := (hb1.cell (p := ⟨kc, j, none⟩) kl).trans q1
    have hh := H.out.keepB hb1
    have kf := hh.cov.frozen j
    have HH := Lib.hid hh
    rw [t5]
    clear hb1 c4 q1 hh t5
    refine wp_region_drew_tail 15 (by kernel_rfl) (by kernel_rfl) ?_
    simp only [List.take_succ_cons, List.take_zero, List.drop_succ_cons, List.drop_zero]
    repeat (go_big_quiet_step (fail))
    refine wpQuiet_nil ?_
    rintro _ ⟨nq, rfl⟩
    have k6d : (w1.drewN nq).cell? ⟨kc, j, none⟩ = some (.int .i64 co) := k6
    have kfd : (w1.drewN nq).frozen? ⟨kc, j, none⟩ = false := kf
    have hkl1 : kc < w1.heap.size := HH.out.cov.lt
    clear k4 k6 kf
    go_upto_region 7 with fail
    have hs := (HH.out.cov.drewN nq).set j (.int .i64 (wrap64 (co + d0)))
    rw [show ((covL cs).set j (.int .i64 (wrap64 (co + d0)))) = covL (cs.set j (wrap64 (co + d0), wrap64 (ar + e2))) from covL_set j (wrap64 (co + d0), wrap64 (ar + e2))] at hs
    have ha := (HH.out.are.drewN nq).far (p := ⟨kc, j, none⟩) (Ne.symm HNE.out) (.int .i64 (wrap64 (co + d0)))
    have hg := (HH.out.blk.drewN nq).far (p := ⟨kc, j, none⟩) HG.out.1 (.int .i64 (wrap64 (co + d0)))
    have ht : Tn (fun i => i = kc ∨ i = ka) w ((w1.drewN nq).setCell ⟨kc, j, none⟩ (.int .i64 (wrap64 (co + d0)))) := ((Tn.of_below HB1.out).drewN nq).set (.inl (.inl rfl)) _
    have HS := Lib.hid hs
    have HA := Lib.hid ha
    have HGG := Lib.hid hg
    have HT := Lib.hid ht
    clear k6d kfd hs ha hg ht hkl1
    generalize (w1.drewN nq).setCell ⟨kc, j, none⟩ (.int .i64 (wrap64 (co + d0))) = w2 at HS HA HGG HT ⊢
    have k5 : w2.cell? ⟨g, 5, none⟩ = some (.slice (some ⟨ka, 0, none⟩) cs.length cs.length) := HGG.out.cell 5
    have k7 : w2.cell? ⟨ka, j, none⟩ = some (.int .i64 ar) := (HA.out.cell j).trans (areL_at HC.out)
    have kf := HA.out.frozen j
    have kal2 := HA.out.lt
    have gl2 := HGG.out.lt
    obtain ⟨t0, t1, t2, t3, t4⟩ := HTT.out
    refine wp_region_drew_tail 25 (by kernel_rfl) (by kernel_rfl) ?_
    simp only [List.take_succ_cons, List.take_zero, List.drop_succ_cons, List.drop_zero]
    repeat (go_big_quiet_step (fail))
    refine wpQuiet_nil ?_
    rintro _ ⟨nq, rfl⟩
    clear t0 t1 t2 t3 t4
    have k7d : (w2.drewN nq).cell? ⟨ka, j, none⟩ = some (.int .i64 ar) := k7
    have kfd : (w2.drewN nq).frozen? ⟨ka, j, none⟩ = false := kf
    clear k5 k7 kf
    have h7 := (HA.out.drewN nq).set j (.int .i64 (wrap64 (ar + e2)))
    rw [show ((areL cs).set j (.int .i64 (wrap64 (ar + e2)))) = areL (cs.set j (wrap64 (co + d0), wrap64 (ar + e2))) from areL_set j (wrap64 (co + d0), wrap64 (ar + e2))] at h7
    have hfin : RBitR g kc ka b (cs.set j (wrap64 (co + d0), wrap64 (ar + e2))) w (.returned (.tuple #[])) ((w2.drewN nq).setCell ⟨ka, j, none⟩ (.int .i64 (wrap64 (ar + e2)))) := by
      refine ⟨⟨_, rfl⟩, ⟨?_, (HS.out.drewN nq).far HNE.out _, h7, HNE.out, by rw [List.length_set]; exact H.out.len, H.out.box⟩, (HT.out.drewN nq).set (.inl (.inr rfl)) _⟩
      rw [List.length_set]
      exact (HGG.out.drewN nq).far HG.out.2 _
    have HF := Lib.hid hfin
    clear h7 hfin
    go_wp2_with fail
    with_reducible refine bodyPost_end (v := .tuple #[]) (by simp [results, Try.results95]) rfl ?_
    exact HF.out

end Go.Proofs.Ytbflncfhbmlibaa

namespace Go.Proofs.Ytbflncfhbmlibaa

open Go.RowKit Go.Shelf

abbrev TwoB (kc ka : Nat) : Nat → Prop := fun i => i = kc ∨ i = ka

/-- The loop over a piece's columns, with r to go. -/
def RPcI (w : World) (g kc ka : Nat) (b : B4) (sg : Int) (cs : List Ce) (p : Pc) (ba bb r : Nat) (s8 s9 : Value) (W : World) : Prop :=
  ∃ (u v : Int) (pre : List Bt), s8 = .int .i64 u ∧ s9 = .int .i64 v ∧ (sizeI (p.B.1 - u)).toNat = r ∧ btw p.A.1 p.B.1 u ∧ btw p.A.2 p.B.2 v ∧ pre ++ bitsR p.A p.B u v = bitsR p.A p.B p.A.1 p.A.2 ∧
    Rc W g kc ka b (pre.foldl (bitC b sg p.row) cs) ∧ Tn (TwoB kc ka) w W ∧ Blk W w.heap.size 123 (pcC p) ∧ Blk W ba 37 [.int .i64 p.A.1, .int .i64 p.A.2] ∧ Blk W bb 37 [.int .i64 p.B.1, .int .i64 p.B.2]

set_option maxRecDepth 100000 in
set_option maxHeartbeats 4000000 in
theorem rpiece_any {w : World} {g kc ka : Nat} {b : B4} {cs : List Ce} (h : Rc w g kc ka b cs) (sg : Int) (p : Pc) (hsg : sg = 1 ∨ sg = -1) (fA : dotB p.A = true) (fB : dotB p.B = true) (hpl : ∀ t ∈ bitsR p.A p.B p.A.1 p.A.2, placeB b t.col p.row = true) :
    Calls Try.prog 87 #[.pointer (some ⟨g, 0, none⟩), .agg #[.int .i64 p.row, .int .i64 p.A.1, .int .i64 p.A.2, .int .i64 p.B.1, .int .i64 p.B.2], .int .i64 sg] w (RBitR g kc ka b (pieceC b sg cs p) w) := by
  have HFA := Lib.hid fA
  have HFB := Lib.hid fB
  have HPL := Lib.hid hpl
  have H := Lib.hid h
  clear fA fB hpl h
  obtain ⟨row, ⟨A1, A2⟩, ⟨B1, B2⟩⟩ := p
  dsimp only at *
  have fa := dotB_true.1 HFA.out
  have fb := dotB_true.1 HFB.out
  dsimp only at fa fb
  obtain ⟨⟨x1, x2⟩, x3, x4⟩ := fa
  obtain ⟨⟨y1, y2⟩, y3, y4⟩ := fb
  go_enter Try.func87, Try.ntmps87
  go_upto_region 1 with fail
  have HP := Lib.hid (Blk.new w 123 [.int .i64 row, .int .i64 A1, .int .i64 A2, .int .i64 B1, .int .i64 B2])
  go_cut [6, 7] (fun s6 s7 wx => ∃ ba bb, s6 = .pointer (some ⟨ba, 0, none⟩) ∧ s7 = .pointer (some ⟨bb, 0, none⟩) ∧ Hid (w.heap.size < ba ∧ w.heap.size < bb ∧ ba < wx.heap.size ∧ bb < wx.heap.size) ∧ Hid (Blk wx w.heap.size 123 [.int .i64 row, .int .i64 A1, .int .i64 A2, .int .i64 B1, .int .i64 B2]) ∧ Hid (Blk wx ba 37 [.int .i64 A1, .int .i64 A2]) ∧ Hid (Blk wx bb 37 [.int .i64 B1, .int .i64 B2]) ∧ Hid (Below w.heap.size w wx))
  case first =>
    go_region
    all_goals (go_wp2_with fail; go_meet)
    · refine ⟨_, _, rfl, rfl, Lib.hid (by simp [World.drew]; omega), Lib.hid ((HP.out.alloc _).alloc _).drew, Lib.hid ((Blk.newAt _ _ [_, _] (by simp)).alloc _).drew, Lib.hid (Blk.newAt _ _ [_, _] (by simp)).drew, Lib.hid (bel_drew (bel_alloc (bel_alloc (bel_alloc bel_refl)))).below⟩
    · refine ⟨_, _, rfl, rfl, Lib.hid (by simp [World.drew]; omega), Lib.hid ((HP.out.alloc _).alloc _).drew, Lib.hid (Blk.newAt _ _ [_, _] (by simp)).drew, Lib.hid ((Blk.newAt _ _ [_, _] (by simp)).alloc _).drew, Lib.hid (bel_drew (bel_alloc (bel_alloc (bel_alloc bel_refl)))).below⟩
  case rest =>
    obtain ⟨ba, bb, rfl, rfl, HZ, HPc, HAc, HBc, HBW⟩ := hcut
    have a0 : wc.cell? ⟨ba, 0, none⟩ = some (.int .i64 A1) := HAc.out.cell 0
    have a1 : wc.cell? ⟨ba, 1, none⟩ = some (.int .i64 A2) := HAc.out.cell 1
    have al := HAc.out.lt
    go_wp2_with fail
    go_quiet (fail)
    go_wp2_with fail
    clear a0 a1 al HP
    have hst : RPcI w g kc ka b sg cs ⟨row, (A1, A2), (B1, B2)⟩ ba bb (sizeI (B1 - A1)).toNat (.int .i64 A1) (.int .i64 A2) (wc.drewN nq) :=
      ⟨A1, A2, [], rfl, rfl, rfl, btw_l _ _, btw_l _ _, rfl, H.out.keepB (below_drewN HBW.out nq), (Tn.of_below HBW.out).drewN nq, HPc.out.drewN nq, HAc.out.drewN nq, HBc.out.drewN nq⟩
    have HST := Lib.hid hst
    have HZ2 : Hid (w.heap.size < ba ∧ w.heap.size < bb) := Lib.hid ⟨HZ.out.1, HZ.out.2.1⟩
    clear hst HPc HAc HBc HBW HZ
    go_loopg [8, 9] ((sizeI (B1 - A1)).toNat) (fun r s8 s9 wr => RPcI w g kc ka b sg cs ⟨row, (A1, A2), (B1, B2)⟩ ba bb r s8 s9 wr)
    case atStart => exact HST.out
    case round =>
      obtain ⟨u, v, pre, rfl, rfl, hr, hbu, hbv, hpre, hrc, htn, hP, hA, hB⟩ := hrel
      dsimp only [pcC] at hr hbu hbv hP hA hB
      have p0 : wr.cell? ⟨w.heap.size, 0, none⟩ = some (.int .i64 row) := hP.cell 0
      have a0 : wr.cell? ⟨ba, 0, none⟩ = some (.int .i64 A1) := hA.cell 0
      have a1 : wr.cell? ⟨ba, 1, none⟩ = some (.int .i64 A2) := hA.cell 1
      have b0 : wr.cell? ⟨bb, 0, none⟩ = some (.int .i64 B1) := hB.cell 0
      have b1 : wr.cell? ⟨bb, 1, none⟩ = some (.int .i64 B2) := hB.cell 1
      have pl := hP.lt
      have al := hA.lt
      have bl := hB.lt
      have hu1 : -1048576 ≤ u ∧ u ≤ 1048576 := by unfold btw at hbu; omega
      have hv1 : -1048576 ≤ v ∧ v ≤ 1048576 := by unfold btw at hbv; omega
      obtain ⟨u1, u2⟩ := hu1
      obtain ⟨v1, v2⟩ := hv1
      obtain ⟨q1, hq1⟩ : ∃ q, u / 64 = q := ⟨_, rfl⟩
      obtain ⟨q2, hq2⟩ : ∃ q, -u / 64 = q := ⟨_, rfl⟩
      have KF1 := fun w => Floor_any u 64 w (by omega) (by omega) (by omega)
      have KF2 := fun w => Floor_any (-u) 64 w (by omega) (by omega) (by omega)
      rw [hq1] at KF1
      rw [hq2] at KF2
      have HF1 := Lib.hid KF1
      have HF2 := Lib.hid KF2
      have hq1b : -16385 ≤ q1 ∧ q1 ≤ 16385 := by omega
      have hq2b : -16385 ≤ q2 ∧ q2 ≤ 16385 := by omega
      obtain ⟨q1a, q1b⟩ := hq1b
      obtain ⟨q2a, q2b⟩ := hq2b
      obtain ⟨cx, hcx⟩ : ∃ cx, pre.foldl (bitC b sg row) cs = cx := ⟨_, rfl⟩
      dsimp only at hrc
      rw [hcx] at hrc
      have hsx : stepX u B1 = if u < B1 then (if 64 * (q1 + 1) < B1 then 64 * (q1 + 1) else B1) else if B1 < u then (if B1 < -64 * (q2 + 1) then -64 * (q2 + 1) else B1) else B1 := by rw [← hq1, ← hq2]; rfl
      have HRC := Lib.hid hrc
      have HTN := Lib.hid htn
      have HCX := Lib.hid hcx
      have HPR := Lib.hid hpre
      have HR := Lib.hid hr
      have HBU := Lib.hid hbu
      have HBV := Lib.hid hbv
      have HPP := Lib.hid hP
      have HAA := Lib.hid hA
      have HBB := Lib.hid hB
      have key : stepX u B1 = B1 ∧ ((u < B1 ∧ ¬ 64 * (q1 + 1) < B1) ∨ (¬ u < B1 ∧ B1 < u ∧ ¬ B1 < -64 * (q2 + 1)) ∨ (¬ u < B1 ∧ ¬ B1 < u)) ∨ stepX u B1 ≠ B1 ∧ ((u < B1 ∧ 64 * (q1 + 1) < B1 ∧ stepX u B1 = 64 * (q1 + 1)) ∨ (¬ u < B1 ∧ B1 < u ∧ B1 < -64 * (q2 + 1) ∧ stepX u B1 = -64 * (q2 + 1))) := by
        rw [hsx]
        (repeat' split) <;> omega
      clear KF1 KF2 hq1 hq2 hrc htn hcx hpre hr hbu hbv hP hA hB hsx
      rcases key with ⟨he, hc⟩ | ⟨he, hc⟩
      · have hend := bitsR_end (a := (A1, A2)) (b := (B1, B2)) (u := u) (v := v) he
        have hmem : (⟨u, v, B1, B2⟩ : Bt) ∈ bitsR (A1, A2) (B1, B2) A1 A2 := by rw [← HPR.out, hend]; simp
        have hbit := rbit_any HRC.out row sg ⟨u, v, B1, B2⟩ hsg ⟨⟨u1, u2⟩, ⟨v1, v2⟩, ⟨y1, y2⟩, y3, y4⟩ (HPL.out _ hmem)
        have hfin : bitC b sg row cx ⟨u, v, B1, B2⟩ = pieceC b sg cs ⟨row, (A1, A2), (B1, B2)⟩ := by
          unfold pieceC
          rw [← HPR.out, hend, List.foldl_append, HCX.out]
          rfl
        rw [hfin] at hbit
        have HBI := Lib.hid hbit
        clear hend hmem hbit hfin he
        rcases hc with ⟨c1, c2⟩ | ⟨c1, c2, c3⟩ | ⟨c1, c2⟩
        all_goals
          go_wp2_with (first
            | (go_at_call 44; (with_reducible refine (HF1.out _).mono ?_); rintro e w1 ⟨rfl, rfl⟩)
            | (go_at_call 44; (with_reducible refine (HF2.out _).mono ?_); rintro e w1 ⟨rfl, rfl⟩)
            | (go_at_call 95; (with_reducible refine HBI.out.mono ?_); rintro e w2 ⟨⟨v', rfl⟩, hc2, ht2⟩; have HC2 := Lib.hid hc2; have HT2 := Lib.hid ht2; clear hc2 ht2))
        all_goals
          refine bodyPost_ret (results_none rfl _ _ _) rfl ?_
          exact ⟨⟨_, rfl⟩, HC2.out, HTN.out.trans HT2.out⟩
      · have hstep := bitsR_step (a := (A1, A2)) (b := (B1, B2)) (u := u) (v := v) he
        have hnear := stepX_near he
        have hbx : btw A1 B1 (stepX u B1) := stepX_btw' HBU.out
        have hne : A1 ≠ B1 := fun e => stepX_ne he (by have := HBU.out; unfold btw at this; omega)
        have hbz : btw A2 B2 (zAt (A1, A2) (B1, B2) (stepX u B1)) := zAt_btw (a := (A1, A2)) (b := (B1, B2)) hbx hne
        obtain ⟨nx, hnx⟩ : ∃ nx, stepX u B1 = nx := ⟨_, rfl⟩
        dsimp only at hstep
        rw [hnx] at hstep hnear hbx hbz hc
        obtain ⟨nz, hnz⟩ : ∃ nz, zAt (A1, A2) (B1, B2) nx = nz := ⟨_, rfl⟩
        rw [hnz] at hstep hbz
        have hnx1 : -1048576 ≤ nx ∧ nx ≤ 1048576 := by unfold btw at hbx; omega
        have hnz1 : -1048576 ≤ nz ∧ nz ≤ 1048576 := by unfold btw at hbz; omega
        obtain ⟨n1, n2⟩ := hnx1
        obtain ⟨n3, n4⟩ := hnz1
        obtain ⟨sx, hsx⟩ : ∃ sx, sizeI (nx - A1) = sx := ⟨_, rfl⟩
        obtain ⟨sw, hsw⟩ : ∃ sw, sizeI (B1 - A1) = sw := ⟨_, rfl⟩
        have hsx1 : 0 ≤ sx ∧ sx ≤ 2097152 := by unfold sizeI at hsx; split at hsx <;> omega
        have hsw1 : 1 ≤ sw ∧ sw ≤ 2097152 := by unfold sizeI at hsw; split at hsw <;> omega
        obtain ⟨nr, hnr⟩ : ∃ nr, near ((B2 - A2) * sx) sw = nr := ⟨_, rfl⟩
        have hz1 : A2 + nr = nz := by rw [← hnz, ← hnr, ← hsx, ← hsw]; rfl
        have hmb := mul_bdd (a := B2 - A2) (b := sx) (A := 2097152) (B := 2097152) (by omega) (by omega) (by omega) (by omega)
        obtain ⟨m, hm⟩ : ∃ m, (B2 - A2) * sx = m := ⟨_, rfl⟩
        rw [hm] at hmb hnr
        have KN := fun w => rNear_any (w := w) m sw (by omega) (by omega) (by omega) (by omega)
        rw [hnr] at KN
        have KS1 := fun w => size_any (nx - A1) w (by omega) (by omega)
        have KS2 := fun w => size_any (B1 - A1) w (by omega) (by omega)
        rw [hsx] at KS1
        rw [hsw] at KS2
        have HKN := Lib.hid KN
        have HK1 := Lib.hid KS1
        have HK2 := Lib.hid KS2
        have hmem : (⟨u, v, nx, nz⟩ : Bt) ∈ bitsR (A1, A2) (B1, B2) A1 A2 := by rw [← HPR.out, hstep]; simp
        have hbit := rbit_any HRC.out row sg ⟨u, v, nx, nz⟩ hsg ⟨⟨u1, u2⟩, ⟨v1, v2⟩, ⟨n1, n2⟩, n3, n4⟩ (HPL.out _ hmem)
        have hbit' : ∀ n, Calls Try.prog 95 #[.pointer (some ⟨g, 0, none⟩), .int .i64 row, .int .i64 sg, .int .i64 u, .int .i64 v, .int .i64 nx, .int .i64 nz] (wr.drewN n) (RBitR g kc ka b (bitC b sg row cx ⟨u, v, nx, nz⟩) (wr.drewN n)) := fun n =>
          rbit_any (HRC.out.keepB (bel_drewN (n := n) (bel_refl (a := wr))).below) row sg ⟨u, v, nx, nz⟩ hsg ⟨⟨u1, u2⟩, ⟨v1, v2⟩, ⟨n1, n2⟩, n3, n4⟩ (HPL.out _ hmem)
        have HBI := Lib.hid hbit'
        have hpx : (pre ++ [⟨u, v, nx, nz⟩]) ++ bitsR (A1, A2) (B1, B2) nx nz = bitsR (A1, A2) (B1, B2) A1 A2 := by
          have := HPR.out
          rw [hstep] at this
          rw [← this]
          simp
        have hcx2 : (pre ++ [(⟨u, v, nx, nz⟩ : Bt)]).foldl (bitC b sg row) cs = bitC b sg row cx ⟨u, v, nx, nz⟩ := by rw [List.foldl_append, HCX.out]; rfl
        have s1 : IntKind.i64.wrap (B2 - A2) = B2 - A2 := IntWalk.i64_in _ (by omega)
        have s2 : IntKind.i64.wrap (nx - A1) = nx - A1 := IntWalk.i64_in _ (by omega)
        have s3 : IntKind.i64.wrap (B1 - A1) = B1 - A1 := IntWalk.i64_in _ (by omega)
        have s4 : IntKind.i64.wrap (A2 + nr) = nz := by rw [hz1]; exact IntWalk.i64_in _ (by omega)
        have s5 : IntKind.i64.wrap ((B2 - A2) * sx) = m := by rw [hm]; exact IntWalk.i64_in _ (by omega)
        have HSS := Lib.hid (And.intro s1 (And.intro s2 (And.intro s3 (And.intro s4 s5))))
        have HPX := Lib.hid hpx
        have HCX2 := Lib.hid hcx2
        have HBX := Lib.hid hbx
        have HBZ := Lib.hid hbz
        have HNE := Lib.hid hnear
        have hneB : ((nx == B1) = false) := by simp; omega
        have hx0 : nx ≠ B1 := by omega
        clear hstep hnear hbx hne hbz hnx hnz hsx hsw hsx1 hsw1 hnr hz1 hmb hm KN KS1 KS2 hmem hbit hbit' hpx hcx2 s1 s2 s3 s4 s5 he
        rcases hc with ⟨c1, c2, c3⟩ | ⟨c1, c2, c3, c4⟩
        all_goals
          first
            | (have c5 : ¬ B1 < u := by omega)
            | skip
        all_goals
          go_upto_region 14 with (first
            | (go_at_call 44; (with_reducible refine (HF1.out _).mono ?_); rintro e w1 ⟨rfl, rfl⟩)
            | (go_at_call 44; (with_reducible refine (HF2.out _).mono ?_); rintro e w1 ⟨rfl, rfl⟩))
        all_goals
          first | (rw [← c3]; clear c2 c3) | (rw [← c4]; clear c3 c4)
        all_goals
          obtain ⟨s1, s2, s3, s4, s5⟩ := HSS.out
          go_quiet ((first
            | (go_at_call 96; with_reducible exact Calls.q_left (HK1.out _))
            | (go_at_call 96; with_reducible exact Calls.q_left (HK2.out _))
            | (go_at_call 94; with_reducible exact Calls.q_left (HKN.out _))))
          clear s1 s2 s3 s4 s5
          have p0' : (wr.drewN nq).cell? ⟨w.heap.size, 0, none⟩ = some (.int .i64 row) := p0
          clear p0 a0 a1 b0 b1
          go_wp2_with (first
            | (go_at_call 95; (with_reducible refine (HBI.out _).mono ?_); rintro e w2 ⟨⟨v', rfl⟩, hc2, ht2⟩; have HC2 := Lib.hid hc2; have HT2 := Lib.hid ht2; clear hc2 ht2)
            | fail)
          go_roundg ((sizeI (B1 - nx)).toNat)
          case rel =>
            have ht := (HTN.out.drewN nq).trans HT2.out
            have hgc := HRC.out.cov
            have hga := HRC.out.are
            have hty : ∀ {a : Nat} {t : TypeId} {xs : List Value}, Blk wr a t xs → t ≠ 3 → ¬ TwoB kc ka a := fun h hne e => by
              rcases e with rfl | rfl
              · exact blk_ne_type h hgc hne rfl
              · exact blk_ne_type h hga hne rfl
            refine ⟨nx, nz, pre ++ [⟨u, v, nx, nz⟩], rfl, rfl, rfl, HBX.out, HBZ.out, HPX.out, ?_, ht, ?_, ?_, ?_⟩
            · dsimp only
              rw [HCX2.out]
              exact HC2.out
            · exact HT2.out.blk (HPP.out.drewN nq) (hty HPP.out (by decide))
            · exact HT2.out.blk (HAA.out.drewN nq) (hty HAA.out (by decide))
            · exact HT2.out.blk (HBB.out.drewN nq) (hty HBB.out (by decide))
          case measure =>
            have h1 := HNE.out
            have h2 := HR.out
            omega

end Go.Proofs.Ytbflncfhbmlibaa

namespace Go.Proofs.Ytbflncfhbmlibaa

open Go.RowKit Go.Shelf

theorem inB_true {b : B4} {d : Dt} : inB b d = true ↔ (64 * b.x0 ≤ d.1 ∧ d.1 ≤ 64 * b.x1) ∧ (64 * b.y0 ≤ d.2 ∧ d.2 ≤ 64 * b.y1) := by
  unfold inB
  rw [Bool.and_eq_true, withinB_true, withinB_true]

theorem dn_in {b : B4} {a d : Dt} (ha : inB b a = true) (hd : inB b d = true) : inB b (dnA a d) = true ∧ inB b (dnB a d) = true := by
  unfold dnA dnB
  split
  · exact ⟨hd, ha⟩
  · exact ⟨ha, hd⟩

/-- All that a line within leaves lies within. -/
theorem place_ok {b : B4} (hb : BoxOk b) {a d : Dt} (ha : inB b a = true) (hd : inB b d = true) {p : Pc} (hp : PcOk a d p) {t : Bt} (ht : BtOk p.A p.B t) : placeB b t.col p.row = true := by
  have h1 := inB_true.1 ha
  have h2 := inB_true.1 hd
  obtain ⟨⟨_, _, a3⟩, ⟨_, _, b3⟩, hr, hlt, hu, ht'⟩ := hp
  obtain ⟨u, w, -, -⟩ := ht
  unfold placeB Bt.col
  rw [Bool.and_eq_true, withinB_true, withinB_true]
  unfold btw at *
  omega

theorem line_places {b : B4} (hb : BoxOk b) {a d : Dt} (ha : inB b a = true) (hd : inB b d = true) (hle : a.2 ≤ d.2) : ∀ p ∈ rowsR a d a, ∀ t ∈ bitsR p.A p.B p.A.1 p.A.2, placeB b t.col p.row = true :=
  fun p hp t ht => place_ok hb ha hd (rowsR_ok (onWay_start hle) p hp) (bitsR_ok t ht)

theorem pcs_rows (L : List Pc) : L.flatMap pcC = (L.map pcC).flatten := by rw [List.flatMap_def]

set_option maxRecDepth 100000 in
set_option maxHeartbeats 4000000 in
theorem rLine_any {w : World} {g kc ka : Nat} {b : B4} {cs : List Ce} (h : Rc w g kc ka b cs) (a d : Dt) (ha : inB b a = true) (hd : inB b d = true) :
    Calls Try.prog 64 #[.pointer (some ⟨g, 0, none⟩), .agg #[.int .i64 a.1, .int .i64 a.2], .agg #[.int .i64 d.1, .int .i64 d.2]] w (RBitR g kc ka b (lineC b cs a d) w) := by
  have fa := h.box.dot ha
  have fd := h.box.dot hd
  obtain ⟨gA, gB⟩ := dn_fit fa fd
  obtain ⟨iA, iB⟩ := dn_in ha hd
  have hle := dn_le a d
  have hpl := line_places h.box iA iB hle
  have hok := rowsR_ok (onWay_start hle)
  have hsg := dnS_one a d
  have HDN := Lib.hid (fun w => rDown_any a d w)
  have HRR := Lib.hid (fun w => rRows_any (dnA a d) (dnB a d) w gA gB hle)
  have hlin : lineC b cs a d = (rowsR (dnA a d) (dnB a d) (dnA a d)).foldl (pieceC b (dnS a d)) cs := rfl
  have hlen : (rowsR (dnA a d) (dnB a d) (dnA a d)).length ≤ 2097152 := by
    have h2 := rowsN_len (dnA a d) (dnB a d) ((dnB a d).2 - (dnA a d).2).toNat (dnA a d)
    have h3 := dotB_true.1 gA
    have h4 := dotB_true.1 gB
    unfold rowsR
    omega
  have hfit : ∀ p ∈ rowsR (dnA a d) (dnB a d) (dnA a d), dotB p.A = true ∧ dotB p.B = true := fun p hp => ⟨onWay_fit gA gB (hok p hp).A, onWay_fit gA gB (hok p hp).B⟩
  rw [hlin]
  generalize rowsR (dnA a d) (dnB a d) (dnA a d) = L at *
  generalize dnA a d = A at *
  generalize dnB a d = D at *
  generalize dnS a d = sg at *
  have H := Lib.hid h
  have HPL := Lib.hid hpl
  have HFI := Lib.hid hfit
  clear h ha hd fa fd gA gB iA iB hle hpl hok hlin hfit
  obtain ⟨A1, A2⟩ := A
  obtain ⟨D1, D2⟩ := D
  obtain ⟨a1, a2⟩ := a
  obtain ⟨d1, d2⟩ := d
  dsimp only at *
  go_enter Try.func64, Try.ntmps64
  go_wp2_with (first
    | (go_at_call 85; (with_reducible refine (HDN.out _).mono ?_); rintro e w5 ⟨rfl, hb5⟩; obtain ⟨hc5, hf5, hz5⟩ := bcell hb5; (try simp at hz5))
    | (go_at_call 86; (with_reducible refine (HRR.out _).mono ?_); rintro e w6 ⟨A0, c0, rfl, hown, hb6⟩; have HBW : Hid (Bel w.heap.size w w6) := Lib.hid (bel_call hb6 (by repeat (first | with_reducible exact bel_refl | with_reducible apply bel_alloc | with_reducible apply bel_drewN | with_reducible apply bel_drew | (with_reducible refine bel_set ?_ ?_; rotate_left; · first | (simp; done) | (simp; omega) | omega) | with_reducible refine bel_call (by assumption) ?_))); have HOW := Lib.hid hown; clear hb6 hown)
    | fail)
  obtain ⟨A1', c1', hA', hrows, hbase⟩ := RowsAt.of_own (rows := L.map pcC) (k := 5) HOW.out (by rw [List.flatMap_def]) (fun r hr => by obtain ⟨y, -, rfl⟩ := List.mem_map.1 hr; rfl) (by omega)
  injection hA' with e1 _ e2
  subst e1 e2
  have hkl := H.out.cov.lt
  have hal := H.out.are.lt
  have hbs : ∀ ad, A0 = some ad → w.heap.size ≤ ad.block := fun ad h => by have := hbase ad h; simp at this; omega
  have HRO := Lib.hid hrows
  have HBS := Lib.hid hbs
  have HRC := Lib.hid (H.out.keepB HBW.out.below)
  clear hc5 hf5 hz5 hb5 HOW hrows hbase hbs
  go_loopw [8] (fun i wr => ∃ j : Nat, j ≤ L.length ∧ i = .int .i64 j ∧ Hid (Rc wr g kc ka b ((L.take j).foldl (pieceC b sg) cs)) ∧ Hid (Tn (TwoB kc ka) w6 wr)) (fun i _ => L.length - (intOf i).toNat)
  case atStart => exact ⟨0, Nat.zero_le _, rfl, HRC, Lib.hid (Tn.refl _)⟩
  case round =>
    obtain ⟨j, hj, rfl, HR, HT⟩ := hrel
    by_cases hlt : j < L.length
    · obtain ⟨p, hp⟩ : ∃ p, L[j]? = some p := ⟨_, List.getElem?_eq_getElem hlt⟩
      have hmem := List.mem_of_getElem? hp
      have hrw : RowsAt wr A0 L.length 5 (L.map pcC) := HRO.out.stay HT.out.size fun q hq hA => HT.out.block q hq (fun e => by
        obtain ⟨ad, hA2⟩ : ∃ ad, A0 = some ad := by cases A0 with
          | none => cases hA
          | some ad => exact ⟨ad, rfl⟩
        have := HBS.out ad hA2
        rw [hA2] at hA
        have h3 : ad.block = q := by injection hA
        rcases e with rfl | rfl <;> omega)
      obtain ⟨ab, ao, hAe, hbl, hcl⟩ := hrw.at_ (i := j) (r := pcC p) (by rw [List.getElem?_map, hp]; rfl)
      have hpc := rpiece_any HR.out sg p hsg (HFI.out p hmem).1 (HFI.out p hmem).2 (HPL.out p hmem)
      have hnext : (L.take (j + 1)).foldl (pieceC b sg) cs = pieceC b sg ((L.take j).foldl (pieceC b sg) cs) p := by rw [List.take_add_one, hp, List.foldl_append]; rfl
      have HNX := Lib.hid hnext
      have HPC := Lib.hid hpc
      obtain ⟨row, ⟨a1', a2'⟩, ⟨b1', b2'⟩⟩ := p
      have q0 : wr.cell? ⟨ab, ao + j * 5, none⟩ = some (.int .i64 row) := hcl 0 _ rfl
      have q1 : wr.cell? ⟨ab, ao + j * 5 + 1, none⟩ = some (.int .i64 a1') := hcl 1 _ rfl
      have q2 : wr.cell? ⟨ab, ao + j * 5 + 2, none⟩ = some (.int .i64 a2') := hcl 2 _ rfl
      have q3 : wr.cell? ⟨ab, ao + j * 5 + 3, none⟩ = some (.int .i64 b1') := hcl 3 _ rfl
      have q4 : wr.cell? ⟨ab, ao + j * 5 + 4, none⟩ = some (.int .i64 b2') := hcl 4 _ rfl
      subst hAe
      clear hp hmem hrw hcl hnext hpc
      go_wp2_with (first
        | (go_at_call 87; (with_reducible refine HPC.out.mono ?_); rintro e w7 ⟨⟨v', rfl⟩, hc7, ht7⟩; have HC7 := Lib.hid hc7; have HT7 := Lib.hid ht7; clear hc7 ht7)
        | fail)
      go_roundw
      case rel => exact ⟨j + 1, by omega, by go_num, Lib.hid (by rw [HNX.out]; exact HC7.out), Lib.hid (HT.out.trans HT7.out)⟩
      case measure => simp [intOf]; omega
    · have hje : j = L.length := by omega
      have hfin : RBitR g kc ka b (L.foldl (pieceC b sg) cs) w (.returned (.tuple #[])) wr := by
        refine ⟨⟨_, rfl⟩, ?_, Tn.behind HBW.out.below HT.out⟩
        have := HR.out
        rw [hje, List.take_length] at this
        exact this
      have HF := Lib.hid hfin
      clear hfin hje
      go_wp2_with fail
      with_reducible refine bodyPost_end (v := .tuple #[]) (by simp [results, Try.results64]) rfl ?_
      exact HF.out

end Go.Proofs.Ytbflncfhbmlibaa

namespace Go.Proofs.Ytbflncfhbmlibaa

open Go.RowKit Go.Shelf

def widN (b : B4) : Nat := (widB b).toNat

def higN (b : B4) : Nat := (b.y1 - b.y0).toNat

theorem wid_cast {b : B4} (h : BoxOk b) : (widN b : Int) = widB b := by have := h.wid; unfold widN; omega

theorem hig_cast {b : B4} (h : BoxOk b) : (higN b : Int) = b.y1 - b.y0 := by have := h.y; unfold higN; omega

theorem len_nat {b : B4} (h : BoxOk b) {cs : List Ce} (hl : (cs.length : Int) = widB b * (b.y1 - b.y0)) : cs.length = higN b * widN b := by
  rw [← wid_cast h, ← hig_cast h, ← Int.natCast_mul] at hl
  rw [Nat.mul_comm]
  exact Int.ofNat.inj hl

theorem step_lt {b : B4} {j m : Nat} (hj : j < higN b) (hm : m < widN b) : j * widN b + m < higN b * widN b := by
  have : (j + 1) * widN b ≤ higN b * widN b := Nat.mul_le_mul_right _ hj
  rw [Nat.add_mul] at this
  omega

section

variable {w w' : World} {g k kc ka : Nat} {b : B4} {cs : List Ce} {S : Nat → Prop}

theorem Cc.tn (h : Cc w g k b cs) (ht : Tn S w w') (h1 : ¬ S g) (h2 : ¬ S k) : Cc w' g k b cs := ⟨ht.blk h.blk h1, ht.blk h.row h2, h.len, h.box⟩

theorem Rc.tn (h : Rc w g kc ka b cs) (ht : Tn S w w') (h1 : ¬ S g) (h2 : ¬ S kc) (h3 : ¬ S ka) : Rc w' g kc ka b cs := ⟨ht.blk h.blk h1, ht.blk h.cov h2, ht.blk h.are h3, h.ne, h.len, h.box⟩

end

end Go.Proofs.Ytbflncfhbmlibaa

namespace Go.Proofs.Ytbflncfhbmlibaa

open Go.RowKit

abbrev Op3 := Nat × Int × Int

def upd (cs : List Ce) (o : Op3) : List Ce := cs.modify o.1 (addC o.2.1 o.2.2)

def bitO (b : B4) (sg row : Int) (t : Bt) : Option Op3 := if placeB b t.col row = true then some ((placeN b t.col row).toNat, bitD sg t, bitE sg t) else none

def pieceO (b : B4) (sg : Int) (p : Pc) : List Op3 := (bitsR p.A p.B p.A.1 p.A.2).filterMap (bitO b sg p.row)

def lineO (b : B4) (a d : Dt) : List Op3 := (rowsR (dnA a d) (dnB a d) (dnA a d)).flatMap (pieceO b (dnS a d))

theorem pieceO_eq (b : B4) (sg : Int) (p : Pc) (cs : List Ce) : pieceC b sg cs p = (pieceO b sg p).foldl upd cs := by
  unfold pieceC pieceO
  generalize bitsR p.A p.B p.A.1 p.A.2 = l
  induction l generalizing cs with
  | nil => rfl
  | cons t l ih =>
    rw [List.foldl_cons, ih]
    unfold bitC bitO
    by_cases h : placeB b t.col p.row = true
    · rw [if_pos h, List.filterMap_cons, if_pos h]
      rfl
    · rw [if_neg h, List.filterMap_cons, if_neg h]

theorem lineO_eq (b : B4) (a d : Dt) (cs : List Ce) : lineC b cs a d = (lineO b a d).foldl upd cs := by
  unfold lineC lineO
  generalize rowsR (dnA a d) (dnB a d) (dnA a d) = l
  induction l generalizing cs with
  | nil => rfl
  | cons p l ih => rw [List.foldl_cons, ih, List.flatMap_cons, List.foldl_append, pieceO_eq]

theorem wrap_zero : wrap64 0 = 0 := IntWalk.wrap64_in _ (by omega)

theorem wrap_add (x y : Int) : wrap64 (wrap64 x + y) = wrap64 (x + y) := by
  unfold wrap64
  omega

theorem wrap_add2 (x y : Int) : wrap64 (wrap64 x + wrap64 y) = wrap64 (x + y) := by
  unfold wrap64
  omega

theorem addC_add (d e d' e' : Int) (c : Ce) : addC d e (addC d' e' c) = addC (d' + d) (e' + e) c := by
  unfold addC
  simp only [wrap_add, Int.add_assoc]

def sumAt (f : Op3 → Int) (i : Nat) (l : List Op3) : Int := (l.map fun o => if o.1 = i then f o else 0).sum

def InR (c : Ce) : Prop := wrap64 c.1 = c.1 ∧ wrap64 c.2 = c.2

theorem addC_zero {c : Ce} (h : InR c) : addC 0 0 c = c := by
  unfold addC
  rw [Int.add_zero, Int.add_zero, h.1, h.2]

theorem fold_at (l : List Op3) (cs : List Ce) (h : ∀ c ∈ cs, InR c) (i : Nat) : (l.foldl upd cs)[i]? = cs[i]?.map (addC (sumAt (fun o => o.2.1) i l) (sumAt (fun o => o.2.2) i l)) := by
  have key : ∀ (l : List Op3) (cs : List Ce) (D E : Int) (bs : List Ce), cs[i]? = bs[i]?.map (addC D E) → (l.foldl upd cs)[i]? = bs[i]?.map (addC (D + sumAt (fun o => o.2.1) i l) (E + sumAt (fun o => o.2.2) i l)) := by
    intro l
    induction l with
    | nil => intro cs D E bs hc; simpa [sumAt] using hc
    | cons o l ih =>
      intro cs D E bs hc
      rw [List.foldl_cons]
      have h1 : (upd cs o)[i]? = bs[i]?.map (addC (D + if o.1 = i then o.2.1 else 0) (E + if o.1 = i then o.2.2 else 0)) := by
        unfold upd
        rw [List.getElem?_modify, hc]
        by_cases he : o.1 = i
        · simp only [if_pos he]
          cases bs[i]? with
          | none => rfl
          | some c =>
            show some (addC o.2.1 o.2.2 (addC D E c)) = some (addC (D + o.2.1) (E + o.2.2) c)
            rw [addC_add]
        · simp only [if_neg he, Int.add_zero]
          cases bs[i]? <;> rfl
      rw [ih _ _ _ _ h1]
      simp only [sumAt, List.map_cons, List.sum_cons, Int.add_assoc]
  have h0 : cs[i]? = cs[i]?.map (addC 0 0) := by
    cases hc : cs[i]? with
    | none => rfl
    | some c => rw [Option.map_some, addC_zero (h c (List.mem_of_getElem? hc))]
  have := key l cs 0 0 cs h0
  simpa using this

theorem zer_in (n : Nat) : ∀ c ∈ zerC n, InR c := by
  intro c hc
  obtain ⟨_, rfl⟩ := List.mem_replicate.1 hc
  exact ⟨wrap_zero, wrap_zero⟩

theorem upd_in {cs : List Ce} (h : ∀ c ∈ cs, InR c) (l : List Op3) : ∀ c ∈ l.foldl upd cs, InR c := by
  intro c hc
  obtain ⟨i, hi⟩ := List.getElem?_of_mem hc
  rw [fold_at l cs h] at hi
  cases h2 : cs[i]? with
  | none => rw [h2] at hi; cases hi
  | some q =>
    rw [h2, Option.map_some] at hi
    injection hi with hi
    rw [← hi]
    unfold InR addC wrap64
    constructor <;> simp only <;> omega

/-! ### There and back -/

def negO (o : Op3) : Op3 := (o.1, -o.2.1, -o.2.2)

theorem bitO_neg (b : B4) (sg row : Int) (t : Bt) : bitO b (-sg) row t = (bitO b sg row t).map negO := by
  unfold bitO bitE bitD negO
  by_cases h : placeB b t.col row = true
  · simp only [if_pos h, Option.map_some, Int.neg_mul]
  · simp only [if_neg h, Option.map_none]

theorem pieceO_neg (b : B4) (sg : Int) (p : Pc) : pieceO b (-sg) p = (pieceO b sg p).map negO := by
  unfold pieceO
  rw [List.map_filterMap]
  congr 1
  funext t
  exact bitO_neg b sg p.row t

theorem lineO_back (b : B4) (a d : Dt) : lineO b d a = (lineO b a d).map negO := by
  unfold lineO
  rcases Int.lt_trichotomy a.2 d.2 with h | h | h
  · have e1 : dnA d a = dnA a d := by unfold dnA; rw [if_pos h, if_neg (by omega)]
    have e2 : dnB d a = dnB a d := by unfold dnB; rw [if_pos h, if_neg (by omega)]
    have e3 : dnS d a = -dnS a d := by unfold dnS; rw [if_pos h, if_neg (by omega)]
    rw [e1, e2, e3, List.map_flatMap]
    congr 1
    funext p
    exact pieceO_neg b _ p
  · have e1 : rowsR (dnA d a) (dnB d a) (dnA d a) = [] := rowsR_end (by unfold dnA dnB; split <;> omega)
    have e2 : rowsR (dnA a d) (dnB a d) (dnA a d) = [] := rowsR_end (by unfold dnA dnB; split <;> omega)
    rw [e1, e2]
    rfl
  · have e1 : dnA d a = dnA a d := by unfold dnA; rw [if_neg (by omega), if_pos h]
    have e2 : dnB d a = dnB a d := by unfold dnB; rw [if_neg (by omega), if_pos h]
    have e3 : dnS d a = -dnS a d := by unfold dnS; rw [if_neg (by omega), if_pos h]; rfl
    rw [e1, e2, e3, List.map_flatMap]
    congr 1
    funext p
    exact pieceO_neg b _ p

theorem sumAt_append (f : Op3 → Int) (i : Nat) (l m : List Op3) : sumAt f i (l ++ m) = sumAt f i l + sumAt f i m := by simp [sumAt]

theorem sumAt_neg1 (i : Nat) (l : List Op3) : sumAt (fun o => o.2.1) i (l.map negO) = -sumAt (fun o => o.2.1) i l := by
  induction l with
  | nil => rfl
  | cons o l ih =>
    simp only [sumAt, List.map_cons, List.sum_cons, negO] at ih ⊢
    rw [ih]
    split <;> omega

theorem sumAt_neg2 (i : Nat) (l : List Op3) : sumAt (fun o => o.2.2) i (l.map negO) = -sumAt (fun o => o.2.2) i l := by
  induction l with
  | nil => rfl
  | cons o l ih =>
    simp only [sumAt, List.map_cons, List.sum_cons, negO] at ih ⊢
    rw [ih]
    split <;> omega

theorem line_back (b : B4) (cs : List Ce) (h : ∀ c ∈ cs, InR c) (a d : Dt) : lineC b (lineC b cs a d) d a = cs := by
  rw [lineO_eq, lineO_eq, ← List.foldl_append, lineO_back]
  apply List.ext_getElem?
  intro i
  rw [fold_at _ _ h, sumAt_append, sumAt_append, sumAt_neg1, sumAt_neg2, Int.add_left_neg, Int.add_left_neg]
  cases hc : cs[i]? with
  | none => rfl
  | some c => rw [Option.map_some, addC_zero (h c (List.mem_of_getElem? hc))]

/-! ### How far down in a row -/

/-- All Covers of a row, up to the n-th pixel. -/
def rowSum (cs : List Ce) (r : Nat) : Nat → Int
  | 0 => 0
  | n + 1 => wrap64 (rowSum cs r n + (cs.getD (r + n) (0, 0)).1)

def sumIn (r n : Nat) (l : List Op3) : Int := (l.map fun o => if r ≤ o.1 ∧ o.1 < r + n then o.2.1 else 0).sum

theorem sumIn_succ (r n : Nat) (l : List Op3) : sumIn r (n + 1) l = sumIn r n l + sumAt (fun o => o.2.1) (r + n) l := by
  induction l with
  | nil => rfl
  | cons o l ih =>
    simp only [sumIn, sumAt, List.map_cons, List.sum_cons] at ih ⊢
    rw [ih]
    by_cases h : o.1 = r + n
    · rw [if_pos (by omega), if_neg (by omega), if_pos h]; omega
    · by_cases h2 : r ≤ o.1 ∧ o.1 < r + n
      · rw [if_pos (by omega), if_pos h2, if_neg h]; omega
      · rw [if_neg (by omega), if_neg h2, if_neg h]; omega

theorem rowSum_eq (N : Nat) (l : List Op3) (r : Nat) : ∀ n, r + n ≤ N → rowSum (l.foldl upd (zerC N)) r n = wrap64 (sumIn r n l)
  | 0, _ => by
    have : sumIn r 0 l = 0 := by
      unfold sumIn
      induction l with
      | nil => rfl
      | cons o l ih => rw [List.map_cons, List.sum_cons, ih, if_neg (by omega)]; rfl
    rw [this]
    exact wrap_zero.symm
  | n + 1, h => by
    rw [rowSum, rowSum_eq N l r n (by omega), sumIn_succ]
    have hg : ((l.foldl upd (zerC N)).getD (r + n) (0, 0)).1 = wrap64 (sumAt (fun o => o.2.1) (r + n) l) := by
      rw [List.getD_eq_getElem?_getD, fold_at l _ (zer_in N)]
      unfold zerC
      rw [List.getElem?_replicate, if_pos (by omega)]
      simp [addC]
    rw [hg, wrap_add2]

theorem sumIn_append (r n : Nat) (l m : List Op3) : sumIn r n (l ++ m) = sumIn r n l + sumIn r n m := by simp [sumIn]

theorem place_row {b : B4} (hb : BoxOk b) {r : Nat} {col row : Int} (h : placeB b col row = true) : (r * widN b ≤ (placeN b col row).toNat ∧ (placeN b col row).toNat < r * widN b + widN b) ↔ row = b.y0 + r := by
  obtain ⟨p1, p2, -, -⟩ := place_bd hb h
  unfold placeB at h
  rw [Bool.and_eq_true, withinB_true, withinB_true] at h
  obtain ⟨⟨h1, h2⟩, h3, h4⟩ := h
  have hw := wid_cast hb
  have hwd : widB b = b.x1 - b.x0 + 1 := rfl
  obtain ⟨q, hq⟩ : ∃ q : Nat, row - b.y0 = q := ⟨(row - b.y0).toNat, by omega⟩
  have hpn : placeN b col row = ((q * widN b : Nat) : Int) + (col - b.x0) := by
    unfold placeN
    rw [hq, ← hw, Int.natCast_mul]
    omega
  rw [hpn] at p1 p2 ⊢
  have e : row = b.y0 + (r : Int) ↔ q = r := by omega
  rw [e]
  rcases Nat.lt_trichotomy q r with g | g | g
  · have h5 : (q + 1) * widN b ≤ r * widN b := Nat.mul_le_mul_right _ g
    rw [Nat.add_mul] at h5
    omega
  · subst g; omega
  · have h5 : (r + 1) * widN b ≤ q * widN b := Nat.mul_le_mul_right _ g
    rw [Nat.add_mul] at h5
    omega

theorem piece_row {b : B4} (hb : BoxOk b) (r : Nat) (sg : Int) (p : Pc) (hpl : ∀ t ∈ bitsR p.A p.B p.A.1 p.A.2, placeB b t.col p.row = true) : sumIn (r * widN b) (widN b) (pieceO b sg p) = if p.row = b.y0 + r then sg * (p.B.2 - p.A.2) else 0 := by
  have hs := bitsR_sum p.A p.B p.A.1 p.A.2
  unfold pieceO
  rw [← hs]
  generalize bitsR p.A p.B p.A.1 p.A.2 = l at hpl
  induction l with
  | nil => simp [sumIn]
  | cons t l ih =>
    have h1 := hpl t (by simp)
    have h2 := ih (fun t ht => hpl t (by simp [ht]))
    have h3 := place_row hb (r := r) h1
    have h4 : bitO b sg p.row t = some ((placeN b t.col p.row).toNat, bitD sg t, bitE sg t) := if_pos h1
    simp only [List.filterMap_cons, h4, List.map_cons, List.sum_cons]
    rw [show sumIn (r * widN b) (widN b) (((placeN b t.col p.row).toNat, bitD sg t, bitE sg t) :: List.filterMap (bitO b sg p.row) l) = (if r * widN b ≤ (placeN b t.col p.row).toNat ∧ (placeN b t.col p.row).toNat < r * widN b + widN b then bitD sg t else 0) + sumIn (r * widN b) (widN b) (List.filterMap (bitO b sg p.row) l) from rfl, h2]
    by_cases h5 : p.row = b.y0 + r
    · rw [if_pos (h3.2 h5), if_pos h5, if_pos h5]
      unfold bitD
      rw [Int.mul_add]
    · rw [if_neg (fun h => h5 (h3.1 h)), if_neg h5, if_neg h5]
      rfl

theorem line_row {b : B4} (hb : BoxOk b) (r : Nat) {a d : Dt} (ha : inB b a = true) (hd : inB b d = true) : sumIn (r * widN b) (widN b) (lineO b a d) = clampY (b.y0 + r) d.2 - clampY (b.y0 + r) a.2 := by
  obtain ⟨iA, iB⟩ := dn_in ha hd
  have hle := dn_le a d
  have hpl := line_places hb iA iB hle
  have hsum := rowsR_sum (b.y0 + r) hle
  have hfin : dnS a d * (clampY (b.y0 + r) (dnB a d).2 - clampY (b.y0 + r) (dnA a d).2) = clampY (b.y0 + r) d.2 - clampY (b.y0 + r) a.2 := by
    unfold dnS dnA dnB
    split <;> omega
  rw [← hfin, ← hsum]
  unfold lineO
  generalize dnS a d = sg
  generalize rowsR (dnA a d) (dnB a d) (dnA a d) = l at hpl
  induction l with
  | nil => simp [sumIn]
  | cons p l ih =>
    rw [List.flatMap_cons, sumIn_append, ih (fun p hp => hpl p (by simp [hp])), piece_row hb r sg p (hpl p (by simp)), List.map_cons, List.sum_cons, Int.mul_add]
    split <;> simp

end Go.Proofs.Ytbflncfhbmlibaa

namespace Go.Proofs.Ytbflncfhbmlibaa

open Go.RowKit Go.Shelf

abbrev Sg := Dt × Dt

def segsOf (c : List Dt) : List Sg := (List.range c.length).map fun i => (c.getD i (0, 0), c.getD ((i + 1) % c.length) (0, 0))

def segs (ls : List (List Dt)) : List Sg := (ls.map segsOf).flatten

theorem segsOf_len (c : List Dt) : (segsOf c).length = c.length := by simp [segsOf]

theorem segsOf_at {c : List Dt} {j : Nat} {a d : Dt} (ha : c[j]? = some a) (hd : c[(j + 1) % c.length]? = some d) : (segsOf c)[j]? = some (a, d) := by
  have hj := (List.getElem?_eq_some_iff.1 ha).1
  unfold segsOf
  rw [List.getElem?_map, List.getElem?_range hj]
  simp [ha, hd]

theorem segs_at {ls : List (List Dt)} {k : Nat} {c : List Dt} (h : ls[k]? = some c) : (ls.map segsOf)[k]? = some (segsOf c) := by rw [List.getElem?_map, h]; rfl

theorem next_lt {j n : Nat} (h : j < n) : (j + 1) % n < n := Nat.mod_lt _ (by omega)

theorem next_rem {j n : Nat} : ((j : Int) + 1).tmod (n : Int) = ((j + 1) % n : Nat) := by
  rw [show (j : Int) + 1 = ((j + 1 : Nat) : Int) by push_cast; rfl, ← Int.ofNat_tmod]

def segC (b : B4) (cs : List Ce) (s : Sg) : List Ce := lineC b cs s.1 s.2

def flatC (b : B4) (cs : List Ce) (ls : List (List Dt)) : List Ce := (segs ls).foldl (segC b) cs

/-- What the first k closed lines leave, and j lines of the next one. -/
def flatN (b : B4) (cs : List Ce) (ls : List (List Dt)) (k : Nat) (cl : List Dt) (j : Nat) : List Ce := (((ls.map segsOf).take k).flatten ++ (segsOf cl).take j).foldl (segC b) cs

theorem flatN_zero (b : B4) (cs : List Ce) (ls : List (List Dt)) (k : Nat) (cl cl' : List Dt) : flatN b cs ls k cl 0 = flatN b cs ls k cl' 0 := by simp [flatN]

theorem flatN_start (b : B4) (cs : List Ce) (ls : List (List Dt)) (cl : List Dt) : flatN b cs ls 0 cl 0 = cs := by simp [flatN]

theorem flatN_step {b : B4} {cs : List Ce} {ls : List (List Dt)} {k : Nat} {cl : List Dt} {j : Nat} {a d : Dt} (h : (segsOf cl)[j]? = some (a, d)) : flatN b cs ls k cl (j + 1) = lineC b (flatN b cs ls k cl j) a d := by
  unfold flatN
  rw [take_snoc h, ← List.append_assoc, List.foldl_append]
  rfl

theorem flatN_next {b : B4} {cs : List Ce} {ls : List (List Dt)} {k : Nat} {cl cl' : List Dt} (h : ls[k]? = some cl) : flatN b cs ls k cl cl.length = flatN b cs ls (k + 1) cl' 0 := by
  have e : (segsOf cl).take cl.length = segsOf cl := List.take_of_length_le (by rw [segsOf_len]; exact Nat.le_refl _)
  unfold flatN
  rw [flat_snoc (segs_at h), e, List.take_zero, List.append_nil]

theorem flatN_end (b : B4) (cs : List Ce) (ls : List (List Dt)) (cl : List Dt) : flatN b cs ls ls.length cl 0 = flatC b cs ls := by
  unfold flatN flatC segs
  rw [List.take_of_length_le (by simp), List.take_zero, List.append_nil]

def allIn (b : B4) (ls : List (List Dt)) : Bool := ls.all fun l => l.all (inB b)

theorem allIn_mem {b : B4} {ls : List (List Dt)} (h : allIn b ls = true) {k j : Nat} {l : List Dt} {d : Dt} (hl : ls[k]? = some l) (hd : l[j]? = some d) : inB b d = true := by
  unfold allIn at h
  rw [List.all_eq_true] at h
  have := h l (List.mem_of_getElem? hl)
  rw [List.all_eq_true] at this
  exact this d (List.mem_of_getElem? hd)

section

variable {w : World} {A : Option Addr} {c : Nat} {ls : List (List Dt)} {b : B4}

end

end Go.Proofs.Ytbflncfhbmlibaa

namespace Go.Proofs.Ytbflncfhbmlibaa

open Go.RowKit Go.Shelf

set_option maxRecDepth 20000 in
set_option maxHeartbeats 4000000 in
theorem rFlat_any {w0 w : World} {g kc ka : Nat} {b : B4} {cs : List Ce} {A : Option Addr} {c : Nat} {ls : List (List Dt)} (h : Rc w g kc ka b cs) (hd : Dl w0 A ls) (hb : Below w0.heap.size w0 w) (hkc : w0.heap.size ≤ kc) (hka : w0.heap.size ≤ ka) (hn : ls.length ≤ 1000) (hcn : cnt ls ≤ 1000) (hin : allIn b ls = true) :
    Calls Try.prog 38 #[.pointer (some ⟨g, 0, none⟩), .slice A ls.length c] w (RBitR g kc ka b (flatC b cs ls) w) := by
  have HL := Lib.hid hd
  have HB := Lib.hid hb
  have H := Lib.hid h
  have HCN := Lib.hid hcn
  have HIN := Lib.hid hin
  clear h hd hb hcn hin
  go_enter Try.func38, Try.ntmps38
  go_wp2_with fail
  go_loopw [4] (fun i wr => ∃ k : Nat, k ≤ ls.length ∧ i = .int .i64 k ∧ Hid (Rc wr g kc ka b (flatN b cs ls k [] 0)) ∧ Hid (Tn (TwoB kc ka) w wr)) (fun i _ => ls.length - (intOf i).toNat)
  case atStart => exact ⟨0, Nat.zero_le _, rfl, Lib.hid (by rw [flatN_start]; exact H.out), Lib.hid (Tn.refl _)⟩
  case round =>
    obtain ⟨k, hk, rfl, HR, HT⟩ := hrel
    by_cases hlt : k < ls.length
    · obtain ⟨cl, hcl⟩ := get_some hlt
      obtain ⟨ab, ao, Ai, ci, hA, hab, hc, hd, hs⟩ := HL.out k cl hcl
      have hcc : cl.length ≤ 1000 := Nat.le_trans (cnt_mem hcl) HCN.out
      have HLL := Lib.hid hcl
      have HD := Lib.hid hd
      have HC := Lib.hid hc
      subst hA
      clear hcl hd hc hs
      go_wp2_with fail
      go_loopw [5] (fun i wq => ∃ j : Nat, j ≤ cl.length ∧ i = .int .i64 j ∧ Hid (Rc wq g kc ka b (flatN b cs ls k cl j)) ∧ Hid (Tn (TwoB kc ka) w wq)) (fun i _ => cl.length - (intOf i).toNat)
      case atStart => exact ⟨0, Nat.zero_le _, rfl, Lib.hid (by rw [flatN_zero b cs ls k cl []]; exact HR.out), HT⟩
      case round =>
        obtain ⟨j, hj, rfl, HRQ, HTQ⟩ := hrel
        have hwr : Below w0.heap.size w0 wr := HB.out.trans (HTQ.out.below (fun i hi e => by rcases e with rfl | rfl <;> omega) HB.out.size)
        have c0 : wr.cell? ⟨ab, ao + k, none⟩ = some (.slice Ai cl.length ci) := (hwr.cell (p := ⟨ab, _, none⟩) hab).trans HC.out
        have habl : ab < wr.heap.size := Nat.lt_of_lt_of_le hab hwr.size
        by_cases hlt2 : j < cl.length
        · obtain ⟨a, ha⟩ := get_some hlt2
          obtain ⟨m, hm⟩ : ∃ m, (j + 1) % cl.length = m := ⟨_, rfl⟩
          have hml : m < cl.length := hm ▸ next_lt hlt2
          have hrem : ((j : Int) + 1).tmod (cl.length : Int) = m := by rw [next_rem, hm]
          obtain ⟨d, hd⟩ := get_some hml
          have HS : Hid ((segsOf cl)[j]? = some (a, d)) := Lib.hid (segsOf_at ha (by rw [hm]; exact hd))
          obtain ⟨db, do', hA', hdb, hx1, hy1⟩ := HD.out j a ha
          obtain ⟨db2, do2, hA2, -, hx2, hy2⟩ := HD.out m d hd
          rw [hA'] at hA2
          injection hA2 with hA2
          injection hA2 with e1 e2
          subst e1 e2
          have x1 : wr.cell? ⟨db, do' + j * 2, none⟩ = some (.int .i64 a.1) := (hwr.cell (p := ⟨db, _, none⟩) hdb).trans hx1
          have y1 : wr.cell? ⟨db, do' + j * 2 + 1, none⟩ = some (.int .i64 a.2) := (hwr.cell (p := ⟨db, _, none⟩) hdb).trans hy1
          have x2 : wr.cell? ⟨db, do' + m * 2, none⟩ = some (.int .i64 d.1) := (hwr.cell (p := ⟨db, _, none⟩) hdb).trans hx2
          have y2 : wr.cell? ⟨db, do' + m * 2 + 1, none⟩ = some (.int .i64 d.2) := (hwr.cell (p := ⟨db, _, none⟩) hdb).trans hy2
          have hdbl : db < wr.heap.size := Nat.lt_of_lt_of_le hdb hwr.size
          have hia := allIn_mem HIN.out HLL.out ha
          have hid := allIn_mem HIN.out HLL.out hd
          have HLN := Lib.hid (fun n => rLine_any (HRQ.out.keepB (bel_drewN (n := n) (bel_refl (a := wr))).below) a d hia hid)
          have hw1 : IntKind.i64.wrap ((j : Int) + 1) = (j : Int) + 1 := IntWalk.i64_in _ (by omega)
          have hcl0 : ((cl.length : Int) == 0) = false := by rw [beq_eq_false_iff_ne]; omega
          have hcl1 : (cl.length : Int) ≠ 0 := by omega
          have hml2 : (m : Int) < cl.length := by omega
          have hj2 : (j : Int) < cl.length := by omega
          have hk2 : (k : Int) < ls.length := by omega
          have hcl3 : cl ≠ [] := by rintro rfl; simp at hlt2
          subst hA'
          clear ha hd hm hx1 hy1 hx2 hy2 hia hid hwr
          go_upto_region 6 with fail
          refine wp_region_drew_tail 22 (by kernel_rfl) (by kernel_rfl) ?_
          simp only [List.take_succ_cons, List.take_zero, List.drop_succ_cons, List.drop_zero]
          repeat (go_big_quiet_step (fail))
          refine wpQuiet_nil ?_
          rintro _ ⟨nq, rfl⟩
          clear c0 x1 y1 x2 y2 hrem hw1
          go_wp2_with (first | (go_at_call 64; (with_reducible refine (HLN.out _).mono ?_); rintro e w9 ⟨⟨v', rfl⟩, hrc9, ht9⟩; have HRC9 := Lib.hid hrc9; have HT9 := Lib.hid ht9; clear hrc9 ht9) | fail)
          go_roundw
          case rel => exact ⟨j + 1, by omega, by go_num, Lib.hid (by rw [flatN_step HS.out]; exact HRC9.out), Lib.hid ((HTQ.out.drewN nq).trans HT9.out)⟩
          case measure => simp [intOf]; omega
        · obtain rfl : j = cl.length := by omega
          clear hwr
          go_wp2_with fail
          go_roundw
          case rel => exact ⟨k + 1, by omega, by go_num, Lib.hid (by rw [← flatN_next HLL.out]; exact HRQ.out), HTQ⟩
          case measure => simp [intOf]; omega
    · obtain rfl : k = ls.length := by omega
      have hfin : RBitR g kc ka b (flatC b cs ls) w (.returned (.tuple #[])) wr := ⟨⟨_, rfl⟩, by rw [← flatN_end b cs ls []]; exact HR.out, HT.out⟩
      have HF := Lib.hid hfin
      clear hfin
      go_wp2_with fail
      with_reducible refine bodyPost_end (v := .tuple #[]) (by simp [results, Try.results38]) rfl ?_
      exact HF.out

end Go.Proofs.Ytbflncfhbmlibaa
