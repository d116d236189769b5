/-
  Layer 22: the document: what a bit leaves.
-/
import Derived.Test.YtbjggiihbdhmbaaCoW
import Derived.Test.YtbjggiihbdhmbaaTail
namespace Go.Proofs.Ytbjggiihbdhmbaa
open Go.RowKit Go.Shelf

def RBitR (g kc ka : Nat) (b : B4) (cs : List Ce) (w : World) (e : Ending) (w' : World) : Prop := (∃ v, e = .returned v) ∧ Rc w' g kc ka b cs ∧ Tn (fun i => i = kc ∨ i = ka) w w'
theorem bitC_set {b : B4} {sg row : Int} {cs : List Ce} {t : Bt} {q : Int} {j : Nat} {co ar d0 e2 : Int} (hq : Bt.col t = q) (hpl : placeB b q row = true) (hj : placeN b q row = j) (hjl : j < cs.length) (hc : cs[j]? = some (co, ar))
    (hd0 : sg * (t.z - t.v) = d0) (he2 : d0 * (t.u - q * 64 + t.w - q * 64) = e2) : bitC b sg row cs t = cs.set j (wrap64 (co + d0), wrap64 (ar + e2)) := by
  unfold bitC bitE bitD
  rw [hq, if_pos hpl, hj]
  rw [hd0, he2, Int.toNat_natCast]
  apply List.ext_getElem?
  intro i
  rw [List.getElem?_modify, List.getElem?_set]
  by_cases hij : j = i
  · subst hij
    rw [hc]
    simp [hjl, addC]
  · simp [hij]
set_option maxRecDepth 20000 in
set_option maxHeartbeats 4000000 in
theorem rbit_any {w : World} {g kc ka : Nat} {b : B4} {cs : List Ce} (h : Rc w g kc ka b cs) (row sg : Int) (t : Bt) (hsg : sg = 1 ∨ sg = -1) (hbd : (-1048576 ≤ t.u ∧ t.u ≤ 1048576) ∧ (-1048576 ≤ t.v ∧ t.v ≤ 1048576) ∧ (-1048576 ≤ t.w ∧ t.w ≤ 1048576) ∧ (-1048576 ≤ t.z ∧ t.z ≤ 1048576)) (hpl : placeB b t.col row = true) :
    Calls Try.prog 54 #[.pointer (some ⟨g, 0, none⟩), .int .i64 row, .int .i64 sg, .int .i64 t.u, .int .i64 t.v, .int .i64 t.w, .int .i64 t.z] w (RBitR g kc ka b (bitC b sg row cs t) w) := by
  obtain ⟨q, hq⟩ : ∃ q, Bt.col t = q := ⟨_, rfl⟩
  rw [hq] at hpl
  have hra := rplace_any h q row
  unfold rplaceI at hra
  rw [if_pos hpl] at hra
  obtain ⟨p1, p2, -, -⟩ := place_bd h.box hpl
  obtain ⟨j, hj⟩ : ∃ j : Nat, placeN b q row = j := ⟨(placeN b q row).toNat, by omega⟩
  have hjl : j < cs.length := by have := h.len; omega
  have hjl2 : (j : Int) < cs.length := by omega
  obtain ⟨⟨co, ar⟩, hc⟩ : ∃ c, cs[j]? = some c := ⟨_, List.getElem?_eq_getElem hjl⟩
  rw [hj] at hra
  obtain ⟨⟨u1, u2⟩, ⟨v1, v2⟩, ⟨w1', w2'⟩, z1, z2⟩ := hbd
  obtain ⟨d0, hd0⟩ : ∃ d0, sg * (t.z - t.v) = d0 := ⟨_, rfl⟩
  have hd1 : -2097152 ≤ d0 ∧ d0 ≤ 2097152 := by rcases hsg with rfl | rfl <;> omega
  obtain ⟨d1, d2⟩ := hd1
  have hqb : min t.u t.w / 64 = q := hq
  have hq1 : -16385 ≤ q := by omega
  have hq2 : q ≤ 16384 := by omega
  have hm := mul_bdd (a := d0) (b := t.u - q * 64 + t.w - q * 64) (A := 8388608) (B := 8388608) (by omega) (by omega) (by omega) (by omega)
  obtain ⟨e2, he2⟩ : ∃ e2, d0 * (t.u - q * 64 + t.w - q * 64) = e2 := ⟨_, rfl⟩
  rw [he2] at hm
  have hm1 : -70368744177664 ≤ e2 := by omega
  have hm2 : e2 ≤ 70368744177664 := by omega
  rw [bitC_set hq hpl hj hjl hc hd0 he2]
  obtain ⟨u, v, x, z⟩ := t
  dsimp only at *
  have KF := fun w => Floor_any (min u x) 64 w (by omega) (by omega) (by omega)
  rw [hqb] at KF
  have t0 : IntKind.i64.wrap (64 * q) = 64 * q := IntWalk.i64_in _ (by omega)
  have t1 : IntKind.i64.wrap (u - 64 * q) = u - 64 * q := IntWalk.i64_in _ (by omega)
  have t2 : IntKind.i64.wrap (u - 64 * q + x) = u - 64 * q + x := IntWalk.i64_in _ (by omega)
  have t3 : IntKind.i64.wrap (u - 64 * q + x - 64 * q) = u - 64 * q + x - 64 * q := IntWalk.i64_in _ (by omega)
  have t4 : IntKind.i64.wrap (d0 * (u - 64 * q + x - 64 * q)) = e2 := by rw [Int.mul_comm 64 q, he2]; exact IntWalk.i64_in _ (by omega)
  have t5 : wrap64 (sg * (z - v)) = d0 := by rw [hd0]; exact IntWalk.wrap64_in _ (by omega)
  have HTT := Lib.hid (And.intro t0 (And.intro t1 (And.intro t2 (And.intro t3 t4))))
  have HRA := Lib.hid hra
  have HKF := Lib.hid KF
  have HC := Lib.hid hc
  have H := Lib.hid h
  have HG := Lib.hid (And.intro h.gc h.ga)
  have HNE := Lib.hid h.ne
  have q1 : w.cell? ⟨kc, j, none⟩ = some (.int .i64 co) := (h.cov.cell j).trans (covL_at hc)
  have q2 : w.cell? ⟨ka, j, none⟩ = some (.int .i64 ar) := (h.are.cell j).trans (areL_at hc)
  have c4 : w.cell? ⟨g, 4, none⟩ = some (.slice (some ⟨kc, 0, none⟩) cs.length cs.length) := h.blk.cell 4
  have c5 : w.cell? ⟨g, 5, none⟩ = some (.slice (some ⟨ka, 0, none⟩) cs.length cs.length) := h.blk.cell 5
  have gl := h.blk.lt
  have kl := h.cov.lt
  have kal := h.are.lt
  have hcl := h.bd
  clear hra KF hc h p1 p2 hj hm hq hqb hpl t0 t1 t2 t3 t4 hd0 he2 hjl
  have key : ∃ mn, min u x = mn ∧ ((mn = x ∧ x < u) ∨ (mn = u ∧ ¬ x < u)) := ⟨_, rfl, by omega⟩
  obtain ⟨mn, hmn, hmc⟩ := key
  rw [hmn] at HKF
  clear hmn
  rcases hmc with ⟨rfl, hlt⟩ | ⟨rfl, hlt⟩
  all_goals
    go_enter Try.func54, Try.ntmps54
    go_upto_region 6 with (first
      | (go_at_call 24; (with_reducible refine (HKF.out _).mono ?_); rintro e w1 ⟨rfl, rfl⟩)
      | (go_at_call 56; (with_reducible refine HRA.out.mono ?_); rintro e w1 ⟨rfl, hb1⟩))
    have HB1 := Lib.hid hb1
    have k4 : w1.cell? ⟨g, 4, none⟩ = some (.slice (some ⟨kc, 0, none⟩) cs.length cs.length) := (hb1.cell (p := ⟨g, 4, none⟩) gl).trans c4
    have k6 : w1.cell? ⟨kc, j, none⟩ = some (.int .i64 co) := (hb1.cell (p := ⟨kc, j, none⟩) kl).trans q1
    have hh := H.out.keepB hb1
    have kf := hh.cov.frozen j
    have HH := Lib.hid hh
    rw [t5]
    clear hb1 c4 q1 hh t5
    refine wp_region_drew_tail 15 (by kernel_rfl) (by kernel_rfl) ?_
    simp only [List.take_succ_cons, List.take_zero, List.drop_succ_cons, List.drop_zero]
    repeat (go_big_quiet_step (fail))
    refine wpQuiet_nil ?_
    rintro _ ⟨nq, rfl⟩
    have k6d : (w1.drewN nq).cell? ⟨kc, j, none⟩ = some (.int .i64 co) := k6
    have kfd : (w1.drewN nq).frozen? ⟨kc, j, none⟩ = false := kf
    have hkl1 : kc < w1.heap.size := HH.out.cov.lt
    clear k4 k6 kf
    go_upto_region 7 with fail
    have hs := (HH.out.cov.drewN nq).set j (.int .i64 (wrap64 (co + d0)))
    rw [show ((covL cs).set j (.int .i64 (wrap64 (co + d0)))) = covL (cs.set j (wrap64 (co + d0), wrap64 (ar + e2))) from covL_set j (wrap64 (co + d0), wrap64 (ar + e2))] at hs
    have ha := (HH.out.are.drewN nq).far (p := ⟨kc, j, none⟩) (Ne.symm HNE.out) (.int .i64 (wrap64 (co + d0)))
    have hg := (HH.out.blk.drewN nq).far (p := ⟨kc, j, none⟩) HG.out.1 (.int .i64 (wrap64 (co + d0)))
    have ht : Tn (fun i => i = kc ∨ i = ka) w ((w1.drewN nq).setCell ⟨kc, j, none⟩ (.int .i64 (wrap64 (co + d0)))) := ((Tn.of_below HB1.out).drewN nq).set (.inl (.inl rfl)) _
    have HS := Lib.hid hs
    have HA := Lib.hid ha
    have HGG := Lib.hid hg
    have HT := Lib.hid ht
    clear k6d kfd hs ha hg ht hkl1
    generalize (w1.drewN nq).setCell ⟨kc, j, none⟩ (.int .i64 (wrap64 (co + d0))) = w2 at HS HA HGG HT ⊢
    have k5 : w2.cell? ⟨g, 5, none⟩ = some (.slice (some ⟨ka, 0, none⟩) cs.length cs.length) := HGG.out.cell 5
    have k7 : w2.cell? ⟨ka, j, none⟩ = some (.int .i64 ar) := (HA.out.cell j).trans (areL_at HC.out)
    have kf := HA.out.frozen j
    have kal2 := HA.out.lt
    have gl2 := HGG.out.lt
    obtain ⟨t0, t1, t2, t3, t4⟩ := HTT.out
    refine wp_region_drew_tail 25 (by kernel_rfl) (by kernel_rfl) ?_
    simp only [List.take_succ_cons, List.take_zero, List.drop_succ_cons, List.drop_zero]
    repeat (go_big_quiet_step (fail))
    refine wpQuiet_nil ?_
    rintro _ ⟨nq, rfl⟩
    clear t0 t1 t2 t3 t4
    have k7d : (w2.drewN nq).cell? ⟨ka, j, none⟩ = some (.int .i64 ar) := k7
    have kfd : (w2.drewN nq).frozen? ⟨ka, j, none⟩ = false := kf
    clear k5 k7 kf
    have h7 := (HA.out.drewN nq).set j (.int .i64 (wrap64 (ar + e2)))
    rw [show ((areL cs).set j (.int .i64 (wrap64 (ar + e2)))) = areL (cs.set j (wrap64 (co + d0), wrap64 (ar + e2))) from areL_set j (wrap64 (co + d0), wrap64 (ar + e2))] at h7
    have hfin : RBitR g kc ka b (cs.set j (wrap64 (co + d0), wrap64 (ar + e2))) w (.returned (.tuple #[])) ((w2.drewN nq).setCell ⟨ka, j, none⟩ (.int .i64 (wrap64 (ar + e2)))) := by
      refine ⟨⟨_, rfl⟩, ⟨?_, (HS.out.drewN nq).far HNE.out _, h7, HNE.out, by rw [List.length_set]; exact H.out.len, H.out.box⟩, (HT.out.drewN nq).set (.inl (.inr rfl)) _⟩
      rw [List.length_set]
      exact (HGG.out.drewN nq).far HG.out.2 _
    have HF := Lib.hid hfin
    clear h7 hfin
    go_wp2_with fail
    with_reducible refine bodyPost_end (v := .tuple #[]) (by simp [results, Try.results54]) rfl ?_
    exact HF.out
end Go.Proofs.Ytbjggiihbdhmbaa
