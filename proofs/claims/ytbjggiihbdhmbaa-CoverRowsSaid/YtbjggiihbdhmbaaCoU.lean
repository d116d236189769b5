/-
  Layer 22: CoverRows: a short line: its pieces.
-/
import Derived.Test.YtbjggiihbdhmbaaCoT
import Derived.Test.YtbjggiihbdhmbaaDotE
namespace Go.Proofs.Ytbjggiihbdhmbaa
open Go.RowKit Go.Shelf

attribute [local go_sem] Oper.semAt_some

/-- So many pieces have come. -/
def CntI (nb : Nat) (W1 : World) (pre : List Pc) (W : World) : Prop := Blk W nb 3 [.int .i64 pre.length] ∧ Turn W1 W nb none
theorem cntI_stable {nb n : Nat} {W1 : World} (h1 : nb < n) (h2 : W1.heap.size ≤ n) : BStable n (CntI nb W1) := fun _ _ _ h hb => ⟨h.1.below hb h1, turn_more h.2 hb h2⟩
def StpI (B rb : Nat) (w : World) (c : Code) (_ : List Pc) (W : World) : Prop := c = .ret ∧ Blk W rb 4 [.bool true] ∧ Below B w W
theorem stpI_stable {B rb n : Nat} {w : World} (c : Code) (h1 : rb < n) (h2 : B ≤ n) : BStable n (StpI B rb w c) := fun _ _ _ h hb => ⟨h.1, h.2.1.below hb h1, h.2.2.trans (hb.mono h2)⟩
set_option maxRecDepth 100000 in
set_option maxHeartbeats 4000000 in
theorem coverRows_near (p q : Dt) (stop : Int) (w : World) (hp0 : dotB p = true) (hq0 : dotB q = true) (hnear : (dnB p q).2 - (dnA p q).2 ≤ 25600) : Calls Try.prog 6 #[.agg #[.int .i64 p.1, .int .i64 p.2], .agg #[.int .i64 q.1, .int .i64 q.2], .int .i64 stop] w fun e w' => e = .returned (.bool true) ∧ Below w.heap.size w w' := by
  have hp := fun w => dot_any p w
  have hq := fun w => dot_any q w
  have hd := fun w => rDown_any p q w
  obtain ⟨fa, fd⟩ := dn_fit hp0 hq0
  have hr := fun w => rRows_any (dnA p q) (dnB p q) w fa fd (dn_le p q)
  have HP0 := Lib.hid hp0
  have HQ0 := Lib.hid hq0
  rw [hp0] at hp
  rw [hq0] at hq
  have HP := Lib.hid hp
  have HQ := Lib.hid hq
  have fa' := dotB_true.1 fa
  have fd' := dotB_true.1 fd
  generalize hAA : dnA p q = A at *
  generalize hDD : dnB p q = D at *
  generalize dnS p q = sg at *
  have HAA := Lib.hid hAA
  have HDD := Lib.hid hDD
  clear hAA hDD
  obtain ⟨A1, A2⟩ := A
  obtain ⟨D1, D2⟩ := D
  dsimp only at *
  have s1 : IntKind.i64.wrap (D2 - A2) = D2 - A2 := IntWalk.i64_in _ (by omega)
  have HDN := Lib.hid hd
  have HRR := Lib.hid hr
  clear hp hq hp0 hq0 hd hr fa fd
  obtain ⟨⟨x1, x2⟩, x3, x4⟩ := fa'
  obtain ⟨⟨y1, y2⟩, y3, y4⟩ := fd'
  refine (callsIn_wide (n := 9)).1 (callsIn_of_wp_marks Try.func6 rfl trivial ?_ rfl)
  simp only [Try.ntmps6, List.size_toArray, List.length_cons, List.length_nil, Nat.reduceAdd, Nat.reduceSub, Array.replicate_succ, Array.replicate_zero, List.push_toArray, List.append_toArray, List.nil_append, List.cons_append]
  refine wpIn_wide.2 ?_
  go_wp2_with (first
    | (go_at_call 20; (with_reducible refine (covRows_any p q _).mono ?_); rintro e w1 ⟨rfl, rfl⟩)
    | (go_at_call 10; (with_reducible refine (lives_any _).mono ?_); rintro e w2 ⟨rfl, hb2⟩; obtain ⟨hc2, hf2, hz2⟩ := bcell hb2; (try simp at hz2); have HB2 := Lib.hid hb2; clear hb2)
    | (go_at_call 21; (with_reducible refine (HP.out _).mono ?_); rintro e w3 ⟨rfl, hb3⟩; obtain ⟨hc3, hf3, hz3⟩ := bcell hb3; (try simp at hz3); have HB3 := Lib.hid hb3; clear hb3)
    | (go_at_call 21; (with_reducible refine (HQ.out _).mono ?_); rintro e w4 ⟨rfl, hb4⟩; obtain ⟨hc4, hf4, hz4⟩ := bcell hb4; (try simp at hz4); have HB4 := Lib.hid hb4; clear hb4)
    | (go_at_call 22; (with_reducible refine (HDN.out _).mono ?_); rintro e w5 ⟨rfl, hb5⟩; obtain ⟨hc5, hf5, hz5⟩ := bcell hb5; (try simp at hz5); have HB5 := Lib.hid hb5; clear hb5)
    | (go_at_call 23; (with_reducible refine (HRR.out _).mono ?_); rintro e w6 ⟨A0, c0, rfl, hown, hb6⟩; obtain ⟨hc6, hf6, hz6⟩ := bcell hb6; (try simp at hz6); have HB6 := Lib.hid hb6; have HOW := Lib.hid hown; clear hb6 hown)
    | fail)
  have hal := bel_alloc (o := .cells #[.int .i64 q.1, .int .i64 q.2] 36) (bel_alloc (o := .cells #[.int .i64 p.1, .int .i64 p.2] 36) (bel_alloc (o := .cells #[.bool false] 4) (bel_alloc (o := .cells #[.int .i64 stop] 3) (bel_alloc (o := .cells #[.int .i64 q.1, .int .i64 q.2] 36) (bel_alloc (o := .cells #[.int .i64 p.1, .int .i64 p.2] 36) (bel_refl (a := w)))))))
  have hch : Below ((((((w.alloc (.cells #[.int .i64 p.1, .int .i64 p.2] 36)).alloc (.cells #[.int .i64 q.1, .int .i64 q.2] 36)).alloc (.cells #[.int .i64 stop] 3)).alloc (.cells #[.bool false] 4)).alloc (.cells #[.int .i64 p.1, .int .i64 p.2] 36)).alloc (.cells #[.int .i64 q.1, .int .i64 q.2] 36)).heap.size ((((((w.alloc (.cells #[.int .i64 p.1, .int .i64 p.2] 36)).alloc (.cells #[.int .i64 q.1, .int .i64 q.2] 36)).alloc (.cells #[.int .i64 stop] 3)).alloc (.cells #[.bool false] 4)).alloc (.cells #[.int .i64 p.1, .int .i64 p.2] 36)).alloc (.cells #[.int .i64 q.1, .int .i64 q.2] 36)) w5 := HB2.out.trans ((HB3.out.mono HB2.out.size).trans ((HB4.out.mono (Nat.le_trans HB2.out.size HB3.out.size)).trans (HB5.out.mono (Nat.le_trans HB2.out.size (Nat.le_trans HB3.out.size HB4.out.size)))))
  have hal5 := bel_alloc (o := .cells #[.int .i64 D1, .int .i64 D2] 36) (bel_alloc (o := .cells #[.int .i64 A1, .int .i64 A2] 36) (bel_refl (a := w5)))
  have hch6 : Below w5.heap.size w5 w6 := hal5.below.trans (HB6.out.mono hal5.below.size)
  have hR := (((((Blk.newAt (n := w.heap.size + 1 + 1 + 1) (((w.alloc (.cells #[.int .i64 p.1, .int .i64 p.2] 36)).alloc (.cells #[.int .i64 q.1, .int .i64 q.2] 36)).alloc (.cells #[.int .i64 stop] 3)) 4 [.bool false] (by simp)).alloc (.cells #[.int .i64 p.1, .int .i64 p.2] 36)).alloc (.cells #[.int .i64 q.1, .int .i64 q.2] 36)).keepB hch).keepB hch6)
  have hP := ((((Blk.newAt (n := w.heap.size + 1 + 1 + 1 + 1) ((((w.alloc (.cells #[.int .i64 p.1, .int .i64 p.2] 36)).alloc (.cells #[.int .i64 q.1, .int .i64 q.2] 36)).alloc (.cells #[.int .i64 stop] 3)).alloc (.cells #[.bool false] 4)) 36 [.int .i64 p.1, .int .i64 p.2] (by simp)).alloc (.cells #[.int .i64 q.1, .int .i64 q.2] 36)).keepB hch).keepB hch6)
  have hQ := (((Blk.newAt (n := w.heap.size + 1 + 1 + 1 + 1 + 1) (((((w.alloc (.cells #[.int .i64 p.1, .int .i64 p.2] 36)).alloc (.cells #[.int .i64 q.1, .int .i64 q.2] 36)).alloc (.cells #[.int .i64 stop] 3)).alloc (.cells #[.bool false] 4)).alloc (.cells #[.int .i64 p.1, .int .i64 p.2] 36)) 36 [.int .i64 q.1, .int .i64 q.2] (by simp)).keepB hch).keepB hch6)
  have hS := ((((((Blk.newAt (n := w.heap.size + 1 + 1) ((w.alloc (.cells #[.int .i64 p.1, .int .i64 p.2] 36)).alloc (.cells #[.int .i64 q.1, .int .i64 q.2] 36)) 3 [.int .i64 stop] (by simp)).alloc (.cells #[.bool false] 4)).alloc (.cells #[.int .i64 p.1, .int .i64 p.2] 36)).alloc (.cells #[.int .i64 q.1, .int .i64 q.2] 36)).keepB hch).keepB hch6)
  have hbw : Below w.heap.size w w6 := (hal.below.trans (hch.mono hal.below.size)).trans (hch6.mono (Nat.le_trans hal.below.size hch.size))
  have hz6 : w.heap.size + 6 ≤ w6.heap.size := by have h1 := hch.size; have h2 := hch6.size; simp at h1; omega
  obtain ⟨L, hL⟩ : ∃ L, rowsR (A1, A2) (D1, D2) (A1, A2) = L := ⟨_, rfl⟩
  rw [hL] at HOW ⊢
  obtain ⟨W1, hW1⟩ : ∃ W1, (w6.alloc (.cells #[.slice A0 L.length c0] 53)).alloc (.cells #[.int .i64 0] 3) = W1 := ⟨_, rfl⟩
  have hal1 := bel_alloc (o := .cells #[.int .i64 0] 3) (bel_alloc (o := .cells #[.slice A0 L.length c0] 53) (bel_refl (a := w6)))
  have hNB : Blk W1 (w6.heap.size + 1) 3 [.int .i64 0] := by rw [← hW1]; exact Blk.newAt _ _ [_] (by simp)
  have hLB : Blk W1 w6.heap.size 53 [.slice A0 L.length c0] := by rw [← hW1]; exact (Blk.newAt _ _ [_] rfl).alloc _
  have hsz : W1.heap.size = w6.heap.size + 2 := by rw [← hW1]; simp
  rw [hW1] at hal1 ⊢
  have HRB := Lib.hid (hR.keepB hal1.below)
  have HPB := Lib.hid (hP.keepB hal1.below)
  have HQB := Lib.hid (hQ.keepB hal1.below)
  have HSB := Lib.hid (hS.keepB hal1.below)
  have HNB := Lib.hid hNB
  have HLB := Lib.hid hLB
  have HBW := Lib.hid (hbw.trans (hal1.below.mono hbw.size))
  have hrows : RowsAt w6 A0 L.length 5 (L.map pcC) := by
    obtain ⟨A1', c1', hA', hr, -⟩ := RowsAt.of_own (rows := L.map pcC) (k := 5) HOW.out (by rw [List.flatMap_def]) (fun r hr => by obtain ⟨y, -, rfl⟩ := List.mem_map.1 hr; rfl) (by omega)
    injection hA' with h1 _ h2
    rw [h1]
    exact hr
  have HRO := Lib.hid hrows
  have HB61 := Lib.hid hal1.below
  have HLL := Lib.hid hL
  have hsz' : w.heap.size + 8 ≤ W1.heap.size := by omega
  clear hal hch hal5 hch6 hR hP hQ hS hbw hW1 hal1 hNB hLB hc2 hf2 hc3 hf3 hc4 hf4 hc5 hf5 hc6 hf6 HB2 HB3 HB4 HB5 HB6 HOW hrows hz2 hz3 hz4 hz5 hL
  refine (wpIn_wide (n := 9)).1 ?_
  refine wpIn_range_b (P := Try.prog) (n := 9) (gf := 42) (lb := #[.pointer (some ⟨w.heap.size + 1 + 1 + 1 + 1, 0, none⟩), .pointer (some ⟨w.heap.size + 1 + 1 + 1 + 1 + 1, 0, none⟩)]) rfl (enters_of Try.func42 (by kernel_rfl) rfl)
    (rows_gives 8 (w.heap.size + 1 + 1 + 1 + 1) (w.heap.size + 1 + 1 + 1 + 1 + 1) HPB.out HQB.out HP0.out HQ0.out (Kp := KeepF (fun i => i = w6.heap.size + 1)) (fun h => ⟨h.size, fun i t cs hi hb => h.cells i t cs (by omega) hb⟩))
    (fun h h' => KeepF.trans h h') (fun W l o o' _ h h1 _ => KeepF.put W l o o' h h1) (Below.refl _ _) (fun _ => rfl)
    (CntI (w6.heap.size + 1) W1) (StpI w.heap.size (w.heap.size + 1 + 1 + 1) w) (cntI_stable (by omega) (Nat.le_refl _)) (fun c => stpI_stable c (by omega) (by omega)) ⟨HNB.out, Turn.refl _ _ _⟩ ?a1
    (fun x W => W.alloc (.cells #[.int .i64 x.A.1, .int .i64 x.A.2, .int .i64 x.B.1, .int .i64 x.B.2] 55)) (fun _ _ => (bel_alloc bel_refl).below) (fun _ _ _ => .of_below (bel_alloc bel_refl).below) ?assign ?body ?done ?stop
  case assign =>
    intro l x W K hK
    simp only [pcV, List.zip_toArray, List.zip_cons_cons, List.zip_nil_right, List.foldl_toArray, List.foldl_cons, List.foldl_nil, List.setIfInBounds_toArray, List.set_cons_succ, List.set_cons_zero]
    gi_wp2
    exact hK
  case body =>
    rintro l pre x W Wb hl hrec hge hsb hcells ⟨hcn, htu⟩ hpre
    have hwsz : (W.alloc (.cells #[.int .i64 x.A.1, .int .i64 x.A.2, .int .i64 x.B.1, .int .i64 x.B.2] 55)).heap.size = W.heap.size + 1 := by simp
    have bpc : Blk Wb W.heap.size 55 [.int .i64 x.A.1, .int .i64 x.A.2, .int .i64 x.B.1, .int .i64 x.B.2] := hcells _ _ (Blk.newAt (n := W.heap.size) _ 55 [_, _, _, _] rfl) rfl
    have pc0 : Wb.cell? ⟨W.heap.size, 0, none⟩ = some (.int .i64 x.A.1) := bpc.cell 0
    have pc1 : Wb.cell? ⟨W.heap.size, 1, none⟩ = some (.int .i64 x.A.2) := bpc.cell 1
    have pc2 : Wb.cell? ⟨W.heap.size, 2, none⟩ = some (.int .i64 x.B.1) := bpc.cell 2
    have pc3 : Wb.cell? ⟨W.heap.size, 3, none⟩ = some (.int .i64 x.B.2) := bpc.cell 3
    have bpl := bpc.lt
    have hxL : L[pre.length]? = some x := by
      have hp2 := hpre
      rw [HAA.out, HDD.out, HLL.out] at hp2
      obtain ⟨t, ht⟩ := hp2
      rw [← ht]
      simp
    have hlt : pre.length < L.length := (List.getElem?_eq_some_iff.1 hxL).1
    obtain ⟨ab, ao, hAe, hbl, hcl⟩ := HRO.out.at_ (i := pre.length) (r := pcC x) (by rw [List.getElem?_map, hxL]; rfl)
    have hcl' : ∀ j v, (pcC x)[j]? = some v → Wb.cell? ⟨ab, ao + pre.length * 5 + j, none⟩ = some v := fun j v hv =>
      (World.cell?_of_block ((htu.block ab (by omega) (by omega) (fun e => by cases e)).trans (HB61.out.block ab hbl))).trans (hcl j v hv)
    have q0 : Wb.cell? ⟨ab, ao + pre.length * 5, none⟩ = some (.int .i64 x.row) := hcl' 0 _ rfl
    have q1 : Wb.cell? ⟨ab, ao + pre.length * 5 + 1, none⟩ = some (.int .i64 x.A.1) := hcl' 1 _ rfl
    have q2 : Wb.cell? ⟨ab, ao + pre.length * 5 + 2, none⟩ = some (.int .i64 x.A.2) := hcl' 2 _ rfl
    have q3 : Wb.cell? ⟨ab, ao + pre.length * 5 + 3, none⟩ = some (.int .i64 x.B.1) := hcl' 3 _ rfl
    have q4 : Wb.cell? ⟨ab, ao + pre.length * 5 + 4, none⟩ = some (.int .i64 x.B.2) := hcl' 4 _ rfl
    have hL := htu.blk HLB.out (by omega) (fun e => by cases e)
    have hS := htu.blk HSB.out (by omega) (fun e => by cases e)
    have hR := htu.blk HRB.out (by omega) (fun e => by cases e)
    obtain ⟨ru1, ru2⟩ := rowsN_up (dnA p q) (dnB p q) _ _ x (hpre.subset (by simp))
    obtain ⟨gA, gB⟩ := dn_fit HP0.out HQ0.out
    have hok := rowsR_ok (onWay_start (dn_le p q)) x (hpre.subset (by simp))
    have fxA := dotB_true.1 (onWay_fit gA gB hok.A)
    have fxB := dotB_true.1 (onWay_fit gA gB hok.B)
    obtain ⟨row, ⟨a1, a2⟩, ⟨b1, b2⟩⟩ := x
    dsimp only [pcC] at *
    subst hAe
    have KF := fun w => Floor_any a2 64 w (by omega) (by omega) (by omega)
    rw [ru1] at KF
    have HKF := Lib.hid KF
    have r1 : IntKind.i64.wrap (64 * row) = 64 * row := IntWalk.i64_in _ (by omega)
    have r2 : IntKind.i64.wrap (64 * row + 64) = 64 * row + 64 := IntWalk.i64_in _ (by omega)
    have r3 : ¬ 64 * row + 64 < b2 := by omega
    have n0 : Wb.cell? ⟨w6.heap.size + 1, 0, none⟩ = some (.int .i64 pre.length) := hcn.cell 0
    have nf := hcn.frozen 0
    have nl := hcn.lt
    have e0 : Wb.cell? ⟨w6.heap.size, 0, none⟩ = some (.slice (some ⟨ab, ao, none⟩) L.length c0) := hL.cell 0
    have el := hL.lt
    have t0 : Wb.cell? ⟨w.heap.size + 1 + 1, 0, none⟩ = some (.int .i64 stop) := hS.cell 0
    have tl := hS.lt
    have hge2 : decide (L.length ≤ pre.length) = false := by simp; omega
    have rb0 : Wb.cell? ⟨w.heap.size + 1 + 1 + 1, 0, none⟩ = some (.bool false) := hR.cell 0
    have rbf := hR.frozen 0
    have rbl := hR.lt
    have hLl : L.length ≤ 2097152 := by
      have h2 := rowsN_len (A1, A2) (D1, D2) (D2 - A2).toNat (A1, A2)
      rw [← HLL.out]
      unfold rowsR
      dsimp only at h2 ⊢
      omega
    have hpl1 : (pre.length : Int) ≤ 2097151 := by omega
    clear hLl
    have HCN := Lib.hid hcn
    have HTU := Lib.hid htu
    have HRB2 := Lib.hid hR
    have HLT := Lib.hid hlt
    clear KF ru1 ru2 gA gB hok fxA fxB hxL hcl hcl' hpre htu hcn hL hS hR hrec hcells bpc
    gi_wp2
    refine wpIn_region_drew_tail 49 (free_round _) (by kernel_rfl) (by kernel_rfl) (by kernel_rfl) ?_
    simp only [List.take_succ_cons, List.take_zero, List.drop_succ_cons, List.drop_zero]
    repeat (go_big_quiet_step (first | (go_at_call 24; exact Calls.q_left (HKF.out _)) | fail))
    refine wpQuiet_nil ?_
    rintro _ ⟨nq, rfl⟩
    clear q0 q1 q2 q3 q4 pc0 pc1 pc2 pc3 e0 r1 r2
    gi_wp2
    all_goals
      have hKO : KeepsOthers Wb ((Wb.drewN nq).setCell ⟨w6.heap.size + 1, 0, none⟩ (.int .i64 ((pre.length : Int) + 1))) := KeepsOthers.trans (⟨Nat.le_refl _, fun _ _ h _ => h⟩ : KeepsOthers Wb (Wb.drewN nq)) (KeepsOthers.setCell _ _ _)
      have hN := (HCN.out.drewN nq).set 0 (.int .i64 ((pre.length : Int) + 1))
      have hT := (turn_more HTU.out (bel_drewN (n := nq) bel_refl).below HTU.out.size).set 0 (.int .i64 ((pre.length : Int) + 1))
    · have hB := HBW.out.trans (below_turn hT (show w.heap.size ≤ w6.heap.size + 1 by omega) (show w.heap.size ≤ W1.heap.size by omega))
      have hR2 := (((HRB2.out.drewN nq).far (p := ⟨w6.heap.size + 1, 0, none⟩) (by simp; omega) (.int .i64 ((pre.length : Int) + 1))).set 0 (.bool true))
      exact ⟨hKO.trans (KeepsOthers.setCell _ _ _), rfl, hR2, hB.setCell (by simp; omega) _⟩
    · refine ⟨hKO, ?_, ⟨?_, hT⟩⟩
      · exact (KeepF.of_below (F := fun i => i = w6.heap.size + 1) (bel_drewN (n := nq) (bel_refl (a := Wb))).below).set (p := ⟨w6.heap.size + 1, 0, none⟩) rfl _
      · rw [List.length_append]
        exact hN
  case' done =>
    rintro D xs W hD hS ⟨hcn, htu⟩ hDW
    have hlen : xs.length = L.length := by
      have h1 : xs = L := by rw [← HLL.out, ← HAA.out, ← HDD.out]; exact hS
      rw [h1]
    rw [hlen] at hcn
    have hR2 := htu.blk HRB.out (by omega) (fun e => by cases e)
    have hL2 := htu.blk HLB.out (by omega) (fun e => by cases e)
    have n0 : W.cell? ⟨w6.heap.size + 1, 0, none⟩ = some (.int .i64 L.length) := hcn.cell 0
    have nl := hcn.lt
    have e0 : W.cell? ⟨w6.heap.size, 0, none⟩ = some (.slice A0 L.length c0) := hL2.cell 0
    have el := hL2.lt
    have r0 : W.cell? ⟨w.heap.size + 1 + 1 + 1, 0, none⟩ = some (.bool false) := hR2.cell 0
    have f0 := hR2.frozen 0
    have rl := hR2.lt
    have HR2 := Lib.hid hR2
    have HW2 := Lib.hid (HBW.out.trans (below_turn htu (show w.heap.size ≤ w6.heap.size + 1 by omega) (show w.heap.size ≤ W1.heap.size by omega)))
    have HD := Lib.hid (And.intro hD hDW)
    clear hD hDW hS hlen hcn htu hR2 hL2
    go_wp2_with fail
  case done =>
    have hD := HD.out.1
    have hne : D ≠ w.heap.size + 1 + 1 + 1 := by omega
    have hD6 : (W.setCell ⟨w.heap.size + 1 + 1 + 1, 0, none⟩ (.bool true)).heap[D]? = some (.deferred (some [])) := (Below.heap_setCell _ _ _ _ hne).trans HD.out.2
    have hR6 : Blk (W.setCell ⟨w.heap.size + 1 + 1 + 1, 0, none⟩ (.bool true)) (w.heap.size + 1 + 1 + 1) 4 [.bool true] := HR2.out.set 0 _
    have hpb : Below W1.heap.size (W.setCell ⟨w.heap.size + 1 + 1 + 1, 0, none⟩ (.bool true)) ((W.setCell ⟨w.heap.size + 1 + 1 + 1, 0, none⟩ (.bool true)).putObj D (.deferred none)) := belowK_b (w := W1) (Nat.le_refl _) _ D _ _ hD hD6 rfl rfl
    have hR7 := hR6.below hpb (by omega)
    have c7 : ((W.setCell ⟨w.heap.size + 1 + 1 + 1, 0, none⟩ (.bool true)).putObj D (.deferred none)).cell? ⟨w.heap.size + 1 + 1 + 1, 0, none⟩ = some (.bool true) := hR7.cell 0
    have hX : Below w.heap.size w (W.setCell ⟨w.heap.size + 1 + 1 + 1, 0, none⟩ (.bool true)) := HW2.out.setCell (by simp; omega) _
    refine ⟨by simp, .inl ⟨_, _, rfl, run_takeDeferred hD6, ?_⟩⟩
    refine ⟨.bool true, ?_, rfl, hX.trans (hpb.mono (by omega))⟩
    simp [results, Try.f6, go_sem, c7]
  case' stop =>
    rintro D c pre W hD _ ⟨rfl, hR2, hB⟩ hDW
    have HR2 := Lib.hid hR2
    have HW2 := Lib.hid hB
    have HD := Lib.hid (And.intro hD hDW)
    clear hD hDW hR2 hB
    refine (wpIn_wide (n := 9)).2 ?_
    go_wp2_with fail
  case stop =>
    have hD := HD.out.1
    have hpb : Below W1.heap.size W (W.putObj D (.deferred none)) := belowK_b (w := W1) (Nat.le_refl _) _ D _ _ hD HD.out.2 rfl rfl
    have hR7 := HR2.out.below hpb (by omega)
    have c7 : (W.putObj D (.deferred none)).cell? ⟨w.heap.size + 1 + 1 + 1, 0, none⟩ = some (.bool true) := hR7.cell 0
    refine ⟨by simp, .inl ⟨_, _, rfl, run_takeDeferred HD.out.2, ?_⟩⟩
    refine ⟨.bool true, ?_, rfl, HW2.out.trans (hpb.mono (by omega))⟩
    simp [results, Try.f6, go_sem, c7]
end Go.Proofs.Ytbjggiihbdhmbaa
