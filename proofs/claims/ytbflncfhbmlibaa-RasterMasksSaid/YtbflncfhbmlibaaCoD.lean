/-
  Layer 22: the pieces of a line, gone over by an iterator.
-/
import Derived.Test.YtbflncfhbmlibaaGiv
import Derived.Test.YtbflncfhbmlibaaCoC
import Derived.Test.YtbflncfhbmlibaaTailIn
import Derived.Test.YtbflncfhbmlibaaBs
import Derived.Sort.LoopGhostIn
import Derived.Sort.CutIn

namespace Go.Proofs.Ytbflncfhbmlibaa

open Go.RowKit Go.Shelf

/-- What a round leaves of what lay in cells: all but some blocks. -/
structure KeepF (F : Nat → Prop) (A B : World) : Prop where
  size : A.heap.size ≤ B.heap.size
  cells : ∀ (k : Nat) (t : TypeId) (cs : List Value), ¬ F k → Blk A k t cs → Blk B k t cs

section

variable {F : Nat → Prop} {A B C : World}

theorem KeepF.refl (A : World) : KeepF F A A := ⟨Nat.le_refl _, fun _ _ _ _ h => h⟩

theorem KeepF.trans (h : KeepF F A B) (k : KeepF F B C) : KeepF F A C := ⟨Nat.le_trans h.size k.size, fun i t cs hF hb => k.cells i t cs hF (h.cells i t cs hF hb)⟩

theorem KeepF.of_below (h : Below A.heap.size A B) : KeepF F A B := ⟨h.size, fun _ _ _ _ hb => hb.keepB h⟩

theorem KeepF.put (W : World) (l : Nat) (o o' : Obj) (h : W.heap[l]? = some o) (h1 : o.isCells = false) : KeepF F W (W.putObj l o') := by
  refine ⟨by simp, fun k t cs _ hb => ?_⟩
  have hne : k ≠ l := fun e => by
    subst e
    unfold Blk at hb
    rw [h] at hb
    injection hb with hb
    subst hb
    cases h1
  exact (World.putObj_heap_other hne).trans hb

theorem KeepF.set {p : Addr} (h : KeepF F A B) (hF : F p.block) (v : Value) : KeepF F A (B.setCell p v) :=
  ⟨Nat.le_trans h.size (by simp), fun k t cs hk hb => (h.cells k t cs hk hb).far (fun e => hk (by rw [e]; exact hF)) v⟩

end

def pcV (p : Pc) : Array Value := #[.int .i64 p.row, .agg #[.int .i64 p.A.1, .int .i64 p.A.2, .int .i64 p.B.1, .int .i64 p.B.2]]

theorem covRows_any (a d : Dt) (w : World) : Calls Try.prog 92 #[.agg #[.int .i64 a.1, .int .i64 a.2], .agg #[.int .i64 d.1, .int .i64 d.2]] w fun e w' =>
    e = .returned (.func (.func 100) #[] #[.pointer (some ⟨w.heap.size, 0, none⟩), .pointer (some ⟨w.heap.size + 1, 0, none⟩)]) ∧ (w.alloc (.cells #[.int .i64 a.1, .int .i64 a.2] 37)).alloc (.cells #[.int .i64 d.1, .int .i64 d.2] 37) = w' := by
  go_enter Try.func92, Try.ntmps92
  go_wp2
  go_ret
  exact ⟨rfl, rfl⟩

attribute [local go_sem] Oper.semAt_some

theorem dotB_true {d : Dt} : dotB d = true ↔ (-1048576 ≤ d.1 ∧ d.1 ≤ 1048576) ∧ (-1048576 ≤ d.2 ∧ d.2 ≤ 1048576) := by
  unfold dotB
  rw [Bool.and_eq_true, withinB_true, withinB_true]

theorem dn_fit {a d : Dt} (ha : dotB a = true) (hd : dotB d = true) : dotB (dnA a d) = true ∧ dotB (dnB a d) = true := by
  unfold dnA dnB
  split <;> exact ⟨by assumption, by assumption⟩

theorem onWay_fit {a d p : Dt} (ha : dotB a = true) (hd : dotB d = true) (h : onWay a d p) : dotB p = true := by
  rw [dotB_true] at *
  unfold onWay btw at h
  omega

/-- The iterator's own: where it is on the way. -/
def RowI (J : List Pc → World → Prop) (N b4 b5 : Nat) (A D : Dt) (r : Nat) (s7 : Value) (wr : World) : Prop :=
  ∃ (last : Dt) (b7 : Nat) (pre : List Pc), s7 = .pointer (some ⟨b7, 0, none⟩) ∧ (D.2 - last.2).toNat = r ∧ onWay A D last ∧ pre ++ rowsR A D last = rowsR A D A ∧ J pre wr ∧
    Blk wr b4 37 [.int .i64 A.1, .int .i64 A.2] ∧ Blk wr b5 37 [.int .i64 D.1, .int .i64 D.2] ∧ Blk wr b7 37 [.int .i64 last.1, .int .i64 last.2] ∧ N ≤ b7 ∧ N ≤ wr.heap.size ∧ b5 < b7

set_option maxRecDepth 20000 in
set_option maxHeartbeats 2000000 in
theorem rows_gives {u : World} {a d : Dt} (n ba bd : Nat) (ha : Blk u ba 37 [.int .i64 a.1, .int .i64 a.2]) (hd : Blk u bd 37 [.int .i64 d.1, .int .i64 d.2]) (fa : dotB a = true) (fd : dotB d = true)
    {Kp : World → World → Prop} (hKp : ∀ {A B : World}, Kp A B → A.heap.size ≤ B.heap.size ∧ ∀ k t cs, u.heap.size ≤ k → Blk A k t cs → Blk B k t cs) :
    GivesB n Try.prog 100 #[.pointer (some ⟨ba, 0, none⟩), .pointer (some ⟨bd, 0, none⟩)] pcV Kp (fun pre x => pre ++ [x] <+: rowsR (dnA a d) (dnB a d) (dnA a d)) (fun xs => xs = rowsR (dnA a d) (dnB a d) (dnA a d)) (fun _ => True) u := by
  intro l J Jx W hW hJ hJx hY h0
  have ha' := ha.keepB hW
  have hd' := hd.keepB hW
  have a0 : W.cell? ⟨ba, 0, none⟩ = some (.int .i64 a.1) := ha'.cell 0
  have a1 : W.cell? ⟨ba, 1, none⟩ = some (.int .i64 a.2) := ha'.cell 1
  have d0 : W.cell? ⟨bd, 0, none⟩ = some (.int .i64 d.1) := hd'.cell 0
  have d1 : W.cell? ⟨bd, 1, none⟩ = some (.int .i64 d.2) := hd'.cell 1
  have al := ha'.lt
  have dl := hd'.lt
  have hma := fun w => mayDot_any a w
  have hmd := fun w => mayDot_any d w
  rw [fa] at hma
  rw [fd] at hmd
  have HMA := Lib.hid hma
  have HMD := Lib.hid hmd
  have HDN := Lib.hid (fun w => down_any a d w)
  have HJ := Lib.hid hJ
  have HY := Lib.hid hY
  have H0 := Lib.hid h0
  have HF := Lib.hid (dn_fit fa fd)
  have HLE := Lib.hid (dn_le a d)
  have hus := hW.size
  clear ha hd hJ hJx hY h0 ha' hd' hma hmd fa fd hW
  refine callsIn_of_wp Try.func100 rfl trivial ?_ rfl
  simp only [Try.ntmps100, List.size_toArray, List.length_cons, List.length_nil, Nat.reduceAdd, Nat.reduceSub, Array.replicate_succ, Array.replicate_zero, List.push_toArray, List.append_toArray, List.nil_append, List.cons_append]
  gi_wp2_with (first
    | (refine ⟨trivial, fun he => (by cases he), ?_⟩; (with_reducible refine (callsIn_wide.2 (HMA.out _)).mono ?_); rintro e w1 ⟨rfl, hb1⟩; obtain ⟨hc1, hf1, hz1⟩ := bcell hb1; (try simp at hz1); have HB1 := Lib.hid hb1; clear hb1)
    | (refine ⟨trivial, fun he => (by cases he), ?_⟩; (with_reducible refine (callsIn_wide.2 (HMD.out _)).mono ?_); rintro e w2 ⟨rfl, hb2⟩; obtain ⟨hc2, hf2, hz2⟩ := bcell hb2; (try simp at hz2); have HB2 := Lib.hid hb2; clear hb2)
    | (refine ⟨trivial, fun he => (by cases he), ?_⟩; (with_reducible refine (callsIn_wide.2 (HDN.out _)).mono ?_); rintro e w3 ⟨rfl, hb3⟩; obtain ⟨hc3, hf3, hz3⟩ := bcell hb3; (try simp at hz3); have HB3 := Lib.hid hb3; clear hb3))
  have HFA := Lib.hid HF.out.1
  have HFB := Lib.hid HF.out.2
  generalize hA : dnA a d = A at *
  generalize hD : dnB a d = D at *
  generalize dnS a d = sg at *
  obtain ⟨A1, A2⟩ := A
  obtain ⟨D1, D2⟩ := D
  have HAA := Lib.hid hA
  have HDD := Lib.hid hD
  clear hA hD
  have hN : W.heap.size ≤ w3.heap.size := by omega
  have hB3 : Below W.heap.size W w3 := HB1.out.trans ((HB2.out.mono (by omega)).trans (HB3.out.mono (by omega)))
  have hle : A2 ≤ D2 := HLE.out
  have hst : RowI J W.heap.size w3.heap.size (w3.heap.size + 1) (A1, A2) (D1, D2) (D2 - A2).toNat (.pointer (some ⟨w3.heap.size + 1 + 1, 0, none⟩)) (((w3.alloc (.cells #[.int .i64 A1, .int .i64 A2] 37)).alloc (.cells #[.int .i64 D1, .int .i64 D2] 37)).alloc (.cells #[.int .i64 A1, .int .i64 A2] 37)) := by
    refine ⟨(A1, A2), _, [], rfl, rfl, onWay_start hle, rfl, ?_, ?_, ?_, ?_, by omega, by simp; omega, by omega⟩
    · exact HJ.out _ _ _ H0.out (hB3.trans ((bel_alloc (bel_alloc (bel_alloc bel_refl))).below.mono hN))
    · exact ((Blk.newAt _ _ [_, _] rfl).alloc _).alloc _
    · exact (Blk.newAt _ _ [_, _] (by simp)).alloc _
    · exact Blk.newAt _ _ [_, _] (by simp)
  have HST := Lib.hid hst
  clear hst hc1 hc2 hc3 hf1 hf2 hf3 HB1 HB2 HB3 HDN HMA HMD H0 hB3
  gi_loopg [7] ((D2 - A2).toNat) (fun r s7 wr => RowI J W.heap.size w3.heap.size (w3.heap.size + 1) (A1, A2) (D1, D2) r s7 wr)
  case atStart => exact HST.out
  case round =>
    obtain ⟨⟨l1, l2⟩, b7, pre, rfl, hr, hway, hpre, hJ1, h4, h5, h7, hN7, hNr, h57⟩ := hrel
    dsimp only at hr h4 h5 h7
    have hfl := dotB_true.1 (onWay_fit HFA.out HFB.out hway)
    have hfa := dotB_true.1 HFA.out
    have hfd := dotB_true.1 HFB.out
    dsimp only at hfl hfa hfd
    obtain ⟨⟨x1, x2⟩, x3, x4⟩ := hfl
    obtain ⟨⟨y1, y2⟩, y3, y4⟩ := hfa
    obtain ⟨⟨z1, z2⟩, z3, z4⟩ := hfd
    have c40 : wr.cell? ⟨w3.heap.size, 0, none⟩ = some (.int .i64 A1) := h4.cell 0
    have c41 : wr.cell? ⟨w3.heap.size, 1, none⟩ = some (.int .i64 A2) := h4.cell 1
    have c50 : wr.cell? ⟨w3.heap.size + 1, 0, none⟩ = some (.int .i64 D1) := h5.cell 0
    have c51 : wr.cell? ⟨w3.heap.size + 1, 1, none⟩ = some (.int .i64 D2) := h5.cell 1
    have c70 : wr.cell? ⟨b7, 0, none⟩ = some (.int .i64 l1) := h7.cell 0
    have c71 : wr.cell? ⟨b7, 1, none⟩ = some (.int .i64 l2) := h7.cell 1
    have l4 := h4.lt
    have l5 := h5.lt
    have l7 := h7.lt
    by_cases hlt : l2 < D2
    · have hstep := rowsR_step (a := (A1, A2)) (d := (D1, D2)) (last := (l1, l2)) hlt
      have hnw := nextD_way hway (show (l1, l2).2 < (D1, D2).2 from hlt)
      have hnu := nextD_up (a := (A1, A2)) (d := (D1, D2)) (last := (l1, l2)) hlt
      have hfn := dotB_true.1 (onWay_fit HFA.out HFB.out hnw)
      have hA2 : A2 ≤ l2 := hway.1
      obtain ⟨q, hq⟩ : ∃ q, l2 / 64 = q := ⟨_, rfl⟩
      have hq1 : -16384 ≤ q := by omega
      have hq2 : q ≤ 16384 := by omega
      have KF := Floor26_any l2
      rw [hq] at KF
      have HKF := Lib.hid KF
      have hnd : nextD (A1, A2) (D1, D2) (l1, l2) = if (q + 1) * 64 < D2 then (A1 + near ((D1 - A1) * ((q + 1) * 64 - A2)) (D2 - A2), (q + 1) * 64) else (D1, D2) := by rw [← hq, Int.mul_comm (l2 / 64 + 1) 64]; rfl
      have HND := Lib.hid hnd
      have HST := Lib.hid hstep
      have HPR := Lib.hid hpre
      have HJ1 := Lib.hid hJ1
      have H4 := Lib.hid h4
      have H5 := Lib.hid h5
      have H7 := Lib.hid h7
      have HWY := Lib.hid hnw
      have HNU := Lib.hid hnu
      have HR := Lib.hid hr
      have HQ := Lib.hid hq
      clear KF hnd hstep hpre hJ1 h4 h5 h7 hway hnw hnu hr hq
      by_cases hy' : (q + 1) * 64 < D2
      · have hn1 := HND.out
        rw [if_pos hy'] at hn1
        rw [hn1] at hfn
        dsimp only at hfn
        obtain ⟨nr, hnr⟩ : ∃ nr, near ((D1 - A1) * ((q + 1) * 64 - A2)) (D2 - A2) = nr := ⟨_, rfl⟩
        rw [hnr] at hfn hn1
        have KA := fun w => along_any (w := w) (D1 - A1) ((q + 1) * 64 - A2) (D2 - A2) (by omega) (by omega) (by omega) (by omega) (by omega) (by omega)
        rw [hnr] at KA
        have HKA := Lib.hid KA
        obtain ⟨⟨hf1, hf2⟩, hf3, hf4⟩ := hfn
        have s1 : IntKind.i64.wrap (D1 - A1) = D1 - A1 := IntWalk.i64_in _ (by omega)
        have s2 : IntKind.i64.wrap ((q + 1) * 64 - A2) = (q + 1) * 64 - A2 := IntWalk.i64_in _ (by omega)
        have s3 : IntKind.i64.wrap (D2 - A2) = D2 - A2 := IntWalk.i64_in _ (by omega)
        have s4 : IntKind.i64.wrap (A1 + nr) = A1 + nr := IntWalk.i64_in _ (by omega)
        have HN1 := Lib.hid hn1
        have HS := Lib.hid (And.intro s1 (And.intro s2 (And.intro s3 s4)))
        clear KA hnr hn1 HND s1 s2 s3 s4
        gi_upto_region 8 with (first | (refine ⟨trivial, fun he => (by cases he), ?_⟩; (with_reducible refine (callsIn_wide.2 (HKF.out _)).mono ?_); rintro e w4 ⟨rfl, rfl⟩))
        have hal := (bel_alloc (o := .cells #[.int .i64 D1, .int .i64 D2] 37) (bel_refl (a := wr))).below
        have h9 : Blk (wr.alloc (.cells #[.int .i64 D1, .int .i64 D2] 37)) wr.heap.size 37 [.int .i64 D1, .int .i64 D2] := Blk.newAt _ _ [_, _] rfl
        have hza : (wr.alloc (.cells #[.int .i64 D1, .int .i64 D2] 37)).heap.size = wr.heap.size + 1 := by simp
        generalize wr.alloc (.cells #[.int .i64 D1, .int .i64 D2] 37) = wa at hal h9 hza ⊢
        have e40 : wa.cell? ⟨w3.heap.size, 0, none⟩ = some (.int .i64 A1) := (hal.cell (p := ⟨_, _, none⟩) l4).trans c40
        have e41 : wa.cell? ⟨w3.heap.size, 1, none⟩ = some (.int .i64 A2) := (hal.cell (p := ⟨_, _, none⟩) l4).trans c41
        have e50 : wa.cell? ⟨w3.heap.size + 1, 0, none⟩ = some (.int .i64 D1) := (hal.cell (p := ⟨_, _, none⟩) l5).trans c50
        have e51 : wa.cell? ⟨w3.heap.size + 1, 1, none⟩ = some (.int .i64 D2) := (hal.cell (p := ⟨_, _, none⟩) l5).trans c51
        have e90 : wa.cell? ⟨wr.heap.size, 0, none⟩ = some (.int .i64 D1) := h9.cell 0
        have e91 : wa.cell? ⟨wr.heap.size, 1, none⟩ = some (.int .i64 D2) := h9.cell 1
        have f90 := h9.frozen 0
        have f91 := h9.frozen 1
        have m4 : w3.heap.size < wa.heap.size := by omega
        have m5 : w3.heap.size + 1 < wa.heap.size := by omega
        have m9 : wr.heap.size < wa.heap.size := by omega
        obtain ⟨s1, s2, s3, s4⟩ := HS.out
        have H9 := Lib.hid h9
        have HAL := Lib.hid hal
        clear h9 hal hza c40 c41 c50 c51 c70 c71
        refine wpIn_region_bw_tail 20 free_wide (by kernel_rfl) (by kernel_rfl) (by kernel_rfl) ?_
        simp only [List.take_succ_cons, List.take_zero, List.drop_succ_cons, List.drop_zero]
        repeat (go_big_quiet_step ((go_at_call 102; exact Calls.bw_of (HKA.out _))))
        refine wpQuiet_nil ?_
        rintro _ ⟨u, rfl⟩
        have hbu := u.prop
        have hzu := u.prop.size
        try simp at hzu
        have o9 := H9.out.keepB hbu
        have o90 : u.val.cell? ⟨wr.heap.size, 0, none⟩ = some (.int .i64 D1) := o9.cell 0
        have o91 : u.val.cell? ⟨wr.heap.size, 1, none⟩ = some (.int .i64 D2) := o9.cell 1
        have p90 := o9.frozen 0
        have p91 := o9.frozen 1
        have o9l := o9.lt
        have hX9 := (o9.set 0 (.int .i64 (A1 + nr))).set 1 (.int .i64 ((q + 1) * 64))
        have hWX : Below wr.heap.size wr ((u.val.setCell ⟨wr.heap.size, 0, none⟩ (.int .i64 (A1 + nr))).setCell ⟨wr.heap.size, 1, none⟩ (.int .i64 ((q + 1) * 64))) :=
          ((HAL.out.trans (hbu.mono HAL.out.size)).setCell (Nat.le_refl _) _).setCell (Nat.le_refl _) _
        have H9X := Lib.hid hX9
        have HWX := Lib.hid hWX
        clear hbu hzu o9 hX9 hWX e40 e41 e50 e51 e90 e91 f90 f91 H9 HAL
        gi_upto_region 9 with (fail)
        generalize ((u.val.setCell _ _).setCell _ _) = WX at H9X HWX ⊢
        clear o90 o91 p90 p91 o9l
        dsimp only [List.set_cons_zero, List.set_cons_succ] at H9X
        have H7X := Lib.hid (H7.out.keepB HWX.out)
        have HBW := Lib.hid (HWX.out.mono hNr)
        have x70 : WX.cell? ⟨b7, 0, none⟩ = some (.int .i64 l1) := H7X.out.cell 0
        have x71 : WX.cell? ⟨b7, 1, none⟩ = some (.int .i64 l2) := H7X.out.cell 1
        have x90 : WX.cell? ⟨wr.heap.size, 0, none⟩ = some (.int .i64 (A1 + nr)) := H9X.out.cell 0
        have x91 : WX.cell? ⟨wr.heap.size, 1, none⟩ = some (.int .i64 ((q + 1) * 64)) := H9X.out.cell 1
        have x7l := H7X.out.lt
        have x9l := H9X.out.lt
        have hpx : pre ++ [⟨q, (l1, l2), ((A1 + nr), ((q + 1) * 64))⟩] ++ rowsR (A1, A2) (D1, D2) ((A1 + nr), ((q + 1) * 64)) = rowsR (A1, A2) (D1, D2) (A1, A2) := by
          have := HPR.out
          rw [HST.out, HN1.out, HQ.out] at this
          rw [← this]
          simp
        obtain ⟨fn, tmps, assign, body, hy, hR⟩ := HY.out pre ⟨q, (l1, l2), ((A1 + nr), ((q + 1) * 64))⟩ WX (by have := HWX.out.size; omega) (HJ.out _ _ _ HJ1.out HBW.out) ⟨_, hpx⟩
        have HRY := Lib.hid hR
        have HPX := Lib.hid hpx
        dsimp only [pcV] at hy
        clear hR hpx
        gi_wp2
        refine ⟨fun he => (by cases he), HRY.out.mono ?_⟩
        rintro e W4 (⟨rfl, hJ4, hk4⟩ | ⟨rfl, hJx4⟩)
        · obtain ⟨hz4, hk4⟩ := hKp hk4
          have g4 := hk4 _ _ _ (by omega) (H4.out.keepB HWX.out)
          have g5 := hk4 _ _ _ (by omega) (H5.out.keepB HWX.out)
          have g7 := hk4 _ _ _ (by omega) H7X.out
          have g9 := hk4 _ _ _ (by omega) H9X.out
          have hz5 := HWX.out.size
          have y70 : W4.cell? ⟨b7, 0, none⟩ = some (.int .i64 l1) := g7.cell 0
          have y71 : W4.cell? ⟨b7, 1, none⟩ = some (.int .i64 l2) := g7.cell 1
          have y90 : W4.cell? ⟨wr.heap.size, 0, none⟩ = some (.int .i64 (A1 + nr)) := g9.cell 0
          have y91 : W4.cell? ⟨wr.heap.size, 1, none⟩ = some (.int .i64 ((q + 1) * 64)) := g9.cell 1
          have f70 := g7.frozen 0
          have f71 := g7.frozen 1
          have y7l := g7.lt
          have y9l := g9.lt
          have hne4 : w3.heap.size ≠ b7 := by omega
          have hne5 : w3.heap.size + 1 ≠ b7 := by omega
          have hfin : RowI J W.heap.size w3.heap.size (w3.heap.size + 1) (A1, A2) (D1, D2) (D2 - ((q + 1) * 64)).toNat (.pointer (some ⟨W4.heap.size, 0, none⟩)) (((W4.setCell ⟨b7, 0, none⟩ (.int .i64 (A1 + nr))).setCell ⟨b7, 1, none⟩ (.int .i64 ((q + 1) * 64))).alloc (.cells #[.int .i64 (A1 + nr), .int .i64 ((q + 1) * 64)] 37)) := by
            refine ⟨((A1 + nr), ((q + 1) * 64)), _, _, rfl, rfl, (by have := HWY.out; rw [HN1.out] at this; exact this), HPX.out, ?_, ?_, ?_, ?_, by omega, by simp; omega, by omega⟩
            · refine HJ.out _ _ _ hJ4 (((((Below.refl _ W4).setCell ?_ _).setCell ?_ _).alloc ?_ _)) <;> simp <;> omega
            · exact ((g4.far hne4 _).far hne4 _).alloc _
            · exact ((g5.far hne5 _).far hne5 _).alloc _
            · exact Blk.newAt _ _ [_, _] (by simp)
          have HFI := Lib.hid hfin
          have HMS : Hid ((D2 - ((q + 1) * 64)).toNat < gk) := Lib.hid (by
            have h1 := HNU.out
            rw [HN1.out] at h1
            have h2 := HR.out
            dsimp only at h1
            omega)
          clear g4 g5 g7 g9 hJ4 hk4 hfin hy x70 x71 x90 x91
          gi_wp2
          gi_roundg ((D2 - ((q + 1) * 64)).toNat)
          case rel => exact HFI.out
          case measure => exact HMS.out
        · have HJ4 := Lib.hid hJx4
          clear hJx4 hy
          gi_wp2
          refine bodyPost_ret (results_none rfl _ _ _) rfl ?_
          exact ⟨⟨_, rfl⟩, .inr ⟨_, trivial, HJ4.out⟩⟩
      · have hn1 := HND.out
        rw [if_neg (by omega)] at hn1
        have HN1 := Lib.hid hn1
        have H9X : Hid (Blk (wr.alloc (.cells #[.int .i64 D1, .int .i64 D2] 37)) wr.heap.size 37 [.int .i64 D1, .int .i64 D2]) := Lib.hid (Blk.newAt _ _ [_, _] rfl)
        have HWX : Hid (Below wr.heap.size wr (wr.alloc (.cells #[.int .i64 D1, .int .i64 D2] 37))) := Lib.hid (bel_alloc bel_refl).below
        clear hn1 HND hfn
        gi_upto_region 9 with (first | (refine ⟨trivial, fun he => (by cases he), ?_⟩; (with_reducible refine (callsIn_wide.2 (HKF.out _)).mono ?_); rintro e w4 ⟨rfl, rfl⟩))
        generalize wr.alloc (.cells #[.int .i64 D1, .int .i64 D2] 37) = WX at H9X HWX ⊢
        clear c40 c41 c50 c51 c70 c71
        have H7X := Lib.hid (H7.out.keepB HWX.out)
        have HBW := Lib.hid (HWX.out.mono hNr)
        have x70 : WX.cell? ⟨b7, 0, none⟩ = some (.int .i64 l1) := H7X.out.cell 0
        have x71 : WX.cell? ⟨b7, 1, none⟩ = some (.int .i64 l2) := H7X.out.cell 1
        have x90 : WX.cell? ⟨wr.heap.size, 0, none⟩ = some (.int .i64 D1) := H9X.out.cell 0
        have x91 : WX.cell? ⟨wr.heap.size, 1, none⟩ = some (.int .i64 D2) := H9X.out.cell 1
        have x7l := H7X.out.lt
        have x9l := H9X.out.lt
        have hpx : pre ++ [⟨q, (l1, l2), (D1, D2)⟩] ++ rowsR (A1, A2) (D1, D2) (D1, D2) = rowsR (A1, A2) (D1, D2) (A1, A2) := by
          have := HPR.out
          rw [HST.out, HN1.out, HQ.out] at this
          rw [← this]
          simp
        obtain ⟨fn, tmps, assign, body, hy, hR⟩ := HY.out pre ⟨q, (l1, l2), (D1, D2)⟩ WX (by have := HWX.out.size; omega) (HJ.out _ _ _ HJ1.out HBW.out) ⟨_, hpx⟩
        have HRY := Lib.hid hR
        have HPX := Lib.hid hpx
        dsimp only [pcV] at hy
        clear hR hpx
        gi_wp2
        refine ⟨fun he => (by cases he), HRY.out.mono ?_⟩
        rintro e W4 (⟨rfl, hJ4, hk4⟩ | ⟨rfl, hJx4⟩)
        · obtain ⟨hz4, hk4⟩ := hKp hk4
          have g4 := hk4 _ _ _ (by omega) (H4.out.keepB HWX.out)
          have g5 := hk4 _ _ _ (by omega) (H5.out.keepB HWX.out)
          have g7 := hk4 _ _ _ (by omega) H7X.out
          have g9 := hk4 _ _ _ (by omega) H9X.out
          have hz5 := HWX.out.size
          have y70 : W4.cell? ⟨b7, 0, none⟩ = some (.int .i64 l1) := g7.cell 0
          have y71 : W4.cell? ⟨b7, 1, none⟩ = some (.int .i64 l2) := g7.cell 1
          have y90 : W4.cell? ⟨wr.heap.size, 0, none⟩ = some (.int .i64 D1) := g9.cell 0
          have y91 : W4.cell? ⟨wr.heap.size, 1, none⟩ = some (.int .i64 D2) := g9.cell 1
          have f70 := g7.frozen 0
          have f71 := g7.frozen 1
          have y7l := g7.lt
          have y9l := g9.lt
          have hne4 : w3.heap.size ≠ b7 := by omega
          have hne5 : w3.heap.size + 1 ≠ b7 := by omega
          have hfin : RowI J W.heap.size w3.heap.size (w3.heap.size + 1) (A1, A2) (D1, D2) (D2 - D2).toNat (.pointer (some ⟨W4.heap.size, 0, none⟩)) (((W4.setCell ⟨b7, 0, none⟩ (.int .i64 D1)).setCell ⟨b7, 1, none⟩ (.int .i64 D2)).alloc (.cells #[.int .i64 D1, .int .i64 D2] 37)) := by
            refine ⟨(D1, D2), _, _, rfl, rfl, (by have := HWY.out; rw [HN1.out] at this; exact this), HPX.out, ?_, ?_, ?_, ?_, by omega, by simp; omega, by omega⟩
            · refine HJ.out _ _ _ hJ4 (((((Below.refl _ W4).setCell ?_ _).setCell ?_ _).alloc ?_ _)) <;> simp <;> omega
            · exact ((g4.far hne4 _).far hne4 _).alloc _
            · exact ((g5.far hne5 _).far hne5 _).alloc _
            · exact Blk.newAt _ _ [_, _] (by simp)
          have HFI := Lib.hid hfin
          have HMS : Hid ((D2 - D2).toNat < gk) := Lib.hid (by
            have h1 := HNU.out
            rw [HN1.out] at h1
            have h2 := HR.out
            dsimp only at h1
            omega)
          clear g4 g5 g7 g9 hJ4 hk4 hfin hy x70 x71 x90 x91
          gi_wp2
          gi_roundg ((D2 - D2).toNat)
          case rel => exact HFI.out
          case measure => exact HMS.out
        · have HJ4 := Lib.hid hJx4
          clear hJx4 hy
          gi_wp2
          refine bodyPost_ret (results_none rfl _ _ _) rfl ?_
          exact ⟨⟨_, rfl⟩, .inr ⟨_, trivial, HJ4.out⟩⟩
    · have hend : rowsR (A1, A2) (D1, D2) (l1, l2) = [] := rowsR_end (by show D2 ≤ l2; omega)
      rw [hend, List.append_nil] at hpre
      subst hpre
      have HJ1 := Lib.hid hJ1
      clear hJ1 h4 h5 h7 hway hend HY
      gi_wp2
      with_reducible refine bodyPost_end (v := .tuple #[]) (by simp [results, Try.results100]) rfl ?_
      exact ⟨⟨_, rfl⟩, .inl (by rw [HAA.out, HDD.out]; exact HJ1.out)⟩

end Go.Proofs.Ytbflncfhbmlibaa
