/-
  Layer 22: the document: a line that goes down; its pieces.
-/
import Derived.Test.YtbflncfhbmlibaaCoD
import Derived.Test.YtbflncfhbmlibaaAffF
import Derived.Test.YtbflncfhbmlibaaRowsAt

namespace Go.Proofs.Ytbflncfhbmlibaa

open Go.RowKit Go.Shelf

theorem rDown_any (a d : Dt) (w : World) : Calls Try.prog 85 #[.agg #[.int .i64 a.1, .int .i64 a.2], .agg #[.int .i64 d.1, .int .i64 d.2]] w fun e w' =>
    e = .returned (.tuple #[.agg #[.int .i64 (dnA a d).1, .int .i64 (dnA a d).2], .agg #[.int .i64 (dnB a d).1, .int .i64 (dnB a d).2], .int .i64 (dnS a d)]) ∧ Below w.heap.size w w' := by
  obtain ⟨a1, a2⟩ := a
  obtain ⟨d1, d2⟩ := d
  by_cases h : d2 < a2
  · rw [show dnA (a1, a2) (d1, d2) = (d1, d2) from if_pos h, show dnB (a1, a2) (d1, d2) = (a1, a2) from if_pos h, show dnS (a1, a2) (d1, d2) = -1 from if_pos h]
    dsimp only
    go_enter Try.func85, Try.ntmps85
    go_wp2
    go_region
    all_goals
      go_wp2
      refine bodyPost_ret (v := .tuple #[.agg #[.int .i64 d1, .int .i64 d2], .agg #[.int .i64 a1, .int .i64 a2], .int .i64 (-1)]) (by simp [results, Try.results85, go_sem]) rfl ⟨rfl, Bel.below ?_⟩
      repeat (first | with_reducible exact bel_refl | with_reducible apply bel_alloc | with_reducible apply bel_drewN | with_reducible apply bel_drew | (with_reducible refine bel_set ?_ ?_; rotate_left; · first | (simp; done) | (simp; omega) | omega) | with_reducible refine bel_call (by assumption) ?_)
  · rw [show dnA (a1, a2) (d1, d2) = (a1, a2) from if_neg h, show dnB (a1, a2) (d1, d2) = (d1, d2) from if_neg h, show dnS (a1, a2) (d1, d2) = 1 from if_neg h]
    dsimp only
    go_enter Try.func85, Try.ntmps85
    go_wp2
    go_region
    all_goals
      go_wp2
      refine bodyPost_ret (v := .tuple #[.agg #[.int .i64 a1, .int .i64 a2], .agg #[.int .i64 d1, .int .i64 d2], .int .i64 1]) (by simp [results, Try.results85, go_sem]) rfl ⟨rfl, Bel.below ?_⟩
      repeat (first | with_reducible exact bel_refl | with_reducible apply bel_alloc | with_reducible apply bel_drewN | with_reducible apply bel_drew | (with_reducible refine bel_set ?_ ?_; rotate_left; · first | (simp; done) | (simp; omega) | omega) | with_reducible refine bel_call (by assumption) ?_)

theorem own_slice {w : World} {B : Nat} {e : TypeId} {v : Value} {n : Nat} {xs : List Value} {size : Nat} (h : w.ownsRow B e size v n xs) : ∃ A c, v = .slice A n c := by
  obtain ⟨_, ⟨rfl, rfl⟩ | ⟨g, cap, cur, rfl, _⟩⟩ := h
  · exact ⟨none, 0, rfl⟩
  · exact ⟨_, _, rfl⟩

theorem own_keep {w w' : World} {B : Nat} {e : TypeId} {size : Nat} {v : Value} {n : Nat} {xs : List Value} (h : w.ownsRow B e size v n xs) (hs : ∀ k, v.ownBlock = some k → w'.heap[k]? = w.heap[k]?) : w'.ownsRow B e size v n xs := by
  obtain ⟨h1, h2 | ⟨g, cap, cur, h2, h3, h4, h5⟩⟩ := h
  · exact ⟨h1, .inl h2⟩
  · exact ⟨h1, .inr ⟨g, cap, cur, h2, h3, (hs g (by rw [h2]; rfl)).trans h4, h5⟩⟩

theorem own_lt {w : World} {B : Nat} {e : TypeId} {size : Nat} {v : Value} {n : Nat} {xs : List Value} (h : w.ownsRow B e size v n xs) : ∀ k, v.ownBlock = some k → B ≤ k ∧ k < w.heap.size := by
  intro k hk
  obtain ⟨h1, ⟨rfl, _⟩ | ⟨g, cap, cur, rfl, h3, h4, h5⟩⟩ := h
  · cases hk
  · simp only [Value.ownBlock, Option.some.injEq] at hk
    subst hk
    refine ⟨h3, ?_⟩
    rcases Nat.lt_or_ge g w.heap.size with h' | h'
    · exact h'
    · rw [Array.getElem?_eq_none h'] at h4; cases h4

theorem piece_info : (Try.prog.info? 123).map (fun i => (i.zero, i.size, i.bytes)) = some (some (.agg #[.int .i64 0, .int .i64 0, .int .i64 0, .int .i64 0, .int .i64 0]), 5, 40) := by kernel_rfl

def pcC (p : Pc) : List Value := [.int .i64 p.row, .int .i64 p.A.1, .int .i64 p.A.2, .int .i64 p.B.1, .int .i64 p.B.2]

theorem rowsN_len (a d : Dt) : ∀ (n : Nat) (last : Dt), (rowsN a d n last).length ≤ n
  | 0, _ => Nat.le_refl _
  | n + 1, last => by
    unfold rowsN
    split
    · rw [List.length_cons]
      have := rowsN_len a d n (nextD a d last)
      omega
    · exact Nat.zero_le _

def RwI (A D : Dt) (w : World) (r : Nat) (out : Value) (wr : World) : Prop :=
  ∃ (last : Dt) (pre : List Pc), (D.2 - last.2).toNat = r ∧ onWay A D last ∧ pre ++ rowsR A D last = rowsR A D A ∧ wr.ownsRow (w.heap.size + 3) 123 5 out pre.length (pre.flatMap pcC) ∧ Below w.heap.size w wr ∧
    Blk wr w.heap.size 37 [.int .i64 A.1, .int .i64 A.2] ∧ Blk wr (w.heap.size + 1) 37 [.int .i64 D.1, .int .i64 D.2] ∧ Blk wr (w.heap.size + 1 + 1) 37 [.int .i64 last.1, .int .i64 last.2]

def RwR (w : World) (L : List Pc) (e : Ending) (w' : World) : Prop := ∃ A c, e = .returned (.slice A L.length c) ∧ w'.ownsRow (w.heap.size + 3) 123 5 (.slice A L.length c) L.length (L.flatMap pcC) ∧ Below w.heap.size w w'

set_option maxRecDepth 20000 in
set_option maxHeartbeats 2000000 in
theorem rRows_any (a d : Dt) (w : World) (fa : dotB a = true) (fd : dotB d = true) (h : a.2 ≤ d.2) : Calls Try.prog 86 #[.agg #[.int .i64 a.1, .int .i64 a.2], .agg #[.int .i64 d.1, .int .i64 d.2]] w (RwR w (rowsR a d a)) := by
  obtain ⟨i0, hi0, hz0, hz1, hz2⟩ := info_parts piece_info
  obtain ⟨A1, A2⟩ := a
  obtain ⟨D1, D2⟩ := d
  dsimp only at *
  have hst : RwI (A1, A2) (D1, D2) w (D2 - A2).toNat (.slice none 0 0) (((w.alloc (.cells #[.int .i64 A1, .int .i64 A2] 37)).alloc (.cells #[.int .i64 D1, .int .i64 D2] 37)).alloc (.cells #[.int .i64 A1, .int .i64 A2] 37)) := by
    refine ⟨(A1, A2), [], rfl, onWay_start h, rfl, World.ownsRow_nil _ _ _ _, (bel_alloc (bel_alloc (bel_alloc bel_refl))).below, ?_, ?_, ?_⟩
    · exact ((Blk.newAt _ _ [_, _] rfl).alloc _).alloc _
    · exact (Blk.newAt _ _ [_, _] (by simp)).alloc _
    · exact Blk.newAt _ _ [_, _] (by simp)
  have HST := Lib.hid hst
  have HFA := Lib.hid fa
  have HFD := Lib.hid fd
  clear hst fa fd h
  go_enter Try.func86, Try.ntmps86
  go_wp2_with fail
  go_loopg [5] ((D2 - A2).toNat) (fun r out wr => RwI (A1, A2) (D1, D2) w r out wr)
  case atStart => exact HST.out
  case round =>
    obtain ⟨⟨l1, l2⟩, pre, hr, hway, hpre, hown, hbel, hA, hD, hL⟩ := hrel
    dsimp only at hr hA hD hL
    have a0 : wr.cell? ⟨w.heap.size, 0, none⟩ = some (.int .i64 A1) := hA.cell 0
    have a1 : wr.cell? ⟨w.heap.size, 1, none⟩ = some (.int .i64 A2) := hA.cell 1
    have d0 : wr.cell? ⟨w.heap.size + 1, 0, none⟩ = some (.int .i64 D1) := hD.cell 0
    have d1 : wr.cell? ⟨w.heap.size + 1, 1, none⟩ = some (.int .i64 D2) := hD.cell 1
    have l0 : wr.cell? ⟨w.heap.size + 1 + 1, 0, none⟩ = some (.int .i64 l1) := hL.cell 0
    have l1' : wr.cell? ⟨w.heap.size + 1 + 1, 1, none⟩ = some (.int .i64 l2) := hL.cell 1
    have f0 := hL.frozen 0
    have f1 := hL.frozen 1
    have al := hA.lt
    have dl := hD.lt
    have ll := hL.lt
    by_cases hlt : l2 < D2
    · have hfl := dotB_true.1 (onWay_fit HFA.out HFD.out hway)
      have hfa := dotB_true.1 HFA.out
      have hfd := dotB_true.1 HFD.out
      have hstep := rowsR_step (a := (A1, A2)) (d := (D1, D2)) (last := (l1, l2)) hlt
      have hnw := nextD_way hway (show (l1, l2).2 < (D1, D2).2 from hlt)
      have hnu := nextD_up (a := (A1, A2)) (d := (D1, D2)) (last := (l1, l2)) hlt
      have hfn := dotB_true.1 (onWay_fit HFA.out HFD.out hnw)
      have hA2 : A2 ≤ l2 := hway.1
      dsimp only at hfl hfa hfd
      obtain ⟨⟨x1, x2⟩, x3, x4⟩ := hfl
      obtain ⟨⟨y1, y2⟩, y3, y4⟩ := hfa
      obtain ⟨⟨z1, z2⟩, z3, z4⟩ := hfd
      obtain ⟨q, hq⟩ : ∃ q, l2 / 64 = q := ⟨_, rfl⟩
      have hq1 : -16384 ≤ q := by omega
      have hq2 : q ≤ 16384 := by omega
      have KF := fun w => Floor_any l2 64 w (by omega) (by omega) (by omega)
      rw [hq] at KF
      have HKF := Lib.hid KF
      have hnd : nextD (A1, A2) (D1, D2) (l1, l2) = if 64 * (q + 1) < D2 then (A1 + near ((D1 - A1) * (64 * (q + 1) - A2)) (D2 - A2), 64 * (q + 1)) else (D1, D2) := by rw [← hq]; rfl
      have HND := Lib.hid hnd
      have HST2 := Lib.hid hstep
      have HPR := Lib.hid hpre
      have HA := Lib.hid hA
      have HD := Lib.hid hD
      have HL := Lib.hid hL
      have HOW := Lib.hid hown
      have HBE := Lib.hid hbel
      have HWY := Lib.hid hnw
      have HNU := Lib.hid hnu
      have HR := Lib.hid hr
      have HQ := Lib.hid hq
      clear KF hnd hstep hpre hA hD hL hown hbel hway hnw hnu hr hq
      by_cases hy' : 64 * (q + 1) < D2
      · have hn1 := HND.out
        rw [if_pos hy'] at hn1
        rw [hn1] at hfn
        dsimp only at hfn
        obtain ⟨nr, hnr⟩ : ∃ nr, near ((D1 - A1) * (64 * (q + 1) - A2)) (D2 - A2) = nr := ⟨_, rfl⟩
        rw [hnr] at hfn hn1
        obtain ⟨m, hm⟩ : ∃ m, (D1 - A1) * (64 * (q + 1) - A2) = m := ⟨_, rfl⟩
        have hmb := mul_bdd (a := D1 - A1) (b := 64 * (q + 1) - A2) (A := 2097152) (B := 2097152) (by omega) (by omega) (by omega) (by omega)
        rw [hm] at hnr hmb
        have KN := fun w => rNear_any (w := w) m (D2 - A2) (by omega) (by omega) (by omega) (by omega)
        rw [hnr] at KN
        have HKN := Lib.hid KN
        obtain ⟨⟨hf1, hf2⟩, hf3, hf4⟩ := hfn
        have s1 : IntKind.i64.wrap (D1 - A1) = D1 - A1 := IntWalk.i64_in _ (by omega)
        have s2 : IntKind.i64.wrap (64 * (q + 1) - A2) = 64 * (q + 1) - A2 := IntWalk.i64_in _ (by omega)
        have s3 : IntKind.i64.wrap (D2 - A2) = D2 - A2 := IntWalk.i64_in _ (by omega)
        have s4 : IntKind.i64.wrap (A1 + nr) = A1 + nr := IntWalk.i64_in _ (by omega)
        have s5 : IntKind.i64.wrap ((D1 - A1) * (64 * (q + 1) - A2)) = m := by rw [hm]; exact IntWalk.i64_in _ (by omega)
        have HN1 := Lib.hid hn1
        have HS := Lib.hid (And.intro s1 (And.intro s2 (And.intro s3 (And.intro s4 s5))))
        clear KN hnr hn1 HND s1 s2 s3 s4 s5 hm
        go_upto_region 8 with (first | (go_at_call 44; (with_reducible refine (HKF.out _).mono ?_); rintro e w1 ⟨rfl, rfl⟩))
        have hal := (bel_alloc (o := .cells #[.int .i64 D1, .int .i64 D2] 37) (bel_refl (a := wr))).below
        have h9 : Blk (wr.alloc (.cells #[.int .i64 D1, .int .i64 D2] 37)) wr.heap.size 37 [.int .i64 D1, .int .i64 D2] := Blk.newAt _ _ [_, _] rfl
        have hza : (wr.alloc (.cells #[.int .i64 D1, .int .i64 D2] 37)).heap.size = wr.heap.size + 1 := by simp
        generalize wr.alloc (.cells #[.int .i64 D1, .int .i64 D2] 37) = wa at hal h9 hza ⊢
        have e40 : wa.cell? ⟨w.heap.size, 0, none⟩ = some (.int .i64 A1) := (hal.cell (p := ⟨_, _, none⟩) al).trans a0
        have e41 : wa.cell? ⟨w.heap.size, 1, none⟩ = some (.int .i64 A2) := (hal.cell (p := ⟨_, _, none⟩) al).trans a1
        have e50 : wa.cell? ⟨w.heap.size + 1, 0, none⟩ = some (.int .i64 D1) := (hal.cell (p := ⟨_, _, none⟩) dl).trans d0
        have e51 : wa.cell? ⟨w.heap.size + 1, 1, none⟩ = some (.int .i64 D2) := (hal.cell (p := ⟨_, _, none⟩) dl).trans d1
        have m4 : w.heap.size < wa.heap.size := by omega
        have m5 : w.heap.size + 1 < wa.heap.size := by omega
        have m9 : wr.heap.size < wa.heap.size := by omega
        obtain ⟨s1, s2, s3, s4, s5⟩ := HS.out
        have H9 := Lib.hid h9
        have HAL := Lib.hid hal
        clear h9 hal hza a0 a1 d0 d1 l0 l1' f0 f1
        refine wp_region_drew_tail 21 (by kernel_rfl) (by kernel_rfl) ?_
        simp only [List.take_succ_cons, List.take_zero, List.drop_succ_cons, List.drop_zero]
        repeat (go_big_quiet_step ((go_at_call 94; exact Calls.q_left (HKN.out _))))
        refine wpQuiet_nil ?_
        rintro _ ⟨nq, rfl⟩
        have o9 : Blk (wa.drewN nq) wr.heap.size 37 [.int .i64 D1, .int .i64 D2] := H9.out.drewN nq
        have hwd : Below wr.heap.size wr (wa.drewN nq) := below_drewN HAL.out nq
        generalize wa.drewN nq = wd at o9 hwd ⊢
        have o90 : wd.cell? ⟨wr.heap.size, 0, none⟩ = some (.int .i64 D1) := o9.cell 0
        have o91 : wd.cell? ⟨wr.heap.size, 1, none⟩ = some (.int .i64 D2) := o9.cell 1
        have p90 := o9.frozen 0
        have p91 := o9.frozen 1
        have o9l := o9.lt
        have hX9 := (o9.set 0 (.int .i64 (A1 + nr))).set 1 (.int .i64 (64 * (q + 1)))
        have hWX : Below wr.heap.size wr ((wd.setCell ⟨wr.heap.size, 0, none⟩ (.int .i64 (A1 + nr))).setCell ⟨wr.heap.size, 1, none⟩ (.int .i64 (64 * (q + 1)))) := (hwd.setCell (Nat.le_refl _) _).setCell (Nat.le_refl _) _
        have H9X := Lib.hid hX9
        have HWX := Lib.hid hWX
        clear o9 hwd hX9 hWX e40 e41 e50 e51 H9 HAL s1 s2 s3 s4 s5
        go_upto_region 9 with (fail)
        generalize ((wd.setCell _ _).setCell _ _) = WX at H9X HWX ⊢
        clear o90 o91 p90 p91 o9l
        dsimp only [List.set_cons_zero, List.set_cons_succ] at H9X
        have HAX := Lib.hid (HA.out.keepB HWX.out)
        have HDX := Lib.hid (HD.out.keepB HWX.out)
        have HLX := Lib.hid (HL.out.keepB HWX.out)
        have x0 : WX.cell? ⟨w.heap.size + 1 + 1, 0, none⟩ = some (.int .i64 l1) := HLX.out.cell 0
        have x1 : WX.cell? ⟨w.heap.size + 1 + 1, 1, none⟩ = some (.int .i64 l2) := HLX.out.cell 1
        have x2 : WX.cell? ⟨wr.heap.size, 0, none⟩ = some (.int .i64 (A1 + nr)) := H9X.out.cell 0
        have x3 : WX.cell? ⟨wr.heap.size, 1, none⟩ = some (.int .i64 (64 * (q + 1))) := H9X.out.cell 1
        have xl := HLX.out.lt
        have x9 := H9X.out.lt
        have hownX : WX.ownsRow (w.heap.size + 3) 123 5 u5 pre.length (pre.flatMap pcC) := own_keep HOW.out fun k hk => HWX.out.block k (own_lt HOW.out k hk).2
        have hbelX : Bel w.heap.size w WX := ⟨HBE.out.trans (HWX.out.mono HBE.out.size), Nat.le_trans HBE.out.size HWX.out.size⟩
        have hpl : pre.length + 1 ≤ 2097152 := by
          have h1 := congrArg List.length HPR.out
          rw [HST2.out, List.length_append, List.length_cons] at h1
          have h2 := rowsN_len (A1, A2) (D1, D2) (D2 - A2).toNat (A1, A2)
          unfold rowsR at h1
          dsimp only at h1 h2
          omega
        have hown2 := hownX.alloc (.cells #[.int .i64 q, .int .i64 l1, .int .i64 l2, .int .i64 (A1 + nr), .int .i64 (64 * (q + 1))] 123)
        have hrd := reads_new WX [.int .i64 q, .int .i64 l1, .int .i64 l2, .int .i64 (A1 + nr), .int .i64 (64 * (q + 1))] 123 5 1 (by rfl)
        obtain ⟨A0, cc0, rfl⟩ := own_slice hownX
        have HO2 := Lib.hid hown2
        have HRD := Lib.hid hrd
        have HBX := Lib.hid hbelX
        have hz3 : w.heap.size + 3 ≤ WX.heap.size + 1 := by have := HLX.out.lt; omega
        clear hown2 hrd hbelX hownX
        go_upto_region 10 with (first
          | (at_builtin; refine wpList_append_any _ (by rfl) (.tmp 50) (.tmp 55) _ (by rfl) (w.heap.size + 3) 123 i0 _ 5 40 Try.underlying119 hi0 hz0 hz1 hz2 rfl (by omega) _ pre.length _ (by rfl) HO2.out _ _ 1 _ _ (by rfl) HRD.out (by intro u hu; simp at hu; rcases hu with rfl | rfl | rfl | rfl | rfl <;> rfl) (by unfold maxLen; omega) (by omega) (by simpa using hz3) ?_; intro v' w5 hown5 hgrow5 hat5; have HW5 := Lib.hid hown5; have HG5 := Lib.hid hgrow5; clear hown5 hgrow5 hat5))
        have hlt5 := fun k (hk : (Value.slice A0 pre.length cc0).ownBlock = some k) => own_lt HOW.out k hk
        rw [ownBlock_slice] at hlt5
        have hg5 := HG5.out
        try rw [ownBlock_slice] at hg5
        have hza : (WX.alloc (.cells #[.int .i64 q, .int .i64 l1, .int .i64 l2, .int .i64 (A1 + nr), .int .i64 (64 * (q + 1))] 123)).heap.size = WX.heap.size + 1 := by simp
        have hb5 : Below (w.heap.size + 3) (WX.alloc (.cells #[.int .i64 q, .int .i64 l1, .int .i64 l2, .int .i64 (A1 + nr), .int .i64 (64 * (q + 1))] 123)) w5 := (Below.refl _ _).grown hg5 (by omega) (fun k hk => (hlt5 k hk).1)
        have h95 : Blk w5 wr.heap.size 37 [.int .i64 (A1 + nr), .int .i64 (64 * (q + 1))] := (hg5.block wr.heap.size (by omega) (fun e => by have := (hlt5 _ e.symm).2; omega)).trans (H9X.out.alloc _)
        have HL5 := Lib.hid ((HLX.out.alloc (.cells #[.int .i64 q, .int .i64 l1, .int .i64 l2, .int .i64 (A1 + nr), .int .i64 (64 * (q + 1))] 123)).below hb5 (by omega))
        have HA5 := Lib.hid ((HAX.out.alloc (.cells #[.int .i64 q, .int .i64 l1, .int .i64 l2, .int .i64 (A1 + nr), .int .i64 (64 * (q + 1))] 123)).below hb5 (by omega))
        have HD5 := Lib.hid ((HDX.out.alloc (.cells #[.int .i64 q, .int .i64 l1, .int .i64 l2, .int .i64 (A1 + nr), .int .i64 (64 * (q + 1))] 123)).below hb5 (by omega))
        have HB5 : Hid (Below w.heap.size w w5) := Lib.hid (((bel_alloc HBX.out).below).trans (hb5.mono (by omega)))
        have y0' : w5.cell? ⟨wr.heap.size, 0, none⟩ = some (.int .i64 (A1 + nr)) := h95.cell 0
        have y1' : w5.cell? ⟨wr.heap.size, 1, none⟩ = some (.int .i64 (64 * (q + 1))) := h95.cell 1
        have g0 := HL5.out.frozen 0
        have g1 := HL5.out.frozen 1
        have g2 : w5.cell? ⟨w.heap.size + 1 + 1, 0, none⟩ = some (.int .i64 l1) := HL5.out.cell 0
        have g3 : w5.cell? ⟨w.heap.size + 1 + 1, 1, none⟩ = some (.int .i64 l2) := HL5.out.cell 1
        have g4 := HL5.out.lt
        have hne : ¬ wr.heap.size = w.heap.size + 1 + 1 := by omega
        clear hlt5 hg5 hza hb5 h95 HG5 HO2 HRD x0 x1 x2 x3 xl x9
        go_wp2_with fail
        go_roundg ((D2 - (64 * (q + 1))).toNat)
        case rel =>
          have hn := HN1.out
          have hpx : pre ++ [⟨q, (l1, l2), (A1 + nr, 64 * (q + 1))⟩] ++ rowsR (A1, A2) (D1, D2) (A1 + nr, 64 * (q + 1)) = rowsR (A1, A2) (D1, D2) (A1, A2) := by
            have := HPR.out
            rw [HST2.out, hn, HQ.out] at this
            rw [← this]
            simp
          have hwy := HWY.out
          rw [hn] at hwy
          refine ⟨(A1 + nr, 64 * (q + 1)), pre ++ [⟨q, (l1, l2), (A1 + nr, 64 * (q + 1))⟩], rfl, hwy, hpx, ?_, (HB5.out.setCell (by simp; omega) _).setCell (by simp; omega) _, ?_, ?_, ?_⟩
          · rw [List.length_append, List.flatMap_append]
            simp only [List.flatMap_cons, List.flatMap_nil, List.append_nil, pcC]
            exact ownsRow_setCell_below (ownsRow_setCell_below HW5.out (by simp) _) (by simp) _
          · exact (HA5.out.far (by simp; omega) _).far (by simp; omega) _
          · exact (HD5.out.far (by simp) _).far (by simp) _
          · exact (HL5.out.set 0 _).set 1 _
        case measure =>
          have := HNU.out
          rw [HN1.out] at this
          have h1 := HR.out
          dsimp only at this
          omega
      · have hn1 := HND.out
        rw [if_neg hy'] at hn1
        have HN1 := Lib.hid hn1
        clear HND hn1
        go_upto_region 9 with (first | (go_at_call 44; (with_reducible refine (HKF.out _).mono ?_); rintro e w1 ⟨rfl, rfl⟩))
        have H9X : Hid (Blk (wr.alloc (.cells #[.int .i64 D1, .int .i64 D2] 37)) wr.heap.size 37 [.int .i64 D1, .int .i64 D2]) := Lib.hid (Blk.newAt _ _ [_, _] rfl)
        have HWX : Hid (Below wr.heap.size wr (wr.alloc (.cells #[.int .i64 D1, .int .i64 D2] 37))) := Lib.hid (bel_alloc (bel_refl (a := wr))).below
        generalize wr.alloc (.cells #[.int .i64 D1, .int .i64 D2] 37) = WX at H9X HWX ⊢
        clear a0 a1 d0 d1 l0 l1' f0 f1
        have HAX := Lib.hid (HA.out.keepB HWX.out)
        have HDX := Lib.hid (HD.out.keepB HWX.out)
        have HLX := Lib.hid (HL.out.keepB HWX.out)
        have x0 : WX.cell? ⟨w.heap.size + 1 + 1, 0, none⟩ = some (.int .i64 l1) := HLX.out.cell 0
        have x1 : WX.cell? ⟨w.heap.size + 1 + 1, 1, none⟩ = some (.int .i64 l2) := HLX.out.cell 1
        have x2 : WX.cell? ⟨wr.heap.size, 0, none⟩ = some (.int .i64 (D1)) := H9X.out.cell 0
        have x3 : WX.cell? ⟨wr.heap.size, 1, none⟩ = some (.int .i64 (D2)) := H9X.out.cell 1
        have xl := HLX.out.lt
        have x9 := H9X.out.lt
        have hownX : WX.ownsRow (w.heap.size + 3) 123 5 u5 pre.length (pre.flatMap pcC) := own_keep HOW.out fun k hk => HWX.out.block k (own_lt HOW.out k hk).2
        have hbelX : Bel w.heap.size w WX := ⟨HBE.out.trans (HWX.out.mono HBE.out.size), Nat.le_trans HBE.out.size HWX.out.size⟩
        have hpl : pre.length + 1 ≤ 2097152 := by
          have h1 := congrArg List.length HPR.out
          rw [HST2.out, List.length_append, List.length_cons] at h1
          have h2 := rowsN_len (A1, A2) (D1, D2) (D2 - A2).toNat (A1, A2)
          unfold rowsR at h1
          dsimp only at h1 h2
          omega
        have hown2 := hownX.alloc (.cells #[.int .i64 q, .int .i64 l1, .int .i64 l2, .int .i64 (D1), .int .i64 (D2)] 123)
        have hrd := reads_new WX [.int .i64 q, .int .i64 l1, .int .i64 l2, .int .i64 (D1), .int .i64 (D2)] 123 5 1 (by rfl)
        obtain ⟨A0, cc0, rfl⟩ := own_slice hownX
        have HO2 := Lib.hid hown2
        have HRD := Lib.hid hrd
        have HBX := Lib.hid hbelX
        have hz3 : w.heap.size + 3 ≤ WX.heap.size + 1 := by have := HLX.out.lt; omega
        clear hown2 hrd hbelX hownX
        go_upto_region 10 with (first
          | (at_builtin; refine wpList_append_any _ (by rfl) (.tmp 50) (.tmp 55) _ (by rfl) (w.heap.size + 3) 123 i0 _ 5 40 Try.underlying119 hi0 hz0 hz1 hz2 rfl (by omega) _ pre.length _ (by rfl) HO2.out _ _ 1 _ _ (by rfl) HRD.out (by intro u hu; simp at hu; rcases hu with rfl | rfl | rfl | rfl | rfl <;> rfl) (by unfold maxLen; omega) (by omega) (by simpa using hz3) ?_; intro v' w5 hown5 hgrow5 hat5; have HW5 := Lib.hid hown5; have HG5 := Lib.hid hgrow5; clear hown5 hgrow5 hat5))
        have hlt5 := fun k (hk : (Value.slice A0 pre.length cc0).ownBlock = some k) => own_lt HOW.out k hk
        rw [ownBlock_slice] at hlt5
        have hg5 := HG5.out
        try rw [ownBlock_slice] at hg5
        have hza : (WX.alloc (.cells #[.int .i64 q, .int .i64 l1, .int .i64 l2, .int .i64 (D1), .int .i64 (D2)] 123)).heap.size = WX.heap.size + 1 := by simp
        have hb5 : Below (w.heap.size + 3) (WX.alloc (.cells #[.int .i64 q, .int .i64 l1, .int .i64 l2, .int .i64 (D1), .int .i64 (D2)] 123)) w5 := (Below.refl _ _).grown hg5 (by omega) (fun k hk => (hlt5 k hk).1)
        have h95 : Blk w5 wr.heap.size 37 [.int .i64 (D1), .int .i64 (D2)] := (hg5.block wr.heap.size (by omega) (fun e => by have := (hlt5 _ e.symm).2; omega)).trans (H9X.out.alloc _)
        have HL5 := Lib.hid ((HLX.out.alloc (.cells #[.int .i64 q, .int .i64 l1, .int .i64 l2, .int .i64 (D1), .int .i64 (D2)] 123)).below hb5 (by omega))
        have HA5 := Lib.hid ((HAX.out.alloc (.cells #[.int .i64 q, .int .i64 l1, .int .i64 l2, .int .i64 (D1), .int .i64 (D2)] 123)).below hb5 (by omega))
        have HD5 := Lib.hid ((HDX.out.alloc (.cells #[.int .i64 q, .int .i64 l1, .int .i64 l2, .int .i64 (D1), .int .i64 (D2)] 123)).below hb5 (by omega))
        have HB5 : Hid (Below w.heap.size w w5) := Lib.hid (((bel_alloc HBX.out).below).trans (hb5.mono (by omega)))
        have y0' : w5.cell? ⟨wr.heap.size, 0, none⟩ = some (.int .i64 (D1)) := h95.cell 0
        have y1' : w5.cell? ⟨wr.heap.size, 1, none⟩ = some (.int .i64 (D2)) := h95.cell 1
        have g0 := HL5.out.frozen 0
        have g1 := HL5.out.frozen 1
        have g2 : w5.cell? ⟨w.heap.size + 1 + 1, 0, none⟩ = some (.int .i64 l1) := HL5.out.cell 0
        have g3 : w5.cell? ⟨w.heap.size + 1 + 1, 1, none⟩ = some (.int .i64 l2) := HL5.out.cell 1
        have g4 := HL5.out.lt
        have hne : ¬ wr.heap.size = w.heap.size + 1 + 1 := by omega
        clear hlt5 hg5 hza hb5 h95 HG5 HO2 HRD x0 x1 x2 x3 xl x9
        go_wp2_with fail
        go_roundg ((D2 - (D2)).toNat)
        case rel =>
          have hn := HN1.out
          have hpx : pre ++ [⟨q, (l1, l2), (D1, D2)⟩] ++ rowsR (A1, A2) (D1, D2) (D1, D2) = rowsR (A1, A2) (D1, D2) (A1, A2) := by
            have := HPR.out
            rw [HST2.out, hn, HQ.out] at this
            rw [← this]
            simp
          have hwy := HWY.out
          rw [hn] at hwy
          refine ⟨(D1, D2), pre ++ [⟨q, (l1, l2), (D1, D2)⟩], rfl, hwy, hpx, ?_, (HB5.out.setCell (by simp; omega) _).setCell (by simp; omega) _, ?_, ?_, ?_⟩
          · rw [List.length_append, List.flatMap_append]
            simp only [List.flatMap_cons, List.flatMap_nil, List.append_nil, pcC]
            exact ownsRow_setCell_below (ownsRow_setCell_below HW5.out (by simp) _) (by simp) _
          · exact (HA5.out.far (by simp; omega) _).far (by simp; omega) _
          · exact (HD5.out.far (by simp) _).far (by simp) _
          · exact (HL5.out.set 0 _).set 1 _
        case measure =>
          have := HNU.out
          rw [HN1.out] at this
          have h1 := HR.out
          dsimp only at this
          omega
    · have hfin : RwR w (rowsR (A1, A2) (D1, D2) (A1, A2)) (.returned u5) wr := by
        rw [rowsR_end (by omega), List.append_nil] at hpre
        rw [hpre] at hown
        obtain ⟨A, c, rfl⟩ := own_slice hown
        exact ⟨A, c, rfl, hown, hbel⟩
      have HF := Lib.hid hfin
      clear hfin hown hbel hpre hA hD hL
      go_wp2_with fail
      go_ret
      exact HF.out

end Go.Proofs.Ytbflncfhbmlibaa
