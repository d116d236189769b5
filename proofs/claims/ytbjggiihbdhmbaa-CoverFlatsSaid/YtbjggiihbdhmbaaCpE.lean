/-
  Layer 22: CoverBack.
-/
import Derived.Test.YtbjggiihbdhmbaaCpD
import Derived.Test.YtbjggiihbdhmbaaCpC
namespace Go.Proofs.Ytbjggiihbdhmbaa
open Go.RowKit Go.Shelf

attribute [local go_sem] Oper.semAt_some
theorem smallB_true {b : B4} : smallB b = true ↔ cellE b.x0 b.y0 b.x1 b.y1 = 0 ∧ (b.x1 - b.x0) * (b.y1 - b.y0) ≤ 4096 := by simp [smallB]
theorem New_yes {b : B4} (h : cellE b.x0 b.y0 b.x1 b.y1 = 0) (w : World) : Calls Try.prog 9 #[.agg #[.int .i64 b.x0, .int .i64 b.y0, .int .i64 b.x1, .int .i64 b.y1]] w (NewYes b w) := by
  have := New_any b w
  unfold NewR at this
  simp only [h, if_true] at this
  exact this
theorem In_ok {b : B4} (hb : BoxOk b) (d : Dt) (w : World) : Calls Try.prog 15 #[.agg #[.int .i64 b.x0, .int .i64 b.y0, .int .i64 b.x1, .int .i64 b.y1], .agg #[.int .i64 d.1, .int .i64 d.2]] w fun e w' => e = .returned (.bool (inB b d)) ∧ Below w.heap.size w w' :=
  In_any b d w (by have := hb.x0; have := hb.x1; have := hb.x; omega) (by have := hb.y0; have := hb.y1; have := hb.y; omega) (by have := hb.x0; have := hb.x1; have := hb.x; omega) (by have := hb.y0; have := hb.y1; have := hb.y; omega)
set_option maxRecDepth 100000 in
set_option maxHeartbeats 4000000 in
theorem coverBack_no (b : B4) (p q : Dt) (w : World) (hno : (smallB b && (inB b p && inB b q)) = false) : Calls Try.prog 4 #[.agg #[.int .i64 b.x0, .int .i64 b.y0, .int .i64 b.x1, .int .i64 b.y1], .agg #[.int .i64 p.1, .int .i64 p.2], .agg #[.int .i64 q.1, .int .i64 q.2]] w fun e w' => e = .returned (.bool true) ∧ Below w.heap.size w w' := by
  have KS := fun w => small_any b w
  cases hs : smallB b with
  | false =>
    rw [hs] at KS
    have HS := Lib.hid KS
    clear KS hno hs
    refine (callsIn_wide (n := 9)).1 (callsIn_of_wp_marks Try.func4 rfl trivial ?_ rfl)
    simp only [Try.ntmps4, List.size_toArray, List.length_cons, List.length_nil, Nat.reduceAdd, Nat.reduceSub, Array.replicate_succ, Array.replicate_zero, List.push_toArray, List.append_toArray, List.nil_append, List.cons_append]
    refine wpIn_wide.2 ?_
    go_wp2_with (first | (go_at_call 12; (with_reducible refine (HS.out _).mono ?_); rintro e w1 ⟨rfl, hb1⟩; obtain ⟨hc1, hf1, hz1⟩ := bcell hb1; (try simp at hz1)) | (go_at_call 10; (with_reducible refine (lives_any _).mono ?_); rintro e w2 ⟨rfl, hb2⟩; obtain ⟨hc2, hf2, hz2⟩ := bcell hb2; (try simp at hz2)) | fail)
    have hR : Blk w2 (w.heap.size + 1 + 1 + 1) 4 [.bool false] := by
      repeat (with_reducible refine Blk.belowI (by with_reducible assumption) (by (try simp); try omega) ?_)
      exact Blk.newAt _ _ [_] (by simp)
    have c7 : (w2.setCell ⟨w.heap.size + 1 + 1 + 1, 0, none⟩ (.bool true)).cell? ⟨w.heap.size + 1 + 1 + 1, 0, none⟩ = some (.bool true) := (hR.set 0 (.bool true)).cell 0
    have hX : Below w.heap.size w (w2.setCell ⟨w.heap.size + 1 + 1 + 1, 0, none⟩ (.bool true)) := by
      refine Bel.below ?_
      repeat (first | with_reducible exact bel_refl | with_reducible apply bel_alloc | with_reducible apply bel_drewN | with_reducible apply bel_drew | (with_reducible refine bel_set ?_ ?_; rotate_left; · first | (simp; done) | (simp; omega) | omega) | with_reducible refine bel_call (by assumption) ?_)
    refine ⟨.bool true, ?_, rfl, hX⟩
    simp [results, Try.f4, go_sem, c7]
  | true =>
    have hbx := BoxOk.of (smallB_true.1 hs).1
    have KP := fun w => In_ok hbx p w
    have KQ := fun w => In_ok hbx q w
    rw [hs] at KS hno
    rw [Bool.true_and] at hno
    have HS := Lib.hid KS
    cases hp : inB b p with
    | false =>
      rw [hp] at KP
      have HP := Lib.hid KP
      clear KS KP KQ hno hs hp hbx
      refine (callsIn_wide (n := 9)).1 (callsIn_of_wp_marks Try.func4 rfl trivial ?_ rfl)
      simp only [Try.ntmps4, List.size_toArray, List.length_cons, List.length_nil, Nat.reduceAdd, Nat.reduceSub, Array.replicate_succ, Array.replicate_zero, List.push_toArray, List.append_toArray, List.nil_append, List.cons_append]
      refine wpIn_wide.2 ?_
      go_wp2_with (first | (go_at_call 12; (with_reducible refine (HS.out _).mono ?_); rintro e w1 ⟨rfl, hb1⟩; obtain ⟨hc1, hf1, hz1⟩ := bcell hb1; (try simp at hz1)) | (go_at_call 15; (with_reducible refine (HP.out _).mono ?_); rintro e w2 ⟨rfl, hb2⟩; obtain ⟨hc2, hf2, hz2⟩ := bcell hb2; (try simp at hz2)) | (go_at_call 10; (with_reducible refine (lives_any _).mono ?_); rintro e w3 ⟨rfl, hb3⟩; obtain ⟨hc3, hf3, hz3⟩ := bcell hb3; (try simp at hz3)) | fail)
      have hR : Blk w3 (w.heap.size + 1 + 1 + 1) 4 [.bool false] := by
        repeat (with_reducible refine Blk.belowI (by with_reducible assumption) (by (try simp); try omega) ?_)
        exact Blk.newAt _ _ [_] (by simp)
      have c7 : (w3.setCell ⟨w.heap.size + 1 + 1 + 1, 0, none⟩ (.bool true)).cell? ⟨w.heap.size + 1 + 1 + 1, 0, none⟩ = some (.bool true) := (hR.set 0 (.bool true)).cell 0
      have hX : Below w.heap.size w (w3.setCell ⟨w.heap.size + 1 + 1 + 1, 0, none⟩ (.bool true)) := by
        refine Bel.below ?_
        repeat (first | with_reducible exact bel_refl | with_reducible apply bel_alloc | with_reducible apply bel_drewN | with_reducible apply bel_drew | (with_reducible refine bel_set ?_ ?_; rotate_left; · first | (simp; done) | (simp; omega) | omega) | with_reducible refine bel_call (by assumption) ?_)
      refine ⟨.bool true, ?_, rfl, hX⟩
      simp [results, Try.f4, go_sem, c7]
    | true =>
      rw [hp] at KP hno
      rw [Bool.true_and] at hno
      rw [hno] at KQ
      have HP := Lib.hid KP
      have HQ := Lib.hid KQ
      clear KS KP KQ hno hs hp hbx
      refine (callsIn_wide (n := 9)).1 (callsIn_of_wp_marks Try.func4 rfl trivial ?_ rfl)
      simp only [Try.ntmps4, List.size_toArray, List.length_cons, List.length_nil, Nat.reduceAdd, Nat.reduceSub, Array.replicate_succ, Array.replicate_zero, List.push_toArray, List.append_toArray, List.nil_append, List.cons_append]
      refine wpIn_wide.2 ?_
      go_wp2_with (first | (go_at_call 12; (with_reducible refine (HS.out _).mono ?_); rintro e w1 ⟨rfl, hb1⟩; obtain ⟨hc1, hf1, hz1⟩ := bcell hb1; (try simp at hz1)) | (go_at_call 15; (with_reducible refine (HP.out _).mono ?_); rintro e w2 ⟨rfl, hb2⟩; obtain ⟨hc2, hf2, hz2⟩ := bcell hb2; (try simp at hz2)) | (go_at_call 15; (with_reducible refine (HQ.out _).mono ?_); rintro e w3 ⟨rfl, hb3⟩; obtain ⟨hc3, hf3, hz3⟩ := bcell hb3; (try simp at hz3)) | (go_at_call 10; (with_reducible refine (lives_any _).mono ?_); rintro e w4 ⟨rfl, hb4⟩; obtain ⟨hc4, hf4, hz4⟩ := bcell hb4; (try simp at hz4)) | fail)
      have hR : Blk w4 (w.heap.size + 1 + 1 + 1) 4 [.bool false] := by
        repeat (with_reducible refine Blk.belowI (by with_reducible assumption) (by (try simp); try omega) ?_)
        exact Blk.newAt _ _ [_] (by simp)
      have c7 : (w4.setCell ⟨w.heap.size + 1 + 1 + 1, 0, none⟩ (.bool true)).cell? ⟨w.heap.size + 1 + 1 + 1, 0, none⟩ = some (.bool true) := (hR.set 0 (.bool true)).cell 0
      have hX : Below w.heap.size w (w4.setCell ⟨w.heap.size + 1 + 1 + 1, 0, none⟩ (.bool true)) := by
        refine Bel.below ?_
        repeat (first | with_reducible exact bel_refl | with_reducible apply bel_alloc | with_reducible apply bel_drewN | with_reducible apply bel_drew | (with_reducible refine bel_set ?_ ?_; rotate_left; · first | (simp; done) | (simp; omega) | omega) | with_reducible refine bel_call (by assumption) ?_)
      refine ⟨.bool true, ?_, rfl, hX⟩
      simp [results, Try.f4, go_sem, c7]
def NoI (W1 : World) (_ : List Cl) (W : World) : Prop := Below W1.heap.size W1 W
theorem noI_stable (W1 : World) : BStable W1.heap.size (NoI W1) := fun _ _ _ h hb => h.trans hb
set_option maxRecDepth 100000 in
set_option maxHeartbeats 4000000 in
theorem coverBack_yes (b : B4) (p q : Dt) (w : World) (hs : smallB b = true) (hp : inB b p = true) (hq : inB b q = true) : Calls Try.prog 4 #[.agg #[.int .i64 b.x0, .int .i64 b.y0, .int .i64 b.x1, .int .i64 b.y1], .agg #[.int .i64 p.1, .int .i64 p.2], .agg #[.int .i64 q.1, .int .i64 q.2]] w fun e w' => e = .returned (.bool true) ∧ Below w.heap.size w w' := by
  have KS := fun w => small_any b w
  have hc0 := (smallB_true.1 hs).1
  have hbx := BoxOk.of hc0
  have KP := fun w => In_ok hbx p w
  have KQ := fun w => In_ok hbx q w
  rw [hs] at KS
  rw [hp] at KP
  rw [hq] at KQ
  have HS := Lib.hid KS
  have HP := Lib.hid KP
  have HQ := Lib.hid KQ
  have HN := Lib.hid (fun w => New_yes hc0 w)
  have HPP := Lib.hid hp
  have HQQ := Lib.hid hq
  clear KS KP KQ hs hp hq hbx hc0
  refine (callsIn_wide (n := 9)).1 (callsIn_of_wp_marks Try.func4 rfl trivial ?_ rfl)
  simp only [Try.ntmps4, List.size_toArray, List.length_cons, List.length_nil, Nat.reduceAdd, Nat.reduceSub, Array.replicate_succ, Array.replicate_zero, List.push_toArray, List.append_toArray, List.nil_append, List.cons_append]
  refine wpIn_wide.2 ?_
  go_wp2_with (first
    | (go_at_call 12; (with_reducible refine (HS.out _).mono ?_); rintro e w1 ⟨rfl, hb1⟩; obtain ⟨hc1, hf1, hz1⟩ := bcell hb1; (try simp at hz1)) | (go_at_call 15; (with_reducible refine (HP.out _).mono ?_); rintro e w2 ⟨rfl, hb2⟩; obtain ⟨hc2, hf2, hz2⟩ := bcell hb2; (try simp at hz2)) | (go_at_call 15; (with_reducible refine (HQ.out _).mono ?_); rintro e w3 ⟨rfl, hb3⟩; obtain ⟨hc3, hf3, hz3⟩ := bcell hb3; (try simp at hz3))
    | (go_at_call 9; (with_reducible refine (HN.out _).mono ?_); rintro e w4 ⟨g, k, rfl, hcc, hg, hk, hb4⟩; obtain ⟨hc4, hf4, hz4⟩ := bcell hb4; have HCC := Lib.hid hcc; clear hcc)
    | (go_at_call 10; (with_reducible refine (lives_any _).mono ?_); rintro e w5 ⟨rfl, hb5⟩; obtain ⟨hc5, hf5, hz5⟩ := bcell hb5; (try simp at hz5)) | fail)
  have hz3' : w.heap.size + 4 ≤ w3.heap.size := by omega
  have hP5 : Blk w5 (w.heap.size + 1) 36 [.int .i64 p.1, .int .i64 p.2] := by
    repeat (with_reducible refine Blk.belowI (by with_reducible assumption) (by (try simp); try omega) ?_)
    exact ((Blk.newAt _ _ [_, _] (by simp)).alloc _).alloc _
  have hQ5 : Blk w5 (w.heap.size + 1 + 1) 36 [.int .i64 q.1, .int .i64 q.2] := by
    repeat (with_reducible refine Blk.belowI (by with_reducible assumption) (by (try simp); try omega) ?_)
    exact (Blk.newAt _ _ [_, _] (by simp)).alloc _
  have hR5 : Blk w5 (w.heap.size + 1 + 1 + 1) 4 [.bool false] := by
    repeat (with_reducible refine Blk.belowI (by with_reducible assumption) (by (try simp); try omega) ?_)
    exact Blk.newAt _ _ [_] (by simp)
  have hB5 : Below w.heap.size w w5 := by
    refine Bel.below ?_
    repeat (first | with_reducible exact bel_refl | with_reducible apply bel_alloc | with_reducible apply bel_drewN | with_reducible apply bel_drew | (with_reducible refine bel_set ?_ ?_; rotate_left; · first | (simp; done) | (simp; omega) | omega) | with_reducible refine bel_call (by assumption) ?_)
  have hC5 := HCC.out.keepB hb5
  have hkb : w.heap.size + 4 ≤ k := by omega
  have hsz5 : w.heap.size + 4 ≤ w5.heap.size := by omega
  have H5 := Lib.hid (And.intro hP5 (And.intro hQ5 (And.intro hR5 (And.intro hB5 hC5))))
  clear hc1 hf1 hz1 hb1 hc2 hf2 hz2 hb2 hc3 hf3 hz3 hb3 hc4 hf4 hz4 hb4 hc5 hf5 hz5 hb5 HCC hP5 hQ5 hR5 hB5 hC5 hg hk hz3'
  (go_at_call 14; (with_reducible refine (Line_yes H5.out.2.2.2.2 p q HPP.out HQQ.out).mono ?_); rintro e w6 ⟨rfl, hcc6, ht6⟩)
  obtain ⟨hP5, hQ5, hR5, hB5, -⟩ := H5.out
  have hP6 := ht6.blk hP5 (by omega) (fun e => by cases e)
  have hQ6 := ht6.blk hQ5 (by omega) (fun e => by cases e)
  have hR6 := ht6.blk hR5 (by omega) (fun e => by cases e)
  have hB6 := hB5.trans (below_turn ht6 (by omega) (by omega))
  have H6 := Lib.hid (And.intro hP6 (And.intro hQ6 (And.intro hR6 (And.intro hB6 hcc6))))
  have hsz6 : w.heap.size + 4 ≤ w6.heap.size := by have := ht6.size; omega
  have p0 : w6.cell? ⟨w.heap.size + 1, 0, none⟩ = some (.int .i64 p.1) := hP6.cell 0
  have p1 : w6.cell? ⟨w.heap.size + 1, 1, none⟩ = some (.int .i64 p.2) := hP6.cell 1
  have q0 : w6.cell? ⟨w.heap.size + 1 + 1, 0, none⟩ = some (.int .i64 q.1) := hQ6.cell 0
  have q1 : w6.cell? ⟨w.heap.size + 1 + 1, 1, none⟩ = some (.int .i64 q.2) := hQ6.cell 1
  clear hP5 hQ5 hR5 hB5 H5 ht6 hP6 hQ6 hR6 hB6 hcc6
  go_wp2_with fail
  (go_at_call 14; (with_reducible refine (Line_yes H6.out.2.2.2.2 q p HQQ.out HPP.out).mono ?_); rintro e w7 ⟨rfl, hcc7, ht7⟩)
  obtain ⟨hP6, hQ6, hR6, hB6, -⟩ := H6.out
  rw [line_back b _ (zer_in _)] at hcc7
  have hR7 := ht7.blk hR6 (by omega) (fun e => by cases e)
  have hB7 := hB6.trans (below_turn ht7 (by omega) (by omega))
  have hsz7 : w.heap.size + 4 ≤ w7.heap.size := by have := ht7.size; omega
  have H7 := Lib.hid (And.intro hR7 (And.intro hB7 hcc7))
  clear hP6 hQ6 hR6 hB6 H6 ht7 hR7 hB7 hcc7 p0 p1 q0 q1
  go_wp2_with (first | (go_at_call 19; (with_reducible refine (All_any g _).mono ?_); rintro e w8 ⟨rfl, rfl⟩) | fail)
  obtain ⟨W1, hW1⟩ : ∃ W1, w7.alloc (.cells #[.pointer (some ⟨g, 0, none⟩)] 25) = W1 := ⟨_, rfl⟩
  have hal : Below w7.heap.size w7 W1 := by rw [← hW1]; exact (bel_alloc bel_refl).below
  have HPB : Hid (Blk W1 w7.heap.size 25 [.pointer (some ⟨g, 0, none⟩)]) := Lib.hid (by rw [← hW1]; exact Blk.new w7 _ [_])
  have HCB := Lib.hid (H7.out.2.2.keepB hal)
  have HRB := Lib.hid (H7.out.1.keepB hal)
  have HBW := Lib.hid (H7.out.2.1.trans (hal.mono H7.out.2.1.size))
  have hsz1 : w.heap.size + 4 ≤ W1.heap.size := Nat.le_trans hsz7 hal.size
  rw [hW1]
  clear hW1 hal H7
  refine (wpIn_wide (n := 9)).1 ?_
  refine wpIn_range_b (P := Try.prog) (n := 9) (gf := 41) (lb := #[.pointer (some ⟨w7.heap.size, 0, none⟩)]) rfl (enters_of Try.func41 (by kernel_rfl) rfl)
    (all_gives 8 HCB.out HPB.out (Kp := KeepF (fun _ => False)) (fun h => ⟨h.size, fun i t cs _ hb => h.cells i t cs (fun h => h) hb⟩))
    (fun h h' => KeepF.trans h h') (fun W l o o' _ h h1 _ => KeepF.put W l o o' h h1) (Below.refl _ _) (fun _ => rfl)
    (NoI W1) (fun _ _ _ => False) (noI_stable W1) (fun _ _ _ _ h _ => h) (Below.refl _ _)
    ?a1 (fun _ W => W) (fun _ _ => Below.refl _ _) (fun _ _ _ => KeepF.refl _) ?assign ?body ?done (fun _ _ _ _ _ _ h => h.elim)
  case assign =>
    intro l x W K hK
    simp only [clV, List.zip_toArray, List.zip_cons_cons, List.zip_nil_right, List.foldl_toArray, List.foldl_cons, List.foldl_nil, List.setIfInBounds_toArray, List.set_cons_succ, List.set_cons_zero]
    gi_wp2
    exact hK
  case body =>
    rintro l pre x W Wb hl hrec hge hsb hcells hI hpre
    rw [cells_zero] at hpre
    exact absurd (List.prefix_nil.1 hpre) (by simp)
  case' done =>
    intro D xs W hD hS hI hDW
    have HR2 := Lib.hid (HRB.out.keepB hI)
    have HW2 := Lib.hid (HBW.out.trans (Below.mono hI HBW.out.size))
    have HD := Lib.hid (And.intro hD hDW)
    have r0 : W.cell? ⟨w.heap.size + 1 + 1 + 1, 0, none⟩ = some (.bool false) := HR2.out.cell 0
    have f0 := HR2.out.frozen 0
    have rl := HR2.out.lt
    clear hD hDW hI hS HPB HRB HCB HBW
    go_wp2_with fail
  case done =>
    have hD := HD.out.1
    have hne : D ≠ w.heap.size + 1 + 1 + 1 := by omega
    have hD6 : (W.setCell ⟨w.heap.size + 1 + 1 + 1, 0, none⟩ (.bool true)).heap[D]? = some (.deferred (some [])) := (Below.heap_setCell _ _ _ _ hne).trans HD.out.2
    have hR6 : Blk (W.setCell ⟨w.heap.size + 1 + 1 + 1, 0, none⟩ (.bool true)) (w.heap.size + 1 + 1 + 1) 4 [.bool true] := HR2.out.set 0 _
    have hpb : Below W1.heap.size (W.setCell ⟨w.heap.size + 1 + 1 + 1, 0, none⟩ (.bool true)) ((W.setCell ⟨w.heap.size + 1 + 1 + 1, 0, none⟩ (.bool true)).putObj D (.deferred none)) := belowK_b (w := W1) (Nat.le_refl _) _ D _ _ hD hD6 rfl rfl
    have hR7 := hR6.below hpb (by omega)
    have c7 : ((W.setCell ⟨w.heap.size + 1 + 1 + 1, 0, none⟩ (.bool true)).putObj D (.deferred none)).cell? ⟨w.heap.size + 1 + 1 + 1, 0, none⟩ = some (.bool true) := hR7.cell 0
    have hX : Below w.heap.size w (W.setCell ⟨w.heap.size + 1 + 1 + 1, 0, none⟩ (.bool true)) := HW2.out.setCell (by simp; omega) _
    refine ⟨by simp, .inl ⟨_, _, rfl, run_takeDeferred hD6, ?_⟩⟩
    refine ⟨.bool true, ?_, rfl, hX.trans (hpb.mono (by omega))⟩
    simp [results, Try.f4, go_sem, c7]
theorem coverBack_any (b : B4) (p q : Dt) (w : World) : Calls Try.prog 4 #[.agg #[.int .i64 b.x0, .int .i64 b.y0, .int .i64 b.x1, .int .i64 b.y1], .agg #[.int .i64 p.1, .int .i64 p.2], .agg #[.int .i64 q.1, .int .i64 q.2]] w fun e w' => e = .returned (.bool true) ∧ Below w.heap.size w w' := by
  cases hs : smallB b with
  | false => exact coverBack_no b p q w (by rw [hs]; rfl)
  | true =>
    cases hp : inB b p with
    | false => exact coverBack_no b p q w (by rw [hs, hp]; rfl)
    | true =>
      cases hq : inB b q with
      | false => exact coverBack_no b p q w (by rw [hs, hp, hq]; rfl)
      | true => exact coverBack_yes b p q w hs hp hq
end Go.Proofs.Ytbjggiihbdhmbaa
