/-
  holds: an Index gone over, beside its lists.
-/
import Derived.Test.YtbmflgcahbkdeaaIdxQ
namespace Go.Proofs.Ytbmflgcahbkdeaa
open Go.RowKit Go.Shelf

theorem itemG_from {B : Nat} (ls : List (List UInt8)) : OwnFrom B (fun (p : List Item × Item) W => ItemG ls p.1 p.2 W) := by
  intro s W W' row hs hg hr
  refine ⟨hs.1, hs.2.1, hs.2.2.1, fun k hk => ?_⟩
  obtain ⟨b, o, hA, hb, hc⟩ := hs.2.2.2 k hk
  refine ⟨b, o, hA, Nat.lt_of_lt_of_le hb hg.size, ?_⟩
  obtain ⟨x, hx⟩ : ∃ x, W.cell? ⟨b, o + k, none⟩ = some x := by
    rw [hc]
    exact ⟨_, List.getElem?_eq_getElem (by rw [List.length_map]; omega)⟩
  rw [cell_kept hx hg (fun r e => (hr r e).2), ← hx, hc]

/-- What the loop's variable holds, in block nb. -/
def NumAt (nb : Nat) (n : Nat) (W : World) : Prop := W.cell? ⟨nb, 0, none⟩ = some (.int .i64 n) ∧ W.frozen? ⟨nb, 0, none⟩ = false
theorem numAt_own (nb : Nat) (f : List Item → Nat) : Own (fun pre W => NumAt nb (f pre) W) := fun _ _ _ _ hs hg hr => ⟨cell_kept hs.1 hg hr, (frozen_kept hs.1 hg hr).trans hs.2⟩
def RoundI (nb : Nat) (n0 : Nat) (w0 : World) (pre : List Item) (W : World) : Prop := NumAt nb pre.length W ∧ Below n0 w0 W
def RoundX (nb : Nat) (n0 : Nat) (w0 : World) (stop : Int) (c : Code) (pre : List Item) (W : World) : Prop := (c = .exit 0 ∧ (pre.length : Int) = stop) ∧ RoundI nb n0 w0 pre W
theorem roundI_own {nb n0 B : Nat} {w0 : World} (h1 : n0 ≤ w0.heap.size) (h2 : n0 ≤ B) : OwnFrom B (RoundI nb n0 w0) := OwnFrom.and (Own.from (numAt_own nb List.length) _) (ownFrom_below h1 h2)
theorem roundX_own {nb n0 B : Nat} {w0 : World} {stop : Int} (h1 : n0 ≤ w0.heap.size) (h2 : n0 ≤ B) (c : Code) : OwnFrom B (RoundX nb n0 w0 stop c) := OwnFrom.and (ownFrom_pure _ _) (roundI_own h1 h2)

theorem keepsOthers_drewN (W : World) (m : Nat) : KeepsOthers W (W.drewN m) := ⟨Nat.le_refl _, fun _ _ h _ => h⟩

attribute [local go_sem] Oper.semAt_some
set_option maxRecDepth 100000 in
set_option maxHeartbeats 4000000 in
theorem holds_any {w : World} {g : Nat} {ls : List (List UInt8)} {size : Nat} {Ab : Option Addr} {cb : Nat} {ds : List UInt8} {Ao : Option Addr} {co : Nat} {os : List Nat}
    (hx : Ix w g ls size Ab cb ds Ao co os) (A : Option Addr) (c : Nat) (hl : Ls w A ls) (stop : Int) :
    Calls Try.prog 15 #[.pointer (some ⟨g, 0, none⟩), .slice A ls.length c, .int .i64 size, .int .i64 stop] w fun e w' => e = .returned (.bool true) ∧ Below w.heap.size w w' := by
  have hll : ls.length ≤ 70000 := by have := hx.len; have := hx.small; omega
  obtain ⟨W0, hW0⟩ : ∃ W0, ((((w.alloc (.cells #[.slice A ls.length c] 28)).alloc (.cells #[.int .i64 stop] 3)).alloc (.cells #[.bool false] 4)).alloc (.cells #[.pointer (some ⟨g, 0, none⟩)] 24)) = W0 := ⟨_, rfl⟩
  have HBL : Hid (Bel w.heap.size w W0) := Lib.hid (by rw [← hW0]; exact bel_alloc (bel_alloc (bel_alloc (bel_alloc bel_refl))))
  have HX0 := Lib.hid (hx.keep HBL.out.below)
  have HW0 := Lib.hid hW0
  have HL0 := Lib.hid (hl.keep HBL.out.below)
  clear hx hl
  refine (callsIn_wide (n := 5)).1 (callsIn_of_wp_marks Try.func15 rfl trivial ?_ rfl)
  simp only [Try.ntmps15, List.size_toArray, List.length_cons, List.length_nil, Nat.reduceAdd, Nat.reduceSub, Array.replicate_succ, Array.replicate_zero, List.push_toArray, List.append_toArray, List.nil_append, List.cons_append]
  refine wpIn_wide.2 ?_
  go_wp2_with (first | (go_at_call 19; (with_reducible refine (ixAll _ _).mono ?_); rintro e w1 ⟨rfl, rfl⟩))
  clear hW0
  have hs0 : W0.heap.size = w.heap.size + 4 := by rw [← HW0.out]; simp
  have b5 : Blk W0 w.heap.size 28 [.slice A ls.length c] := by rw [← HW0.out]; exact (((Blk.new w _ _).alloc _).alloc _).alloc _
  have b7 : Blk W0 (w.heap.size + 1) 3 [.int .i64 stop] := by rw [← HW0.out]; exact ((Blk.newAt _ _ [.int .i64 stop] (by simp)).alloc _).alloc _
  have b8 : Blk W0 (w.heap.size + 1 + 1) 4 [.bool false] := by rw [← HW0.out]; exact (Blk.newAt _ _ [.bool false] (by simp)).alloc _
  have b9 : Blk W0 (w.heap.size + 1 + 1 + 1) 24 [.pointer (some ⟨g, 0, none⟩)] := by rw [← HW0.out]; exact Blk.newAt _ _ [.pointer (some ⟨g, 0, none⟩)] (by simp)
  have k5 : W0.cell? ⟨w.heap.size, 0, none⟩ = some (.slice A ls.length c) := b5.cell 0
  have k7 : W0.cell? ⟨w.heap.size + 1, 0, none⟩ = some (.int .i64 stop) := b7.cell 0
  have k8 : W0.cell? ⟨w.heap.size + 1 + 1, 0, none⟩ = some (.bool false) := b8.cell 0
  have f8 : W0.frozen? ⟨w.heap.size + 1 + 1, 0, none⟩ = false := b8.frozen 0
  have k9 : W0.cell? ⟨w.heap.size + 1 + 1 + 1, 0, none⟩ = some (.pointer (some ⟨g, 0, none⟩)) := b9.cell 0
  have B5 := Lib.hid b5
  have B7 := Lib.hid b7
  have B8 := Lib.hid b8
  have B9 := Lib.hid b9
  clear b5 b7 b8 b9
  have HS0 := Lib.hid hs0
  clear hs0
  go_quiet ((first | (go_at_call 21; exact Calls.q_left (ixLen (HX0.out.keep (bel_drewN bel_refl).below))) | (go_at_call 22; exact Calls.q_left (ixSize (HX0.out.keep (bel_drewN bel_refl).below)))))
  go_wp2
  have HA := Lib.hid (HX0.out.keep (bel_drewN (n := nq) (bel_refl (a := W0))).below)
  have HLA := Lib.hid (HL0.out.keep (bel_drewN (n := nq) (bel_refl (a := W0))).below)
  obtain ⟨N0, hN0⟩ : ∃ N0, W0.heap.size = N0 := ⟨_, rfl⟩
  have hNw : w.heap.size + 4 = N0 := by have := HS0.out; omega
  obtain ⟨WL, hWL⟩ : ∃ WL, (((W0.drewN nq).alloc (.cells #[.int .i64 0] 3)).setCell ⟨N0, 0, none⟩ (.int .i64 0)) = WL := ⟨_, rfl⟩
  have hbl : Below N0 (W0.drewN nq) WL := by rw [← hWL, ← hN0]; exact (bel_set (bel_alloc (bel_refl (a := W0.drewN nq))) (Nat.le_refl _)).below
  have hbz : Blk WL N0 3 [.int .i64 0] := by rw [← hWL, ← hN0]; exact (Blk.new (W0.drewN nq) 3 [.int .i64 0]).set 0 _
  have HI0 : Hid (RoundI N0 N0 (W0.drewN nq) [] WL) := Lib.hid ⟨⟨hbz.cell 0, hbz.frozen 0⟩, hbl⟩
  have hzl : N0 ≤ WL.heap.size := Nat.le_of_lt hbz.lt
  rw [hN0, hWL]
  have HN0 := Lib.hid hN0
  clear hWL hN0 hbl hbz k5 k7 k8 f8 k9
  refine (wpIn_wide (n := 5)).1 ?_
  refine wpIn_range_gives (P := Try.prog) (n := 5) (gf := 56) (lb := #[.pointer (some ⟨w.heap.size + 1 + 1 + 1, 0, none⟩)]) rfl (enters_of Try.func56 (by kernel_rfl) rfl)
    (all_gives 4 (w.heap.size + 1 + 1 + 1) HA.out (B9.out.drewN nq).lt ((B9.out.drewN nq).cell 0)) belowK_t (belowK_b (by show W0.heap.size ≤ _; have := HN0.out; omega)) (by show Below W0.heap.size _ _; rw [HN0.out]; exact HI0.out.2) (fun _ => rfl)
    (RoundI N0 N0 (W0.drewN nq)) (RoundX N0 N0 (W0.drewN nq) stop) (roundI_own (Nat.le_of_eq HN0.out.symm) hzl) (roundX_own (Nat.le_of_eq HN0.out.symm) hzl) (itemG_from ls) HI0.out ?a1 ?assign ?body ?done ?stop
  case assign =>
    intro l x W K hK
    simp only [itemV, List.zip_toArray, List.zip_cons_cons, List.zip_nil_right, List.foldl_toArray, List.foldl_cons, List.foldl_nil, List.setIfInBounds_toArray, List.set_cons_succ, List.set_cons_zero]
    gi_wp2
    exact hK
  case body =>
    rintro l pre ⟨i, Ax, lx, cx⟩ W ⟨⟨hc, hf⟩, hB⟩ ⟨hi, hxl, hxs⟩
    dsimp only at hi hxl hxs
    obtain ⟨k, hk⟩ : ∃ k, pre.length = k := ⟨_, rfl⟩
    rw [hk] at hc hi hxl
    subst hi
    obtain ⟨b, o, Ai, ci, hA, hb, hcell, hbw⟩ := (HLA.out.keep (show Below (W0.drewN nq).heap.size _ W by show Below W0.heap.size _ _; rw [HN0.out]; exact hB)) i lx hxl
    subst hA
    have hlt : i < ls.length := (List.getElem?_eq_some_iff.1 hxl).1
    have hge : decide (ls.length ≤ i) = false := by simp; omega
    have hq1 : ∀ m c, (convert 22 9 (.slice Ax lx.length c)).run Try.prog (W.drewN m) = .ok (.string (strB lx)) (W.drewN m) := fun m c => run_str (P := Try.prog) (hxs.keep (bel_drewN (n := m) bel_refl).below) Try.underlying22 Try.underlying5 Try.underlying9 c
    have hq2 : ∀ m c, (convert 22 9 (.slice Ai lx.length c)).run Try.prog (W.drewN m) = .ok (.string (strB lx)) (W.drewN m) := fun m c => run_str (P := Try.prog) (hbw.sl.keep (bel_drewN (n := m) bel_refl).below) Try.underlying22 Try.underlying5 Try.underlying9 c
    have k5 : W.cell? ⟨w.heap.size, 0, none⟩ = some (.slice (some ⟨b, o, none⟩) ls.length c) := ((B5.out.drewN nq).below hB (by omega)).cell 0
    have k7 : W.cell? ⟨w.heap.size + 1, 0, none⟩ = some (.int .i64 stop) := ((B7.out.drewN nq).below hB (by omega)).cell 0
    have HBB := Lib.hid hB
    have HKK := Lib.hid hk
    clear hk hxl hxs hbw hB
    gi_wp2
    refine wpIn_round_region (by kernel_rfl) (by kernel_rfl) (by kernel_rfl) ?_
    repeat (go_big_quiet_step (fail))
    refine wpQuiet_nil ?_
    rintro _ ⟨m, rfl⟩
    gi_wp2
    all_goals
      have hKO : KeepsOthers W ((W.drewN m).setCell ⟨N0, 0, none⟩ (.int .i64 ((i : Int) + 1))) := (keepsOthers_drewN W m).trans (KeepsOthers.setCell _ _ _)
      have hKB : Below N0 W ((W.drewN m).setCell ⟨N0, 0, none⟩ (.int .i64 ((i : Int) + 1))) := Below.setCell (p := ⟨N0, 0, none⟩) (below_drewN (Below.refl N0 W) m) (Nat.le_refl N0) _
      have hNA : NumAt N0 (pre ++ [(⟨i, Ax, lx, cx⟩ : Item)]).length ((W.drewN m).setCell ⟨N0, 0, none⟩ (.int .i64 ((i : Int) + 1))) := by
        rw [List.length_append, HKK.out]
        exact ⟨World.cell?_setCell_same' _ _ _ (by show (W.cell? _).isSome = true; rw [hc]; rfl), by rw [World.frozen?_setCell]; exact hf⟩
    · exact ⟨hKO, ⟨rfl, by rw [List.length_append, HKK.out]; have h := (by assumption : ((i : Int) + 1 == stop) = true); simpa using h⟩, hNA, HBB.out.trans hKB⟩
    · exact ⟨hKO, by show Below W0.heap.size _ _; rw [HN0.out]; exact hKB, hNA, HBB.out.trans hKB⟩
  case' done => rintro D xs W hD hxl ⟨hN, hB⟩ hK
  case' stop => rintro D c xs W hD hxl ⟨⟨rfl, hst⟩, hN, hB⟩ hK
  case' done =>
    have hkl : xs.length = ls.length ∨ (xs.length ≠ ls.length ∧ (xs.length : Int) = stop) := .inl hxl
    clear hxl
  case' stop =>
    have hkl : xs.length = ls.length ∨ (xs.length ≠ ls.length ∧ (xs.length : Int) = stop) := by omega
    clear hxl hst
    refine (wpIn_wide (n := 5)).2 ?_
  all_goals
    obtain ⟨k, hk⟩ : ∃ k, xs.length = k := ⟨_, rfl⟩
    rw [hk] at hkl hN
    have HK := Lib.hid hK
    have hB' : Below W0.heap.size W0 W := by rw [HN0.out]; exact ⟨hB.os, hB.tape, hB.output, hB.size, hB.block⟩
    have HB := Lib.hid hB'
    have HXW := Lib.hid (HX0.out.keep hB')
    have HLW := Lib.hid (HL0.out.keep hB')
    have k5 : W.cell? ⟨w.heap.size, 0, none⟩ = some (.slice A ls.length c) := (B5.out.keepB hB').cell 0
    have k7 : W.cell? ⟨w.heap.size + 1, 0, none⟩ = some (.int .i64 stop) := (B7.out.keepB hB').cell 0
    have B8W := Lib.hid (B8.out.keepB hB')
    have k10 := hN.1
    have hWz : N0 ≤ W.heap.size := by have := hB'.size; have := HN0.out; omega
    clear hk hN hB hB' hK
    rcases hkl with rfl | ⟨hne, hst⟩
  all_goals (try (have hnb : ((k : Int) != ls.length) = true := by simp; omega))
  all_goals (try subst hst)
  all_goals
    go_wp2
    clear k7 k10
    go_loopw [13] (fun i wr => ∃ j : Nat, j ≤ ls.length ∧ i = .int .i64 j ∧ Hid (Below W.heap.size W wr)) (fun i _ => ls.length - (intOf i).toNat)
    case atStart => exact ⟨0, Nat.zero_le _, rfl, Lib.hid (Below.refl _ _)⟩
    case round =>
      obtain ⟨j, hj, rfl, HBR⟩ := hrel
      have HXR := Lib.hid (HXW.out.keep HBR.out)
      have kr : wr.cell? ⟨w.heap.size, 0, none⟩ = some (.slice A ls.length c) := (HBR.out.cell (p := ⟨w.heap.size, 0, none⟩) (by show w.heap.size < _; omega)).trans k5
      by_cases hlt : j < ls.length
      · obtain ⟨x, hx⟩ := ls_get hlt
        have HT := Lib.hid (ixAt_ok HXR.out j x hx)
        obtain ⟨b, o, Ai, ci, rfl, hb, hcell, hbw⟩ := (HLW.out.keep HBR.out) j x hx
        have HBW := Lib.hid hbw
        clear hx hbw
        go_wp2_with (first
          | (go_at_call 20; (with_reducible refine HT.out.mono ?_); rintro e w2 ⟨A2, c2, rfl, hs2, hb2⟩
             have hq1 : ∀ m c, (convert 22 9 (.slice A2 x.length c)).run Try.prog (w2.drewN m) = .ok (.string (strB x)) (w2.drewN m) := fun m c => run_str (P := Try.prog) (hs2.keep (bel_drewN (n := m) bel_refl).below) Try.underlying22 Try.underlying5 Try.underlying9 c
             have hq2 : ∀ m c, (convert 22 9 (.slice Ai x.length c)).run Try.prog (w2.drewN m) = .ok (.string (strB x)) (w2.drewN m) := fun m c => run_str (P := Try.prog) ((HBW.out.sl.keep hb2).keep (bel_drewN (n := m) bel_refl).below) Try.underlying22 Try.underlying5 Try.underlying9 c
             have kr2 : w2.cell? ⟨w.heap.size, 0, none⟩ = some (.slice (some ⟨b, o, none⟩) ls.length c) := (hb2.cell (p := ⟨w.heap.size, 0, none⟩) (by show w.heap.size < _; have := HBR.out.size; omega)).trans kr
             have hcell2 : w2.cell? ⟨b, o + j, none⟩ = some (.slice Ai x.length ci) := (hb2.cell (p := ⟨b, o + j, none⟩) hb).trans hcell
             have HB2 := Lib.hid (HBR.out.trans (hb2.mono HBR.out.size))
             clear hs2 hb2))
        go_quiet (fail)
        go_wp2
        go_roundw
        case rel => exact ⟨j + 1, by omega, by go_num, Lib.hid (below_drewN HB2.out _)⟩
        case measure => simp [intOf]; omega
      · obtain rfl : j = ls.length := by omega
        clear hlt
        go_wp2_with (first
          | (go_at_call 20; (with_reducible refine (ixAt_no HX2.out (-1) (.inl (by decide))).mono ?_); rintro e w3 ⟨rfl, hb3⟩
             have HB3 := Lib.hid (HB2.out.trans (hb3.mono HB2.out.size))
             have k8 := (B8W.out.keepB HB3.out).cell 0
             have f8 := (B8W.out.keepB HB3.out).frozen 0
             clear hb3)
          | (go_at_call 20; (with_reducible refine (ixAt_no HXR.out ls.length (.inr (Int.le_refl _))).mono ?_); rintro e w2 ⟨rfl, hb2⟩
             have HX2 := Lib.hid (HXR.out.keep hb2)
             have HB2 := Lib.hid (HBR.out.trans (hb2.mono HBR.out.size))
             clear hb2))
        have hK3 : w3.heap[D]? = some (.deferred (some [])) := (HB3.out.block D (Array.getElem?_eq_some_iff.1 HK.out).1).trans HK.out
        have hK' := (KeepsOthers.setCell w3 ⟨w.heap.size + 1 + 1, 0, none⟩ (.bool true)).same D _ hK3 rfl
        have hc5 := cell_kept (World.cell?_setCell_same' w3 ⟨w.heap.size + 1 + 1, 0, none⟩ (.bool true) (by rw [k8]; rfl)) (grownBy_putObj' _ D (.deferred none)) (fun r e => (by cases e; exact ⟨_, hK', rfl⟩))
        refine ⟨by simp, .inl ⟨_, _, rfl, run_takeDeferred hK', ?_⟩⟩
        refine ⟨.bool true, ?_, rfl, ?_⟩
        · simp [results, Try.f15, go_sem, hc5]
        · have hbel : Bel w.heap.size w w3 := bel_call HB3.out (bel_call HB.out HBL.out)
          exact (bel_set hbel (by show w.heap.size ≤ w.heap.size + 1 + 1; omega)).below.trans (belowK_b (w := WL) (by omega) _ D _ _ hD hK' rfl rfl)

end Go.Proofs.Ytbmflgcahbkdeaa
