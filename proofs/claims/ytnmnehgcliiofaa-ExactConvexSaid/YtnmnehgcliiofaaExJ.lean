/-
  exact.winding: a winding number, by the iterator.
-/
import Derived.Test.YtnmnehgcliiofaaExI
import Derived.Test.YtnmnehgcliiofaaExB
namespace Go.Proofs.Ytnmnehgcliiofaa
open Go.RowKit Go.Shelf

def onS (x y : Int) (s : Sg) : Bool := onB s.1.1 s.1.2 s.2.1 s.2.2 x y
def stepS (x y : Int) (s : Sg) : Int := stepN s.1.1 s.1.2 s.2.1 s.2.2 x y
def sumS (x y : Int) (l : List Sg) : Int := (l.map (stepS x y)).sum
/-- A place is on none of the lines. -/
def offS (x y : Int) (l : List Sg) : Bool := l.all fun s => !onS x y s
def windN (x y : Int) (l : List Sg) : Int := if offS x y l = true then sumS x y l else 0
theorem sumS_bd (x y : Int) (l : List Sg) : -(l.length : Int) ≤ sumS x y l ∧ sumS x y l ≤ l.length := by
  induction l with
  | nil => simp [sumS]
  | cons a l ih =>
    have h := stepN_range a.1.1 a.1.2 a.2.1 a.2.2 x y
    unfold sumS at *
    simp only [List.map_cons, List.sum_cons, List.length_cons, stepS] at *
    omega
theorem sumS_snoc (x y : Int) (l : List Sg) (s : Sg) : sumS x y (l ++ [s]) = sumS x y l + stepS x y s := by simp [sumS]
theorem offS_snoc (x y : Int) (l : List Sg) (s : Sg) : offS x y (l ++ [s]) = (offS x y l && !onS x y s) := by simp [offS]
theorem off_no {x y : Int} {l : List Sg} {s : Sg} (h : s ∈ l) (hs : onS x y s = true) : offS x y l = false := by
  unfold offS
  rw [List.all_eq_false]
  exact ⟨s, h, by rw [hs]; decide⟩
theorem segs_len (ls : List (List Dt)) : (segs ls).length = cnt ls := by
  unfold segs cnt
  rw [List.length_flatten, List.map_map]
  congr 1
  exact List.map_congr_left fun c _ => segsOf_len c
/-- Dots of lines that may be. -/
theorem segs_fit {ls : List (List Dt)} (h : mayL ls = true) {s : Sg} (hs : s ∈ segs ls) : fitDt s.1 = true ∧ fitDt s.2 = true := by
  unfold segs at hs
  obtain ⟨l, hl, hsl⟩ := List.mem_flatten.1 hs
  obtain ⟨c, hc, rfl⟩ := List.mem_map.1 hl
  unfold mayL at h
  rw [List.all_eq_true] at h
  have hcf := h c hc
  rw [List.all_eq_true] at hcf
  unfold segsOf at hsl
  obtain ⟨i, hi, rfl⟩ := List.mem_map.1 hsl
  have hi' : i < c.length := List.mem_range.1 hi
  have g : ∀ j, j < c.length → fitDt (c.getD j (0, 0)) = true := fun j hj => hcf _ (by rw [List.getD_eq_getElem?_getD, List.getElem?_eq_getElem hj]; exact List.getElem_mem hj)
  exact ⟨g i hi', g _ (next_lt hi')⟩
theorem segs_num {ls : List (List Dt)} (h : mayL ls = true) {s : Sg} (hs : s ∈ segs ls) {x y : Int} (hx : fit2 x = true) (hy : fit2 y = true) : Num6 s.1.1 s.1.2 s.2.1 s.2.2 x y := by
  obtain ⟨h1, h2⟩ := segs_fit h hs
  simp only [fitDt, Bool.and_eq_true, fitD_true] at h1 h2
  have hx := fit2_true.1 hx
  have hy := fit2_true.1 hy
  unfold Num6
  omega

def WindI (nb N0 : Nat) (w0 : World) (x y : Int) (ls : List (List Dt)) (pre : List Sg) (W : World) : Prop := (offS x y pre = true ∧ pre <+: segs ls) ∧ CellIs nb (.int .i64 (sumS x y pre)) W ∧ KeepX N0 nb w0 W
def WindX (r : Nat) (n0 : Nat) (w0 : World) (x y : Int) (ls : List (List Dt)) (c : Code) (_ : List Sg) (W : World) : Prop := (c = .ret ∧ offS x y (segs ls) = false) ∧ (CellIs r (.int .i64 0) W ∧ CellIs (r + 1) (.bool false) W) ∧ Below n0 w0 W
theorem windI_own {nb N0 B : Nat} {w0 : World} {x y : Int} {ls : List (List Dt)} (h1 : N0 ≤ w0.heap.size) (h2 : N0 ≤ B) : OwnFrom B (WindI nb N0 w0 x y ls) :=
  OwnFrom.and (ownFrom_pure _ _) (OwnFrom.and (Own.from (cellIs_own nb (fun pre : List Sg => .int .i64 (sumS x y pre))) _) (ownFrom_keepX h1 h2))
theorem windX_own {r n0 B : Nat} {w0 : World} {x y : Int} {ls : List (List Dt)} (h1 : n0 ≤ w0.heap.size) (h2 : n0 ≤ B) (c : Code) : OwnFrom B (WindX r n0 w0 x y ls c) :=
  OwnFrom.and (ownFrom_pure _ _) (OwnFrom.and (OwnFrom.and (Own.from (cellIs_own r (fun _ => .int .i64 0)) _) (Own.from (cellIs_own (r + 1) (fun _ => .bool false)) _)) (ownFrom_below h1 h2))

attribute [local go_sem] Oper.semAt_some

set_option maxRecDepth 100000 in
set_option maxHeartbeats 4000000 in
theorem winding_any {w : World} {A : Option Addr} {c : Nat} {ls : List (List Dt)} {x y : Int} (h : Dl w A ls) (hn : ls.length ≤ 1000) (hc : cnt ls ≤ 1000) (hm : mayL ls = true) (hx : fit2 x = true) (hy : fit2 y = true) :
    Calls Try.prog 58 #[.slice A ls.length c, .int .i64 x, .int .i64 y] w fun e w' => e = .returned (.tuple #[.int .i64 (windN x y (segs ls)), .bool (offS x y (segs ls))]) ∧ Below w.heap.size w w' := by
  obtain ⟨W1, hW1⟩ : ∃ W1, ((((((w.alloc (.cells #[.int .i64 x] 3)).alloc (.cells #[.int .i64 y] 3)).alloc (.cells #[.int .i64 0] 3)).alloc (.cells #[.bool false] 4)).alloc (.cells #[.int .i64 0] 3)).alloc (.cells #[.slice A ls.length c] 63)) = W1 := ⟨_, rfl⟩
  obtain ⟨s, hs⟩ : ∃ s, w.heap.size = s := ⟨_, rfl⟩
  have HL := Lib.hid h
  have HN := Lib.hid hn
  have HC := Lib.hid hc
  have HM := Lib.hid hm
  have HX := Lib.hid hx
  have HY := Lib.hid hy
  clear h hn hc hm hx hy
  refine (callsIn_wide (n := 5)).1 (callsIn_of_wp_marks Try.func58 rfl trivial ?_ rfl)
  simp only [Try.ntmps58, List.size_toArray, List.length_cons, List.length_nil, Nat.reduceAdd, Nat.reduceSub, Array.replicate_succ, Array.replicate_zero, List.push_toArray, List.append_toArray, List.nil_append, List.cons_append]
  refine wpIn_wide.2 ?_
  go_wp2_with (first | (go_at_call 66; (with_reducible refine (lines_any _ _ _ _).mono ?_); rintro e w1 ⟨rfl, rfl⟩))
  have hsz : W1.heap.size = s + 6 := by rw [← hW1, ← hs]; simp
  have HBX : Hid (Blk W1 s 3 [.int .i64 x]) := Lib.hid (by rw [← hW1, ← hs]; exact (((((Blk.new w _ _).alloc _).alloc _).alloc _).alloc _).alloc _)
  have HBY : Hid (Blk W1 (s + 1) 3 [.int .i64 y]) := Lib.hid (by rw [← hW1, ← hs]; exact ((((Blk.newAt _ _ [.int .i64 y] (by simp)).alloc _).alloc _).alloc _).alloc _)
  have HR0 : Hid (Blk W1 (s + 1 + 1) 3 [.int .i64 0]) := Lib.hid (by rw [← hW1, ← hs]; exact (((Blk.newAt _ _ [.int .i64 0] (by simp)).alloc _).alloc _).alloc _)
  have HR1 : Hid (Blk W1 (s + 1 + 1 + 1) 4 [.bool false]) := Lib.hid (by rw [← hW1, ← hs]; exact ((Blk.newAt _ _ [.bool false] (by simp)).alloc _).alloc _)
  have HBN : Hid (Blk W1 (s + 1 + 1 + 1 + 1) 3 [.int .i64 0]) := Lib.hid (by rw [← hW1, ← hs]; exact (Blk.newAt _ _ [.int .i64 0] (by simp)).alloc _)
  have HBL : Hid (Blk W1 (s + 1 + 1 + 1 + 1 + 1) 63 [.slice A ls.length c]) := Lib.hid (by rw [← hW1, ← hs]; exact Blk.newAt _ _ [.slice A ls.length c] (by simp))
  have HB1 : Hid (Bel w.heap.size w W1) := Lib.hid (by rw [← hW1]; exact bel_alloc (bel_alloc (bel_alloc (bel_alloc (bel_alloc (bel_alloc bel_refl))))))
  have HS := Lib.hid hs
  clear hW1 hs
  refine (wpIn_wide (n := 5)).1 ?_
  refine wpIn_range_box (P := Try.prog) (n := 5) (gf := 85) (lb := #[.pointer (some ⟨s + 1 + 1 + 1 + 1 + 1, 0, none⟩)]) rfl (enters_of Try.func85 (by kernel_rfl) rfl)
    (segs_gives 4 (s + 1 + 1 + 1 + 1 + 1) HL.out HB1.out.below HN.out HC.out HBL.out.lt (HBL.out.cell 0) (Kp := KeepX W1.heap.size (s + 1 + 1 + 1 + 1)) (fun h => h.below HB1.out.le (by rw [HS.out]; omega))) keepX_t (keepX_b (Nat.le_refl _)) (Below.refl _ _) (fun _ => rfl)
    (WindI (s + 1 + 1 + 1 + 1) W1.heap.size W1 x y ls) (WindX (s + 1 + 1) w.heap.size W1 x y ls) (windI_own (Nat.le_refl _) (Nat.le_refl _)) (windX_own HB1.out.le HB1.out.le) (ownFrom_pure _ (fun p : List Sg × Sg => p.1 ++ [p.2] <+: segs ls)) ⟨⟨rfl, List.nil_prefix⟩, HBN.out.cellIs, KeepX.refl _⟩ ?a1
    (fun d W => (W.alloc (.cells #[.int .i64 d.1.1, .int .i64 d.1.2] 72)).alloc (.cells #[.int .i64 d.2.1, .int .i64 d.2.2] 72)) (fun d W => (bel_alloc (bel_alloc bel_refl)).below) (fun d W hw => .of_below (m := W.heap.size) (bel_alloc (bel_alloc bel_refl)).below hw) ?assign ?body ?done ?stop
  case assign =>
    intro l x W K hK
    simp only [segV, List.zip_toArray, List.zip_cons_cons, List.zip_nil_right, List.foldl_toArray, List.foldl_cons, List.foldl_nil, List.setIfInBounds_toArray, List.set_cons_succ, List.set_cons_zero]
    gi_wp2
    exact hK
  case body =>
    rintro l pre ⟨⟨ax, ay⟩, ⟨dx, dy⟩⟩ W Wb hge hsb hcells ⟨⟨hoff, hpl⟩, hcell, hK⟩ hpre
    have ba : Blk Wb W.heap.size 72 [.int .i64 ax, .int .i64 ay] := hcells _ _ ((Blk.new W 72 [.int .i64 ax, .int .i64 ay]).alloc _) rfl
    have bd : Blk Wb (W.heap.size + 1) 72 [.int .i64 dx, .int .i64 dy] := hcells _ _ (Blk.newAt (n := W.heap.size + 1) _ 72 [.int .i64 dx, .int .i64 dy] (by simp)) rfl
    have a0 := ba.cell 0
    have a1 := ba.cell 1
    have d0 := bd.cell 0
    have d1 := bd.cell 1
    have x0 := (hK.blk HBX.out (by omega) (by omega)).cell 0
    have y0 := (hK.blk HBY.out (by omega) (by omega)).cell 0
    simp at a0 a1 d0 d1 x0 y0
    have hmem : ((ax, ay), (dx, dy)) ∈ segs ls := hpre.subset (by simp)
    have hnum := segs_num HM.out hmem HX.out HY.out
    have KS := step_any Wb hnum
    have hlen := hpre.length_le
    rw [segs_len, List.length_append] at hlen
    have hsum := sumS_bd x y pre
    have hst := stepN_range ax ay dx dy x y
    have hcnt := HC.out
    have hs1 := sumS_snoc x y pre ((ax, ay), (dx, dy))
    have hs2 := offS_snoc x y pre ((ax, ay), (dx, dy))
    rw [show stepS x y ((ax, ay), (dx, dy)) = stepN ax ay dx dy x y from rfl] at hs1
    rw [show onS x y ((ax, ay), (dx, dy)) = onB ax ay dx dy x y from rfl] at hs2
    have hno : onB ax ay dx dy x y = true → offS x y (segs ls) = false := fun h => off_no hmem h
    dsimp only at KS
    generalize stepN ax ay dx dy x y = st at *
    generalize onB ax ay dx dy x y = on at *
    generalize sumS x y pre = sm at *
    have hsm : -1000 ≤ sm ∧ sm ≤ 1000 := by simp at hlen; omega
    have HK := Lib.hid hK
    have HPR := Lib.hid hpre
    have HOFF := Lib.hid hoff
    have HS1 := Lib.hid hs1
    have HS2 := Lib.hid hs2
    have HCELL := Lib.hid hcell
    clear hK hpre hoff hs1 hs2 hpl hcells ba bd hmem hnum hlen hsum hcnt hsb
    cases on
    · replace KS := Lib.hid KS
      clear hno hcell
      gi_wp2_with (refine ⟨trivial, CallsIn.inRound l (callsIn_wide.2 ?_)⟩; (with_reducible refine KS.out.mono ?_); rintro e w2 ⟨rfl, hb2⟩; have HB2 := Lib.hid hb2; have HC2 := Lib.hid (HCELL.out.call hb2); have n2 := HC2.out.1; have f2 := HC2.out.2; clear hb2)
      have hsz2 : W1.heap.size ≤ w2.heap.size := Nat.le_trans HK.out.size HB2.out.size
      refine ⟨(keepsOthers_below HB2.out).trans (KeepsOthers.setCell _ _ _), ((KeepX.refl Wb).call HB2.out HK.out.size).set 0 _, ⟨by rw [HS2.out, HOFF.out]; rfl, HPR.out⟩, ?_, (HK.out.call HB2.out HK.out.size).set 0 _⟩
      rw [HS1.out]
      exact HC2.out.set _
    · replace KS := Lib.hid KS
      have HNO := Lib.hid (hno rfl)
      have HQ0 := Lib.hid (HR0.out.cellIs.keepX HK.out (by omega) (by omega))
      have HQ1 := Lib.hid (HR1.out.cellIs.keepX HK.out (by omega) (by omega))
      clear hno hcell
      gi_wp2_with (refine ⟨trivial, CallsIn.inRound l (callsIn_wide.2 ?_)⟩; (with_reducible refine KS.out.mono ?_); rintro e w2 ⟨rfl, hb2⟩; have HB2 := Lib.hid hb2; have HC2 := Lib.hid (HQ0.out.call hb2); have HD2 := Lib.hid (HQ1.out.call hb2); have n2 := HC2.out.1; have f2 := HC2.out.2; have m2 := HD2.out.1; have g2 := HD2.out.2; clear hb2)
      have hle := HB1.out.le
      have hlb := HB2.out.size
      have hkb := HK.out.size
      have hss := HS.out
      refine ⟨(keepsOthers_below HB2.out).trans ((KeepsOthers.setCell _ _ _).trans (KeepsOthers.setCell _ _ _)), ⟨rfl, HNO.out⟩, ⟨(HC2.out.set _).far (by omega) _, (HD2.out.far (by omega) _).set _⟩, ?_⟩
      exact (((HK.out.below HB1.out.le (by omega)).trans (HB2.out.mono (by omega))).setCell (by show w.heap.size ≤ s + 1 + 1; omega) _).setCell (by show w.heap.size ≤ s + 1 + 1 + 1; omega) _
  case' done =>
    rintro D xs W hD hxs ⟨⟨hoff, _⟩, hcell, hK⟩ hKD
    subst hxs
    have hw : windN x y (segs ls) = sumS x y (segs ls) := by unfold windN; rw [if_pos hoff]
    have hn := hcell.1
    have q0 := HR0.out.cellIs.keepX hK (by omega) (by omega)
    have q1 := HR1.out.cellIs.keepX hK (by omega) (by omega)
    have r0 := q0.1
    have r1 := q1.1
    have g0 := q0.2
    have g1 := q1.2
    have hbe := hK.below HB1.out.le (show w.heap.size ≤ s + 1 + 1 + 1 + 1 by rw [HS.out]; omega)
    have HQ0 := Lib.hid q0
    have HQ1 := Lib.hid q1
    have HWN := Lib.hid hw
    have HOFF := Lib.hid hoff
    have HBW := Lib.hid (HB1.out.below.trans hbe)
    have HK := Lib.hid hKD
    have HD := Lib.hid hD
    clear hD hoff hcell hK hKD hw q0 q1 hbe
    generalize sumS x y (segs ls) = sm at *
    go_wp2
  case' stop =>
    rintro D c pre W hD _ ⟨⟨rfl, hoff⟩, ⟨hc0, hc1⟩, hB⟩ hK
    have HBW : Hid (Below w.heap.size w W) := Lib.hid (HB1.out.below.trans hB)
    have hw : windN x y (segs ls) = 0 := by unfold windN; rw [hoff]; rfl
    refine (wpIn_wide (n := 5)).2 ?_
    have HOFF := Lib.hid hoff
    have HWN := Lib.hid hw
    have HQ0 := Lib.hid hc0
    have HQ1 := Lib.hid hc1
    have HK := Lib.hid hK
    have HD := Lib.hid hD
    clear hD hoff hc0 hc1 hB hK hw
    go_wp2
  case done =>
    have hK' := ((KeepsOthers.setCell W ⟨s + 1 + 1, 0, none⟩ (.int .i64 sm)).trans (KeepsOthers.setCell _ ⟨s + 1 + 1 + 1, 0, none⟩ (.bool true))).same D _ HK.out rfl
    have hc0 := cell_kept ((HQ0.out.set (.int .i64 sm)).far (b' := s + 1 + 1 + 1) (by omega) (.bool true)).1 (grownBy_putObj' _ D (.deferred none)) (fun r e => (by cases e; exact ⟨_, hK', rfl⟩))
    have hc1 := cell_kept ((HQ1.out.far (b' := s + 1 + 1) (by omega) (.int .i64 sm)).set (.bool true)).1 (grownBy_putObj' _ D (.deferred none)) (fun r e => (by cases e; exact ⟨_, hK', rfl⟩))
    have hss := HS.out
    refine ⟨by simp, .inl ⟨_, _, rfl, run_takeDeferred hK', ?_⟩⟩
    refine ⟨.tuple #[.int .i64 sm, .bool true], ?_, by rw [HWN.out, HOFF.out], ((HBW.out.setCell (by show w.heap.size ≤ s + 1 + 1; omega) _).setCell (by show w.heap.size ≤ s + 1 + 1 + 1; omega) _).trans (belowK_b (w := W1) HB1.out.le _ D _ _ HD.out hK' rfl rfl)⟩
    simp [results, Try.f58, go_sem, hc0, hc1]
  case stop =>
    have hc0 := cell_kept HQ0.out.1 (grownBy_putObj' _ D (.deferred none)) (fun r e => (by cases e; exact ⟨_, HK.out, rfl⟩))
    have hc1 := cell_kept HQ1.out.1 (grownBy_putObj' _ D (.deferred none)) (fun r e => (by cases e; exact ⟨_, HK.out, rfl⟩))
    refine ⟨by simp, .inl ⟨_, _, rfl, run_takeDeferred HK.out, ?_⟩⟩
    refine ⟨.tuple #[.int .i64 0, .bool false], ?_, by rw [HWN.out, HOFF.out], HBW.out.trans (belowK_b (w := W1) HB1.out.le _ D _ _ HD.out HK.out rfl rfl)⟩
    simp [results, Try.f58, go_sem, hc0, hc1]

end Go.Proofs.Ytnmnehgcliiofaa
