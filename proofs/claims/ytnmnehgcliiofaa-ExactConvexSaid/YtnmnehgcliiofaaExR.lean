/-
  exact.Tally.
-/
import Derived.Test.YtnmnehgcliiofaaExQ
import Derived.Test.YtnmnehgcliiofaaExP
namespace Go.Proofs.Ytnmnehgcliiofaa
open Go.RowKit Go.Shelf

theorem withinP (x : Int) (w : World) : Calls Try.prog 57 #[.int .i64 x, .int .i64 (-16384), .int .i64 16384] w fun e w' => e = .returned (.bool (decide (-16384 ≤ x) && decide (x ≤ 16384))) ∧ w = w' := by
  have := within_any x (-16384) 16384 w
  rwa [show withB x (-16384) 16384 = (decide (-16384 ≤ x) && decide (x ≤ 16384)) by rw [Bool.eq_iff_iff, withB_true]; simp; omega] at this

theorem segs_num8 {ls : List (List Dt)} (h : mayL ls = true) {b0 b1 b2 b3 : Int} (h0 : -2097152 ≤ b0 ∧ b0 ≤ 2097152) (h1 : -2097152 ≤ b1 ∧ b1 ≤ 2097152) (h2 : -2097152 ≤ b2 ∧ b2 ≤ 2097152) (h3 : -2097152 ≤ b3 ∧ b3 ≤ 2097152) : ∀ s ∈ segs ls, Num8 s.1.1 s.1.2 s.2.1 s.2.2 b0 b1 b2 b3 :=
  fun _ hs => ⟨segs_num h hs (fit2_true.2 h0) (fit2_true.2 h1), h2, h3⟩

def nearL (ls : List (List Dt)) (x y : Int) : List Sg := touchL (x * 64 - 4) (y * 64 - 4) (x * 64 + 64 + 4) (y * 64 + 64 + 4) (segs ls)
def tallyT (ls : List (List Dt)) (x y : Int) : Ty := tyFold (segs ls) (nearL ls x y) (sqs x y)
def tyV (t : Ty) : Value := .agg #[.int .i64 t.touched, .int .i64 t.inside, .int .i64 t.most, .int .i64 t.least, .int .i64 t.lines]

attribute [local go_sem] Oper.semAt_some

set_option maxRecDepth 100000 in
set_option maxHeartbeats 8000000 in
theorem Tally_ok {w : World} {A : Option Addr} {c : Nat} {ls : List (List Dt)} {x y : Int} (h : Dl w A ls) (hn : ls.length ≤ 1000) (hc : cnt ls ≤ 1000) (hm : mayL ls = true) (hx : -16384 ≤ x ∧ x ≤ 16384) (hy : -16384 ≤ y ∧ y ≤ 16384) :
    Calls Try.prog 36 #[.slice A ls.length c, .int .i64 x, .int .i64 y] w fun e w' => e = .returned (.tuple #[tyV (tallyT ls x y), .int .i64 0]) ∧ Below w.heap.size w w' := by
  obtain ⟨W0, hW0⟩ : ∃ W0, ((w.alloc (.cells #[.slice A ls.length c] 63)).alloc (.cells #[.int .i64 0, .int .i64 0, .int .i64 0, .int .i64 0, .int .i64 0] 75)) = W0 := ⟨_, rfl⟩
  obtain ⟨s, hs⟩ : ∃ s, w.heap.size = s := ⟨_, rfl⟩
  have HBL0 : Hid (Blk W0 s 63 [.slice A ls.length c]) := Lib.hid (by rw [← hW0, ← hs]; exact (Blk.new w _ _).alloc _)
  have HBR0 : Hid (Blk W0 (s + 1) 75 [.int .i64 0, .int .i64 0, .int .i64 0, .int .i64 0, .int .i64 0]) := Lib.hid (by rw [← hW0, ← hs]; exact Blk.newAt _ _ [.int .i64 0, .int .i64 0, .int .i64 0, .int .i64 0, .int .i64 0] (by simp))
  have HB0 : Hid (Bel w.heap.size w W0) := Lib.hid (by rw [← hW0]; exact bel_alloc (bel_alloc bel_refl))
  have hz0 : W0.heap.size = s + 2 := by rw [← hW0, ← hs]; simp
  have k0 : W0.cell? ⟨s, 0, none⟩ = some (.slice A ls.length c) := HBL0.out.cell 0
  have KM := flatMay_any (w := W0) (c := c) (h.keep HB0.out.below) hn hc
  rw [show mayE ls = 0 by unfold mayE; rw [hm]; rfl] at KM
  have KX := withinP x
  have KY := withinP y
  rw [decide_eq_true hx.1, decide_eq_true hx.2] at KX
  rw [decide_eq_true hy.1, decide_eq_true hy.2] at KY
  replace KM := Lib.hid KM
  replace KX := Lib.hid KX
  replace KY := Lib.hid KY
  have HL := Lib.hid h
  have HN := Lib.hid hn
  have HC := Lib.hid hc
  have HM := Lib.hid hm
  have HS := Lib.hid hs
  clear h hn hc hm
  refine (callsIn_wide (n := 6)).1 (callsIn_of_wp_marks Try.func36 rfl trivial ?_ rfl)
  simp only [Try.ntmps36, List.size_toArray, List.length_cons, List.length_nil, Nat.reduceAdd, Nat.reduceSub, Array.replicate_succ, Array.replicate_zero, List.push_toArray, List.append_toArray, List.nil_append, List.cons_append]
  refine wpIn_wide.2 ?_
  go_wp2_with (first
    | (go_at_call 56; (with_reducible refine KM.out.mono ?_); rintro e w1 ⟨rfl, hb1⟩
       have HBL1 := Lib.hid (HBL0.out.keepB hb1)
       have HBR1 := Lib.hid (HBR0.out.keepB hb1)
       have HB1 := Lib.hid (bel_call hb1 HB0.out)
       have hz1 := hb1.size
       have k1 : w1.cell? ⟨s, 0, none⟩ = some (.slice A ls.length c) := HBL1.out.cell 0
       clear hb1)
    | (go_at_call 57; (with_reducible refine (KX.out _).mono ?_); rintro e w1 ⟨rfl, rfl⟩) | (go_at_call 57; (with_reducible refine (KY.out _).mono ?_); rintro e w1 ⟨rfl, rfl⟩)
    | (go_at_call 66; (with_reducible refine (lines_any _ _ _ _).mono ?_); rintro e w2 ⟨rfl, rfl⟩))
  clear hW0 hs k0 k1
  obtain ⟨p, hp⟩ : ∃ p, w1.heap.size = p := ⟨_, rfl⟩
  obtain ⟨W2, hW2⟩ : ∃ W2, ((w1.alloc (.cells #[.slice none 0 0] 96)).alloc (.cells #[.slice A ls.length c] 63)) = W2 := ⟨_, rfl⟩
  have hz2 : W2.heap.size = p + 2 := by rw [← hW2, ← hp]; simp
  have HBL2 : Hid (Blk W2 s 63 [.slice A ls.length c]) := Lib.hid (by rw [← hW2]; exact (HBL1.out.alloc _).alloc _)
  have HBR2 : Hid (Blk W2 (s + 1) 75 [.int .i64 0, .int .i64 0, .int .i64 0, .int .i64 0, .int .i64 0]) := Lib.hid (by rw [← hW2]; exact (HBR1.out.alloc _).alloc _)
  have HN2 : Hid (Blk W2 p 96 [.slice none 0 0]) := Lib.hid (by rw [← hW2, ← hp]; exact (Blk.new w1 _ _).alloc _)
  have HI2 : Hid (Blk W2 (p + 1) 63 [.slice A ls.length c]) := Lib.hid (by rw [← hW2, ← hp]; exact Blk.newAt _ _ [.slice A ls.length c] (by simp))
  have HB2 : Hid (Bel w.heap.size w W2) := Lib.hid (by rw [← hW2]; exact bel_alloc (bel_alloc HB1.out))
  rw [hp, hW2]
  rw [hp] at hz1
  clear hW2 hp HBL0 HBR0 HBL1 HBR1 HB0 HB1 KM KX KY
  refine (wpIn_wide (n := 6)).1 ?_
  refine wpIn_range_box (P := Try.prog) (n := 6) (gf := 85) (lb := #[.pointer (some ⟨p + 1, 0, none⟩)]) rfl (enters_of Try.func85 (by kernel_rfl) rfl)
    (segs_gives 5 (p + 1) HL.out HB2.out.below HN.out HC.out HI2.out.lt (HI2.out.cell 0) (Kp := KeepX W2.heap.size p) (fun h => h.below HB2.out.le (by rw [HS.out]; omega))) keepX_t (keepX_b (Nat.le_refl _)) (Below.refl _ _) (fun _ => rfl)
    (NearI p W2.heap.size W2 ls) (fun _ _ _ => False) (nearI_own (Nat.le_refl _) (Nat.le_refl _)) (fun _ _ _ _ _ hs _ _ => hs) (ownFrom_pure _ (fun p : List Sg × Sg => p.1 ++ [p.2] <+: segs ls)) ⟨none, 0, HN2.out.cellIs, OwS.nil (Nat.le_refl _), KeepX.refl _, List.nil_prefix⟩ ?a1
    (fun d W => (W.alloc (.cells #[.int .i64 d.1.1, .int .i64 d.1.2] 72)).alloc (.cells #[.int .i64 d.2.1, .int .i64 d.2.2] 72)) (fun d W => (bel_alloc (bel_alloc bel_refl)).below) (fun d W hw => .of_below (m := W.heap.size) (bel_alloc (bel_alloc bel_refl)).below hw) ?assign ?body ?done ?stop
  case assign =>
    intro l x W K hK
    simp only [segV, List.zip_toArray, List.zip_cons_cons, List.zip_nil_right, List.foldl_toArray, List.foldl_cons, List.foldl_nil, List.setIfInBounds_toArray, List.set_cons_succ, List.set_cons_zero]
    gi_wp2
    exact hK
  case stop => exact fun _ _ _ _ _ _ h _ => h.elim
  case body =>
    rintro l pre ⟨⟨ax, ay⟩, ⟨dx, dy⟩⟩ W Wb hge hsb hcells ⟨A1, c1, hcell, hown, hK, hpl⟩ hpre
    have ba : Blk Wb W.heap.size 72 [.int .i64 ax, .int .i64 ay] := hcells _ _ ((Blk.new W 72 [.int .i64 ax, .int .i64 ay]).alloc _) rfl
    have bd : Blk Wb (W.heap.size + 1) 72 [.int .i64 dx, .int .i64 dy] := hcells _ _ (Blk.newAt (n := W.heap.size + 1) _ 72 [.int .i64 dx, .int .i64 dy] (by simp)) rfl
    have a0 := ba.cell 0
    have a1 := ba.cell 1
    have d0 := bd.cell 0
    have d1 := bd.cell 1
    simp at a0 a1 d0 d1
    have n0 := hcell.1
    have f0 := hcell.2
    have hlen := hpl.length_le
    rw [segs_len] at hlen
    have hpl' : pre.length ≤ 1000 := by have := HC.out; omega
    have HCELL := Lib.hid hcell
    have HOWN := Lib.hid hown
    have HK := Lib.hid hK
    have HPRE := Lib.hid hpre
    clear hcells ba bd hlen hcell hown hK hpl hpre hsb
    have HOWN3 := Lib.hid (HOWN.out.keep (bel_alloc (o := .cells #[.int .i64 ax, .int .i64 ay, .int .i64 dx, .int .i64 dy] 100) (bel_refl (a := Wb))).below)
    have HCELL3 := Lib.hid (HCELL.out.call (bel_alloc (o := .cells #[.int .i64 ax, .int .i64 ay, .int .i64 dx, .int .i64 dy] 100) (bel_refl (a := Wb))).below)
    gi_wp2_with (gi_at_builtin; refine wpListIn_append_sg (free_round l) (by rfl) (.tmp 37) (.tmp 41) (by rfl) (by rfl) HOWN3.out (some ⟨Wb.heap.size, 0, none⟩) 1 (by rfl) ((ax, ay), (dx, dy)) (reads_sg Wb ((ax, ay), (dx, dy))) (by omega) ?_; intro A3 c3 w3 ho3 hg3; have HO3 := Lib.hid ho3; have HG3 := Lib.hid hg3; have HC3 := Lib.hid (ows_cell HCELL3.out HOWN3.out hg3 (by omega)); have m3 := HC3.out.1; have g3 := HC3.out.2; clear ho3 hg3)
    have hbs := HK.out.size
    have hko : KeepsOthers Wb w3 := (keepsOthers_below (bel_alloc bel_refl).below).trans (ows_others HOWN3.out HG3.out)
    have hkx : KeepX W2.heap.size p Wb w3 := ((KeepX.refl Wb).alloc hbs _).trans (ows_keepX HOWN3.out HG3.out)
    refine ⟨hko.trans (KeepsOthers.setCell _ _ _), hkx.set 0 _, A3, c3, ?_, ?_, (HK.out.trans hkx).set 0 _, HPRE.out⟩
    · rw [List.length_append]; exact HC3.out.set _
    · rw [List.length_append]
      exact HO3.out.stay (by simp) (fun k hk => by
        have := (HO3.out.row k hk).1
        simp only [World.setCell, Array.getElem?_modify]
        rw [if_neg (by omega)])
  case done =>
    rintro D xs W hD hxs ⟨A1, c1, hcell, hown, hK, -⟩ hKD
    subst hxs
    have hcs : (segs ls).length ≤ 1000 := by rw [segs_len]; exact HC.out
    have KT := touched_any (w := W) (c := c1) (b0 := x * 64 - 4) (b1 := y * 64 - 4) (b2 := x * 64 + 64 + 4) (b3 := y * 64 + 64 + 4) hown.rows (segs_num8 HM.out (by omega) (by omega) (by omega) (by omega)) hcs
    obtain ⟨T, hT⟩ : ∃ T, touchL (x * 64 - 4) (y * 64 - 4) (x * 64 + 64 + 4) (y * 64 + 64 + 4) (segs ls) = T := ⟨_, rfl⟩
    rw [hT] at KT
    have hTl : T.length ≤ 1000 := by rw [← hT]; exact Nat.le_trans (List.length_filter_le _ _) hcs
    have HT := Lib.hid hT
    have n0 := hcell.1
    have HCELL := Lib.hid hcell
    have HKX := Lib.hid hK
    have HKD := Lib.hid hKD
    have HD := Lib.hid hD
    replace KT := Lib.hid KT
    clear hcell hown hK hKD hT hD
    go_wp2_with (first
      | (go_at_call 67; (with_reducible refine KT.out.mono ?_); rintro e w4 ⟨A4, c4, rfl, ho4, hb4⟩
         have HO4 := Lib.hid ho4
         have HB4 := Lib.hid hb4
         have HC4 := Lib.hid (HCELL.out.call hb4)
         have n4 := HC4.out.1
         have f4 := HC4.out.2
         have hpw := HC4.out.lt
         clear ho4 hb4)
      | (go_at_call 68; (with_reducible refine (exAll_any _ _ _).mono ?_); rintro e w5 ⟨rfl, rfl⟩))
    obtain ⟨q, hq⟩ : ∃ q, w4.heap.size = q := ⟨_, rfl⟩
    obtain ⟨W6, hW6⟩ : ∃ W6, (((((w4.setCell ⟨p, 0, none⟩ (.slice A4 T.length c4)).alloc (.cells #[.int .i64 0, .int .i64 0, .int .i64 0, .int .i64 0, .int .i64 T.length, .bool false] 104)).alloc (.cells #[.pointer (some ⟨w4.heap.size, 0, none⟩)] 102)).alloc (.cells #[.int .i64 x] 3)).alloc (.cells #[.int .i64 y] 3)) = W6 := ⟨_, rfl⟩
    have hz6 : W6.heap.size = q + 4 := by rw [← hW6, ← hq]; simp
    have hpW : p < W.heap.size := by have := HKX.out.size; omega
    have hrow := HO4.out.row
    have HTL : Hid (Blk W6 q 104 [.int .i64 0, .int .i64 0, .int .i64 0, .int .i64 0, .int .i64 T.length, .bool false]) := Lib.hid (by rw [← hW6, ← hq]; exact ((((Blk.newAt _ _ [.int .i64 0, .int .i64 0, .int .i64 0, .int .i64 0, .int .i64 T.length, .bool false] (by simp)).alloc _).alloc _).alloc _))
    have HPT : Hid (Blk W6 (q + 1) 102 [.pointer (some ⟨q, 0, none⟩)]) := Lib.hid (by rw [← hW6, ← hq]; exact ((Blk.newAt _ _ [.pointer (some ⟨w4.heap.size, 0, none⟩)] (by simp)).alloc _).alloc _)
    have HX6 : Hid (Blk W6 (q + 1 + 1) 3 [.int .i64 x]) := Lib.hid (by rw [← hW6, ← hq]; exact (Blk.newAt _ _ [.int .i64 x] (by simp)).alloc _)
    have HY6 : Hid (Blk W6 (q + 1 + 1 + 1) 3 [.int .i64 y]) := Lib.hid (by rw [← hW6, ← hq]; exact Blk.newAt _ _ [.int .i64 y] (by simp))
    have h46 : Below (w4.setCell ⟨p, 0, none⟩ (.slice A4 T.length c4)).heap.size (w4.setCell ⟨p, 0, none⟩ (.slice A4 T.length c4)) W6 := by rw [← hW6]; exact (bel_alloc (bel_alloc (bel_alloc (bel_alloc (bel_refl (a := w4.setCell ⟨p, 0, none⟩ (.slice A4 T.length c4))))))).below
    have HN6 : Hid (CellIs p (.slice A4 T.length c4) W6) := Lib.hid ((HC4.out.set (.slice A4 T.length c4)).call h46)
    have h4b : ∀ k, k < q → k ≠ p → W6.heap[k]? = w4.heap[k]? := fun k hk hne => (h46.block k (by simp; omega)).trans (by simp only [World.setCell, Array.getElem?_modify]; rw [if_neg (fun e => hne e.symm)])
    have HO6 : Hid (RowsAt W6 A4 T.length 4 (T.map sgC)) := Lib.hid (HO4.out.rows.stay (by rw [hz6]; omega) (fun b hb e => h4b b (by omega) (by have := (hrow b e).1; omega)))
    have HRW : Hid (∀ b, rowOf A4 = some b → b < q) := Lib.hid (fun b e => by have := (hrow b e).2; omega)
    have HK6 : Hid (KeepX W2.heap.size p W2 W6) := Lib.hid ((HKX.out.call HB4.out HKX.out.size).trans ⟨h46.os, h46.tape, h46.output, Nat.le_trans (by simp) h46.size, fun k hk hne => h4b k (by have := HKX.out.size; have := HB4.out.size; omega) hne⟩)
    have hkd6 : W6.heap[D]? = some (.deferred (some [])) := (h4b D (by have := (Array.getElem?_eq_some_iff.1 HKD.out).1; have := HB4.out.size; omega) (by have := HD.out; omega)).trans ((HB4.out.block D (Array.getElem?_eq_some_iff.1 HKD.out).1).trans HKD.out)
    have HKD6 := Lib.hid hkd6
    have HBL6 : Hid (Blk W6 s 63 [.slice A ls.length c]) := Lib.hid (HK6.out.blk HBL2.out (by omega) (by omega))
    have HBR6 : Hid (Blk W6 (s + 1) 75 [.int .i64 0, .int .i64 0, .int .i64 0, .int .i64 0, .int .i64 0]) := Lib.hid (HK6.out.blk HBR2.out (by omega) (by omega))
    have hpq : p < q := by omega
    have hdq : D < q := by have := (Array.getElem?_eq_some_iff.1 HKD.out).1; have := HB4.out.size; omega
    have HB6 : Hid (Bel w.heap.size w W6) := Lib.hid ⟨HB2.out.below.trans (HK6.out.below HB2.out.le (by rw [HS.out]; omega)), Nat.le_trans HB2.out.le HK6.out.size⟩
    rw [hW6, hq]
    clear hW6 hq h46 h4b hrow hkd6 n4 f4 n0 KT hpw HO4 HB4 HC4 HCELL HKX HKD HBL2 HBR2 HN2 HI2
    refine (wpIn_wide (n := 6)).1 ?_
    refine wpIn_range_box (P := Try.prog) (n := 6) (gf := 86) (lb := #[.pointer (some ⟨q + 1 + 1, 0, none⟩), .pointer (some ⟨q + 1 + 1 + 1, 0, none⟩)]) rfl (enters_of Try.func86 (by kernel_rfl) rfl)
      (sqs_gives 5 (q + 1 + 1) (q + 1 + 1 + 1) hx hy HX6.out.lt HY6.out.lt (HX6.out.cell 0) (HY6.out.cell 0) (Kp := KeepX W6.heap.size q) (fun h => ⟨h.size, World.cell?_of_block (h.block _ (by simp only; omega) (by simp only; omega)), World.cell?_of_block (h.block _ (by simp only; omega) (by simp only; omega))⟩)) keepX_t (keepX_b (Nat.le_refl _)) (Below.refl _ _) (fun _ => rfl)
      (TyI q W6.heap.size W6 x y (segs ls) T) (fun _ _ _ => False) (tyI_own (Nat.le_refl _) (Nat.le_refl _)) (fun _ _ _ _ _ hs _ _ => hs) (ownFrom_pure _ (fun p : List (Int × Int) × (Int × Int) => p.1 ++ [p.2] <+: sqs x y)) ⟨List.nil_prefix, HTL.out, KeepX.refl _⟩ ?a2
      (fun d W => W.alloc (.cells #[.int .i64 d.1, .int .i64 d.2, .int .i64 (d.1 + 4), .int .i64 (d.2 + 4)] 32)) (fun d W => (bel_alloc bel_refl).below) (fun d W hw => .of_below (m := W.heap.size) (bel_alloc bel_refl).below hw) ?assign ?body ?done ?stop
    case assign =>
      intro l x W K hK
      simp only [sqV, List.zip_toArray, List.zip_cons_cons, List.zip_nil_right, List.foldl_toArray, List.foldl_cons, List.foldl_nil, List.setIfInBounds_toArray, List.set_cons_succ, List.set_cons_zero]
      gi_wp2
      exact hK
    case stop => exact fun _ _ _ _ _ _ h _ => h.elim
    case body =>
      rintro l pre ⟨u, v⟩ V Vb hge hsb hcells ⟨hpl, htl, hK⟩ hpre
      have bb : Blk Vb V.heap.size 32 [.int .i64 u, .int .i64 v, .int .i64 (u + 4), .int .i64 (v + 4)] := hcells _ _ (Blk.new V 32 [.int .i64 u, .int .i64 v, .int .i64 (u + 4), .int .i64 (v + 4)]) rfl
      have x0 := bb.cell 0
      have x1 := bb.cell 1
      have x2 := bb.cell 2
      have x3 := bb.cell 3
      have t0 := (hK.blk HPT.out (by omega) (by omega)).cell 0
      have l0 := (hK.blk HBL6.out (by omega) (by omega)).cell 0
      have n0 := (HN6.out.keepX hK (by omega) (by omega)).1
      simp at x0 x1 x2 x3 t0 l0
      have hmem := sqs_mem (hpre.subset (List.mem_append_right _ (List.mem_singleton.2 rfl)))
      dsimp only at hmem
      have hfull := hpre.length_le
      rw [sqs_len, List.length_append] at hfull
      have hbd := tyFold_bd (segs ls) T pre
      have hstep := tyFold_snoc (segs ls) T pre (u, v)
      have HT0 := Lib.hid htl
      have HK := Lib.hid hK
      have HPRE := Lib.hid hpre
      have hlt := htl.lt
      have hsz := hK.size
      have hrows := HO6.out.stay (w' := Vb) hsz (fun b hb e => hK.block b hb (by have := HRW.out b e; omega))
      have KT := touched_any (w := Vb) (c := c4) (b0 := u) (b1 := v) (b2 := u + 4) (b3 := v + 4) hrows (fun s hs => segs_num8 HM.out (by omega) (by omega) (by omega) (by omega) s (by rw [← HT.out] at hs; exact (List.mem_filter.1 hs).1)) hTl
      obtain ⟨N, hN⟩ : ∃ N, touchL u v (u + 4) (v + 4) T = N := ⟨_, rfl⟩
      rw [hN] at KT
      have hst : tyStep (segs ls) T (tyFold (segs ls) T pre) (u, v) = if 0 < N.length then { tyFold (segs ls) T pre with touched := (tyFold (segs ls) T pre).touched + 1 } else (tyFold (segs ls) T pre).square (windN (u + 2) (v + 2) (segs ls)) := by unfold tyStep; dsimp only; rw [hN]
      rw [hst] at hstep
      have hNl : N.length ≤ 1000 := by rw [← hN]; exact Nat.le_trans (List.length_filter_le _ _) hTl
      generalize tyFold (segs ls) T pre = t at *
      obtain ⟨ta, tbi, tm, tl, tli, tp⟩ := t
      dsimp only at hbd hstep
      have HSTEP := Lib.hid hstep
      replace KT := Lib.hid KT
      have c0 := htl.cell 0
      simp [Ty.cells] at c0
      have htb : 0 ≤ ta ∧ ta ≤ 256 ∧ 0 ≤ tbi ∧ tbi ≤ 256 := by simp at hfull; omega
      have HBB := Lib.hid bb
      have HLB := Lib.hid (hK.blk HBL6.out (by omega) (by omega))
      have HPB := Lib.hid (hK.blk HPT.out (by omega) (by omega))
      have hbv : Below w.heap.size w Vb := HB6.out.below.trans (hK.below HB6.out.le (by rw [HS.out]; omega))
      have HBV := Lib.hid hbv
      have hwv : w.heap.size ≤ Vb.heap.size := hbv.size
      clear hcells hsb hpl htl hK hpre bb hN hst hstep hbd hfull hrows hbv
      rcases Nat.eq_zero_or_pos N.length with hN0 | hN0
      · rw [if_neg (by omega)] at HSTEP
        rw [hN0] at KT
        gi_wp2_with (first
          | (refine ⟨trivial, CallsIn.inRound l (callsIn_wide.2 ?_)⟩; (with_reducible refine KT.out.mono ?_); rintro e w7 ⟨A7, c7, rfl, ho7, hb7⟩
             have HB7 := Lib.hid hb7
             have HT7 := Lib.hid (HT0.out.keepB hb7)
             have HP7 := Lib.hid (HPB.out.keepB hb7)
             have hx7 := HBB.out.keepB hb7
             have y0 := hx7.cell 0
             have y1 := hx7.cell 1
             have m0 := (HLB.out.keepB hb7).cell 0
             simp at y0 y1 m0
             have HBW7 := Lib.hid (HBV.out.trans (hb7.mono hwv))
             have KW := Lib.hid (winding_any (w := w7) (c := c) (x := u + 2) (y := v + 2) (HL.out.keep HBW7.out) HN.out HC.out HM.out (fit2_true.2 (by omega)) (fit2_true.2 (by omega)))
             clear ho7 hb7 hx7)
          | (refine ⟨trivial, CallsIn.inRound l (callsIn_wide.2 ?_)⟩; (with_reducible refine KW.out.mono ?_); rintro e w8 ⟨rfl, hb8⟩
             have HB8 := Lib.hid (Aft.call HB7.out hb8)
             have HT8 := Lib.hid (HT7.out.keepB hb8)
             have d1 := (HP7.out.keepB hb8).cell 0
             simp at d1
             have KS := Lib.hid (square_any (w := w8) (tb := q) (n := windN (u + 2) (v + 2) (segs ls)) HT8.out (by dsimp only; omega))
             clear hb8)
          | (refine ⟨trivial, CallsIn.inRound l (callsIn_wide.2 ?_)⟩; (with_reducible refine KS.out.mono ?_); rintro e w9 ⟨rfl, ht9, hu9⟩
             have HT9 := Lib.hid ht9
             have HU9 := Lib.hid hu9
             clear ht9 hu9))
        have hz8 := Aft.size HB8.out
        refine ⟨(keepsOthers_below HB8.out).trans (turn_others HU9.out HT8.out HT9.out), ((KeepX.refl Vb).call HB8.out hsz).trans (.of_turn HU9.out (by omega)), HPRE.out, ?_, (HK.out.call HB8.out hsz).trans (.of_turn HU9.out (by omega))⟩
        rw [HSTEP.out]
        exact HT9.out
      · rw [if_pos hN0] at HSTEP
        have hN1 : (0 : Int) < N.length := by omega
        gi_wp2_with (refine ⟨trivial, CallsIn.inRound l (callsIn_wide.2 ?_)⟩; (with_reducible refine KT.out.mono ?_); rintro e w7 ⟨A7, c7, rfl, ho7, hb7⟩; have HB7 := Lib.hid hb7; have HT7 := Lib.hid (HT0.out.keepB hb7); have HP7 := Lib.hid ((HK.out.blk HPT.out (by omega) (by omega)).keepB hb7); have d0 := HT7.out.cell 0; have d1 := HP7.out.cell 0; have e0 := HT7.out.frozen 0; simp [Ty.cells] at d0 d1; clear ho7 hb7)
        refine ⟨(keepsOthers_below HB7.out).trans (KeepsOthers.setCell _ _ _), ((KeepX.refl Vb).call HB7.out hsz).set 0 _, HPRE.out, ?_, (HK.out.call HB7.out hsz).set 0 _⟩
        rw [HSTEP.out]
        exact HT7.out.set 0 (.int .i64 (ta + 1))
    case done =>
      rintro D2 xs V hD2 hxs ⟨-, htl, hK⟩ hKD2
      subst hxs
      have ht : tallyT ls x y = tyFold (segs ls) T (sqs x y) := by unfold tallyT nearL; rw [HT.out]
      generalize tyFold (segs ls) T (sqs x y) = t at *
      obtain ⟨ta, tbi, tm, tl, tli, tp⟩ := t
      have t0 := (hK.blk HPT.out (by omega) (by omega)).cell 0
      have hbr := hK.blk HBR6.out (by omega) (by omega)
      have k0 := htl.cell 0
      have k1 := htl.cell 1
      have k2 := htl.cell 2
      have k3 := htl.cell 3
      have k4 := htl.cell 4
      have r0 := hbr.cell 0
      have r1 := hbr.cell 1
      have r2 := hbr.cell 2
      have r3 := hbr.cell 3
      have r4 := hbr.cell 4
      have f0 := hbr.frozen 0
      have f1 := hbr.frozen 1
      have f2 := hbr.frozen 2
      have f3 := hbr.frozen 3
      have f4 := hbr.frozen 4
      simp [Ty.cells] at t0 k0 k1 k2 k3 k4 r0 r1 r2 r3 r4
      have HBRV := Lib.hid hbr
      have HTT := Lib.hid ht
      have HKV := Lib.hid hK
      have HKD2 := Lib.hid hKD2
      have HD2 := Lib.hid hD2
      have HKD1 := Lib.hid ((hK.block D (by omega) (by omega)).trans HKD6.out)
      clear htl hK hKD2 hD2 hbr ht
      go_wp2
      obtain ⟨V5, hV5⟩ : ∃ V5, (((((V.setCell ⟨s + 1, 0, none⟩ (.int .i64 ta)).setCell ⟨s + 1, 1, none⟩ (.int .i64 tbi)).setCell ⟨s + 1, 2, none⟩ (.int .i64 tm)).setCell ⟨s + 1, 3, none⟩ (.int .i64 tl)).setCell ⟨s + 1, 4, none⟩ (.int .i64 tli)) = V5 := ⟨_, rfl⟩
      have b5 : Blk V5 (s + 1) 75 [.int .i64 ta, .int .i64 tbi, .int .i64 tm, .int .i64 tl, .int .i64 tli] := by rw [← hV5]; exact ((((HBRV.out.set 0 (.int .i64 ta)).set 1 (.int .i64 tbi)).set 2 (.int .i64 tm)).set 3 (.int .i64 tl)).set 4 (.int .i64 tli)
      have ko : KeepsOthers V V5 := by rw [← hV5]; exact ((((KeepsOthers.setCell _ _ _).trans (KeepsOthers.setCell _ _ _)).trans (KeepsOthers.setCell _ _ _)).trans (KeepsOthers.setCell _ _ _)).trans (KeepsOthers.setCell _ _ _)
      have hss := HS.out
      have hbe : Below w.heap.size w V5 := by
        rw [← hV5]
        have h0 := HB6.out.below.trans (HKV.out.below HB6.out.le (by omega))
        exact ((((h0.setCell (by show w.heap.size ≤ s + 1; omega) _).setCell (by show w.heap.size ≤ s + 1; omega) _).setCell (by show w.heap.size ≤ s + 1; omega) _).setCell (by show w.heap.size ≤ s + 1; omega) _).setCell (by show w.heap.size ≤ s + 1; omega) _
      have k2' := ko.same D2 _ HKD2.out rfl
      have k1' := ko.same D _ HKD1.out rfl
      have hd1 := HD.out
      have hd2 := HD2.out
      have hdd : D ≠ D2 := by omega
      have k1'' : (V5.putObj D2 (.deferred none)).heap[D]? = some (.deferred (some [])) := (World.putObj_heap_other hdd).trans k1'
      have b6 : Blk ((V5.putObj D2 (.deferred none)).putObj D (.deferred none)) (s + 1) 75 [.int .i64 ta, .int .i64 tbi, .int .i64 tm, .int .i64 tl, .int .i64 tli] := (World.putObj_heap_other (by omega)).trans ((World.putObj_heap_other (by omega)).trans b5)
      have c0 := b6.cell 0
      have c1 := b6.cell 1
      have c2 := b6.cell 2
      have c3 := b6.cell 3
      have c4 := b6.cell 4
      simp at c0 c1 c2 c3 c4
      rw [hV5]
      clear hV5
      refine ⟨by simp, .inl ⟨_, _, rfl, run_takeDeferred k2', ?_⟩⟩
      refine ⟨by simp, .inl ⟨_, _, rfl, run_takeDeferred k1'', ?_⟩⟩
      refine ⟨.tuple #[.agg #[.int .i64 ta, .int .i64 tbi, .int .i64 tm, .int .i64 tl, .int .i64 tli], .int .i64 0], ?_, by rw [HTT.out]; rfl, (hbe.trans (belowK_b (w := W6) HB6.out.le _ D2 _ _ hd2 k2' rfl rfl)).trans (belowK_b (w := W2) HB2.out.le _ D _ _ hd1 k1'' rfl rfl)⟩
      simp [results, Try.f36, go_sem, c0, c1, c2, c3, c4]
end Go.Proofs.Ytnmnehgcliiofaa
