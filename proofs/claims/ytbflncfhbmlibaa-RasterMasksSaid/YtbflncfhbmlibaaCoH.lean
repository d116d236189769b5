/-
  Layer 22: what a line leaves.
-/
import Derived.Test.YtbflncfhbmlibaaCoF
import Derived.Test.YtbflncfhbmlibaaCoG
import Derived.Test.YtbflncfhbmlibaaKeepX

namespace Go.Proofs.Ytbflncfhbmlibaa

open Go.RowKit Go.Shelf

def addC (d e : Int) (c : Ce) : Ce := (wrap64 (c.1 + d), wrap64 (c.2 + e))

def bitD (sg : Int) (t : Bt) : Int := sg * (t.z - t.v)

def bitE (sg : Int) (t : Bt) : Int := bitD sg t * (t.u - t.col * 64 + t.w - t.col * 64)

/-- What a bit leaves. -/
def bitC (b : B4) (sg row : Int) (cs : List Ce) (t : Bt) : List Ce := if placeB b t.col row = true then cs.modify (placeN b t.col row).toNat (addC (bitD sg t) (bitE sg t)) else cs

def pieceC (b : B4) (sg : Int) (cs : List Ce) (p : Pc) : List Ce := (bitsR p.A p.B p.A.1 p.A.2).foldl (bitC b sg p.row) cs

def lineC (b : B4) (cs : List Ce) (a d : Dt) : List Ce := (rowsR (dnA a d) (dnB a d) (dnA a d)).foldl (pieceC b (dnS a d)) cs

theorem bitC_len (b : B4) (sg row : Int) (cs : List Ce) (t : Bt) : (bitC b sg row cs t).length = cs.length := by unfold bitC; split <;> simp

theorem bits_len (b : B4) (sg row : Int) (l : List Bt) (cs : List Ce) : (l.foldl (bitC b sg row) cs).length = cs.length := by
  induction l generalizing cs with
  | nil => rfl
  | cons t l ih => rw [List.foldl_cons, ih, bitC_len]

theorem pieces_len (b : B4) (sg : Int) (l : List Pc) (cs : List Ce) : (l.foldl (pieceC b sg) cs).length = cs.length := by
  induction l generalizing cs with
  | nil => rfl
  | cons p l ih => rw [List.foldl_cons, ih]; exact bits_len _ _ _ _ _

theorem lineC_len (b : B4) (cs : List Ce) (a d : Dt) : (lineC b cs a d).length = cs.length := pieces_len _ _ _ _

def LineR (g k : Nat) (b : B4) (cs : List Ce) (w : World) (e : Ending) (w' : World) : Prop := (∃ v, e = .returned v) ∧ Cc w' g k b cs ∧ Turn w w' k none

theorem turn_more {A B C : World} {k n : Nat} (h : Turn A B k none) (hb : Below n B C) (hn : A.heap.size ≤ n) : Turn A C k none :=
  ⟨hb.os.trans h.os, hb.tape.trans h.tape, hb.output.trans h.output, Nat.le_trans h.size hb.size, fun i hi h1 h2 => (hb.block i (by omega)).trans (h.block i hi h1 h2)⟩

def LinI (k : Nat) (b : B4) (sg : Int) (cs : List Ce) (W1 : World) (pre : List Pc) (W : World) : Prop := Blk W k 116 (cvs (pre.foldl (pieceC b sg) cs)) ∧ Turn W1 W k none

theorem linI_stable {k n : Nat} {b : B4} {sg : Int} {cs : List Ce} {W1 : World} (hk : k < n) (hn : W1.heap.size ≤ n) : BStable n (LinI k b sg cs W1) :=
  fun _ _ _ h hb => ⟨(hb.block k hk).trans h.1, turn_more h.2 hb hn⟩

def BitI (k : Nat) (b : B4) (sg row : Int) (cs : List Ce) (W1 Wb : World) (pre : List Bt) (W : World) : Prop := Blk W k 116 (cvs (pre.foldl (bitC b sg row) cs)) ∧ Turn W1 W k none ∧ KeepF (fun i => i = k) Wb W ∧ KeepsOthers Wb W

theorem keepF_more {F : Nat → Prop} {A B C : World} {n : Nat} (h : KeepF F A B) (hb : Below n B C) (hn : A.heap.size ≤ n) : KeepF F A C :=
  ⟨Nat.le_trans h.size hb.size, fun i t cs hF hi => (hb.block i (by have := Blk.lt hi; omega)).trans (h.cells i t cs hF hi)⟩

theorem others_more {A B C : World} {n : Nat} (h : KeepsOthers A B) (hb : Below n B C) (hn : A.heap.size ≤ n) : KeepsOthers A C :=
  ⟨Nat.le_trans h.size hb.size, fun i o hi ho => (hb.block i (by have := (Array.getElem?_eq_some_iff.1 hi).1; omega)).trans (h.same i o hi ho)⟩

theorem bitI_stable {k n : Nat} {b : B4} {sg row : Int} {cs : List Ce} {W1 Wb : World} (hk : k < n) (hn : W1.heap.size ≤ n) (hn2 : Wb.heap.size ≤ n) : BStable n (BitI k b sg row cs W1 Wb) :=
  fun _ _ _ h hb => ⟨(hb.block k hk).trans h.1, turn_more h.2.1 hb hn, keepF_more h.2.2.1 hb hn2, others_more h.2.2.2 hb hn2⟩

theorem cell_far {W : World} {b b' o o' : Nat} {v : Value} (h : W.cell? ⟨b, o, none⟩ = some v) (hne : b' ≠ b) (u : Value) : (W.setCell ⟨b', o', none⟩ u).cell? ⟨b, o, none⟩ = some v :=
  (World.cell?_setCell_other W _ _ _ (fun e => hne (by injection e))).trans h

theorem dnS_one (a d : Dt) : dnS a d = 1 ∨ dnS a d = -1 := by unfold dnS; split <;> simp

attribute [local go_sem] Oper.semAt_some

set_option maxRecDepth 100000 in
set_option maxHeartbeats 4000000 in
theorem line_any {w : World} {g k : Nat} {b : B4} {cs : List Ce} (h : Cc w g k b cs) (a d : Dt) (fa : dotB a = true) (fd : dotB d = true) :
    Calls Try.prog 82 #[.pointer (some ⟨g, 0, none⟩), .agg #[.int .i64 a.1, .int .i64 a.2], .agg #[.int .i64 d.1, .int .i64 d.2]] w (LineR g k b (lineC b cs a d) w) := by
  have HDN := Lib.hid (fun w => down_any a d w)
  have HRW := Lib.hid (fun w => covRows_any a d w)
  have H := Lib.hid h
  have HFA := Lib.hid fa
  have HFD := Lib.hid fd
  clear h fa fd
  refine (callsIn_wide (n := 9)).1 (callsIn_of_wp_marks Try.func82 rfl trivial ?_ rfl)
  simp only [Try.ntmps82, List.size_toArray, List.length_cons, List.length_nil, Nat.reduceAdd, Nat.reduceSub, Array.replicate_succ, Array.replicate_zero, List.push_toArray, List.append_toArray, List.nil_append, List.cons_append]
  refine wpIn_wide.2 ?_
  go_wp2_with (first
    | (go_at_call 91; (with_reducible refine (HDN.out _).mono ?_); rintro e w2 ⟨rfl, hb2⟩; obtain ⟨hc2, hf2, hz2⟩ := bcell hb2; (try simp at hz2); have HB2 := Lib.hid hb2; clear hb2)
    | (go_at_call 92; (with_reducible refine (HRW.out _).mono ?_); rintro e w3 ⟨rfl, rfl⟩))
  have hal3 := bel_alloc (o := .cells #[.int .i64 d.1, .int .i64 d.2] 37) (bel_alloc (o := .cells #[.int .i64 a.1, .int .i64 a.2] 37) (bel_alloc (o := .cells #[.pointer (some ⟨g, 0, none⟩)] 60) (bel_refl (a := w))))
  have hb3 := hal3.below.trans (HB2.out.mono (by simp; omega))
  have hcb : Blk w2 w.heap.size 60 [.pointer (some ⟨g, 0, none⟩)] := (((Blk.newAt w 60 [_] rfl).alloc _).alloc _).keepB HB2.out
  have hcc := H.out.keepB hb3
  have hal5 := bel_alloc (o := .cells #[.int .i64 d.1, .int .i64 d.2] 37) (bel_alloc (o := .cells #[.int .i64 a.1, .int .i64 a.2] 37) (bel_alloc (o := .cells #[.int .i64 (dnS a d)] 3) (bel_alloc (o := .cells #[.int .i64 (dnB a d).1, .int .i64 (dnB a d).2] 37) (bel_alloc (o := .cells #[.int .i64 (dnA a d).1, .int .i64 (dnA a d).2] 37) (bel_refl (a := w2))))))
  obtain ⟨W1, hW1⟩ : ∃ W1, ((((w2.alloc (.cells #[.int .i64 (dnA a d).1, .int .i64 (dnA a d).2] 37)).alloc (.cells #[.int .i64 (dnB a d).1, .int .i64 (dnB a d).2] 37)).alloc (.cells #[.int .i64 (dnS a d)] 3)).alloc (.cells #[.int .i64 a.1, .int .i64 a.2] 37)).alloc (.cells #[.int .i64 d.1, .int .i64 d.2] 37) = W1 := ⟨_, rfl⟩
  rw [hW1] at hal5 ⊢
  have hsz : W1.heap.size = w2.heap.size + 5 := by rw [← hW1]; simp
  have HCB := Lib.hid (hcb.keepB hal5.below)
  have HCC := Lib.hid (hcc.keepB hal5.below)
  have HSG : Hid (Blk W1 (w2.heap.size + 1 + 1) 3 [.int .i64 (dnS a d)]) := Lib.hid (by rw [← hW1]; exact ((Blk.newAt _ _ [_] (by simp)).alloc _).alloc _)
  have HBA : Hid (Blk W1 (w2.heap.size + 1 + 1 + 1) 37 [.int .i64 a.1, .int .i64 a.2]) := Lib.hid (by rw [← hW1]; exact (Blk.newAt _ _ [_, _] (by simp)).alloc _)
  have HBD : Hid (Blk W1 (w2.heap.size + 1 + 1 + 1 + 1) 37 [.int .i64 d.1, .int .i64 d.2]) := Lib.hid (by rw [← hW1]; exact Blk.newAt _ _ [_, _] (by simp))
  have HBW : Hid (Below w.heap.size w W1) := Lib.hid (hb3.trans (hal5.below.mono hb3.size))
  have hkl := H.out.row.lt
  have hz2' := hb3.size
  clear hal3 hb3 hcb hcc hal5 hW1 hc2 hf2 HB2
  refine (wpIn_wide (n := 9)).1 ?_
  refine wpIn_range_b (P := Try.prog) (n := 9) (gf := 100) (lb := #[.pointer (some ⟨w2.heap.size + 1 + 1 + 1, 0, none⟩), .pointer (some ⟨w2.heap.size + 1 + 1 + 1 + 1, 0, none⟩)]) rfl (enters_of Try.func100 (by kernel_rfl) rfl)
    (rows_gives 8 (w2.heap.size + 1 + 1 + 1) (w2.heap.size + 1 + 1 + 1 + 1) HBA.out HBD.out HFA.out HFD.out (Kp := KeepF (fun i => i = k)) (fun h => ⟨h.size, fun i t cs hi hb => h.cells i t cs (by omega) hb⟩))
    (fun h h' => KeepF.trans h h') (fun W l o o' _ h h1 _ => KeepF.put W l o o' h h1) (Below.refl _ _) (fun _ => rfl)
    (LinI k b (dnS a d) cs W1) (fun _ _ _ => False) (linI_stable (by omega) (Nat.le_refl _)) (fun _ _ _ _ h _ => h) ⟨HCC.out.row, Turn.refl _ _ _⟩ ?a1
    (fun p W => (W.alloc (.cells #[.int .i64 p.row] 3)).alloc (.cells #[.int .i64 p.A.1, .int .i64 p.A.2, .int .i64 p.B.1, .int .i64 p.B.2] 129)) (fun _ _ => (bel_alloc (bel_alloc bel_refl)).below) (fun _ _ _ => .of_below (bel_alloc (bel_alloc bel_refl)).below) ?assign ?body ?done ?stop
  case assign =>
    intro l x W K hK
    simp only [pcV, List.zip_toArray, List.zip_cons_cons, List.zip_nil_right, List.foldl_toArray, List.foldl_cons, List.foldl_nil, List.setIfInBounds_toArray, List.set_cons_succ, List.set_cons_zero]
    gi_wp2
    exact hK
  case body =>
    rintro l pre p W Wb hl hrec hge hsb hcells ⟨hrow, htu⟩ hpre
    have hok := rowsR_ok (onWay_start (dn_le a d)) p (hpre.subset (by simp))
    obtain ⟨fA, fB⟩ := dn_fit HFA.out HFD.out
    have fpA := onWay_fit fA fB hok.A
    have fpB := onWay_fit fA fB hok.B
    have hwsz : (W.alloc (.cells #[.int .i64 p.row] 3)).heap.size = W.heap.size + 1 := by simp
    have brow : Blk Wb W.heap.size 3 [.int .i64 p.row] := hcells _ _ ((Blk.new W 3 [.int .i64 p.row]).alloc _) rfl
    have bpc : Blk Wb (W.heap.size + 1) 129 [.int .i64 p.A.1, .int .i64 p.A.2, .int .i64 p.B.1, .int .i64 p.B.2] := hcells _ _ (Blk.newAt (n := W.heap.size + 1) _ 129 [_, _, _, _] (by simp)) rfl
    have pc0 : Wb.cell? ⟨W.heap.size + 1, 0, none⟩ = some (.int .i64 p.A.1) := bpc.cell 0
    have pc1 : Wb.cell? ⟨W.heap.size + 1, 1, none⟩ = some (.int .i64 p.A.2) := bpc.cell 1
    have pc2 : Wb.cell? ⟨W.heap.size + 1, 2, none⟩ = some (.int .i64 p.B.1) := bpc.cell 2
    have pc3 : Wb.cell? ⟨W.heap.size + 1, 3, none⟩ = some (.int .i64 p.B.2) := bpc.cell 3
    have bpl := bpc.lt
    have HCO := Lib.hid (fun w => columns_any p.A p.B w)
    have hsb' : W.heap.size + 2 ≤ Wb.heap.size := by rw [hsb]; simp
    clear hsb
    have HRW1 := Lib.hid hrow
    have HTU := Lib.hid htu
    have HREC := Lib.hid hrec
    have HBR := Lib.hid brow
    have HBP := Lib.hid bpc
    have HPA := Lib.hid fpA
    have HPB := Lib.hid fpB
    clear hrow htu hrec brow bpc hcells hok fA fB fpA fpB hpre hwsz
    gi_wp2_with (refine ⟨trivial, CallsIn.inRound l (callsIn_wide.2 ?_)⟩; (with_reducible refine (HCO.out _).mono ?_); rintro e w4 ⟨rfl, rfl⟩)
    have hal2 := bel_alloc (o := .cells #[.int .i64 p.B.1, .int .i64 p.B.2] 37) (bel_alloc (o := .cells #[.int .i64 p.A.1, .int .i64 p.A.2] 37) (bel_refl (a := Wb)))
    obtain ⟨W2, hW2⟩ : ∃ W2, (Wb.alloc (.cells #[.int .i64 p.A.1, .int .i64 p.A.2] 37)).alloc (.cells #[.int .i64 p.B.1, .int .i64 p.B.2] 37) = W2 := ⟨_, rfl⟩
    rw [hW2] at hal2 ⊢
    have hsz2 : W2.heap.size = Wb.heap.size + 2 := by rw [← hW2]; simp
    have HXA : Hid (Blk W2 Wb.heap.size 37 [.int .i64 p.A.1, .int .i64 p.A.2]) := Lib.hid (by rw [← hW2]; exact (Blk.newAt _ _ [_, _] rfl).alloc _)
    have HXB : Hid (Blk W2 (Wb.heap.size + 1) 37 [.int .i64 p.B.1, .int .i64 p.B.2]) := Lib.hid (by rw [← hW2]; exact Blk.newAt _ _ [_, _] (by simp))
    have HW2 := Lib.hid hal2.below
    clear hal2 hW2 pc0 pc1 pc2 pc3
    obtain ⟨r₀, hr₀⟩ := HREC.out
    have hl₀ : W2.heap[l]? = some (.loop r₀) := (HW2.out.block l (Array.getElem?_eq_some_iff.1 hr₀).1).trans hr₀
    have hwb := HTU.out.size
    refine wpIn_range_bn (P := Try.prog) (n := 9 - 1 - 1) (gf := 103) (lb := #[.pointer (some ⟨Wb.heap.size + 1, 0, none⟩), .pointer (some ⟨Wb.heap.size, 0, none⟩)]) hl₀ rfl (enters_of Try.func103 (by kernel_rfl) rfl)
      (cols_gives (9 - 1 - 1 - 1) (Wb.heap.size + 1) Wb.heap.size HXB.out HXA.out HPA.out HPB.out (Kp := KeepF (fun i => i = k)) (fun h => ⟨h.size, fun i t cs hi hb => h.cells i t cs (by rcases hi with hi | hi | hi <;> omega) hb⟩))
      (fun h h' => KeepF.trans h h') (fun W l o o' _ h h1 _ => KeepF.put W l o o' h h1) (Below.refl _ _) (fun _ => rfl)
      (BitI k b (dnS a d) p.row (pre.foldl (pieceC b (dnS a d)) cs) W1 Wb) (fun _ _ _ => False) (bitI_stable (by omega) (by omega) (by omega)) (fun _ _ _ _ h _ => h)
      ⟨HRW1.out.keepB HW2.out, turn_more HTU.out HW2.out hwb, .of_below HW2.out, keepsOthers_below HW2.out⟩ ?a2
      (fun t W => W.alloc (.cells #[.int .i64 t.u, .int .i64 t.v, .int .i64 t.w, .int .i64 t.z] 129)) (fun _ _ => (bel_alloc bel_refl).below) (fun _ _ _ => .of_below (bel_alloc bel_refl).below) ?assign2 ?body2 ?done2 ?stop2
    case assign2 =>
      intro l x W K hK
      simp only [btV, List.zip_toArray, List.zip_cons_cons, List.zip_nil_right, List.foldl_toArray, List.foldl_cons, List.foldl_nil, List.setIfInBounds_toArray, List.set_cons_succ, List.set_cons_zero]
      gi_wp2
      exact hK
    case body2 =>
      rintro l2 pre2 t W3 Wc hl2 _ hge2 hsb2 hcells2 ⟨hrow2, htu2, hkf2, hko2⟩ hpre2
      have hbt := bitsR_ok t (hpre2.subset (by simp))
      have hpa := dotB_true.1 HPA.out
      have hpb := dotB_true.1 HPB.out
      obtain ⟨bu, bw, bv, bz⟩ := hbt
      have bt : Blk Wc W3.heap.size 129 [.int .i64 t.u, .int .i64 t.v, .int .i64 t.w, .int .i64 t.z] := hcells2 _ _ (Blk.new W3 129 [_, _, _, _]) rfl
      have brow := hkf2.cells _ _ _ (show ¬ W.heap.size = k by omega) HBR.out
      have bcb := htu2.blk HCB.out (show w.heap.size ≠ k by omega) (fun e => by cases e)
      have bsg := htu2.blk HSG.out (show w2.heap.size + 1 + 1 ≠ k by omega) (fun e => by cases e)
      have hgk : g ≠ k := fun e => by
        subst e
        have h1 := HCC.out.blk
        have h2 := HCC.out.row
        unfold Blk at h1 h2
        rw [h1] at h2
        injection h2 with h2
        injection h2 with _ h2 _
        revert h2
        decide
      obtain ⟨cx, hcx⟩ : ∃ cx, pre2.foldl (bitC b (dnS a d) p.row) (pre.foldl (pieceC b (dnS a d)) cs) = cx := ⟨_, rfl⟩
      have hlx : cx.length = cs.length := by rw [← hcx, bits_len, pieces_len]
      rw [hcx] at hrow2
      have hcc : Cc Wc g k b cx := ⟨by rw [hlx]; exact htu2.blk HCC.out.blk hgk (fun e => by cases e), hrow2, by rw [hlx]; exact HCC.out.len, HCC.out.box⟩
      have hnext : (pre2 ++ [t]).foldl (bitC b (dnS a d) p.row) (pre.foldl (pieceC b (dnS a d)) cs) = bitC b (dnS a d) p.row cx t := by rw [List.foldl_append, hcx]; rfl
      have hsg := dnS_one a d
      have hat := at_any hcc t.col p.row
      have HNX := Lib.hid hnext
      have HCX := Lib.hid hcc
      have HLX := Lib.hid hlx
      have HT2 := Lib.hid htu2
      have HK2 := Lib.hid hkf2
      have HO2 := Lib.hid hko2
      have HBT := Lib.hid bt
      have HRO := Lib.hid brow
      have HCBc := Lib.hid bcb
      have HSGc := Lib.hid bsg
      unfold AtR at hat
      have e0 : Wc.cell? ⟨w.heap.size, 0, none⟩ = some (.pointer (some ⟨g, 0, none⟩)) := bcb.cell 0
      have e1 : Wc.cell? ⟨W.heap.size, 0, none⟩ = some (.int .i64 p.row) := brow.cell 0
      have el0 := bcb.lt
      have el1 := brow.lt
      obtain ⟨u, v, x, z⟩ := t
      dsimp only at bu bw bv bz
      have hcol : ∀ q : Int, Bt.col ⟨u, v, x, z⟩ = q → -16385 ≤ q ∧ q ≤ 16384 := fun q hq => by rw [← hq]; unfold Bt.col; unfold btw at bu bw; dsimp only; omega
      have hbd : (-1048576 ≤ u ∧ u ≤ 1048576) ∧ (-1048576 ≤ v ∧ v ≤ 1048576) ∧ (-1048576 ≤ x ∧ x ≤ 1048576) ∧ (-1048576 ≤ z ∧ z ≤ 1048576) := by unfold btw at bu bw bv bz; omega
      clear hpa hpb bu bw bv bz bt brow bcb bsg hcells2 hrow2 htu2 hkf2 hko2 hpre2 hcx hcc hnext hsb2 hlx
      obtain ⟨q, hq⟩ : ∃ q, Bt.col ⟨u, v, x, z⟩ = q := ⟨_, rfl⟩
      obtain ⟨hq1, hq2⟩ := hcol q hq
      rw [hq] at hat ⊢
      have HQ := Lib.hid hq
      obtain ⟨⟨u1, u2⟩, ⟨v1, v2⟩, ⟨r1, r2⟩, z1, z2⟩ := hbd
      clear hcol hq
      dsimp only
      generalize hsgg : dnS a d = sg at *
      clear hsgg
      cases hpl : placeB b q p.row with
      | false =>
        rw [hpl] at hat
        have HAT := Lib.hid hat
        have HPL := Lib.hid hpl
        clear hat hpl
        gi_wp2_with (refine ⟨trivial, CallsIn.inRound l2 (callsIn_wide.2 ?_)⟩; (with_reducible refine HAT.out.mono ?_); rintro e w5 ⟨rfl, hb5⟩)
        refine ⟨keepsOthers_below hb5, .of_below hb5, ?_, turn_more HT2.out hb5 HT2.out.size, keepF_more HK2.out hb5 HK2.out.size, others_more HO2.out hb5 HO2.out.size⟩
        rw [HNX.out]
        unfold bitC
        rw [HQ.out, if_neg (by rw [HPL.out]; decide)]
        exact HCX.out.row.keepB hb5
      | true =>
        rw [hpl] at hat
        obtain ⟨p1, p2, -, -⟩ := place_bd HCX.out.box hpl
        obtain ⟨j, hj⟩ : ∃ j : Nat, placeN b q p.row = j := ⟨(placeN b q p.row).toNat, by omega⟩
        have hjl : j < cx.length := by have := HCX.out.len; omega
        have hjl2 : (j : Int) < cx.length := by omega
        obtain ⟨⟨co, ar⟩, hc⟩ : ∃ c, cx[j]? = some c := ⟨_, List.getElem?_eq_getElem hjl⟩
        rw [if_pos rfl, hj] at hat
        obtain ⟨d0, hd0⟩ : ∃ d0, sg * (z - v) = d0 := ⟨_, rfl⟩
        have hd1 : -2097152 ≤ d0 ∧ d0 ≤ 2097152 := by rcases hsg with rfl | rfl <;> omega
        obtain ⟨d1, d2⟩ := hd1
        have hm := mul_bdd (a := d0) (b := u - q * 64 + x - q * 64) (A := 8388608) (B := 8388608) (by omega) (by omega) (by omega) (by omega)
        obtain ⟨e2, he2⟩ : ∃ e2, d0 * (u - q * 64 + x - q * 64) = e2 := ⟨_, rfl⟩
        rw [he2] at hm
        have hm1 : -70368744177664 ≤ e2 := by omega
        have hm2 : e2 ≤ 70368744177664 := by omega
        have hbit : bitC b sg p.row cx ⟨u, v, x, z⟩ = cx.set j (wrap64 (co + d0), wrap64 (ar + e2)) := by
          unfold bitC bitE bitD
          rw [HQ.out, if_pos hpl, hj]
          dsimp only
          rw [hd0, he2, Int.toNat_natCast]
          apply List.ext_getElem?
          intro i
          rw [List.getElem?_modify, List.getElem?_set]
          by_cases hij : j = i
          · subst hij
            rw [hc]
            simp [hjl, addC]
          · simp [hij]
        have t0 : IntKind.i64.wrap (u - q * 64) = u - q * 64 := IntWalk.i64_in _ (by omega)
        have t1 : IntKind.i64.wrap (u - q * 64 + x) = u - q * 64 + x := IntWalk.i64_in _ (by omega)
        have t2 : IntKind.i64.wrap (u - q * 64 + x - q * 64) = u - q * 64 + x - q * 64 := IntWalk.i64_in _ (by omega)
        have t3 : IntKind.i64.wrap (d0 * (u - q * 64 + x - q * 64)) = e2 := by rw [he2]; exact IntWalk.i64_in _ (by omega)
        have t4 : IntKind.i64.wrap (sg * (z - v)) = d0 := by rw [hd0]; exact IntWalk.i64_in _ (by omega)
        have t5 : wrap64 (sg * (z - v)) = d0 := by rw [hd0]; exact IntWalk.wrap64_in _ (by omega)
        have HTT := Lib.hid (And.intro t0 (And.intro t1 (And.intro t2 t3)))
        have HT4 := Lib.hid (And.intro t4 t5)
        have HAT := Lib.hid hat
        have HBI := Lib.hid hbit
        have HC := Lib.hid hc
        clear hat hpl p1 p2 hj hc hm hbit t0 t1 t2 t3 t4 t5 hd0 he2
        gi_upto_region 10 with (refine ⟨trivial, CallsIn.inRound l2 (callsIn_wide.2 ?_)⟩; (with_reducible refine HAT.out.mono ?_); rintro e w5 ⟨rfl, hb5⟩)
        have HB5 := Lib.hid hb5
        have hb5t := HBT.out.keepB hb5
        have hb5s := HSGc.out.keepB hb5
        have hb5c := HCBc.out.keepB hb5
        have hcc5 := HCX.out.keepB hb5
        have m0 : w5.cell? ⟨W3.heap.size, 0, none⟩ = some (.int .i64 u) := hb5t.cell 0
        have m1 : w5.cell? ⟨W3.heap.size, 1, none⟩ = some (.int .i64 v) := hb5t.cell 1
        have m2 : w5.cell? ⟨W3.heap.size, 2, none⟩ = some (.int .i64 x) := hb5t.cell 2
        have m3 : w5.cell? ⟨W3.heap.size, 3, none⟩ = some (.int .i64 z) := hb5t.cell 3
        have ms : w5.cell? ⟨w2.heap.size + 1 + 1, 0, none⟩ = some (.int .i64 sg) := hb5s.cell 0
        have mc : w5.cell? ⟨w.heap.size, 0, none⟩ = some (.pointer (some ⟨g, 0, none⟩)) := hb5c.cell 0
        have mg : w5.cell? ⟨g, 5, none⟩ = some (.slice (some ⟨k, 0, none⟩) cx.length cx.length) := hcc5.blk.cell 5
        have n0 : w5.cell? ⟨k, j * 2, none⟩ = some (.int .i64 co) := (hcc5.row.cell _).trans (cvs_at cx j _ HC.out).1
        have n1 : w5.cell? ⟨k, j * 2 + 1, none⟩ = some (.int .i64 ar) := (hcc5.row.cell _).trans (cvs_at cx j _ HC.out).2
        have nf0 := hcc5.row.frozen (j * 2)
        have nf1 := hcc5.row.frozen (j * 2 + 1)
        have ml := hb5t.lt
        have msl := hb5s.lt
        have mcl := hb5c.lt
        have mgl := hcc5.blk.lt
        have mkl := hcc5.row.lt
        have HCC5 := Lib.hid hcc5
        obtain ⟨t4, t5⟩ := HT4.out
        clear hb5 hb5t hb5s hb5c hcc5 e0 e1 el0 el1
        gi_upto_region 13 with (fail)
        have hrow6 := HCC5.out.row.set (j * 2) (.int .i64 (wrap64 (co + d0)))
        have hkt : k ≠ W3.heap.size := by have := HT2.out.size; omega
        have hkc : k ≠ w.heap.size := by omega
        have hst6 : KeepF (fun i => i = k) Wc (w5.setCell ⟨k, j * 2, none⟩ (.int .i64 (wrap64 (co + d0)))) := (KeepF.of_below (F := fun i => i = k) HB5.out).set (p := ⟨k, j * 2, none⟩) rfl _
        have hot6 : KeepsOthers Wc (w5.setCell ⟨k, j * 2, none⟩ (.int .i64 (wrap64 (co + d0)))) := (keepsOthers_below HB5.out).trans (KeepsOthers.setCell _ _ _)
        have htu6 : Turn W1 (w5.setCell ⟨k, j * 2, none⟩ (.int .i64 (wrap64 (co + d0)))) k none := (turn_more HT2.out HB5.out HT2.out.size).set _ _
        have m0' : (w5.setCell ⟨k, j * 2, none⟩ (.int .i64 (wrap64 (co + d0)))).cell? ⟨W3.heap.size, 0, none⟩ = some (.int .i64 u) := cell_far m0 hkt _
        have m2' : (w5.setCell ⟨k, j * 2, none⟩ (.int .i64 (wrap64 (co + d0)))).cell? ⟨W3.heap.size, 2, none⟩ = some (.int .i64 x) := cell_far m2 hkt _
        have mc' : (w5.setCell ⟨k, j * 2, none⟩ (.int .i64 (wrap64 (co + d0)))).cell? ⟨w.heap.size, 0, none⟩ = some (.pointer (some ⟨g, 0, none⟩)) := cell_far mc hkc _
        have mg' : (w5.setCell ⟨k, j * 2, none⟩ (.int .i64 (wrap64 (co + d0)))).cell? ⟨g, 5, none⟩ = some (.slice (some ⟨k, 0, none⟩) cx.length cx.length) := cell_far mg (Ne.symm hgk) _
        have n1' : (w5.setCell ⟨k, j * 2, none⟩ (.int .i64 (wrap64 (co + d0)))).cell? ⟨k, j * 2 + 1, none⟩ = some (.int .i64 ar) := by
          rw [hrow6.cell, List.getElem?_set_ne (by omega)]
          exact (cvs_at cx j _ HC.out).2
        have nf1' := hrow6.frozen (j * 2 + 1)
        have HROW6 := Lib.hid hrow6
        have HST6 := Lib.hid hst6
        have HOT6 := Lib.hid hot6
        have HTU6 := Lib.hid htu6
        clear hrow6 hst6 hot6 htu6 m0 m1 m2 m3 ms mc mg n0 n1 nf0 nf1 t4 t5
        generalize w5.setCell ⟨k, j * 2, none⟩ (.int .i64 (wrap64 (co + d0))) = w6 at *
        obtain ⟨t0, t1, t2, t3⟩ := HTT.out
        refine wpIn_region_drew_tail 24 (free_round _) (by kernel_rfl) (by kernel_rfl) (by kernel_rfl) ?_
        simp only [List.take_succ_cons, List.take_zero, List.drop_succ_cons, List.drop_zero]
        repeat (go_big_quiet_step (fail))
        refine wpQuiet_nil ?_
        rintro _ ⟨nq, rfl⟩
        have n1d : (w6.drewN nq).cell? ⟨k, j * 2 + 1, none⟩ = some (.int .i64 ar) := n1'
        have nf1d : (w6.drewN nq).frozen? ⟨k, j * 2 + 1, none⟩ = false := nf1'
        clear m0' m2' mc' mg' n1' nf1' t0 t1 t2 t3
        gi_wp2
        have hod : KeepsOthers w6 (w6.drewN nq) := ⟨Nat.le_refl _, fun _ _ h _ => h⟩
        have hrow7 := (HROW6.out.drewN nq).set (j * 2 + 1) (.int .i64 (wrap64 (ar + e2)))
        rw [cvs_set cx j _ (wrap64 (co + d0), wrap64 (ar + e2)) HC.out] at hrow7
        have hk7 : KeepF (fun i => i = k) Wc ((w6.drewN nq).setCell ⟨k, j * 2 + 1, none⟩ (.int .i64 (wrap64 (ar + e2)))) := (HST6.out.trans (.of_below (bel_drewN bel_refl).below)).set (p := ⟨k, j * 2 + 1, none⟩) rfl _
        refine ⟨(HOT6.out.trans hod).trans (KeepsOthers.setCell _ _ _), hk7, ?_, (turn_more HTU6.out (bel_drewN bel_refl).below HTU6.out.size).set _ _, HK2.out.trans hk7, HO2.out.trans ((HOT6.out.trans hod).trans (KeepsOthers.setCell _ _ _))⟩
        rw [HNX.out, HBI.out]
        exact hrow7
    case done2 =>
      rintro xs W3 hxs ⟨hrow2, htu2, hkf2, hko2⟩
      subst hxs
      refine ⟨hko2, hkf2, ?_, htu2⟩
      rw [List.foldl_append]
      exact hrow2
    case stop2 =>
      rintro c pre W hD hf
      exact hf.elim
  case' done =>
    rintro D xs W hD hxs ⟨hrow, htu⟩ hKD
    have hgk : g ≠ k := fun e => by
      subst e
      have h1 := HCC.out.blk
      have h2 := HCC.out.row
      unfold Blk at h1 h2
      rw [h1] at h2
      injection h2 with h2
      injection h2 with _ h2 _
      revert h2
      decide
    have hcc : Cc W g k b (lineC b cs a d) := ⟨by rw [lineC_len]; exact htu.blk HCC.out.blk hgk (fun e => by cases e), by rw [hxs] at hrow; exact hrow, by rw [lineC_len]; exact HCC.out.len, HCC.out.box⟩
    have hw : Turn w W k none := ⟨htu.os.trans HBW.out.os, htu.tape.trans HBW.out.tape, htu.output.trans HBW.out.output, Nat.le_trans HBW.out.size htu.size, fun i hi h1 h2 => (htu.block i (by have := HBW.out.size; omega) h1 h2).trans (HBW.out.block i hi)⟩
    have HCC3 := Lib.hid hcc
    have HTW := Lib.hid hw
    have HKD := Lib.hid hKD
    have HDD := Lib.hid hD
    clear hcc hw hKD hD hrow htu
    go_wp2
  case stop =>
    rintro D c pre W hD _ hf
    exact hf.elim
  case done =>
    have hpb : Below W1.heap.size W (W.putObj D (.deferred none)) := belowK_b (w := W1) (Nat.le_refl _) _ D _ _ HDD.out HKD.out rfl rfl
    have hgl := HCC.out.blk.lt
    have hkl2 := HCC.out.row.lt
    refine ⟨by simp, .inl ⟨_, _, rfl, run_takeDeferred HKD.out, ?_⟩⟩
    refine ⟨.tuple #[], ?_, ⟨_, rfl⟩, ⟨HCC3.out.blk.below hpb hgl, HCC3.out.row.below hpb hkl2, HCC3.out.len, HCC3.out.box⟩, turn_more HTW.out hpb HBW.out.size⟩
    simp [results, Try.f82, go_sem]

end Go.Proofs.Ytbflncfhbmlibaa
