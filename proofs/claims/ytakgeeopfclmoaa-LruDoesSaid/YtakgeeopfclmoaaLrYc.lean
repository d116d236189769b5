/-
  Layer 25: the document's Get.
-/
import Derived.Test.YtakgeeopfclmoaaLrYb
namespace Go.Proofs.Ytakgeeopfclmoaa
open Go.RowKit Go.Maps

def getR (k : K4) (R : List Re) : List Re := match findR k R with | some r => r :: dropR k R | none => dropR k R
theorem findR_key {k : K4} {R : List Re} {r : Re} (h : findR k R = some r) : r.k = k := by
  have := List.find?_some h
  simpa using this
theorem map_getR (k : K4) (R : List Re) : (getR k R).map Re.en = getL k (R.map Re.en) := by
  unfold getR getL
  rw [find_mapR]
  cases hf : findR k R with
  | some r => simp only [Option.map_some, List.map_cons, map_dropR]
  | none =>
    simp only [Option.map_none]
    rw [(dropR_none (R := R) fun q hq => by simpa using List.find?_eq_none.1 hf q hq).1]
def RGet (B x : Nat) (budget : Int) (R : List Re) (k : K4) (w : World) (e : Ending) (w' : World) : Prop :=
  e = .returned (.tuple #[mvR (fR k R), .bool (findR k R).isSome]) ∧ RfE B w' x budget (getR k R) ∧ Turn w w' x none
section
variable {B x : Nat} {w w' : World} {budget : Int} {R : List Re} {A : Option Addr} {c : Nat}
theorem Rf.readsAll (h : Rf B w x budget R A c) : Reads w w.heap.size 9 A R.length (R.flatMap Re.cells) := by
  rcases Nat.eq_zero_or_pos R.length with h0 | h0
  · obtain rfl := List.eq_nil_of_length_eq_zero h0
    exact ⟨rfl, fun h => absurd h (by simp)⟩
  · obtain ⟨b, hA, _⟩ := h.slotA h0
    have h1 := h.reads 0 R.length (by omega) b hA
    rw [List.drop_zero, List.take_length, Nat.zero_mul] at h1
    rw [hA]
    exact h1
theorem own_one9 (w : World) (r : Re) (B : Nat) (hB : B ≤ w.heap.size) : (w.alloc (.cells r.cells.toArray 60)).ownsRow B 60 9 (.slice (some ⟨w.heap.size, 0, none⟩) 1 1) 1 r.cells :=
  own_of_blk (Blk.new w _ r.cells) (by simp [Re.cells]) hB (by unfold maxLen; omega)
/-- Drop, its result written out. -/
def RDropX (B x : Nat) (budget : Int) (R' : List Re) (r : Re) (f : Bool) (w : World) (e : Ending) (w' : World) : Prop :=
  e = .returned (.tuple #[.agg #[.int .i64 r.m.box.a, .int .i64 r.m.box.b, .int .i64 r.m.box.c, .int .i64 r.m.box.d, .slice r.A r.m.bs.length r.c], .bool f]) ∧ (∃ A' c', Rf B w' x budget R' A' c') ∧ Turn w w' x none
theorem turn_blk {t : TypeId} {b : Nat} {cs : List Value} (ht : Turn w w' x none) (hb : Blk w b t cs) (hne : b ≠ x) : Blk w' b t cs := ht.blk hb hne (by intro e; cases e)
set_option maxRecDepth 20000 in
set_option maxHeartbeats 4000000 in
theorem rGet_any (h : Rf B w x budget R A c) (hlen : R.length ≤ 4294967296) (k : K4) :
    Calls Try.prog 34 #[.pointer (some ⟨x, 0, none⟩), .agg #[.int .i64 k.g, .int .i64 k.p, .int .i64 k.x, .int .i64 k.y]] w (RGet B x budget R k w) := by
  obtain ⟨i0, hi0, hz0, hz1, hz2⟩ := info_parts entry_info
  have hal := bel_alloc (o := .cells #[.int .i64 0, .int .i64 0, .int .i64 0, .int .i64 0, .slice none 0 0] 35) (bel_alloc (o := .cells #[.int .i64 k.g, .int .i64 k.p, .int .i64 k.x, .int .i64 k.y] 24) (bel_refl (a := w)))
  have hkb := (Blk.newAt w 24 [.int .i64 k.g, .int .i64 k.p, .int .i64 k.x, .int .i64 k.y] rfl).alloc (.cells #[.int .i64 0, .int .i64 0, .int .i64 0, .int .i64 0, .slice none 0 0] 35)
  have hrb : Blk ((w.alloc (.cells #[.int .i64 k.g, .int .i64 k.p, .int .i64 k.x, .int .i64 k.y] 24)).alloc (.cells #[.int .i64 0, .int .i64 0, .int .i64 0, .int .i64 0, .slice none 0 0] 35)) (w.heap.size + 1) 35 [.int .i64 0, .int .i64 0, .int .i64 0, .int .i64 0, .slice none 0 0] := Blk.newAt _ _ [_, _, _, _, _] (by simp)
  have hdr := rDrop_any (h.keepB hal.below) hlen k
  have hxl := h.blk.lt
  have hBw := h.lt
  have HAL := Lib.hid hal
  have HKB := Lib.hid hkb
  have HRB := Lib.hid hrb
  have hdl : (dropR k R).length ≤ R.length := (List.eraseP_sublist ..).length_le
  cases hf : findR k R with
  | none =>
    have hfr : fR k R = zRe := by unfold fR; rw [hf]
    have hgr : getR k R = dropR k R := by unfold getR; rw [hf]
    have hdr2 := hdr.mono (R' := RDropX B x budget (dropR k R) zRe false _) (fun e w' ⟨g1, g2, g3⟩ => ⟨by rw [g1, hfr, hf]; rfl, g2, g3⟩)
    have HD := Lib.hid hdr2
    have HFR := Lib.hid hfr
    have HGR := Lib.hid hgr
    have HF := Lib.hid hf
    clear h hal hkb hrb hdr hdr2 hfr hgr hf
    go_enter Try.func34, Try.ntmps34
    go_wp2_with (first
      | (go_at_call 36; (with_reducible refine HD.out.mono ?_); rintro e w1 ⟨rfl, ⟨A1, c1, h1⟩, ht1⟩
         have hrb1 := turn_blk ht1 HRB.out (by omega)
         have r0 : w1.cell? ⟨w.heap.size + 1, 0, none⟩ = some (.int .i64 0) := hrb1.cell 0
         have r1 : w1.cell? ⟨w.heap.size + 1, 1, none⟩ = some (.int .i64 0) := hrb1.cell 1
         have r2 : w1.cell? ⟨w.heap.size + 1, 2, none⟩ = some (.int .i64 0) := hrb1.cell 2
         have r3 : w1.cell? ⟨w.heap.size + 1, 3, none⟩ = some (.int .i64 0) := hrb1.cell 3
         have r4 : w1.cell? ⟨w.heap.size + 1, 4, none⟩ = some (.slice none 0 0) := hrb1.cell 4
         have q0 := hrb1.frozen 0
         have q1 := hrb1.frozen 1
         have q2 := hrb1.frozen 2
         have q3 := hrb1.frozen 3
         have q4 := hrb1.frozen 4
         have hrl1 := hrb1.lt
         have H1 := Lib.hid h1
         have HT1 := Lib.hid ht1
         have HRB1 := Lib.hid hrb1
         clear h1 ht1 hrb1))
    refine bodyPost_ret (v := .tuple #[mvR zRe, .bool false]) (by simp [results, Try.results34, go_sem, mvR, zRe, zMs, *]) rfl ?_
    refine ⟨by rw [HFR.out, HF.out]; rfl, ?_, ?_⟩
    · rw [HGR.out]
      exact ⟨_, _, (H1.out.maskW HRB1.out (by omega) zRe.m zRe.A zRe.c).keepB (bel_alloc bel_refl).below⟩
    · exact turn_below (turn_below (Turn.trans (Turn.of_below (g := x) (row := none) HAL.out.below) HT1.out (.inl rfl)) (bel_maskW (B := w.heap.size) ⟨⟨rfl, rfl, rfl, Nat.le_refl _, fun _ _ => rfl⟩, by omega⟩ (by omega) zRe.m zRe.A zRe.c).below (Nat.le_refl _)) (bel_alloc bel_refl).below (by simp [maskW]; omega)
  | some r =>
    have hfr : fR k R = r := by unfold fR; rw [hf]
    have hgr : getR k R = r :: dropR k R := by unfold getR; rw [hf]
    have hrk := findR_key hf
    have hra := h.ar r (List.mem_of_find?_eq_some hf)
    have hdr2 := hdr.mono (R' := RDropX B x budget (dropR k R) r true _) (fun e w' ⟨g1, g2, g3⟩ => ⟨by rw [g1, hfr, hf]; rfl, g2, g3⟩)
    have HD := Lib.hid hdr2
    have HRA := Lib.hid (hra.keepB hal.below)
    have HFR := Lib.hid hfr
    have HGR := Lib.hid hgr
    have HF := Lib.hid hf
    have HRK := Lib.hid hrk
    have HXB := Lib.hid (h.blk.keepB hal.below)
    clear h hal hkb hrb hdr hdr2 hfr hgr hf hrk hra
    go_enter Try.func34, Try.ntmps34
    go_upto_region 3 with (first
      | (go_at_call 36; (with_reducible refine HD.out.mono ?_); rintro e w1 ⟨rfl, ⟨A1, c1, h1⟩, ht1⟩
         have H1 := Lib.hid h1
         have HT1 := Lib.hid ht1
         have HKB1 := Lib.hid (turn_blk ht1 HKB.out (by omega))
         have HRB1 := Lib.hid (turn_blk ht1 HRB.out (by omega))
         have hz1' : w.heap.size + 2 ≤ w1.heap.size := by have := ht1.size; simp at this; omega
         clear h1 ht1))
    have hb3 := (bel_alloc (o := .cells #[.int .i64 r.m.box.a, .int .i64 r.m.box.b, .int .i64 r.m.box.c, .int .i64 r.m.box.d, .slice r.A r.m.bs.length r.c] 35) (bel_refl (a := w1))).below
    have h3 := H1.out.keepB hb3
    have hm3 := Blk.newAt w1 35 [.int .i64 r.m.box.a, .int .i64 r.m.box.b, .int .i64 r.m.box.c, .int .i64 r.m.box.d, .slice r.A r.m.bs.length r.c] rfl
    have hkb3 := HKB1.out.keepB hb3
    have hrb3 := HRB1.out.keepB hb3
    have hra3 := ((HRA.out.turn HT1.out HXB.out H1.out.base).keepB hb3)
    have ht3 := turn_below HT1.out hb3 HT1.out.size
    generalize (World.alloc w1 _) = w3 at h3 hm3 hkb3 hrb3 hra3 ht3 ⊢
    clear hb3 H1 HT1 HKB1 HRB1 HRA HXB HKB HRB HD
    have x1 : w3.cell? ⟨x, 1, none⟩ = some (.slice A1 (dropR k R).length c1) := h3.blk.cell 1
    have fx1 := h3.blk.frozen 1
    have hxl3 := h3.blk.lt
    have kk0 : w3.cell? ⟨w.heap.size, 0, none⟩ = some (.int .i64 k.g) := hkb3.cell 0
    have kk1 : w3.cell? ⟨w.heap.size, 1, none⟩ = some (.int .i64 k.p) := hkb3.cell 1
    have kk2 : w3.cell? ⟨w.heap.size, 2, none⟩ = some (.int .i64 k.x) := hkb3.cell 2
    have kk3 : w3.cell? ⟨w.heap.size, 3, none⟩ = some (.int .i64 k.y) := hkb3.cell 3
    have g0 : w3.cell? ⟨w1.heap.size, 0, none⟩ = some (.int .i64 r.m.box.a) := hm3.cell 0
    have g1 : w3.cell? ⟨w1.heap.size, 1, none⟩ = some (.int .i64 r.m.box.b) := hm3.cell 1
    have g2 : w3.cell? ⟨w1.heap.size, 2, none⟩ = some (.int .i64 r.m.box.c) := hm3.cell 2
    have g3 : w3.cell? ⟨w1.heap.size, 3, none⟩ = some (.int .i64 r.m.box.d) := hm3.cell 3
    have g4 : w3.cell? ⟨w1.heap.size, 4, none⟩ = some (.slice r.A r.m.bs.length r.c) := hm3.cell 4
    have hkl := hkb3.lt
    have hml := hm3.lt
    have H3 := Lib.hid h3
    have HM3 := Lib.hid hm3
    have HRB3 := Lib.hid hrb3
    have HRA3 := Lib.hid hra3
    have HT3 := Lib.hid ht3
    clear h3 hm3 hkb3 hrb3 hra3 ht3
    go_region_law
      (first
        | (refine step_append_any _ (by rfl) (.tmp 19) (.tmp 23) _ (by rfl) w3.heap.size 60 i0 _ 9 88 Try.underlying54 hi0 hz0 hz1 hz2 rfl (by omega) _ 1 _ (by rfl) (own_one9 w3 ⟨k, r.m, r.A, r.c⟩ w3.heap.size (Nat.le_refl _)) _ _ (dropR k R).length _ _ (by rfl) ((H3.out.keepB (bel_alloc bel_refl).below).readsAll) (cells_one _) (by unfold maxLen; omega) (by omega) (by simp) ?_; intro v' w7 hown7 hgrow7 hat7
           obtain ⟨A7, c7, rfl⟩ := own_slice hown7
           have hb7 : Below w3.heap.size w3 w7 := by
             refine Below.grown (?_ : Below w3.heap.size w3 _) hgrow7 ?_ ?_
             · refine Bel.below ?_
               repeat (first | with_reducible exact bel_refl | with_reducible apply bel_alloc | with_reducible apply bel_drewN | with_reducible apply bel_drew | (with_reducible refine bel_set ?_ ?_; rotate_left; · first | (simp; done) | (simp; omega) | omega) | with_reducible refine bel_call (by assumption) ?_)
             · simp
             · simp [Value.ownBlock]
           have y1 : w7.cell? ⟨x, 1, none⟩ = some (.slice A1 (dropR k R).length c1) := (hb7.cell (p := ⟨x, 1, none⟩) hxl3).trans x1
           have yf : w7.frozen? ⟨x, 1, none⟩ = false := (hb7.frozen (p := ⟨x, 1, none⟩) hxl3).trans fx1
           have HO7 := Lib.hid hown7
           have HB7 := Lib.hid hb7
           clear hown7 hgrow7 hat7 hb7))
    all_goals
      have hn8 : 1 + (dropR k R).length = (r :: dropR k R).length := by simp; omega
      have hr' : (⟨k, r.m, r.A, r.c⟩ : Re) = r := by rw [← HRK.out]
      have hown8 := HO7.out
      rw [hr', hn8, show r.cells ++ (dropR k R).flatMap Re.cells = (r :: dropR k R).flatMap Re.cells from rfl] at hown8
      have hown9 := own_mono hown8 (B := B) H3.out.lt
      have har8 : ∀ q ∈ r :: dropR k R, Ar B w7 q.A q.m.bs q.c := fun q hq => by
        rcases List.mem_cons.1 hq with rfl | hq
        · exact HRA3.out.keepB HB7.out
        · exact (H3.out.ar q hq).keepB HB7.out
      obtain ⟨hset1, hset2⟩ := H3.out.setL HB7.out hown9 har8
      have hmb8 := (HM3.out.keepB HB7.out).far (p := ⟨x, 1, none⟩) (by simp; omega) (.slice A7 (r :: dropR k R).length c7)
      have hrb8 := (HRB3.out.keepB HB7.out).far (p := ⟨x, 1, none⟩) (by simp; omega) (.slice A7 (r :: dropR k R).length c7)
      rw [hn8]
      have HT9 := Lib.hid (Turn.trans HT3.out hset2 (.inl rfl))
      have HS9 := Lib.hid hset1
      clear HO7 HB7 hown8 hown9 har8 hset1 hset2 hn8 x1 fx1 y1 yf kk0 kk1 kk2 kk3 g0 g1 g2 g3 g4
      generalize (World.setCell w7 _ _) = w9 at hmb8 hrb8 HT9 HS9 ⊢
      have g0 : w9.cell? ⟨w1.heap.size, 0, none⟩ = some (.int .i64 r.m.box.a) := hmb8.cell 0
      have g1 : w9.cell? ⟨w1.heap.size, 1, none⟩ = some (.int .i64 r.m.box.b) := hmb8.cell 1
      have g2 : w9.cell? ⟨w1.heap.size, 2, none⟩ = some (.int .i64 r.m.box.c) := hmb8.cell 2
      have g3 : w9.cell? ⟨w1.heap.size, 3, none⟩ = some (.int .i64 r.m.box.d) := hmb8.cell 3
      have g4 : w9.cell? ⟨w1.heap.size, 4, none⟩ = some (.slice r.A r.m.bs.length r.c) := hmb8.cell 4
      have r0 : w9.cell? ⟨w.heap.size + 1, 0, none⟩ = some (.int .i64 0) := hrb8.cell 0
      have r1 : w9.cell? ⟨w.heap.size + 1, 1, none⟩ = some (.int .i64 0) := hrb8.cell 1
      have r2 : w9.cell? ⟨w.heap.size + 1, 2, none⟩ = some (.int .i64 0) := hrb8.cell 2
      have r3 : w9.cell? ⟨w.heap.size + 1, 3, none⟩ = some (.int .i64 0) := hrb8.cell 3
      have r4 : w9.cell? ⟨w.heap.size + 1, 4, none⟩ = some (.slice none 0 0) := hrb8.cell 4
      have q0 := hrb8.frozen 0
      have q1 := hrb8.frozen 1
      have q2 := hrb8.frozen 2
      have q3 := hrb8.frozen 3
      have q4 := hrb8.frozen 4
      have hml9 := hmb8.lt
      have hrl9 := hrb8.lt
      have HRB9 := Lib.hid hrb8
      clear hmb8 hrb8
      go_wp2_with fail
      refine bodyPost_ret (v := .tuple #[mvR r, .bool true]) (by simp [results, Try.results34, go_sem, mvR, *]) rfl ?_
      refine ⟨by rw [HFR.out, HF.out]; rfl, ?_, ?_⟩
      · rw [HGR.out]
        exact ⟨_, _, HS9.out.maskW HRB9.out (by omega) r.m r.A r.c⟩
      · exact turn_below (Turn.trans (Turn.of_below (g := x) (row := none) HAL.out.below) HT9.out (.inl rfl)) (bel_maskW (B := w.heap.size) ⟨⟨rfl, rfl, rfl, Nat.le_refl _, fun _ _ => rfl⟩, by omega⟩ (by omega) r.m r.A r.c).below (Nat.le_refl _)
end
end Go.Proofs.Ytakgeeopfclmoaa
