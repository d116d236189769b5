/-
  Layer 25: the document's Put and Resize.
-/
import Derived.Test.YtakgeeopfclmoaaLrYd
namespace Go.Proofs.Ytakgeeopfclmoaa
open Go.RowKit Go.Maps

def RPut (B x : Nat) (budget : Int) (R : List Re) (k : K4) (m : Ms) (w : World) (e : Ending) (w' : World) : Prop :=
  e = .returned (.bool (!decide (budget < costM m))) ∧ (∃ R', R'.map Re.en = putL budget k m (R.map Re.en) ∧ RfE B w' x budget R') ∧ Turn w w' x none
def RDropY (B x : Nat) (budget : Int) (R' : List Re) (w : World) (e : Ending) (w' : World) : Prop :=
  (∃ v, e = .returned v) ∧ (∃ A' c', Rf B w' x budget R' A' c') ∧ Turn w w' x none
section
variable {B x : Nat} {w w' : World} {budget : Int} {R : List Re} {A : Option Addr} {c : Nat}
set_option maxRecDepth 20000 in
set_option maxHeartbeats 4000000 in
theorem rPut_any (h : RfE B w x budget R) (hlen : R.length ≤ 16777216) (hbig : heldR R ≤ 4294967296) (hb : 0 ≤ budget) (k : K4) (m : Ms) (A' : Option Addr) (c' : Nat) (ha : Ar B w A' m.bs c') (hm : m.bs.length ≤ 16384) :
    Calls Try.prog 35 #[.pointer (some ⟨x, 0, none⟩), .agg #[.int .i64 k.g, .int .i64 k.p, .int .i64 k.x, .int .i64 k.y], .agg #[.int .i64 m.box.a, .int .i64 m.box.b, .int .i64 m.box.c, .int .i64 m.box.d, .slice A' m.bs.length c']] w (RPut B x budget R k m w) := by
  obtain ⟨A, c, h⟩ := h
  obtain ⟨i0, hi0, hz0, hz1, hz2⟩ := info_parts entry_info
  have hal := bel_alloc (o := .cells #[.int .i64 m.box.a, .int .i64 m.box.b, .int .i64 m.box.c, .int .i64 m.box.d, .slice A' m.bs.length c'] 35) (bel_alloc (o := .cells #[.int .i64 k.g, .int .i64 k.p, .int .i64 k.x, .int .i64 k.y] 24) (bel_refl (a := w)))
  have hkb := (Blk.newAt w 24 [.int .i64 k.g, .int .i64 k.p, .int .i64 k.x, .int .i64 k.y] rfl).alloc (.cells #[.int .i64 m.box.a, .int .i64 m.box.b, .int .i64 m.box.c, .int .i64 m.box.d, .slice A' m.bs.length c'] 35)
  have hrb : Blk ((w.alloc (.cells #[.int .i64 k.g, .int .i64 k.p, .int .i64 k.x, .int .i64 k.y] 24)).alloc (.cells #[.int .i64 m.box.a, .int .i64 m.box.b, .int .i64 m.box.c, .int .i64 m.box.d, .slice A' m.bs.length c'] 35)) (w.heap.size + 1) 35 [.int .i64 m.box.a, .int .i64 m.box.b, .int .i64 m.box.c, .int .i64 m.box.d, .slice A' m.bs.length c'] := Blk.newAt _ _ [_, _, _, _, _] (by simp)
  have hdr := (rDrop_any (h.keepB hal.below) (by omega) k).mono (R' := RDropY B x budget (dropR k R) _) (fun e w' ⟨g1, g2, g3⟩ => ⟨⟨_, g1⟩, g2, g3⟩)
  have hxl := h.blk.lt
  have hBw := h.lt
  have hdl : (dropR k R).length ≤ R.length := (List.eraseP_sublist ..).length_le
  have hdh : heldR (dropR k R) ≤ heldR R := by unfold heldR; rw [map_dropR]; exact heldL_sub (dropL_sub k _)
  have hcost := rcost_any m A' c' (by omega)
  have HD := Lib.hid hdr
  have HXB := Lib.hid (h.blk.keepB hal.below)
  have HAR := Lib.hid (ha.keepB hal.below)
  have HAL := Lib.hid hal
  have HKB := Lib.hid hkb
  have HRB := Lib.hid hrb
  have HC := Lib.hid hcost
  clear h hal hkb hrb hdr hcost ha
  by_cases hcc : budget < costM m
  · have hcd : decide (budget < 64 + (m.bs.length : Int)) = true := decide_eq_true hcc
    go_enter Try.func35, Try.ntmps35
    go_upto_region 2 with (first
      | (go_at_call 36; (with_reducible refine HD.out.mono ?_); rintro e w1 ⟨⟨v1, rfl⟩, ⟨A1, c1, h1⟩, ht1⟩
         have H1 := Lib.hid h1
         have HT1 := Lib.hid ht1
         have HKB1 := Lib.hid (turn_blk ht1 HKB.out (by omega))
         have HRB1 := Lib.hid (turn_blk ht1 HRB.out (by omega))
         have hz1' : w.heap.size + 2 ≤ w1.heap.size := by have := ht1.size; simp at this; omega
         clear h1 ht1))
    have HA1 := Lib.hid (HAR.out.turn HT1.out HXB.out H1.out.base)
    have x0 : w1.cell? ⟨x, 0, none⟩ = some (.int .i64 budget) := H1.out.blk.cell 0
    have hxl1 := H1.out.blk.lt
    have hrl1 := HRB1.out.lt
    have g0 : w1.cell? ⟨w.heap.size + 1, 0, none⟩ = some (.int .i64 m.box.a) := HRB1.out.cell 0
    have g1 : w1.cell? ⟨w.heap.size + 1, 1, none⟩ = some (.int .i64 m.box.b) := HRB1.out.cell 1
    have g2 : w1.cell? ⟨w.heap.size + 1, 2, none⟩ = some (.int .i64 m.box.c) := HRB1.out.cell 2
    have g3 : w1.cell? ⟨w.heap.size + 1, 3, none⟩ = some (.int .i64 m.box.d) := HRB1.out.cell 3
    have g4 : w1.cell? ⟨w.heap.size + 1, 4, none⟩ = some (.slice A' m.bs.length c') := HRB1.out.cell 4
    clear HD HXB HKB HRB HAR
    go_region_held3 (fun u => u.cell? ⟨x, 0, none⟩ = some (.int .i64 budget) ∧ u.cell? ⟨w.heap.size + 1, 0, none⟩ = some (.int .i64 m.box.a) ∧ u.cell? ⟨w.heap.size + 1, 1, none⟩ = some (.int .i64 m.box.b) ∧ u.cell? ⟨w.heap.size + 1, 2, none⟩ = some (.int .i64 m.box.c) ∧
        u.cell? ⟨w.heap.size + 1, 3, none⟩ = some (.int .i64 m.box.d) ∧ u.cell? ⟨w.heap.size + 1, 4, none⟩ = some (.slice A' m.bs.length c')) (go_keep) (first
      | (go_at_call 13; (with_reducible refine (HC.out _).mono ?_); rintro e w2 ⟨rfl, hb2⟩
         obtain ⟨hc2, hf2, hy2⟩ := bcell hb2; (try simp at hy2)
         have HB2 := Lib.hid ((bel_drew bel_refl).below.trans (hb2.mono (by simp)))
         clear hb2))
    have HCC := Lib.hid hcc
    clear hc2 hf2 hcc
    go_wp2_with fail
    refine bodyPost_ret (v := .bool false) (by simp [results, Try.results35, go_sem, *]) rfl ?_
    refine ⟨by rw [decide_eq_true HCC.out]; rfl, ⟨dropR k R, by unfold putL; rw [if_pos HCC.out, map_dropR], _, _, H1.out.keepB HB2.out⟩, ?_⟩
    exact Turn.trans (Turn.of_below (g := x) (row := none) HAL.out.below) (turn_below HT1.out HB2.out HT1.out.size) (.inl rfl)
  · have hcd : decide (budget < 64 + (m.bs.length : Int)) = false := decide_eq_false hcc
    go_enter Try.func35, Try.ntmps35
    go_upto_region 2 with (first
      | (go_at_call 36; (with_reducible refine HD.out.mono ?_); rintro e w1 ⟨⟨v1, rfl⟩, ⟨A1, c1, h1⟩, ht1⟩
         have H1 := Lib.hid h1
         have HT1 := Lib.hid ht1
         have HKB1 := Lib.hid (turn_blk ht1 HKB.out (by omega))
         have HRB1 := Lib.hid (turn_blk ht1 HRB.out (by omega))
         have hz1' : w.heap.size + 2 ≤ w1.heap.size := by have := ht1.size; simp at this; omega
         clear h1 ht1))
    have HA1 := Lib.hid (HAR.out.turn HT1.out HXB.out H1.out.base)
    have x0 : w1.cell? ⟨x, 0, none⟩ = some (.int .i64 budget) := H1.out.blk.cell 0
    have hxl1 := H1.out.blk.lt
    have hrl1 := HRB1.out.lt
    have g0 : w1.cell? ⟨w.heap.size + 1, 0, none⟩ = some (.int .i64 m.box.a) := HRB1.out.cell 0
    have g1 : w1.cell? ⟨w.heap.size + 1, 1, none⟩ = some (.int .i64 m.box.b) := HRB1.out.cell 1
    have g2 : w1.cell? ⟨w.heap.size + 1, 2, none⟩ = some (.int .i64 m.box.c) := HRB1.out.cell 2
    have g3 : w1.cell? ⟨w.heap.size + 1, 3, none⟩ = some (.int .i64 m.box.d) := HRB1.out.cell 3
    have g4 : w1.cell? ⟨w.heap.size + 1, 4, none⟩ = some (.slice A' m.bs.length c') := HRB1.out.cell 4
    clear HD HXB HKB HRB HAR
    go_region_held3 (fun u => u.cell? ⟨x, 0, none⟩ = some (.int .i64 budget) ∧ u.cell? ⟨w.heap.size + 1, 0, none⟩ = some (.int .i64 m.box.a) ∧ u.cell? ⟨w.heap.size + 1, 1, none⟩ = some (.int .i64 m.box.b) ∧ u.cell? ⟨w.heap.size + 1, 2, none⟩ = some (.int .i64 m.box.c) ∧
        u.cell? ⟨w.heap.size + 1, 3, none⟩ = some (.int .i64 m.box.d) ∧ u.cell? ⟨w.heap.size + 1, 4, none⟩ = some (.slice A' m.bs.length c')) (go_keep) (first
      | (go_at_call 13; (with_reducible refine (HC.out _).mono ?_); rintro e w2 ⟨rfl, hb2⟩
         obtain ⟨hc2, hf2, hy2⟩ := bcell hb2; (try simp at hy2)
         have HB2 := Lib.hid ((bel_drew bel_refl).below.trans (hb2.mono (by simp)))
         clear hb2))
    have HCC := Lib.hid hcc
    have hkb2 := HKB1.out.keepB HB2.out
    have hrb2 := HRB1.out.keepB HB2.out
    have h2 := H1.out.keepB HB2.out
    have HA2 := Lib.hid (HA1.out.keepB HB2.out)
    have HT2 := Lib.hid (Turn.trans (Turn.of_below (g := x) (row := none) HAL.out.below) (turn_below HT1.out HB2.out HT1.out.size) (.inl rfl))
    clear hc2 hf2 hcc x0 g0 g1 g2 g3 g4 hrl1 hxl1 HKB1 HRB1 H1 HA1 HT1 HB2
    have x1 : w2.cell? ⟨x, 1, none⟩ = some (.slice A1 (dropR k R).length c1) := h2.blk.cell 1
    have fx1 := h2.blk.frozen 1
    have hxl2 := h2.blk.lt
    have hB2 := h2.lt
    have kk0 : w2.cell? ⟨w.heap.size, 0, none⟩ = some (.int .i64 k.g) := hkb2.cell 0
    have kk1 : w2.cell? ⟨w.heap.size, 1, none⟩ = some (.int .i64 k.p) := hkb2.cell 1
    have kk2 : w2.cell? ⟨w.heap.size, 2, none⟩ = some (.int .i64 k.x) := hkb2.cell 2
    have kk3 : w2.cell? ⟨w.heap.size, 3, none⟩ = some (.int .i64 k.y) := hkb2.cell 3
    have g0 : w2.cell? ⟨w.heap.size + 1, 0, none⟩ = some (.int .i64 m.box.a) := hrb2.cell 0
    have g1 : w2.cell? ⟨w.heap.size + 1, 1, none⟩ = some (.int .i64 m.box.b) := hrb2.cell 1
    have g2 : w2.cell? ⟨w.heap.size + 1, 2, none⟩ = some (.int .i64 m.box.c) := hrb2.cell 2
    have g3 : w2.cell? ⟨w.heap.size + 1, 3, none⟩ = some (.int .i64 m.box.d) := hrb2.cell 3
    have g4 : w2.cell? ⟨w.heap.size + 1, 4, none⟩ = some (.slice A' m.bs.length c') := hrb2.cell 4
    have hkl := hkb2.lt
    have hrl := hrb2.lt
    have H2 := Lib.hid h2
    clear h2 hkb2 hrb2
    go_upto_region 4 with fail
    go_region_law
      (first
        | (refine step_append_any _ (by rfl) (.tmp 21) (.tmp 25) _ (by rfl) w2.heap.size 60 i0 _ 9 88 Try.underlying54 hi0 hz0 hz1 hz2 rfl (by omega) _ 1 _ (by rfl) (own_one9 w2 ⟨k, m, A', c'⟩ w2.heap.size (Nat.le_refl _)) _ _ (dropR k R).length _ _ (by rfl) ((H2.out.keepB (bel_alloc bel_refl).below).readsAll) (cells_one _) (by unfold maxLen; omega) (by omega) (by simp) ?_; intro v' w7 hown7 hgrow7 hat7
           obtain ⟨A7, c7, rfl⟩ := own_slice hown7
           have hb7 : Below w2.heap.size w2 w7 := by
             refine Below.grown (?_ : Below w2.heap.size w2 _) hgrow7 ?_ ?_
             · refine Bel.below ?_
               repeat (first | with_reducible exact bel_refl | with_reducible apply bel_alloc | with_reducible apply bel_drewN | with_reducible apply bel_drew | (with_reducible refine bel_set ?_ ?_; rotate_left; · first | (simp; done) | (simp; omega) | omega) | with_reducible refine bel_call (by assumption) ?_)
             · simp
             · simp [Value.ownBlock]
           have y1 : w7.cell? ⟨x, 1, none⟩ = some (.slice A1 (dropR k R).length c1) := (hb7.cell (p := ⟨x, 1, none⟩) hxl2).trans x1
           have yf : w7.frozen? ⟨x, 1, none⟩ = false := (hb7.frozen (p := ⟨x, 1, none⟩) hxl2).trans fx1
           have HO7 := Lib.hid hown7
           have HB7 := Lib.hid hb7
           clear hown7 hgrow7 hat7 hb7))
    all_goals
      have hn8 : 1 + (dropR k R).length = ((⟨k, m, A', c'⟩ : Re) :: dropR k R).length := by simp; omega
      have hown8 := HO7.out
      rw [hn8, show Re.cells ⟨k, m, A', c'⟩ ++ (dropR k R).flatMap Re.cells = ((⟨k, m, A', c'⟩ : Re) :: dropR k R).flatMap Re.cells from rfl] at hown8
      have hown9 := own_mono hown8 (B := B) H2.out.lt
      have har8 : ∀ q ∈ (⟨k, m, A', c'⟩ : Re) :: dropR k R, Ar B w7 q.A q.m.bs q.c := fun q hq => by
        rcases List.mem_cons.1 hq with rfl | hq
        · exact HA2.out.keepB HB7.out
        · exact (H2.out.ar q hq).keepB HB7.out
      obtain ⟨hset1, hset2⟩ := H2.out.setL HB7.out hown9 har8
      rw [hn8]
      have hsh := rShrink_any ⟨_, _, hset1⟩ (by simp; omega) (by
        have e1 : heldR ((⟨k, m, A', c'⟩ : Re) :: dropR k R) = 64 + (m.bs.length : Int) + heldR (dropR k R) := rfl
        omega) hb
      have HS9 := Lib.hid hsh
      have HT9 := Lib.hid (Turn.trans HT2.out hset2 (.inl rfl))
      clear HO7 HB7 hown8 hown9 har8 hset1 hset2 hsh hn8 x1 fx1 y1 yf kk0 kk1 kk2 kk3 g0 g1 g2 g3 g4 hkl hrl hxl2
      generalize (World.setCell w7 _ _) = w9 at HT9 HS9 ⊢
      go_wp2_with (first
        | (go_at_call 44; (with_reducible refine HS9.out.mono ?_); rintro e w1 ⟨rfl, h1, ht1⟩; have H9 := Lib.hid h1; have HT8 := Lib.hid ht1; clear h1 ht1))
      refine bodyPost_ret (v := .bool true) (by simp [results, Try.results35, go_sem, *]) rfl ?_
      refine ⟨by rw [decide_eq_false (Int.not_lt.2 HCC.out)]; rfl, ?_, Turn.trans HT9.out HT8.out (.inl rfl)⟩
      obtain ⟨R', hR1, hR2⟩ := H9.out
      refine ⟨R', ?_, hR2⟩
      rw [hR1]
      unfold putL
      rw [if_neg (Int.not_lt.2 HCC.out), List.map_cons, map_dropR]
      rfl
set_option maxRecDepth 20000 in
set_option maxHeartbeats 4000000 in
theorem rResize_any (h : RfE B w x budget R) (hlen : R.length ≤ 4294967296) (hbig : heldR R ≤ 4294967296) (n : Int) (hb : 0 ≤ n) :
    Calls Try.prog 37 #[.pointer (some ⟨x, 0, none⟩), .int .i64 n] w (RShr B x n R w) := by
  obtain ⟨A, c, h⟩ := h
  have hset : Rf B (w.setCell ⟨x, 0, none⟩ (.int .i64 n)) x n R A c := by
    have ht : Turn w (w.setCell ⟨x, 0, none⟩ (.int .i64 n)) x none := (Turn.refl _ _ _).set 0 _
    refine ⟨h.blk.set 0 _, own_keep h.own fun k hk => Below.heap_setCell w _ _ k fun e => ?_, fun r hr => (h.ar r hr).turn ht h.blk h.base, h.base⟩
    have e' : k = x := e
    subst e'
    obtain ⟨cs, hc⟩ := own_typed' h.own k hk
    have hx := h.blk
    unfold Blk at hx
    rw [hx] at hc
    injection hc with hc
    injection hc with _ hc _
    revert hc
    decide
  have hsh := rShrink_any ⟨A, c, hset⟩ hlen (by omega) hb
  have x0 : w.cell? ⟨x, 0, none⟩ = some (.int .i64 budget) := h.blk.cell 0
  have fx0 := h.blk.frozen 0
  have hxl := h.blk.lt
  have HS := Lib.hid hsh
  clear h hset hsh
  go_enter Try.func37, Try.ntmps37
  go_wp2_with (first
    | (go_at_call 44; (with_reducible refine HS.out.mono ?_); rintro e w1 ⟨rfl, h1, ht1⟩; have H1 := Lib.hid h1; have HT1 := Lib.hid ht1; clear h1 ht1))
  refine bodyPost_ret (v := .tuple #[]) (by simp [results, Try.results37, go_sem, *]) rfl ?_
  exact ⟨rfl, H1.out, Turn.trans ((Turn.refl _ _ _).set 0 _) HT1.out (.inl rfl)⟩
end
end Go.Proofs.Ytakgeeopfclmoaa
