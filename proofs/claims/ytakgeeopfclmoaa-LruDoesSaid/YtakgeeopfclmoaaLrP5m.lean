/-
  For every budget and every list of calls LruDoes answers true and leaves its arguments as they were. No conditions.
  Layer 25: LruDoes.
  Layer 25: any call of both caches; keys that lie within numbers; what is found.
  Layer 25: one call of both caches: Put.
  Layer 25: a row of bytes that the law writes, in which no mask of the cache lies.
  Layer 25: one call of both caches: Get, and no call.
  Layer 25: one call of both caches: Drop, Resize, no call.
-/
import Derived.Test.YtakgeeopfclmoaaLrYf
import Derived.Test.YtakgeeopfclmoaaFrame
import Derived.Test.YtakgeeopfclmoaaFlat
namespace Go.Proofs.Ytakgeeopfclmoaa
open Go.RowKit Go.Maps

def DoR (B g x : Nat) (w : World) (e : Ending) (w' : World) : Prop :=
  e = .returned (.bool true) ∧ (∃ budget' R', LruS w' g B budget' (R'.map Re.en) ∧ RfE B w' x budget' R') ∧ Below B w w'
theorem findR_mem (k : K4) (R : List Re) : decide (k ∈ (R.map Re.en).map (·.1)) = (findR k R).isSome := by
  rw [Bool.eq_iff_iff, decide_eq_true_eq]
  unfold findR
  rw [List.find?_isSome]
  simp [Re.en]
theorem turn_to {w w' : World} {x B : Nat} (h : Turn w w' x none) (hB : B ≤ x) (hx : x < w.heap.size) : Below B w w' :=
  ⟨h.os, h.tape, h.output, h.size, fun k hk => by
    rcases Nat.lt_or_ge k w.heap.size with h1 | h1
    · exact h.block k h1 (by omega) (by intro e; cases e)
    · omega⟩
section
variable {B x g : Nat} {w w' : World} {budget : Int} {R : List Re}
theorem dropS (h : LruS w g B budget (R.map Re.en)) (k : K4) (hk : k.wf) :
    Calls Try.prog 20 #[.pointer (some ⟨g, 0, none⟩), .agg #[.int .i64 k.g, .int .i64 k.p, .int .i64 k.x, .int .i64 k.y]] w fun e w' => e = .returned (.bool (findR k R).isSome) ∧ LruS w' g B budget ((dropR k R).map Re.en) ∧ KeepT B w w' := by
  refine (Drop_any h.h (by have := h.fit; have := h.b1; omega) k hk).mono ?_
  rintro e w' ⟨h1, h2, h3⟩
  rw [findR_mem] at h1
  exact ⟨h1, ⟨by rw [map_dropR]; exact h2, by rw [map_dropR]; exact Int.le_trans (heldL_sub (dropL_sub k _)) h.fit, h.b0, h.b1⟩, h3⟩
set_option maxRecDepth 20000 in
set_option maxHeartbeats 4000000 in
theorem do_drop (hS : LruS w g B budget (R.map Re.en)) (hR : RfE B w x budget R) (o : Cq) (hk : o.k.wf) (h3 : o.kind = 3) :
    Calls Try.prog 21 #[.pointer (some ⟨g, 0, none⟩), .pointer (some ⟨x, 0, none⟩), .agg #[.int .i64 o.kind, .int .i64 o.k.g, .int .i64 o.k.p, .int .i64 o.k.x, .int .i64 o.k.y, .int .i64 o.m.box.a, .int .i64 o.m.box.b, .int .i64 o.m.box.c, .int .i64 o.m.box.d, .slice o.A o.m.bs.length o.c, .int .i64 o.n]] w (DoR B g x w) := by
  obtain ⟨A, c, h⟩ := hR
  have hal := bel_alloc (o := .cells #[.int .i64 o.kind, .int .i64 o.k.g, .int .i64 o.k.p, .int .i64 o.k.x, .int .i64 o.k.y, .int .i64 o.m.box.a, .int .i64 o.m.box.b, .int .i64 o.m.box.c, .int .i64 o.m.box.d, .slice o.A o.m.bs.length o.c, .int .i64 o.n] 37) (bel_refl (a := w))
  have hcb := Blk.newAt w 37 [.int .i64 o.kind, .int .i64 o.k.g, .int .i64 o.k.p, .int .i64 o.k.x, .int .i64 o.k.y, .int .i64 o.m.box.a, .int .i64 o.m.box.b, .int .i64 o.m.box.c, .int .i64 o.m.box.d, .slice o.A o.m.bs.length o.c, .int .i64 o.n] rfl
  have hlen : R.length ≤ 4294967296 := by have h1 := heldL_lo (R.map Re.en); have := hS.fit; have := hS.b1; simp at h1; omega
  have hBx := h.base
  have hxl := h.blk.lt
  have hd := (rDrop_any (h.keepB hal.below) hlen o.k).mono (R' := RDropX B x budget (dropR o.k R) (fR o.k R) (findR o.k R).isSome _) (fun e w' ⟨g1, g2, g3⟩ => ⟨g1, g2, g3⟩)
  have HD := Lib.hid hd
  have HX := Lib.hid (h.blk.keepB hal.below)
  have HS0 := Lib.hid (hS.keep hal.below)
  have HCB := Lib.hid hcb
  have HK := Lib.hid hk
  have HAL := Lib.hid hal.below
  clear hS h hd hcb hal hk
  rw [h3] at HD HX HS0 HCB HAL ⊢
  go_enter Try.func21, Try.ntmps21
  go_wp2_with (first
    | (go_at_call 36; (with_reducible refine HD.out.mono ?_); rintro e w1 ⟨rfl, hr1, ht1⟩
       have hcb1 := (turn_blk ht1 HCB.out (by omega)).alloc (.cells #[.int .i64 (fR o.k R).m.box.a, .int .i64 (fR o.k R).m.box.b, .int .i64 (fR o.k R).m.box.c, .int .i64 (fR o.k R).m.box.d, .slice (fR o.k R).A (fR o.k R).m.bs.length (fR o.k R).c] 35)
       have hs1 := HS0.out.turn ht1 HX.out
       have HR1 := Lib.hid hr1
       have HT1 := Lib.hid ht1
       have HS1 := Lib.hid (fun u (hu : Below w1.heap.size w1 u) => dropS (hs1.keep hu) o.k HK.out)
       have k1 : w1.cell? ⟨w.heap.size, 1, none⟩ = some (.int .i64 o.k.g) := (turn_blk ht1 HCB.out (by omega)).cell 1
       have k2 : w1.cell? ⟨w.heap.size, 2, none⟩ = some (.int .i64 o.k.p) := (turn_blk ht1 HCB.out (by omega)).cell 2
       have k3 : w1.cell? ⟨w.heap.size, 3, none⟩ = some (.int .i64 o.k.x) := (turn_blk ht1 HCB.out (by omega)).cell 3
       have k4 : w1.cell? ⟨w.heap.size, 4, none⟩ = some (.int .i64 o.k.y) := (turn_blk ht1 HCB.out (by omega)).cell 4
       have hwl := (turn_blk ht1 HCB.out (by omega)).lt
       clear hr1 ht1 hs1 hcb1)
    | (go_at_call 20; (with_reducible refine (HS1.out _ ?_).mono ?_); (focus (refine Bel.below ?_; (repeat (first | with_reducible exact bel_refl | with_reducible apply bel_alloc | with_reducible apply bel_drewN | with_reducible apply bel_drew | (with_reducible refine bel_set ?_ ?_; rotate_left; · first | (simp; done) | (simp; omega) | omega) | with_reducible refine bel_call (by assumption) ?_)))); rintro e w2 ⟨rfl, h2, k2⟩
       have H2 := Lib.hid h2
       have K2 := Lib.hid k2
       clear h2 k2))
  refine bodyPost_ret (v := .bool true) (by simp [results, Try.results21, go_sem, *]) rfl ?_
  have hBw : B ≤ w.heap.size := by omega
  refine ⟨rfl, ⟨budget, dropR o.k R, H2.out, ?_⟩, ?_⟩
  · obtain ⟨A1, c1, h1⟩ := HR1.out
    refine ⟨A1, c1, (h1.keepB (?_ : Below w1.heap.size w1 _)).keepT K2.out⟩
    refine Bel.below ?_
    repeat (first | with_reducible exact bel_refl | with_reducible apply bel_alloc | with_reducible apply bel_drewN | with_reducible apply bel_drew | (with_reducible refine bel_set ?_ ?_; rotate_left; · first | (simp; done) | (simp; omega) | omega) | with_reducible refine bel_call (by assumption) ?_)
  · refine (((HAL.out.mono hBw).trans (turn_to HT1.out hBx (by simp; omega))).trans (Below.mono (?_ : Below w1.heap.size w1 _) (by omega))).trans K2.out.toBelow
    refine Bel.below ?_
    repeat (first | with_reducible exact bel_refl | with_reducible apply bel_alloc | with_reducible apply bel_drewN | with_reducible apply bel_drew | (with_reducible refine bel_set ?_ ?_; rotate_left; · first | (simp; done) | (simp; omega) | omega) | with_reducible refine bel_call (by assumption) ?_)
theorem resizeS (h : LruS w g B budget (R.map Re.en)) (n : Int) (hn : budB n = true) :
    Calls Try.prog 23 #[.pointer (some ⟨g, 0, none⟩), .int .i64 n] w fun e w' => e = .returned (.int .i64 0) ∧ LruS w' g B n (shrinkL n (R.map Re.en)) ∧ KeepT B w w' := by
  refine (Resize_yes h.h (by have := h.fit; have := h.b1; omega) n hn).mono ?_
  rintro e w' ⟨h1, h2, h3⟩
  exact ⟨h1, ⟨h2, shrinkL_le (budB_true.1 hn).1 _, (budB_true.1 hn).1, (budB_true.1 hn).2⟩, h3⟩
set_option maxRecDepth 20000 in
set_option maxHeartbeats 4000000 in
theorem do_resize (hS : LruS w g B budget (R.map Re.en)) (hR : RfE B w x budget R) (o : Cq) (h3 : o.kind = 4) :
    Calls Try.prog 21 #[.pointer (some ⟨g, 0, none⟩), .pointer (some ⟨x, 0, none⟩), .agg #[.int .i64 o.kind, .int .i64 o.k.g, .int .i64 o.k.p, .int .i64 o.k.x, .int .i64 o.k.y, .int .i64 o.m.box.a, .int .i64 o.m.box.b, .int .i64 o.m.box.c, .int .i64 o.m.box.d, .slice o.A o.m.bs.length o.c, .int .i64 o.n]] w (DoR B g x w) := by
  obtain ⟨A, c, h⟩ := hR
  have hal := bel_alloc (o := .cells #[.int .i64 o.kind, .int .i64 o.k.g, .int .i64 o.k.p, .int .i64 o.k.x, .int .i64 o.k.y, .int .i64 o.m.box.a, .int .i64 o.m.box.b, .int .i64 o.m.box.c, .int .i64 o.m.box.d, .slice o.A o.m.bs.length o.c, .int .i64 o.n] 37) (bel_refl (a := w))
  have hcb := Blk.newAt w 37 [.int .i64 o.kind, .int .i64 o.k.g, .int .i64 o.k.p, .int .i64 o.k.x, .int .i64 o.k.y, .int .i64 o.m.box.a, .int .i64 o.m.box.b, .int .i64 o.m.box.c, .int .i64 o.m.box.d, .slice o.A o.m.bs.length o.c, .int .i64 o.n] rfl
  have hlo := heldL_lo (R.map Re.en)
  have hfit := hS.fit
  have hb1 := hS.b1
  have hlen : R.length ≤ 4294967296 := by simp at hlo; omega
  have hheld : heldR R ≤ 4294967296 := by unfold heldR; omega
  have hBx := h.base
  have hxl := h.blk.lt
  have hBw : B ≤ w.heap.size := by omega
  have HAL := Lib.hid hal.below
  cases hn : budB o.n with
  | false =>
    have hno := Resize_no (w := w.alloc (.cells #[.int .i64 o.kind, .int .i64 o.k.g, .int .i64 o.k.p, .int .i64 o.k.x, .int .i64 o.k.y, .int .i64 o.m.box.a, .int .i64 o.m.box.b, .int .i64 o.m.box.c, .int .i64 o.m.box.d, .slice o.A o.m.bs.length o.c, .int .i64 o.n] 37)) (g := g) o.n hn
    have hmay := fun w => rMayBud_any o.n w
    rw [hn] at hmay
    have HN := Lib.hid hno
    have HM := Lib.hid hmay
    have H := Lib.hid (h.keepB hal.below)
    have HS := Lib.hid (hS.keep hal.below)
    clear hS h hal hcb hn hmay hno
    rw [h3] at HN H HS HAL ⊢
    go_enter Try.func21, Try.ntmps21
    go_wp2_with (first
      | (go_at_call 23; (with_reducible refine HN.out.mono ?_); rintro e w1 ⟨rfl, rfl⟩)
      | (go_at_call 10; (with_reducible refine (HM.out _).mono ?_); rintro e w1 ⟨rfl, rfl⟩))
    refine bodyPost_ret (v := .bool true) (by simp [results, Try.results21, go_sem, *]) rfl ?_
    exact ⟨rfl, ⟨budget, R, HS.out, _, _, H.out⟩, HAL.out.mono hBw⟩
  | true =>
    have hrs := resizeS (hS.keep hal.below) o.n hn
    have hmay := fun w => rMayBud_any o.n w
    rw [hn] at hmay
    have HN := Lib.hid hrs
    have HM := Lib.hid hmay
    have H := Lib.hid (h.keepB hal.below)
    have HCB := Lib.hid hcb
    have HB0 := Lib.hid (budB_true.1 hn).1
    clear hS h hal hcb hn hmay hrs
    rw [h3] at HN H HCB HAL ⊢
    go_enter Try.func21, Try.ntmps21
    go_wp2_with (first
      | (go_at_call 23; (with_reducible refine HN.out.mono ?_); rintro e w1 ⟨rfl, h1, k1⟩
         have hcb1 : Blk w1 w.heap.size 37 [.int .i64 4, .int .i64 o.k.g, .int .i64 o.k.p, .int .i64 o.k.x, .int .i64 o.k.y, .int .i64 o.m.box.a, .int .i64 o.m.box.b, .int .i64 o.m.box.c, .int .i64 o.m.box.d, .slice o.A o.m.bs.length o.c, .int .i64 o.n] := k1.blk HCB.out (by decide)
         have n1 : w1.cell? ⟨w.heap.size, 10, none⟩ = some (.int .i64 o.n) := hcb1.cell 10
         have H1 := Lib.hid h1
         have K1 := Lib.hid k1
         have HR1 := Lib.hid (H.out.keepT k1)
         have HRZ := Lib.hid (rResize_any ⟨_, _, H.out.keepT k1⟩ hlen hheld o.n HB0.out)
         clear h1 k1 hcb1)
      | (go_at_call 10; (with_reducible refine (HM.out _).mono ?_); rintro e w1 ⟨rfl, rfl⟩)
      | (go_at_call 37; (with_reducible refine HRZ.out.mono ?_); rintro e w2 ⟨rfl, h2, t2⟩
         have H2 := Lib.hid h2
         have T2 := Lib.hid t2
         clear h2 t2))
    refine bodyPost_ret (v := .bool true) (by simp [results, Try.results21, go_sem, *]) rfl ?_
    obtain ⟨R', e1, hr2⟩ := H2.out
    refine ⟨rfl, ⟨o.n, R', ?_, hr2⟩, ((HAL.out.mono hBw).trans K1.out.toBelow).trans (turn_to T2.out hBx HR1.out.blk.lt)⟩
    rw [e1]
    exact H1.out.turn T2.out HR1.out.blk
end
end Go.Proofs.Ytakgeeopfclmoaa

namespace Go.Proofs.Ytakgeeopfclmoaa
open Go.RowKit Go.Maps

theorem gm_R (k : K4) (R : List Re) : gm k (R.map Re.en) = (fR k R).m := by
  unfold gm fR
  rw [find_mapR]
  cases findR k R <;> rfl
theorem gb_R (k : K4) (R : List Re) : gb k (R.map Re.en) = (findR k R).isSome := by
  unfold gb
  rw [find_mapR]
  cases findR k R <;> rfl
section
variable {B x g : Nat} {w w' : World} {budget : Int} {R : List Re}
theorem fR_ar {A : Option Addr} {c : Nat} (h : Rf B w x budget R A c) (k : K4) : Ar B w (fR k R).A (fR k R).m.bs (fR k R).c := by
  unfold fR
  cases hf : findR k R with
  | none => exact Ar.mk (bu_nil w).bs.bw (fun _ b e => .inr ((bu_nil w).typed b e))
  | some r => exact h.ar r (List.mem_of_find?_eq_some hf)
set_option maxRecDepth 20000 in
set_option maxHeartbeats 4000000 in
theorem do_none (hS : LruS w g B budget (R.map Re.en)) (hR : RfE B w x budget R) (hB : B ≤ w.heap.size) (o : Cq) (h1 : o.kind ≠ 1) (h2 : o.kind ≠ 2) (h3 : o.kind ≠ 3) (h4 : o.kind ≠ 4) :
    Calls Try.prog 21 #[.pointer (some ⟨g, 0, none⟩), .pointer (some ⟨x, 0, none⟩), .agg #[.int .i64 o.kind, .int .i64 o.k.g, .int .i64 o.k.p, .int .i64 o.k.x, .int .i64 o.k.y, .int .i64 o.m.box.a, .int .i64 o.m.box.b, .int .i64 o.m.box.c, .int .i64 o.m.box.d, .slice o.A o.m.bs.length o.c, .int .i64 o.n]] w (DoR B g x w) := by
  obtain ⟨A, c, h⟩ := hR
  have hal := bel_alloc (o := .cells #[.int .i64 o.kind, .int .i64 o.k.g, .int .i64 o.k.p, .int .i64 o.k.x, .int .i64 o.k.y, .int .i64 o.m.box.a, .int .i64 o.m.box.b, .int .i64 o.m.box.c, .int .i64 o.m.box.d, .slice o.A o.m.bs.length o.c, .int .i64 o.n] 37) (bel_refl (a := w))
  have H := Lib.hid (h.keepB hal.below)
  have HS := Lib.hid (hS.keep hal.below)
  have HAL := Lib.hid hal.below
  clear hS h hal
  go_enter Try.func21, Try.ntmps21
  go_wp2_with fail
  refine bodyPost_ret (v := .bool true) (by simp [results, Try.results21, go_sem, *]) rfl ?_
  exact ⟨rfl, ⟨budget, R, HS.out, _, _, H.out⟩, HAL.out.mono hB⟩
def RGetX (B x : Nat) (budget : Int) (R' : List Re) (r : Re) (f : Bool) (w : World) (e : Ending) (w' : World) : Prop :=
  e = .returned (.tuple #[.agg #[.int .i64 r.m.box.a, .int .i64 r.m.box.b, .int .i64 r.m.box.c, .int .i64 r.m.box.d, .slice r.A r.m.bs.length r.c], .bool f]) ∧ RfE B w' x budget R' ∧ Turn w w' x none
def GetX (B g : Nat) (budget : Int) (L : List En) (m : Ms) (f : Bool) (w : World) (e : Ending) (w' : World) : Prop :=
  ∃ A c, e = .returned (.tuple #[.agg #[.int .i64 m.box.a, .int .i64 m.box.b, .int .i64 m.box.c, .int .i64 m.box.d, .slice A m.bs.length c], .bool f]) ∧ Bu w' A m.bs c ∧ LruS w' g B budget L ∧ KeepT B w w'
set_option maxRecDepth 20000 in
set_option maxHeartbeats 4000000 in
theorem do_get (hS : LruS w g B budget (R.map Re.en)) (hR : RfE B w x budget R) (o : Cq) (hk : o.k.wf) (h3 : o.kind = 1) :
    Calls Try.prog 21 #[.pointer (some ⟨g, 0, none⟩), .pointer (some ⟨x, 0, none⟩), .agg #[.int .i64 o.kind, .int .i64 o.k.g, .int .i64 o.k.p, .int .i64 o.k.x, .int .i64 o.k.y, .int .i64 o.m.box.a, .int .i64 o.m.box.b, .int .i64 o.m.box.c, .int .i64 o.m.box.d, .slice o.A o.m.bs.length o.c, .int .i64 o.n]] w (DoR B g x w) := by
  obtain ⟨A, c, h⟩ := hR
  have hal := bel_alloc (o := .cells #[.int .i64 o.kind, .int .i64 o.k.g, .int .i64 o.k.p, .int .i64 o.k.x, .int .i64 o.k.y, .int .i64 o.m.box.a, .int .i64 o.m.box.b, .int .i64 o.m.box.c, .int .i64 o.m.box.d, .slice o.A o.m.bs.length o.c, .int .i64 o.n] 37) (bel_refl (a := w))
  have hcb := Blk.newAt w 37 [.int .i64 o.kind, .int .i64 o.k.g, .int .i64 o.k.p, .int .i64 o.k.x, .int .i64 o.k.y, .int .i64 o.m.box.a, .int .i64 o.m.box.b, .int .i64 o.m.box.c, .int .i64 o.m.box.d, .slice o.A o.m.bs.length o.c, .int .i64 o.n] rfl
  have hlen : R.length ≤ 4294967296 := by have h1 := heldL_lo (R.map Re.en); have := hS.fit; have := hS.b1; simp at h1; omega
  have hBx := h.base
  have hxl := h.blk.lt
  have hBw : B ≤ w.heap.size := by omega
  have hg := (Get_any (hS.keep hal.below) o.k hk).mono (R' := GetX B g budget (getL o.k (R.map Re.en)) (fR o.k R).m (findR o.k R).isSome _) (fun e w' ⟨A1, c1, g1, g2, g3, g4⟩ => by
    rw [gm_R, gb_R] at g1
    rw [gm_R] at g2
    exact ⟨A1, c1, g1, g2, g3, g4⟩)
  have HG := Lib.hid hg
  have H := Lib.hid (h.keepB hal.below)
  have HA := Lib.hid ((fR_ar h o.k).keepB hal.below)
  have HCB := Lib.hid hcb
  have HAL := Lib.hid hal.below
  clear hS h hg hcb hal hk
  obtain ⟨r, hr⟩ : ∃ r, fR o.k R = r := ⟨_, rfl⟩
  obtain ⟨fd, hfd⟩ : ∃ fd, (findR o.k R).isSome = fd := ⟨_, rfl⟩
  rw [hr] at HG HA
  rw [hfd] at HG
  have HRR := Lib.hid hr
  have HFD := Lib.hid hfd
  clear hr hfd
  rw [h3] at HG H HA HCB HAL ⊢
  go_enter Try.func21, Try.ntmps21
  go_wp2_with (first
    | (go_at_call 14; (with_reducible refine HG.out.mono ?_); rintro e w1 ⟨A1, c1, rfl, hbu1, hs1, k1⟩
       have hcb1 : Blk w1 w.heap.size 37 [.int .i64 1, .int .i64 o.k.g, .int .i64 o.k.p, .int .i64 o.k.x, .int .i64 o.k.y, .int .i64 o.m.box.a, .int .i64 o.m.box.b, .int .i64 o.m.box.c, .int .i64 o.m.box.d, .slice o.A o.m.bs.length o.c, .int .i64 o.n] := k1.blk HCB.out (by decide)
       have n1 : w1.cell? ⟨w.heap.size, 1, none⟩ = some (.int .i64 o.k.g) := hcb1.cell 1
       have n2 : w1.cell? ⟨w.heap.size, 2, none⟩ = some (.int .i64 o.k.p) := hcb1.cell 2
       have n3 : w1.cell? ⟨w.heap.size, 3, none⟩ = some (.int .i64 o.k.x) := hcb1.cell 3
       have n4 : w1.cell? ⟨w.heap.size, 4, none⟩ = some (.int .i64 o.k.y) := hcb1.cell 4
       have hwl := hcb1.lt
       have hr1 := H.out.keepT k1
       have hal1 := bel_alloc (o := .cells #[.int .i64 r.m.box.a, .int .i64 r.m.box.b, .int .i64 r.m.box.c, .int .i64 r.m.box.d, .slice A1 r.m.bs.length c1] 35) (bel_refl (a := w1))
       have HR1 := Lib.hid ((rGet_any (hr1.keepB hal1.below) hlen o.k).mono (R' := RGetX B x budget (getR o.k R) r fd _) (fun e w' ⟨g1, g2, g3⟩ => ⟨by rw [g1, HRR.out, HFD.out]; rfl, g2, g3⟩))
       have HX1 := Lib.hid (hr1.blk.keepB hal1.below)
       have HA1 := Lib.hid ((HA.out.keepT k1).keepB hal1.below)
       have HB1 := Lib.hid ((Ar.mk (B := B) hbu1.bs.bw (fun _ b e => .inr (hbu1.typed b e))).keepB hal1.below)
       have HS1 := Lib.hid (hs1.keep hal1.below)
       have HM1 := Lib.hid (Blk.newAt w1 35 [.int .i64 r.m.box.a, .int .i64 r.m.box.b, .int .i64 r.m.box.c, .int .i64 r.m.box.d, .slice A1 r.m.bs.length c1] rfl)
       have HC1 := Lib.hid (((HAL.out.mono hBw).trans k1.toBelow).trans (hal1.below.mono (by omega)))
       clear hbu1 hs1 k1 hcb1 hr1 hal1)
    | (go_at_call 34; (with_reducible refine HR1.out.mono ?_); rintro e w2 ⟨rfl, hr2, t2⟩
       have hm2 := turn_blk t2 HM1.out (by omega)
       have HR2 := Lib.hid hr2
       have HS2 := Lib.hid (HS1.out.turn t2 HX1.out)
       have HA2 := Lib.hid (HA1.out.turn t2 HX1.out hBx)
       have HB2 := Lib.hid (HB1.out.turn t2 HX1.out hBx)
       have HC2 := Lib.hid (HC1.out.trans (turn_to t2 hBx (by simp; omega)))
       have m0 : w2.cell? ⟨w1.heap.size, 0, none⟩ = some (.int .i64 r.m.box.a) := hm2.cell 0
       have m1 : w2.cell? ⟨w1.heap.size, 1, none⟩ = some (.int .i64 r.m.box.b) := hm2.cell 1
       have m2 : w2.cell? ⟨w1.heap.size, 2, none⟩ = some (.int .i64 r.m.box.c) := hm2.cell 2
       have m3 : w2.cell? ⟨w1.heap.size, 3, none⟩ = some (.int .i64 r.m.box.d) := hm2.cell 3
       have m4 : w2.cell? ⟨w1.heap.size, 4, none⟩ = some (.slice A1 r.m.bs.length c1) := hm2.cell 4
       have hml := hm2.lt
       have HSA := Lib.hid (fun u (hu : Below w2.heap.size w2 u) => same_any u r.m r.m A1 r.A c1 r.c (HB2.out.keepB hu).br (HA2.out.keepB hu).br)
       have hz2 := t2.size
       clear hr2 t2 hm2)
    | (go_at_call 15; (with_reducible refine (HSA.out _ ?_).mono ?_); (focus (refine Bel.below ?_; (repeat (first | with_reducible exact bel_refl | with_reducible apply bel_alloc | with_reducible apply bel_drewN | with_reducible apply bel_drew | (with_reducible refine bel_set ?_ ?_; rotate_left; · first | (simp; done) | (simp; omega) | omega) | with_reducible refine bel_call (by assumption) ?_)))); rintro e w3 ⟨rfl, hb3⟩
       have HB3 := Lib.hid hb3
       clear hb3))
  refine bodyPost_ret (v := .bool true) (by simp [results, Try.results21, go_sem, *]) rfl ?_
  have hb2 : Below w2.heap.size w2 w3 := by
    refine Below.trans (?_ : Below w2.heap.size w2 _) (HB3.out.mono (by simp))
    refine Bel.below ?_
    repeat (first | with_reducible exact bel_refl | with_reducible apply bel_alloc | with_reducible apply bel_drewN | with_reducible apply bel_drew | (with_reducible refine bel_set ?_ ?_; rotate_left; · first | (simp; done) | (simp; omega) | omega) | with_reducible refine bel_call (by assumption) ?_)
  obtain ⟨A2, c2, h2⟩ := HR2.out
  refine ⟨rfl, ⟨budget, getR o.k R, ?_, A2, c2, h2.keepB hb2⟩, HC2.out.trans (hb2.mono (by omega))⟩
  rw [map_getR]
  exact HS2.out.keep hb2
end
end Go.Proofs.Ytakgeeopfclmoaa

namespace Go.Proofs.Ytakgeeopfclmoaa
open Go.RowKit Go.Maps

/-- Block k's first cells are bytes. -/
def Byr (w : World) (k : Nat) (bs : List UInt8) : Prop := ∃ ex : List Value, Blk w k 5 (bs.map byteV ++ ex)
section
variable {w w' : World} {k : Nat} {bs : List UInt8}
theorem Byr.lt (h : Byr w k bs) : k < w.heap.size := let ⟨_, h⟩ := h; h.lt
theorem Byr.cell (h : Byr w k bs) (i : Nat) (hi : i < bs.length) : w.cell? ⟨k, i, none⟩ = some (byteV (bs[i]?.getD 0)) := by
  obtain ⟨ex, h⟩ := h
  rw [h.cell, List.getElem?_append_left (by simpa using hi), List.getElem?_map, List.getElem?_eq_getElem hi]
  rfl
theorem Byr.frozen (h : Byr w k bs) (i : Nat) : w.frozen? ⟨k, i, none⟩ = false := let ⟨_, h⟩ := h; h.frozen i
theorem Byr.keepB (h : Byr w k bs) (hb : Below w.heap.size w w') : Byr w' k bs := let ⟨ex, h⟩ := h; ⟨ex, h.keepB hb⟩
theorem Byr.keepT {B : Nat} (h : Byr w k bs) (hk : KeepT B w w') : Byr w' k bs := let ⟨ex, h⟩ := h; ⟨ex, hk.blk h (by decide)⟩
theorem Byr.set (h : Byr w k bs) (i : Nat) (u : UInt8) (hi : i < bs.length) : Byr (w.setCell ⟨k, i, none⟩ (byteV u)) k (bs.set i u) := by
  obtain ⟨ex, h⟩ := h
  refine ⟨ex, ?_⟩
  rw [List.map_set, ← List.set_append_left _ _ (by simpa using hi)]
  exact h.set i _
theorem own_byr {base n : Nat} {v : Value} (h : w.ownsRow base 5 1 v n (bs.map byteV)) (hv : v.ownBlock ≠ none) : ∃ g c, v = .slice (some ⟨g, 0, none⟩) bs.length c ∧ base ≤ g ∧ Byr w g bs ∧ bs.length ≤ c ∧ bs.length = n := by
  obtain ⟨h1, ⟨h2, _⟩ | ⟨g, cap, cur, h2, h3, h4, h5, h6, h7, h8⟩⟩ := h
  · rw [h2] at hv
    exact absurd rfl hv
  · have hn : bs.length = n := by simpa using h1
    refine ⟨g, cap, by rw [h2, hn], h3, ⟨cur.toList.drop n, ?_⟩, by omega, hn⟩
    rw [← h8, Nat.mul_one, List.take_append_drop]
    unfold Blk
    rw [h4]
theorem Byr.typed {t : TypeId} {cs : Array Value} {f : Nat × Nat} {b : Nat} (h : Byr w k bs) (hb : w.heap[b]? = some (.cells cs t f)) (ht : t ≠ 5) : b ≠ k := fun e => by
  subst e
  obtain ⟨ex, h⟩ := h
  unfold Blk at h
  rw [h] at hb
  injection hb with hb
  injection hb with _ hb _
  exact ht hb.symm
theorem Byr.toBu {c : Nat} (h : Byr w k bs) (hc : bs.length ≤ c) (hs : bs.length ≤ 140737488355328) : Bu w (some ⟨k, 0, none⟩) bs c :=
  ⟨⟨⟨by simp, fun i hi => ⟨k, 0, rfl, h.lt, by
    rw [Nat.zero_add, h.cell i hi, List.getElem?_map, List.getElem?_eq_getElem hi]
    rfl⟩⟩, hc, hs, fun i hi => by simp [rowOf] at hi; subst hi; exact h.lt⟩, fun b hb => by
    simp [rowOf] at hb
    subst hb
    obtain ⟨ex, h⟩ := h
    exact ⟨_, _, h⟩⟩
theorem Bu.stay1 {A : Option Addr} {c : Nat} (h : Bu w A bs c) (hs : w.heap.size ≤ w'.heap.size) (same : ∀ b, rowOf A = some b → w'.heap[b]? = w.heap[b]?) : Bu w' A bs c := by
  refine ⟨⟨⟨h.bs.sl.1, fun i hi => ?_⟩, h.bs.cap, h.bs.small, fun b e => Nat.lt_of_lt_of_le (h.bs.row b e) hs⟩, fun b e => by rw [same b e]; exact h.typed b e⟩
  obtain ⟨b, o, rfl, hlt, hc⟩ := h.bs.sl.2 i hi
  exact ⟨b, o, rfl, Nat.lt_of_lt_of_le hlt hs, by rw [World.cell?_of_block (w := w) (w' := w') (same b rfl)]; exact hc⟩
end
section
variable {B g x b : Nat} {w w' : World} {budget : Int} {L : List En} {F : Nat → Prop} {bs : List UInt8} {R : List Re}
theorem LruS.far (h : LruS w g B budget L) (F : Nat → Prop) (hF : ∀ b, F b → w.heap.size ≤ b) : LruS w g ⟨B, F⟩ budget L := by
  obtain ⟨⟨Y, S, l, fr, h1, ok⟩, h2, h3, h4⟩ := h
  refine ⟨⟨Y, S, l, fr, ⟨h1.blk, h1.own, fun s hs => ⟨(h1.rows s hs).bu, fun k hk hf => ?_⟩, h1.free, h1.map, h1.base, h1.mok⟩, ok⟩, h2, h3, h4⟩
  have e1 := (h1.rows s hs).bu.bs.row k hk
  have e2 := hF k hf
  omega
theorem LruS.forget (h : LruS w g ⟨B, F⟩ budget L) : LruS w g B budget L := by
  obtain ⟨⟨Y, S, l, fr, h1, ok⟩, h2, h3, h4⟩ := h
  exact ⟨⟨Y, S, l, fr, ⟨h1.blk, h1.own, fun s hs => ⟨(h1.rows s hs).bu, fun k hk hf => hf.elim⟩, h1.free, h1.map, h1.base, h1.mok⟩, ok⟩, h2, h3, h4⟩
theorem LruS.turnF (h : LruS w g ⟨B, F⟩ budget L) (ht : Turn w w' b none) (hF : F b) (hb : Byr w b bs) : LruS w' g ⟨B, F⟩ budget L := by
  obtain ⟨⟨Y, S, l, fr, h1, ok⟩, h2, h3, h4⟩ := h
  have hk : ∀ k, k < w.heap.size → k ≠ b → w'.heap[k]? = w.heap[k]? := fun k hk hne => ht.block k hk hne (by intro e; cases e)
  refine ⟨⟨Y, S, l, fr, ⟨(hk g h1.blk.lt (hb.typed h1.blk (by decide))).trans h1.blk, own_keep h1.own fun k hk' => ?_, fun s hs => ⟨(h1.rows s hs).bu.stay1 ht.size fun k hk' => ?_, (h1.rows s hs).far⟩, own_keep h1.free fun k hk' => ?_, ?_, h1.base, h1.mok⟩, ok⟩, h2, h3, h4⟩
  · obtain ⟨cs, hc⟩ := own_typed' h1.own k hk'
    exact hk k (own_lt h1.own k hk').2 (hb.typed hc (by decide))
  · refine hk k ((h1.rows s hs).bu.bs.row k hk') fun e => ?_
    exact (h1.rows s hs).far k hk' (by rw [e]; exact hF)
  · obtain ⟨cs, hc⟩ := own_typed' h1.free k hk'
    exact hk k (own_lt h1.free k hk').2 (hb.typed hc (by decide))
  · obtain ⟨es, clock, g1, g2⟩ := h1.map
    refine ⟨es, clock, (hk Y.mb ?_ fun e => ?_).trans g1, g2⟩
    · rcases Nat.lt_or_ge Y.mb w.heap.size with h' | h'
      · exact h'
      · rw [Array.getElem?_eq_none h'] at g1
        cases g1
    · obtain ⟨ex, hx⟩ := hb
      unfold Blk at hx
      rw [e, hx] at g1
      cases g1
theorem Ar.turnF {A : Option Addr} {bs : List UInt8} {c : Nat} (h : Ar B w A bs c) (ht : Turn w w' b none) (hne : 0 < bs.length → rowOf A ≠ some b) : Ar B w' A bs c := by
  have same : 0 < bs.length → ∀ k, rowOf A = some k → w'.heap[k]? = w.heap[k]? := fun h0 k e => ht.block k (h.br.row h0 k e) (fun e2 => hne h0 (by rw [e, e2])) (by intro e; cases e)
  refine ⟨⟨⟨h.br.sl.1, fun i hi => ?_⟩, h.br.cap, h.br.small, fun h0 k e => Nat.lt_of_lt_of_le (h.br.row h0 k e) ht.size⟩, fun h0 k e => by rw [same h0 k e]; exact h.safe h0 k e⟩
  obtain ⟨k, o, rfl, hlt, hc⟩ := h.br.sl.2 i hi
  exact ⟨k, o, rfl, Nat.lt_of_lt_of_le hlt ht.size, by rw [World.cell?_of_block (w := w) (w' := w') (same (by omega) k rfl)]; exact hc⟩
theorem Rf.turnF {A : Option Addr} {c : Nat} (h : Rf B w x budget R A c) (ht : Turn w w' b none) (hb : Byr w b bs) (hne : ∀ r ∈ R, 0 < r.m.bs.length → rowOf r.A ≠ some b) : Rf B w' x budget R A c := by
  refine ⟨(ht.block x h.blk.lt (hb.typed h.blk (by decide)) (by intro e; cases e)).trans h.blk, own_keep h.own fun k hk => ?_, fun r hr => (h.ar r hr).turnF ht (hne r hr), h.base⟩
  obtain ⟨cs, hc⟩ := own_typed' h.own k hk
  exact ht.block k (own_lt h.own k hk).2 (hb.typed hc (by decide)) (by intro e; cases e)
end
end Go.Proofs.Ytakgeeopfclmoaa

namespace Go.Proofs.Ytakgeeopfclmoaa
open Go.RowKit Go.Maps

theorem Byr.setO {w : World} {k : Nat} {bs : List UInt8} (h : Byr w k bs) {p : Addr} (hne : k ≠ p.block) (v : Value) : Byr (w.setCell p v) k bs := let ⟨ex, h⟩ := h; ⟨ex, h.far hne v⟩
theorem byr_maskW {w : World} {k b : Nat} {bs : List UInt8} (h : Byr w k bs) (hne : k ≠ b) (m : Ms) (A : Option Addr) (c : Nat) : Byr (maskW w b m A c) k bs := by
  unfold maskW
  exact ((((h.setO hne _).setO hne _).setO hne _).setO hne _).setO hne _
theorem below_maskW {W w : World} {n b : Nat} (h : Below n W w) (hn : n ≤ b) (m : Ms) (A : Option Addr) (c : Nat) : Below n W (maskW w b m A c) := by
  unfold maskW
  exact ((((h.setCell hn _).setCell hn _).setCell hn _).setCell hn _).setCell hn _
def OwnR (W1 : World) (o : Cq) (s : Value) (wx : World) : Prop := ∃ mb rb rc, s = .pointer (some ⟨mb, 0, none⟩) ∧ W1.heap.size ≤ mb ∧ W1.heap.size ≤ rb ∧ o.m.bs.length ≤ rc ∧ Blk wx mb 35 [.int .i64 o.m.box.a, .int .i64 o.m.box.b, .int .i64 o.m.box.c, .int .i64 o.m.box.d, .slice (some ⟨rb, 0, none⟩) o.m.bs.length rc] ∧ Byr wx rb o.m.bs ∧ Below W1.heap.size W1 wx
theorem ownR_set {W1 w7 : World} {o : Cq} {mb rb rc : Nat} {x0 x1 x2 x3 x4 : Value} (hm : Blk w7 mb 35 [x0, x1, x2, x3, x4]) (hb : Byr w7 rb o.m.bs) (hB : Below W1.heap.size W1 w7) (h1 : W1.heap.size ≤ mb) (h2 : W1.heap.size ≤ rb) (h3 : o.m.bs.length ≤ rc) :
    OwnR W1 o (.pointer (some ⟨mb, 0, none⟩)) (((((w7.setCell ⟨mb, 0, none⟩ (.int .i64 o.m.box.a)).setCell ⟨mb, 1, none⟩ (.int .i64 o.m.box.b)).setCell ⟨mb, 2, none⟩ (.int .i64 o.m.box.c)).setCell ⟨mb, 3, none⟩ (.int .i64 o.m.box.d)).setCell ⟨mb, 4, none⟩ (.slice (some ⟨rb, 0, none⟩) o.m.bs.length rc)) :=
  ⟨mb, rb, rc, rfl, h1, h2, h3, blk_maskW hm _ _ _, byr_maskW hb (Ne.symm (hb.typed hm (by decide))) _ _ _, below_maskW hB h1 _ _ _⟩
theorem ownR_alloc {W1 w7 : World} {o : Cq} {rb rc : Nat} (hb : Byr w7 rb o.m.bs) (hB : Below W1.heap.size W1 w7) (h2 : W1.heap.size ≤ rb) (h3 : o.m.bs.length ≤ rc) :
    OwnR W1 o (.pointer (some ⟨w7.heap.size, 0, none⟩)) (w7.alloc (.cells #[.int .i64 o.m.box.a, .int .i64 o.m.box.b, .int .i64 o.m.box.c, .int .i64 o.m.box.d, .slice (some ⟨rb, 0, none⟩) o.m.bs.length rc] 35)) :=
  ⟨_, rb, rc, rfl, hB.size, h2, h3, Blk.newAt _ _ [_, _, _, _, _] rfl, hb.keepB (bel_alloc bel_refl).below, hB.trans ((bel_alloc bel_refl).below.mono hB.size)⟩

/-- The law has written so many of its bytes. -/
def IncR (w8 : World) (rb n : Nat) (r : Nat) (i : Value) (wr : World) : Prop := ∃ bs' : List UInt8, bs'.length = n ∧ r ≤ n ∧ i = .int .i64 ((n - r : Nat) : Int) ∧ Byr wr rb bs' ∧ Turn w8 wr rb none
section
variable {B x g : Nat} {w w' : World} {budget : Int} {R : List Re}
set_option maxRecDepth 20000 in
set_option maxHeartbeats 4000000 in
theorem do_put (hS : LruS w g B budget (R.map Re.en)) (hR : RfE B w x budget R) (o : Cq) (hk : o.k.wf) (har : Ar B w o.A o.m.bs o.c) (hm : o.m.bs.length ≤ 16384) (h3 : o.kind = 2) :
    Calls Try.prog 21 #[.pointer (some ⟨g, 0, none⟩), .pointer (some ⟨x, 0, none⟩), .agg #[.int .i64 o.kind, .int .i64 o.k.g, .int .i64 o.k.p, .int .i64 o.k.x, .int .i64 o.k.y, .int .i64 o.m.box.a, .int .i64 o.m.box.b, .int .i64 o.m.box.c, .int .i64 o.m.box.d, .slice o.A o.m.bs.length o.c, .int .i64 o.n]] w (DoR B g x w) := by
  obtain ⟨A, c, h⟩ := hR
  obtain ⟨i0, hi0, hz0, hz1', hz2⟩ := info_parts u8_info
  have hal := bel_alloc (o := .cells #[.int .i64 o.kind, .int .i64 o.k.g, .int .i64 o.k.p, .int .i64 o.k.x, .int .i64 o.k.y, .int .i64 o.m.box.a, .int .i64 o.m.box.b, .int .i64 o.m.box.c, .int .i64 o.m.box.d, .slice o.A o.m.bs.length o.c, .int .i64 o.n] 37) (bel_refl (a := w))
  have hcb := Blk.newAt w 37 [.int .i64 o.kind, .int .i64 o.k.g, .int .i64 o.k.p, .int .i64 o.k.x, .int .i64 o.k.y, .int .i64 o.m.box.a, .int .i64 o.m.box.b, .int .i64 o.m.box.c, .int .i64 o.m.box.d, .slice o.A o.m.bs.length o.c, .int .i64 o.n] rfl
  have hlo := heldL_lo (R.map Re.en)
  have hfit := hS.fit
  have hb0 := hS.b0
  have hb1 := hS.b1
  have hlen : R.length ≤ 16777216 := by simp at hlo; omega
  have hheld : heldR R ≤ 4294967296 := by unfold heldR; omega
  have hBx := h.base
  have hxl := h.blk.lt
  have hBw : B ≤ w.heap.size := by omega
  have HLEN := Lib.hid hlen
  have HHELD := Lib.hid hheld
  have HB0 := Lib.hid hb0
  have hn : (o.m.bs.length : Int) ≤ 16384 := by omega
  have HAL := Lib.hid hal.below
  have H := Lib.hid h
  have HSS := Lib.hid hS
  have HAR := Lib.hid har
  have HCB := Lib.hid hcb
  have HKW := Lib.hid hk
  have HRD := Lib.hid (fun (u : World) (hu : Below w.heap.size w u) => SlAt.reads (har.br.sl.keep (w' := u) hu))
  clear hS h hal hcb hk har hlo hfit hb0 hb1 hlen hheld hm
  rw [h3] at HAL HCB ⊢
  go_enter Try.func21, Try.ntmps21
  go_upto_region 7 with fail
  generalize hW1 : (w.alloc (.cells #[.int .i64 2, .int .i64 o.k.g, .int .i64 o.k.p, .int .i64 o.k.x, .int .i64 o.k.y, .int .i64 o.m.box.a, .int .i64 o.m.box.b, .int .i64 o.m.box.c, .int .i64 o.m.box.d, .slice o.A o.m.bs.length o.c, .int .i64 o.n] 37)) = W1 at HAL HCB ⊢
  have hz1 : W1.heap.size = w.heap.size + 1 := by rw [← hW1]; simp
  have hql : w.heap.size < W1.heap.size := by omega
  clear hW1 hz1
  have q5 : W1.cell? ⟨w.heap.size, 5, none⟩ = some (.int .i64 o.m.box.a) := HCB.out.cell 5
  have q6 : W1.cell? ⟨w.heap.size, 6, none⟩ = some (.int .i64 o.m.box.b) := HCB.out.cell 6
  have q7 : W1.cell? ⟨w.heap.size, 7, none⟩ = some (.int .i64 o.m.box.c) := HCB.out.cell 7
  have q8 : W1.cell? ⟨w.heap.size, 8, none⟩ = some (.int .i64 o.m.box.d) := HCB.out.cell 8
  have q9 : W1.cell? ⟨w.heap.size, 9, none⟩ = some (.slice o.A o.m.bs.length o.c) := HCB.out.cell 9
  go_cut [11] (fun s wx => OwnR W1 o s wx)
  case first =>
    have hr1 : Below w.heap.size w (W1.alloc (.cells #[] 5)).drew := HAL.out.trans ((bel_drew (bel_alloc bel_refl)).below.mono (by omega))
    have hr2 : Below w.heap.size w ((W1.alloc (.cells #[] 5)).alloc (.cells #[.int .i64 0, .int .i64 0, .int .i64 0, .int .i64 0, .slice none 0 0] 35)).drew := HAL.out.trans ((bel_drew (bel_alloc (bel_alloc bel_refl))).below.mono (by omega))
    have hr3 : Below w.heap.size w ((W1.alloc (.cells #[.int .i64 0, .int .i64 0, .int .i64 0, .int .i64 0, .slice none 0 0] 35)).alloc (.cells #[] 5)).drew := HAL.out.trans ((bel_drew (bel_alloc (bel_alloc bel_refl))).below.mono (by omega))
    have ho1 := own_empty W1 5
    have ho2 : World.ownsRow ((W1.alloc (.cells #[] 5)).alloc (.cells #[.int .i64 0, .int .i64 0, .int .i64 0, .int .i64 0, .slice none 0 0] 35)) W1.heap.size 5 1 (.slice (some ⟨W1.heap.size, 0, none⟩) 0 0) 0 [] := own_keep ho1 fun k hk => (bel_alloc bel_refl).below.block k (own_lt ho1 k hk).2
    have ho3 := own_empty (W1.alloc (.cells #[.int .i64 0, .int .i64 0, .int .i64 0, .int .i64 0, .slice none 0 0] 35)) 5
    rw [show (W1.alloc (.cells #[.int .i64 0, .int .i64 0, .int .i64 0, .int .i64 0, .slice none 0 0] 35)).heap.size = W1.heap.size + 1 by simp] at ho3
    have HR1 := Lib.hid hr1
    have HR2 := Lib.hid hr2
    have HR3 := Lib.hid hr3
    have HO1 := Lib.hid ho1
    have HO2 := Lib.hid ho2
    have HO3 := Lib.hid ho3
    clear hr1 hr2 hr3 ho1 ho2 ho3
    have hm2 : Blk ((W1.alloc (.cells #[] 5)).alloc (.cells #[.int .i64 0, .int .i64 0, .int .i64 0, .int .i64 0, .slice none 0 0] 35)) (W1.heap.size + 1) 35 [.int .i64 0, .int .i64 0, .int .i64 0, .int .i64 0, .slice none 0 0] := Blk.newAt _ _ [_, _, _, _, _] (by simp)
    have hm3 : Blk ((W1.alloc (.cells #[.int .i64 0, .int .i64 0, .int .i64 0, .int .i64 0, .slice none 0 0] 35)).alloc (.cells #[] 5)) W1.heap.size 35 [.int .i64 0, .int .i64 0, .int .i64 0, .int .i64 0, .slice none 0 0] := (Blk.newAt _ _ [_, _, _, _, _] rfl).alloc _
    have HMA := Lib.hid hm2
    have HMB := Lib.hid hm3
    clear hm2 hm3
    go_region_law
      (first
      | ((refine step_append_any _ ?_ (.tmp 50) (.tmp 53) 33 ?_ W1.heap.size 5 i0 (.int .u8 0) 1 1 Try.underlying33 hi0 hz0 hz1' hz2 ?_ ?_ (.slice (some ⟨W1.heap.size, 0, none⟩) 0 0) 0 [] ?_ ?_ _ o.A o.m.bs.length o.c (o.m.bs.map byteV) ?_ (HRD.out _ HR1.out) (bytes_one _) ?_ ?_ ?_ ?_); (· rfl); (· rfl); (· rfl); (· omega); (· kernel_rfl); (· exact HO1.out); (· kernel_rfl); (· unfold maxLen; omega); (· omega); (· simp; try omega); intro v' w7 hown7 hgrow7 hat7
         rw [Nat.zero_add, List.nil_append] at hown7
         have hat8 : v'.ownBlock ≠ none := by rcases hat7 with e | e <;> rw [e] <;> simp [Value.ownBlock]
         obtain ⟨rb, rc, rfl, hrb, hby, hrc, -⟩ := own_byr hown7 hat8
         have hb7 : Below W1.heap.size W1 w7 := by
           refine Below.grown (bel_drew (bel_alloc bel_refl)).below hgrow7 ?_ ?_
           · simp; try omega
           · simp [Value.ownBlock]
         have hz7 := hb7.size
         have hw7 : w.heap.size < w7.heap.size := by omega
         have p5 := (hb7.cell (p := ⟨w.heap.size, 5, none⟩) hql).trans q5
         have p6 := (hb7.cell (p := ⟨w.heap.size, 6, none⟩) hql).trans q6
         have p7 := (hb7.cell (p := ⟨w.heap.size, 7, none⟩) hql).trans q7
         have p8 := (hb7.cell (p := ⟨w.heap.size, 8, none⟩) hql).trans q8
         skip
         have HBY := Lib.hid hby
         have HB7 := Lib.hid hb7
         clear hown7 hgrow7 hat7 hat8 hby hb7)
      | ((refine step_append_any _ ?_ (.tmp 50) (.tmp 53) 33 ?_ W1.heap.size 5 i0 (.int .u8 0) 1 1 Try.underlying33 hi0 hz0 hz1' hz2 ?_ ?_ (.slice (some ⟨W1.heap.size, 0, none⟩) 0 0) 0 [] ?_ ?_ _ o.A o.m.bs.length o.c (o.m.bs.map byteV) ?_ (HRD.out _ HR2.out) (bytes_one _) ?_ ?_ ?_ ?_); (· rfl); (· rfl); (· rfl); (· omega); (· kernel_rfl); (· exact HO2.out); (· kernel_rfl); (· unfold maxLen; omega); (· omega); (· simp; try omega); intro v' w7 hown7 hgrow7 hat7
         rw [Nat.zero_add, List.nil_append] at hown7
         have hat8 : v'.ownBlock ≠ none := by rcases hat7 with e | e <;> rw [e] <;> simp [Value.ownBlock]
         obtain ⟨rb, rc, rfl, hrb, hby, hrc, -⟩ := own_byr hown7 hat8
         have hb7 : Below W1.heap.size W1 w7 := by
           refine Below.grown (bel_drew (bel_alloc (bel_alloc bel_refl))).below hgrow7 ?_ ?_
           · simp; try omega
           · simp [Value.ownBlock]
         have hz7 := hb7.size
         have hw7 : w.heap.size < w7.heap.size := by omega
         have p5 := (hb7.cell (p := ⟨w.heap.size, 5, none⟩) hql).trans q5
         have p6 := (hb7.cell (p := ⟨w.heap.size, 6, none⟩) hql).trans q6
         have p7 := (hb7.cell (p := ⟨w.heap.size, 7, none⟩) hql).trans q7
         have p8 := (hb7.cell (p := ⟨w.heap.size, 8, none⟩) hql).trans q8
         have hm7 : Blk w7 (W1.heap.size + 1) 35 [.int .i64 0, .int .i64 0, .int .i64 0, .int .i64 0, .slice none 0 0] := (hgrow7.block (W1.heap.size + 1) (by simp; try omega) (by simp [Value.ownBlock])).trans HMA.out
         have m0 : w7.cell? ⟨W1.heap.size + 1, 0, none⟩ = some (.int .i64 0) := hm7.cell 0
         have m1 : w7.cell? ⟨W1.heap.size + 1, 1, none⟩ = some (.int .i64 0) := hm7.cell 1
         have m2 : w7.cell? ⟨W1.heap.size + 1, 2, none⟩ = some (.int .i64 0) := hm7.cell 2
         have m3 : w7.cell? ⟨W1.heap.size + 1, 3, none⟩ = some (.int .i64 0) := hm7.cell 3
         have m4 : w7.cell? ⟨W1.heap.size + 1, 4, none⟩ = some (.slice none 0 0) := hm7.cell 4
         have f0 := hm7.frozen 0
         have f1 := hm7.frozen 1
         have f2 := hm7.frozen 2
         have f3 := hm7.frozen 3
         have f4 := hm7.frozen 4
         have HM7 := Lib.hid hm7
         clear hm7
         have HBY := Lib.hid hby
         have HB7 := Lib.hid hb7
         clear hown7 hgrow7 hat7 hat8 hby hb7)
      | ((refine step_append_any _ ?_ (.tmp 50) (.tmp 53) 33 ?_ (W1.heap.size + 1) 5 i0 (.int .u8 0) 1 1 Try.underlying33 hi0 hz0 hz1' hz2 ?_ ?_ (.slice (some ⟨W1.heap.size + 1, 0, none⟩) 0 0) 0 [] ?_ ?_ _ o.A o.m.bs.length o.c (o.m.bs.map byteV) ?_ (HRD.out _ HR3.out) (bytes_one _) ?_ ?_ ?_ ?_); (· rfl); (· rfl); (· rfl); (· omega); (· kernel_rfl); (· exact HO3.out); (· kernel_rfl); (· unfold maxLen; omega); (· omega); (· simp; try omega); intro v' w7 hown7 hgrow7 hat7
         rw [Nat.zero_add, List.nil_append] at hown7
         have hat8 : v'.ownBlock ≠ none := by rcases hat7 with e | e <;> rw [e] <;> simp [Value.ownBlock]
         obtain ⟨rb, rc, rfl, hrb, hby, hrc, -⟩ := own_byr hown7 hat8
         have hb7 : Below W1.heap.size W1 w7 := by
           refine Below.grown (bel_drew (bel_alloc (bel_alloc bel_refl))).below hgrow7 ?_ ?_
           · simp; try omega
           · simp [Value.ownBlock]
         have hz7 := hb7.size
         have hw7 : w.heap.size < w7.heap.size := by omega
         have p5 := (hb7.cell (p := ⟨w.heap.size, 5, none⟩) hql).trans q5
         have p6 := (hb7.cell (p := ⟨w.heap.size, 6, none⟩) hql).trans q6
         have p7 := (hb7.cell (p := ⟨w.heap.size, 7, none⟩) hql).trans q7
         have p8 := (hb7.cell (p := ⟨w.heap.size, 8, none⟩) hql).trans q8
         have hm7 : Blk w7 (W1.heap.size) 35 [.int .i64 0, .int .i64 0, .int .i64 0, .int .i64 0, .slice none 0 0] := (hgrow7.block (W1.heap.size) (by simp; try omega) (by simp [Value.ownBlock])).trans HMB.out
         have m0 : w7.cell? ⟨W1.heap.size, 0, none⟩ = some (.int .i64 0) := hm7.cell 0
         have m1 : w7.cell? ⟨W1.heap.size, 1, none⟩ = some (.int .i64 0) := hm7.cell 1
         have m2 : w7.cell? ⟨W1.heap.size, 2, none⟩ = some (.int .i64 0) := hm7.cell 2
         have m3 : w7.cell? ⟨W1.heap.size, 3, none⟩ = some (.int .i64 0) := hm7.cell 3
         have m4 : w7.cell? ⟨W1.heap.size, 4, none⟩ = some (.slice none 0 0) := hm7.cell 4
         have f0 := hm7.frozen 0
         have f1 := hm7.frozen 1
         have f2 := hm7.frozen 2
         have f3 := hm7.frozen 3
         have f4 := hm7.frozen 4
         have HM7 := Lib.hid hm7
         clear hm7
         have HBY := Lib.hid hby
         have HB7 := Lib.hid hb7
         clear hown7 hgrow7 hat7 hat8 hby hb7)
      | fail)
    all_goals (go_wp2_with fail; go_meet)
    all_goals (first
      | (with_reducible refine ownR_alloc HBY.out HB7.out ?_ hrc)
      | (with_reducible refine ownR_set HM7.out HBY.out HB7.out ?_ ?_ hrc))
    all_goals omega
  case rest =>
    obtain ⟨mb, rb, rc, rfl, hmb, hrb, hrc, hM, hB, hW⟩ := hcut
    have hw0 : Below w.heap.size w wc := HAL.out.trans (hW.mono (by omega))
    have hs := (HSS.out.far (fun b => b = rb) (fun b hb => by omega)).keep hw0
    have hbu := hB.toBu hrc (by omega)
    have ha : Ar B wc (some ⟨rb, 0, none⟩) o.m.bs rc := Ar.mk hbu.bs.bw (fun _ b e => .inr (hbu.typed b e))
    have hput := Put_any hs o.k HKW.out o.m _ rc ha (fun b hb => by have := hB.lt; simp at hb; omega)
    have hcb := HCB.out.keepB hW
    have k1 : wc.cell? ⟨w.heap.size, 1, none⟩ = some (.int .i64 o.k.g) := hcb.cell 1
    have k2 : wc.cell? ⟨w.heap.size, 2, none⟩ = some (.int .i64 o.k.p) := hcb.cell 2
    have k3 : wc.cell? ⟨w.heap.size, 3, none⟩ = some (.int .i64 o.k.x) := hcb.cell 3
    have k4 : wc.cell? ⟨w.heap.size, 4, none⟩ = some (.int .i64 o.k.y) := hcb.cell 4
    have m0 : wc.cell? ⟨mb, 0, none⟩ = some (.int .i64 o.m.box.a) := hM.cell 0
    have m1 : wc.cell? ⟨mb, 1, none⟩ = some (.int .i64 o.m.box.b) := hM.cell 1
    have m2 : wc.cell? ⟨mb, 2, none⟩ = some (.int .i64 o.m.box.c) := hM.cell 2
    have m3 : wc.cell? ⟨mb, 3, none⟩ = some (.int .i64 o.m.box.d) := hM.cell 3
    have m4 : wc.cell? ⟨mb, 4, none⟩ = some (.slice (some ⟨rb, 0, none⟩) o.m.bs.length rc) := hM.cell 4
    have HP := Lib.hid hput
    have HM := Lib.hid hM
    have HBY := Lib.hid hB
    have HW := Lib.hid hw0
    have HCBc := Lib.hid hcb
    have hml := hM.lt
    have hcl := hcb.lt
    clear hs hput hM hB hw0 hcb hbu ha hW q5 q6 q7 q8 q9
    go_upto_region 9 with (first
      | (go_at_call 12; (with_reducible refine HP.out.mono ?_); rintro e w8 ⟨rfl, h8, k8⟩
         have H8 := Lib.hid h8
         have K8 := Lib.hid k8
         clear h8 k8))
    have hm8 := K8.out.blk HM.out (by decide)
    have hb8 := HBY.out.keepT K8.out
    have hc8 := K8.out.blk HCBc.out (by decide)
    have hne : mb ≠ rb := hb8.typed hm8 (by decide)
    have hne2 : w.heap.size ≠ rb := hb8.typed hc8 (by decide)
    have hmb8 : mb < w8.heap.size := hm8.lt
    have HM8 := Lib.hid hm8
    have HB8 := Lib.hid hb8
    have HC8 := Lib.hid hc8
    clear hm8 hb8 hc8 HP k1 k2 k3 k4 m0 m1 m2 m3 m4 HM HBY HCBc hml hcl
    go_wp2_with fail
    go_loopg [14] o.m.bs.length (fun r i wr => IncR w8 rb o.m.bs.length r i wr)
    case atStart => exact ⟨o.m.bs, rfl, Nat.le_refl _, by simp, HB8.out, Turn.refl _ _ _⟩
    case round =>
      obtain ⟨bs', hl', hr, rfl, hby, htu⟩ := hrel
      obtain ⟨j, hj⟩ : ∃ j, o.m.bs.length - gk = j := ⟨_, rfl⟩
      rw [hj]
      have hm' := turn_blk htu HM8.out hne
      have m4 : wr.cell? ⟨mb, 4, none⟩ = some (.slice (some ⟨rb, 0, none⟩) o.m.bs.length rc) := hm'.cell 4
      have hml := hm'.lt
      have hbl := hby.lt
      by_cases hin : j < o.m.bs.length
      · obtain ⟨q, rfl⟩ : ∃ q, gk = q + 1 := ⟨gk - 1, by omega⟩
        have cj := hby.cell j (by omega)
        have fj := hby.frozen j
        have hin' : (j : Int) < o.m.bs.length := by omega
        obtain ⟨u, hu⟩ : ∃ u, bs'[j]?.getD 0 = u := ⟨_, rfl⟩
        rw [hu] at cj
        have cj' : wr.cell? ⟨rb, j, none⟩ = some (.int .u8 u.toNat) := cj
        have hfin : ∀ v : UInt8, IncR w8 rb o.m.bs.length q (.int .i64 ((j : Int) + 1)) (wr.setCell ⟨rb, j, none⟩ (byteV v)) := fun v =>
          ⟨bs'.set j v, by simpa using hl', by omega, by rw [show o.m.bs.length - q = j + 1 by omega]; rfl, hby.set j v (by omega), htu.set j _⟩
        have HF := Lib.hid hfin
        clear hby htu hfin hm' cj hj hl' hu
        go_wp2_with fail
        go_roundg q
        case rel => exact HF.out (u + 1)
        case measure => omega
      · have hjj : j = o.m.bs.length := by omega
        subst hjj
        have hTL : Below B w8 wr := ⟨htu.os, htu.tape, htu.output, htu.size, fun k hk => htu.block k (by have := HW.out.size; have := K8.out.size; omega) (by omega) (by intro e; cases e)⟩
        have hTO : Below B w wr := ((HW.out.mono hBw).trans K8.out.toBelow).trans hTL
        have hS4 := (H8.out.turnF htu rfl HB8.out).forget
        have hR4 := ((H.out.keepB HW.out).keepT K8.out).turnF htu HB8.out (fun r hr' h0 e => by
          have := (H.out.ar r hr').br.row h0 rb e
          omega)
        have hA4 := ((HAR.out.keepB HW.out).keepT K8.out).turnF htu (fun h0 e => by
          have := HAR.out.br.row h0 rb e
          omega)
        have hc4 := turn_blk htu HC8.out hne2
        have k1 : wr.cell? ⟨w.heap.size, 1, none⟩ = some (.int .i64 o.k.g) := hc4.cell 1
        have k2 : wr.cell? ⟨w.heap.size, 2, none⟩ = some (.int .i64 o.k.p) := hc4.cell 2
        have k3 : wr.cell? ⟨w.heap.size, 3, none⟩ = some (.int .i64 o.k.x) := hc4.cell 3
        have k4 : wr.cell? ⟨w.heap.size, 4, none⟩ = some (.int .i64 o.k.y) := hc4.cell 4
        have k5 : wr.cell? ⟨w.heap.size, 5, none⟩ = some (.int .i64 o.m.box.a) := hc4.cell 5
        have k6 : wr.cell? ⟨w.heap.size, 6, none⟩ = some (.int .i64 o.m.box.b) := hc4.cell 6
        have k7 : wr.cell? ⟨w.heap.size, 7, none⟩ = some (.int .i64 o.m.box.c) := hc4.cell 7
        have k8 : wr.cell? ⟨w.heap.size, 8, none⟩ = some (.int .i64 o.m.box.d) := hc4.cell 8
        have k9 : wr.cell? ⟨w.heap.size, 9, none⟩ = some (.slice o.A o.m.bs.length o.c) := hc4.cell 9
        have hcl := hc4.lt
        have hck := fun w => rCheck_any o.m.box.a o.m.box.b o.m.box.c o.m.box.d o.A o.m.bs.length o.c (by omega) w
        have hme : maskE o.m.box.a o.m.box.b o.m.box.c o.m.box.d o.m.bs.length = maskM o.m := rfl
        simp only [hme] at hck
        have HCK := Lib.hid hck
        have HTO := Lib.hid hTO
        have HS4 := Lib.hid hS4
        have HR4 := Lib.hid hR4
        have HA4 := Lib.hid hA4
        have HC4 := Lib.hid hc4
        clear hck hme hTL hTO hS4 hR4 hA4 hc4 hby htu hm' hl' hr hj
        by_cases hmm : maskM o.m = 0
        · have HMM := Lib.hid hmm
          have hok : okP budget o.m = !decide (budget < costM o.m) := by unfold okP; rw [hmm]; simp
          rw [hmm] at HCK
          rw [hmm, hok]
          have HOK := Lib.hid hok
          clear hmm hok
          go_wp2_with (first
            | (go_at_call 11; (with_reducible refine (HCK.out _).mono ?_); rintro e w5 ⟨rfl, hb5⟩
               have hp5 := rPut_any ⟨_, _, HR4.out.keepB hb5⟩ HLEN.out HHELD.out HB0.out o.k o.m o.A o.c (HA4.out.keepB hb5) (by omega)
               have hc5 := HC4.out.keepB hb5
               have k1 : w5.cell? ⟨w.heap.size, 1, none⟩ = some (.int .i64 o.k.g) := hc5.cell 1
               have k2 : w5.cell? ⟨w.heap.size, 2, none⟩ = some (.int .i64 o.k.p) := hc5.cell 2
               have k3 : w5.cell? ⟨w.heap.size, 3, none⟩ = some (.int .i64 o.k.x) := hc5.cell 3
               have k4 : w5.cell? ⟨w.heap.size, 4, none⟩ = some (.int .i64 o.k.y) := hc5.cell 4
               have k5 : w5.cell? ⟨w.heap.size, 5, none⟩ = some (.int .i64 o.m.box.a) := hc5.cell 5
               have k6 : w5.cell? ⟨w.heap.size, 6, none⟩ = some (.int .i64 o.m.box.b) := hc5.cell 6
               have k7 : w5.cell? ⟨w.heap.size, 7, none⟩ = some (.int .i64 o.m.box.c) := hc5.cell 7
               have k8 : w5.cell? ⟨w.heap.size, 8, none⟩ = some (.int .i64 o.m.box.d) := hc5.cell 8
               have k9 : w5.cell? ⟨w.heap.size, 9, none⟩ = some (.slice o.A o.m.bs.length o.c) := hc5.cell 9
               have hcl5 := hc5.lt
               have HP5 := Lib.hid hp5
               have HX5 := Lib.hid (HR4.out.blk.keepB hb5)
               have HB5 := Lib.hid hb5
               clear hp5 hc5 hb5)
            | (go_at_call 35; (with_reducible refine HP5.out.mono ?_); rintro e w6 ⟨rfl, h6, t6⟩
               have H6 := Lib.hid h6
               have T6 := Lib.hid t6
               clear h6 t6))
          refine bodyPost_ret (v := .bool true) (by simp [results, Try.results21, go_sem, *]) rfl ?_
          obtain ⟨R', e1, hR'⟩ := H6.out
          refine ⟨rfl, ⟨budget, R', ?_, hR'⟩, (HTO.out.trans (HB5.out.mono (by have := HTO.out.size; omega))).trans (turn_to T6.out hBx HX5.out.lt)⟩
          have hL : putM budget o.k o.m (R.map Re.en) = R'.map Re.en := by
            unfold putM
            rw [if_pos HMM.out, e1]
          rw [← hL]
          exact (HS4.out.keep HB5.out).turn T6.out HX5.out
        · have HMM := Lib.hid hmm
          have hok : okP budget o.m = false := by unfold okP; rw [decide_eq_false hmm]; rfl
          have hnz : (maskM o.m != 0) = true := by simpa using hmm
          rw [hok]
          clear hmm hok
          go_wp2_with (first
            | (go_at_call 11; (with_reducible refine (HCK.out _).mono ?_); rintro e w5 ⟨rfl, hb5⟩
               have HB5 := Lib.hid hb5
               clear hb5))
          refine bodyPost_ret (v := .bool true) (by simp [results, Try.results21, go_sem, *]) rfl ?_
          have hL : putM budget o.k o.m (R.map Re.en) = R.map Re.en := by
            unfold putM
            rw [if_neg HMM.out]
          have hS5 := HS4.out.keep HB5.out
          rw [hL] at hS5
          exact ⟨rfl, ⟨budget, R, hS5, _, _, HR4.out.keepB HB5.out⟩, HTO.out.trans (HB5.out.mono (by have := HTO.out.size; omega))⟩
end
end Go.Proofs.Ytakgeeopfclmoaa

namespace Go.Proofs.Ytakgeeopfclmoaa
open Go.RowKit Go.Maps

section
variable {B x g : Nat} {w w' : World} {budget : Int} {R : List Re} {L : List En}
theorem do_any (hS : LruS w g B budget (R.map Re.en)) (hR : RfE B w x budget R) (hB : B ≤ w.heap.size) (o : Cq) (hk : o.k.wf) (har : Ar B w o.A o.m.bs o.c) (hm : o.m.bs.length ≤ 16384) :
    Calls Try.prog 21 #[.pointer (some ⟨g, 0, none⟩), .pointer (some ⟨x, 0, none⟩), .agg #[.int .i64 o.kind, .int .i64 o.k.g, .int .i64 o.k.p, .int .i64 o.k.x, .int .i64 o.k.y, .int .i64 o.m.box.a, .int .i64 o.m.box.b, .int .i64 o.m.box.c, .int .i64 o.m.box.d, .slice o.A o.m.bs.length o.c, .int .i64 o.n]] w (DoR B g x w) := by
  by_cases h1 : o.kind = 1
  · exact do_get hS hR o hk h1
  by_cases h2 : o.kind = 2
  · exact do_put hS hR o hk har hm h2
  by_cases h3 : o.kind = 3
  · exact do_drop hS hR o hk h3
  by_cases h4 : o.kind = 4
  · exact do_resize hS hR o h4
  exact do_none hS hR hB o h1 h2 h3 h4
theorem LruS.wf {B : Bz} (h : LruS w g B budget L) : ∀ e ∈ L, e.1.wf := by
  obtain ⟨⟨Y, S, l, fr, h1, ok⟩, _, _, _⟩ := h
  intro e he
  have hm : e.1 ∈ (keysE S.ss l).map (·.1) := by rw [keysE_fst, ok.ents]; exact List.mem_map_of_mem he
  obtain ⟨p, hp, e1⟩ := List.mem_map.1 hm
  rw [← e1]
  exact h1.mok.wf p hp
theorem findL_nodup {L : List En} (hnd : (L.map (·.1)).Nodup) {e : En} (he : e ∈ L) : findL e.1 L = some e := by
  induction L with
  | nil => cases he
  | cons a L ih =>
    rw [findL_cons]
    rw [List.map_cons, List.nodup_cons] at hnd
    rcases List.mem_cons.1 he with rfl | he
    · simp
    · rw [if_neg (fun e1 => hnd.1 (by rw [e1]; exact List.mem_map_of_mem he)), ih hnd.2 he]
/-- What stands ahead of the loop over the calls' rounds. -/
def DoesR (W : World) (g x n : Nat) (r : Nat) (i : Value) (wr : World) : Prop :=
  ∃ (budget : Int) (R : List Re), r ≤ n ∧ i = .int .i64 ((n - r : Nat) : Int) ∧ LruS wr g W.heap.size budget (R.map Re.en) ∧ RfE W.heap.size wr x budget R ∧ Below W.heap.size W wr
/-- Behind it: whatever the document's cache holds is found, and is the same. -/
def FinR (W : World) (g x : Nat) (budget : Int) (R : List Re) (A : Option Addr) (c : Nat) (r : Nat) (i : Value) (wr : World) : Prop :=
  ∃ (L : List En), r ≤ R.length ∧ i = .int .i64 ((r : Int) - 1) ∧ LruS wr g W.heap.size budget L ∧ (∀ e ∈ R, findL e.k L = some e.en ∧ e.k.wf) ∧ Rf W.heap.size wr x budget R A c ∧ Below W.heap.size W wr
theorem FinR.start {W wr : World} {A : Option Addr} {c : Nat} (hS : LruS wr g W.heap.size budget (R.map Re.en)) (hR : Rf W.heap.size wr x budget R A c) (hB : Below W.heap.size W wr) : FinR W g x budget R A c R.length (.int .i64 ((R.length : Int) - 1)) wr :=
  ⟨R.map Re.en, Nat.le_refl _, rfl, hS, fun e he => ⟨findL_nodup hS.nodup (e := e.en) (List.mem_map_of_mem he), hS.wf e.en (List.mem_map_of_mem he)⟩, hR, hB⟩
/-- A hit. -/
def HitR (B : Nat) (g : Nat) (budget : Int) (L : List En) (m : Ms) (w : World) (e : Ending) (w' : World) : Prop :=
  ∃ A c, e = .returned (.tuple #[.agg #[.int .i64 m.box.a, .int .i64 m.box.b, .int .i64 m.box.c, .int .i64 m.box.d, .slice A m.bs.length c], .bool true]) ∧ Bu w' A m.bs c ∧ LruS w' g B budget L ∧ KeepT B w w'
theorem hit_any (h : LruS w g B budget L) (k : K4) (hk : k.wf) (m : Ms) (hf : findL k L = some (k, m)) :
    Calls Try.prog 14 #[.pointer (some ⟨g, 0, none⟩), .agg #[.int .i64 k.g, .int .i64 k.p, .int .i64 k.x, .int .i64 k.y]] w (HitR B g budget (getL k L) m w) := by
  refine (Get_any h k hk).mono ?_
  rintro e w' ⟨A, c, h1, h2, h3, h4⟩
  have e1 : gm k L = m := by unfold gm; rw [hf]
  have e2 : gb k L = true := by unfold gb; rw [hf]; rfl
  rw [e1, e2] at h1
  rw [e1] at h2
  exact ⟨A, c, h1, h2, h3, h4⟩
end
end Go.Proofs.Ytakgeeopfclmoaa

namespace Go.Proofs.Ytakgeeopfclmoaa
open Go.RowKit Go.Maps

set_option maxRecDepth 20000 in
set_option maxHeartbeats 8000000 in
theorem lruDoes_in (budget : Int) {w : World} {A : Option Addr} {n c : Nat} {os : List Cq} (hl : os.length = n) (hA : CallsAt w A os) (hc : n ≤ c) (hbud : budB budget = true) :
    Calls Try.prog 6 #[.int .i64 budget, .slice A n c] w fun e w' => e = .returned (.bool true) ∧ Below w.heap.size w w' := by
  have h0 := (budB_true.1 hbud).1
  have hb2 := (budB_true.1 hbud).2
  have hn := fun w => New_yes (w := w) budget hbud
  have hmay := fun w => rMayBud_any budget w
  rw [hbud] at hmay
  have HMB := Lib.hid hmay
  have HN := Lib.hid hn
  have HCA := Lib.hid hA
  have HL := Lib.hid hl
  clear hn hA hl hbud hmay
  go_enter Try.func6, Try.ntmps6
  go_wp2_with (first
      | (go_at_call 8; (with_reducible refine (HN.out _).mono ?_); rintro e w1 ⟨g, rfl, hh, hb1⟩
         have HS := Lib.hid (LruS.mk (L := []) hh h0 h0 (by omega))
         have HB := Lib.hid hb1
         clear hh hb1)
      | (go_at_call 9; (with_reducible refine (lives_any _).mono ?_); rintro e w2 ⟨rfl, hb2⟩
         have HS2 := Lib.hid (HS.out.keep hb2)
         have HB2 := Lib.hid (HB.out.trans (hb2.mono HB.out.size))
         clear hb2)
      | (go_at_call 10; (with_reducible refine (HMB.out _).mono ?_); rintro e w3 ⟨rfl, rfl⟩))
  go_loopg [8] n (fun r i wr => DoesR w g w2.heap.size n r i wr)
  case atStart =>
    have hbl := (bel_alloc (o := .cells #[.int .i64 budget, .slice none 0 0] 56) (bel_refl (a := w2))).below
    exact ⟨budget, [], Nat.le_refl _, by simp, HS2.out.keep hbl, ⟨none, 0, Blk.newAt _ _ [_, _] rfl, ⟨rfl, .inl ⟨rfl, rfl⟩⟩, (fun r hr => by cases hr), HB2.out.size⟩, HB2.out.trans (hbl.mono HB2.out.size)⟩
  case round =>
    obtain ⟨bud, R, hr, rfl, hS, hR, hbel⟩ := hrel
    obtain ⟨j, hj⟩ : ∃ j, n - gk = j := ⟨_, rfl⟩
    rw [hj]
    by_cases hin : j < n ∧ j < 100
    · obtain ⟨hjn, hj60⟩ := hin
      obtain ⟨o, ho⟩ : ∃ o, os[j]? = some o := ⟨_, List.getElem?_eq_getElem (by rw [HL.out]; exact hjn)⟩
      obtain ⟨b, off, hAA, hblt, hcell, hbw, hkwo⟩ := (HCA.out.keep hbel (Nat.le_refl _) hbel.size) j o ho
      have har : Ar w.heap.size wr o.A o.m.bs o.c := by
        obtain ⟨_, _, _, _, _, hbw0, _⟩ := HCA.out j o ho
        exact ⟨hbw, fun h0 b hb => .inl (by have := hbw0.row h0 b hb; omega)⟩
      subst hAA
      have c0 : wr.cell? ⟨b, off + j * 11, none⟩ = some (.int .i64 o.kind) := by have := hcell 0 _ rfl; simpa [Nat.add_assoc] using this
      have c1 : wr.cell? ⟨b, off + j * 11 + 1, none⟩ = some (.int .i64 o.k.g) := by have := hcell 1 _ rfl; simpa [Nat.add_assoc] using this
      have c2 : wr.cell? ⟨b, off + j * 11 + 2, none⟩ = some (.int .i64 o.k.p) := by have := hcell 2 _ rfl; simpa [Nat.add_assoc] using this
      have c3 : wr.cell? ⟨b, off + j * 11 + 3, none⟩ = some (.int .i64 o.k.x) := by have := hcell 3 _ rfl; simpa [Nat.add_assoc] using this
      have c4 : wr.cell? ⟨b, off + j * 11 + 4, none⟩ = some (.int .i64 o.k.y) := by have := hcell 4 _ rfl; simpa [Nat.add_assoc] using this
      have c5 : wr.cell? ⟨b, off + j * 11 + 5, none⟩ = some (.int .i64 o.m.box.a) := by have := hcell 5 _ rfl; simpa [Nat.add_assoc] using this
      have c6 : wr.cell? ⟨b, off + j * 11 + 6, none⟩ = some (.int .i64 o.m.box.b) := by have := hcell 6 _ rfl; simpa [Nat.add_assoc] using this
      have c7 : wr.cell? ⟨b, off + j * 11 + 7, none⟩ = some (.int .i64 o.m.box.c) := by have := hcell 7 _ rfl; simpa [Nat.add_assoc] using this
      have c8 : wr.cell? ⟨b, off + j * 11 + 8, none⟩ = some (.int .i64 o.m.box.d) := by have := hcell 8 _ rfl; simpa [Nat.add_assoc] using this
      have c9 : wr.cell? ⟨b, off + j * 11 + 9, none⟩ = some (.slice o.A o.m.bs.length o.c) := by have := hcell 9 _ rfl; simpa [Nat.add_assoc] using this
      have c10 : wr.cell? ⟨b, off + j * 11 + 10, none⟩ = some (.int .i64 o.n) := by have := hcell 10 _ rfl; simpa [Nat.add_assoc] using this
      have hjn' : (j : Int) < n := by omega
      have hj60' : (j : Int) < 100 := by omega
      have hsm := hbw.small
      obtain ⟨r, rfl⟩ : ∃ r, gk = r + 1 := ⟨gk - 1, by omega⟩
      have hnx : n - r = j + 1 := by omega
      have hfin : ∀ (bud' : Int) (R' : List Re) (w' : World), LruS w' g w.heap.size bud' (R'.map Re.en) → RfE w.heap.size w' w2.heap.size bud' R' → Below w.heap.size w w' → DoesR w g w2.heap.size n r (.int .i64 ((j : Int) + 1)) w' :=
        fun bud' R' w' g1 g2 g3 => ⟨bud', R', by omega, by rw [hnx]; rfl, g1, g2, g3⟩
      have HF := Lib.hid hfin
      have HBL := Lib.hid hbel
      by_cases hbig : 16384 < o.m.bs.length
      · have hb' : (16384 : Int) < o.m.bs.length := by omega
        have HS := Lib.hid hS
        have HR := Lib.hid hR
        clear hcell har hbw hkwo hS hR hbel ho hfin hj
        go_wp2_with fail
        go_roundg r
        case rel => exact HF.out _ _ _ HS.out HR.out HBL.out
        case measure => omega
      · have hb' : (o.m.bs.length : Int) ≤ 16384 := by omega
        have HD := Lib.hid (do_any hS hR hbel.size o hkwo har (by omega))
        clear hcell har hbw hkwo hS hR hbel ho hfin hj hbig
        go_wp2_with (first
          | (go_at_call 21; (with_reducible refine HD.out.mono ?_); rintro e w3 ⟨rfl, ⟨bud3, R3, h3, hr3⟩, hb3⟩
             have HS3 := Lib.hid h3
             have HR3 := Lib.hid hr3
             have HB3 := Lib.hid (HBL.out.trans hb3)
             have HLK := Lib.hid (looks_any h3 hr3 rfl)
             clear h3 hr3 hb3)
          | (go_at_call 22; (with_reducible refine HLK.out.mono ?_); rintro e w4 ⟨rfl, hb4⟩
             have HB4 := Lib.hid hb4
             clear hb4))
        go_roundg r
        case rel =>
          obtain ⟨A3, c3, hr3⟩ := HR3.out
          exact HF.out _ _ _ (HS3.out.keep HB4.out) ⟨A3, c3, hr3.keepB HB4.out⟩ (HB3.out.trans (HB4.out.mono HB3.out.size))
        case measure => omega
    · have hd : n ≤ j ∨ (j < n ∧ 100 ≤ j) := by omega
      obtain ⟨Ar, cr, hRf⟩ := hR
      have hlo := heldL_lo (R.map Re.en)
      have hfit := hS.fit
      have hb1 := hS.b1
      have hRl : (R.length : Int) ≤ 16777216 := by simp at hlo; omega
      have x1 : wr.cell? ⟨w2.heap.size, 1, none⟩ = some (.slice Ar R.length cr) := hRf.blk.cell 1
      have hxl := hRf.blk.lt
      have HST := Lib.hid (FinR.start hS hRf hbel)
      clear hS hRf hbel hj hin hlo hfit hb1
      rcases hd with hd | ⟨hd, hd2⟩
      all_goals
        have hd' : ((n : Int) ≤ j) ∨ ((j : Int) < n ∧ (100 : Int) ≤ j) := by omega
        first
          | (have hx : (n : Int) ≤ j := by omega)
          | (obtain ⟨hx, hx2⟩ : (j : Int) < n ∧ (100 : Int) ≤ j := by omega)
        clear hd'
        go_wp2_with fail
        go_loopg [9] R.length (fun r i wq => FinR w g w2.heap.size bud R Ar cr r i wq)
        case atStart => exact HST.out
        case round =>
          obtain ⟨L, hr2, rfl, hS, hf, hRf, hbel⟩ := hrel
          have y1 : wr.cell? ⟨w2.heap.size, 1, none⟩ = some (.slice Ar R.length cr) := hRf.blk.cell 1
          have yl := hRf.blk.lt
          cases gk with
          | zero =>
            rw [show (((0 : Nat) : Int) - 1) = -1 from rfl]
            have HBE := Lib.hid hbel
            clear hS hf hRf hbel
            go_wp2_with fail
            go_ret
            exact ⟨rfl, HBE.out⟩
          | succ q =>
            rw [show (((q + 1 : Nat) : Int) - 1) = (q : Int) by omega]
            obtain ⟨r, hrr⟩ : ∃ r, R[q]? = some r := ⟨_, List.getElem?_eq_getElem (by omega)⟩
            obtain ⟨rb, hA, hBb, hlt, hne, hcap⟩ := hRf.slotA (by omega)
            subst hA
            obtain ⟨hf1, hf2⟩ := hf r (List.mem_of_getElem? hrr)
            have hq : (q : Int) < R.length := by omega
            have hq2 : (q : Int) ≤ 16777216 := by omega
            have d0 : wr.cell? ⟨rb, q * 9, none⟩ = some (.int .i64 r.k.g) := hRf.cell (j := 0) rfl hrr rfl
            have d1 : wr.cell? ⟨rb, q * 9 + 1, none⟩ = some (.int .i64 r.k.p) := hRf.cell (j := 1) rfl hrr rfl
            have d2 : wr.cell? ⟨rb, q * 9 + 2, none⟩ = some (.int .i64 r.k.x) := hRf.cell (j := 2) rfl hrr rfl
            have d3 : wr.cell? ⟨rb, q * 9 + 3, none⟩ = some (.int .i64 r.k.y) := hRf.cell (j := 3) rfl hrr rfl
            have d4 : wr.cell? ⟨rb, q * 9 + 4, none⟩ = some (.int .i64 r.m.box.a) := hRf.cell (j := 4) rfl hrr rfl
            have d5 : wr.cell? ⟨rb, q * 9 + 5, none⟩ = some (.int .i64 r.m.box.b) := hRf.cell (j := 5) rfl hrr rfl
            have d6 : wr.cell? ⟨rb, q * 9 + 6, none⟩ = some (.int .i64 r.m.box.c) := hRf.cell (j := 6) rfl hrr rfl
            have d7 : wr.cell? ⟨rb, q * 9 + 7, none⟩ = some (.int .i64 r.m.box.d) := hRf.cell (j := 7) rfl hrr rfl
            have d8 : wr.cell? ⟨rb, q * 9 + 8, none⟩ = some (.slice r.A r.m.bs.length r.c) := hRf.cell (j := 8) rfl hrr rfl
            have hG := hit_any hS r.k hf2 r.m hf1
            have har := hRf.ar r (List.mem_of_getElem? hrr)
            have hfin : ∀ (L' : List En) (w' : World), LruS w' g w.heap.size bud L' → (∀ e ∈ R, findL e.k L' = some e.en ∧ e.k.wf) → Rf w.heap.size w' w2.heap.size bud R (some ⟨rb, 0, none⟩) cr → Below w.heap.size w w' → FinR w g w2.heap.size bud R (some ⟨rb, 0, none⟩) cr q (.int .i64 ((q : Int) - 1)) w' :=
              fun L' w' g1 g2 g3 g4 => ⟨L', by omega, rfl, g1, g2, g3, g4⟩
            have HF := Lib.hid hfin
            have HG := Lib.hid hG
            have HRR := Lib.hid hrr
            have HFA := Lib.hid hf
            have HRF := Lib.hid hRf
            have HBL := Lib.hid hbel
            have HAR := Lib.hid har
            clear hS hf hRf hbel hf1 hf2 hG har hfin hrr
            go_upto_region 19 with (first
              | (go_at_call 14; (with_reducible refine HG.out.mono ?_); rintro e w3 ⟨A3, c3, rfl, hbu3, h3, k3⟩
                 have hr3 := HRF.out.keepT k3
                 have z1 : w3.cell? ⟨w2.heap.size, 1, none⟩ = some (.slice (some ⟨rb, 0, none⟩) R.length cr) := hr3.blk.cell 1
                 have zl := hr3.blk.lt
                 have zb : rb < w3.heap.size := Nat.lt_of_lt_of_le hlt k3.size
                 have e4 : w3.cell? ⟨rb, q * 9 + 4, none⟩ = some (.int .i64 r.m.box.a) := hr3.cell (j := 4) rfl HRR.out rfl
                 have e5 : w3.cell? ⟨rb, q * 9 + 5, none⟩ = some (.int .i64 r.m.box.b) := hr3.cell (j := 5) rfl HRR.out rfl
                 have e6 : w3.cell? ⟨rb, q * 9 + 6, none⟩ = some (.int .i64 r.m.box.c) := hr3.cell (j := 6) rfl HRR.out rfl
                 have e7 : w3.cell? ⟨rb, q * 9 + 7, none⟩ = some (.int .i64 r.m.box.d) := hr3.cell (j := 7) rfl HRR.out rfl
                 have e8 : w3.cell? ⟨rb, q * 9 + 8, none⟩ = some (.slice r.A r.m.bs.length r.c) := hr3.cell (j := 8) rfl HRR.out rfl
                 have HS3 := Lib.hid h3
                 have HR3 := Lib.hid hr3
                 have HB3 := Lib.hid (HBL.out.trans k3.toBelow)
                 have HSA := Lib.hid (fun u (hu : Below w3.heap.size w3 u) => same_any u r.m r.m A3 r.A c3 r.c (hbu3.bs.bw.keep hu) ((HAR.out.keepT k3).br.keep hu))
                 clear hbu3 h3 k3 hr3))
            have hsm := HAR.out.br.small
            have hal := (bel_alloc (o := (.cells #[.int .i64 r.m.box.a, .int .i64 r.m.box.b, .int .i64 r.m.box.c, .int .i64 r.m.box.d, .slice A3 r.m.bs.length c3] 35)) (bel_refl (a := w3))).below
            have hmk : Blk (w3.alloc (.cells #[.int .i64 r.m.box.a, .int .i64 r.m.box.b, .int .i64 r.m.box.c, .int .i64 r.m.box.d, .slice A3 r.m.bs.length c3] 35)) w3.heap.size 35 [.int .i64 r.m.box.a, .int .i64 r.m.box.b, .int .i64 r.m.box.c, .int .i64 r.m.box.d, .slice A3 r.m.bs.length c3] := Blk.newAt _ _ [_, _, _, _, _] rfl
            have hza : (w3.alloc (.cells #[.int .i64 r.m.box.a, .int .i64 r.m.box.b, .int .i64 r.m.box.c, .int .i64 r.m.box.d, .slice A3 r.m.bs.length c3] 35)).heap.size = w3.heap.size + 1 := by simp
            clear HG HRF HBL
            generalize w3.alloc (.cells #[.int .i64 r.m.box.a, .int .i64 r.m.box.b, .int .i64 r.m.box.c, .int .i64 r.m.box.d, .slice A3 r.m.bs.length c3] 35) = wa at hal hmk hza ⊢
            have hz1 : w2.heap.size < wa.heap.size := by omega
            have hz2 : rb < wa.heap.size := by omega
            have hz3 : w3.heap.size < wa.heap.size := by omega
            have v1 : wa.cell? ⟨w2.heap.size, 1, none⟩ = some (.slice (some ⟨rb, 0, none⟩) R.length cr) := (hal.cell (p := ⟨w2.heap.size, 1, none⟩) zl).trans z1
            have v4 : wa.cell? ⟨rb, q * 9 + 4, none⟩ = some (.int .i64 r.m.box.a) := (hal.cell (p := ⟨rb, q * 9 + 4, none⟩) zb).trans e4
            have v5 : wa.cell? ⟨rb, q * 9 + 5, none⟩ = some (.int .i64 r.m.box.b) := (hal.cell (p := ⟨rb, q * 9 + 5, none⟩) zb).trans e5
            have v6 : wa.cell? ⟨rb, q * 9 + 6, none⟩ = some (.int .i64 r.m.box.c) := (hal.cell (p := ⟨rb, q * 9 + 6, none⟩) zb).trans e6
            have v7 : wa.cell? ⟨rb, q * 9 + 7, none⟩ = some (.int .i64 r.m.box.d) := (hal.cell (p := ⟨rb, q * 9 + 7, none⟩) zb).trans e7
            have v8 : wa.cell? ⟨rb, q * 9 + 8, none⟩ = some (.slice r.A r.m.bs.length r.c) := (hal.cell (p := ⟨rb, q * 9 + 8, none⟩) zb).trans e8
            have o0 : wa.cell? ⟨w3.heap.size, 0, none⟩ = some (.int .i64 r.m.box.a) := hmk.cell 0
            have o1 : wa.cell? ⟨w3.heap.size, 1, none⟩ = some (.int .i64 r.m.box.b) := hmk.cell 1
            have o2 : wa.cell? ⟨w3.heap.size, 2, none⟩ = some (.int .i64 r.m.box.c) := hmk.cell 2
            have o3 : wa.cell? ⟨w3.heap.size, 3, none⟩ = some (.int .i64 r.m.box.d) := hmk.cell 3
            have o4 : wa.cell? ⟨w3.heap.size, 4, none⟩ = some (.slice A3 r.m.bs.length c3) := hmk.cell 4
            have HAL := Lib.hid hal
            clear hal hmk hza z1 e4 e5 e6 e7 e8
            go_region_held3 (fun u => u.cell? ⟨w2.heap.size, 1, none⟩ = some (.slice (some ⟨rb, 0, none⟩) R.length cr) ∧ u.cell? ⟨rb, q * 9 + 4, none⟩ = some (.int .i64 r.m.box.a) ∧ u.cell? ⟨rb, q * 9 + 5, none⟩ = some (.int .i64 r.m.box.b) ∧ u.cell? ⟨rb, q * 9 + 6, none⟩ = some (.int .i64 r.m.box.c) ∧ u.cell? ⟨rb, q * 9 + 7, none⟩ = some (.int .i64 r.m.box.d) ∧ u.cell? ⟨rb, q * 9 + 8, none⟩ = some (.slice r.A r.m.bs.length r.c) ∧ u.cell? ⟨w3.heap.size, 0, none⟩ = some (.int .i64 r.m.box.a) ∧ u.cell? ⟨w3.heap.size, 1, none⟩ = some (.int .i64 r.m.box.b) ∧ u.cell? ⟨w3.heap.size, 2, none⟩ = some (.int .i64 r.m.box.c) ∧ u.cell? ⟨w3.heap.size, 3, none⟩ = some (.int .i64 r.m.box.d) ∧ u.cell? ⟨w3.heap.size, 4, none⟩ = some (.slice A3 r.m.bs.length c3)) (go_keep) (first
              | (go_at_call 15; (with_reducible refine (HSA.out _ ?_).mono ?_); (focus (refine HAL.out.trans (Below.mono (Bel.below ?_) HAL.out.size); (repeat (first | with_reducible exact bel_refl | with_reducible apply bel_alloc | with_reducible apply bel_drewN | with_reducible apply bel_drew | (with_reducible refine bel_set ?_ ?_; rotate_left; · first | (simp; done) | (simp; omega) | omega) | with_reducible refine bel_call (by assumption) ?_)))); rintro e w4 ⟨rfl, hb4⟩
                 obtain ⟨hc4, hf4, hy4⟩ := bcell hb4; (try simp at hy4)
                 have HB4 := Lib.hid hb4
                 clear hb4))
            clear hc4 hf4
            go_wp2_with fail
            go_roundg q
            case rel =>
              have hbf : Below w3.heap.size w3 w4 := by
                refine HAL.out.trans (Below.mono (Below.trans (?_ : Below wa.heap.size wa _) (HB4.out.mono (by simp))) HAL.out.size)
                refine Bel.below ?_
                repeat (first | with_reducible exact bel_refl | with_reducible apply bel_alloc | with_reducible apply bel_drewN | with_reducible apply bel_drew | (with_reducible refine bel_set ?_ ?_; rotate_left; · first | (simp; done) | (simp; omega) | omega) | with_reducible refine bel_call (by assumption) ?_)
              exact HF.out _ _ (HS3.out.keep hbf) (fun e he => by rw [findL_get]; exact HFA.out e he) (HR3.out.keepB hbf) (HB3.out.trans (hbf.mono HB3.out.size))
            case measure => omega
theorem lruDoes_any (budget : Int) {w : World} {A : Option Addr} {n c : Nat} {os : List Cq} (hl : os.length = n) (hA : CallsAt w A os) (hc : n ≤ c) :
    Calls Try.prog 6 #[.int .i64 budget, .slice A n c] w fun e w' => e = .returned (.bool true) ∧ Below w.heap.size w w' := by
  rcases Bool.eq_false_or_eq_true (budB budget) with hbud | hbud
  · exact lruDoes_in budget hl hA hc hbud
  · have hmay := fun w => rMayBud_any budget w
    rw [hbud] at hmay
    have HM := Lib.hid hmay
    have HN := Lib.hid (fun w => New_no (w := w) budget hbud)
    clear hl hA hmay hbud
    go_enter Try.func6, Try.ntmps6
    go_wp2_with (first
      | (go_at_call 8; (with_reducible refine (HN.out _).mono ?_); rintro e w1 ⟨rfl, rfl⟩)
      | (go_at_call 9; (with_reducible refine (lives_any _).mono ?_); rintro e w2 ⟨rfl, hb2⟩)
      | (go_at_call 10; (with_reducible refine (HM.out _).mono ?_); rintro e w3 ⟨rfl, rfl⟩))
    go_ret
    refine ⟨rfl, Bel.below ?_⟩
    repeat (first | with_reducible exact bel_refl | with_reducible apply bel_alloc | with_reducible apply bel_drewN | with_reducible apply bel_drew | (with_reducible refine bel_set ?_ ?_; rotate_left; · first | (simp; done) | (simp; omega) | omega) | with_reducible refine bel_call (by assumption) ?_)
end Go.Proofs.Ytakgeeopfclmoaa

namespace Go.Proofs.Ytakgeeopfclmoaa
open Go.ChangeShapes Go.WideShapes Go.ChangeAt Go.RowKit

set_option maxRecDepth 100000 in
theorem lruDoes_lifted (os : Os) (started : os.Started) (H : Type) (enc : TypeId × Value → H) :
    ReturnsInHanded {} Try.checked os 6 .any (Rows.lruDoesSpec.pre6 enc Try.prog Try.f6 Rows.lruDoesRow.domain false) (Rows.lruDoesSpec.post enc Try.prog Try.f6 false true false false) := by
  refine returnsInHanded_of_change_sized (C := Try.checked) own_none started (by kernel_rfl) Try.func6
    (ChangeSpec.witness6 (enc := enc) (C := Try.checked) false ⟨#[], #[.int .i64 0, .slice none 0 0], []⟩ 8 (by kernel_rfl) (by kernel_rfl) (by kernel_rfl) (by kernel_rfl)) ?_
  intro W base args ds gs before hval0 hW _ hwt _
  have hval : ∀ (j : Nat) t v, Try.f6.params[j]? = some t → args[j]? = some v → Value.okWide Try.prog W .any base t v := hval0
  have hW' := hW
  obtain ⟨p, q, hA0, _, _, _, _⟩ := hW
  have hA : DataW.TrodAll enc Try.prog W 0 (fun _ => true) true Try.f6.params.toList args.toList ds p := hA0
  rw [Try.params6] at hA hval
  obtain ⟨v0, v1, d0, d1, p0, p1, rfl, rfl, rfl, h0, h1⟩ := trodAll_two hA
  obtain ⟨bu, rfl, wbu⟩ := open_num Try.underlying3 (hval 0 _ _ rfl rfl) h0
  have bbu := bounds_i64 wbu
  obtain ⟨A, n, c, rfl, k1, m1, r1, s1⟩ := open_sl (eb := 104) (ks := [.int .i64, .int .i64, .int .i64, .int .i64, .int .i64, .int .i64, .int .i64, .int .i64, .int .i64, .sl 1 [.int .u8], .int .i64]) Try.underlying22 (by kernel_rfl) (hval 1 _ _ rfl rfl) h1 (reach_all (ts := [3, 22]) (by kernel_rfl) hwt (j := 1) rfl rfl)
  clear hA0 hval0
  obtain ⟨os', hol, hoc⟩ := calls_of s1
  refine (lruDoes_any bu hol hoc k1).mono fun e W' ⟨he, hb⟩ => ?_
  subst he
  exact ⟨_, rfl, law_post_any laid_out Try.underlying4 hW' (by kernel_rfl) rfl rfl rfl hb⟩

theorem lruDoes_holds : Rows.LruDoesSaid :=
  OpenClaim.holds_of_wide 6 Try.f6 rfl rfl rfl rfl rfl rfl rfl ⟨rfl, rfl, rfl, rfl, rfl⟩ rfl rfl rfl rfl rfl (by kernel_rfl) Try.func6 (by kernel_rfl)
    (of_decide_eq_true (by kernel_rfl)) (by unfold Func.isWrapper; first | (rw [if_pos (by decide +kernel)]; kernel_rfl) | (rw [if_neg (by decide +kernel)]; exact ⟨rfl, rfl⟩))
    (fun os started H enc _ => lruDoes_lifted os started H enc)

end Go.Proofs.Ytakgeeopfclmoaa
