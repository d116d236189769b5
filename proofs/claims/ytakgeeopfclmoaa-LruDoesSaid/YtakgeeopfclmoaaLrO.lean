/-
  Layer 25: Put.
-/
import Derived.Test.YtakgeeopfclmoaaLrN
namespace Go.Proofs.Ytakgeeopfclmoaa
open Go.RowKit Go.Maps

/-- Bytes that a cache's calls leave as they are. -/
structure Ar (B : Nat) (w : World) (A : Option Addr) (bs : List UInt8) (c : Nat) : Prop where
  br : Bw w A bs c
  safe : 0 < bs.length → ∀ b, rowOf A = some b → b < B ∨ ∃ cs f, w.heap[b]? = some (Obj.cells cs 5 f)
section
variable {B : Nat} {w w' : World} {A : Option Addr} {bs : List UInt8} {c : Nat}
theorem Ar.stay (h : Ar B w A bs c) (hs : w.heap.size ≤ w'.heap.size) (hb : ∀ b, b < w.heap.size → (b < B ∨ ∃ cs f, w.heap[b]? = some (Obj.cells cs 5 f)) → w'.heap[b]? = w.heap[b]?) : Ar B w' A bs c := by
  have same : 0 < bs.length → ∀ b, rowOf A = some b → w'.heap[b]? = w.heap[b]? := fun h0 b e => hb b (h.br.row h0 b e) (h.safe h0 b e)
  refine ⟨⟨⟨h.br.sl.1, fun i hi => ?_⟩, h.br.cap, h.br.small, fun h0 b e => Nat.lt_of_lt_of_le (h.br.row h0 b e) hs⟩, fun h0 b e => by rw [same h0 b e]; exact h.safe h0 b e⟩
  obtain ⟨b, o, rfl, hlt, hc⟩ := h.br.sl.2 i hi
  exact ⟨b, o, rfl, Nat.lt_of_lt_of_le hlt hs, by rw [World.cell?_of_block (w := w) (w' := w') (same (by omega) b rfl)]; exact hc⟩
theorem Ar.keepB (h : Ar B w A bs c) (hb : Below w.heap.size w w') : Ar B w' A bs c := h.stay hb.size fun b hlt _ => hb.block b hlt
theorem Ar.keepT (h : Ar B w A bs c) (hk : KeepT B w w') : Ar B w' A bs c := h.stay hk.size fun b _ hs => hk.block b (hs.imp id fun ⟨cs, f, e⟩ => by
  unfold hot
  rw [e]
  simp only [hotO]
  decide)
end
/-- A key and a mask in blocks of their own. -/
structure Two (B : Nat) (w : World) (b0 b1 : Nat) (k : K4) (m : Ms) (A : Option Addr) (c : Nat) : Prop where
  key : Blk w b0 24 [.int .i64 k.g, .int .i64 k.p, .int .i64 k.x, .int .i64 k.y]
  mask : Blk w b1 35 [.int .i64 m.box.a, .int .i64 m.box.b, .int .i64 m.box.c, .int .i64 m.box.d, .slice A m.bs.length c]
  ar : Ar B w A m.bs c
section
variable {B : Nat} {w w' : World} {b0 b1 : Nat} {k : K4} {m : Ms} {A : Option Addr} {c : Nat}
theorem Two.keepB (h : Two B w b0 b1 k m A c) (hb : Below w.heap.size w w') : Two B w' b0 b1 k m A c := ⟨h.key.keepB hb, h.mask.keepB hb, h.ar.keepB hb⟩
theorem Two.keepT (h : Two B w b0 b1 k m A c) (hk : KeepT B w w') : Two B w' b0 b1 k m A c := ⟨hk.blk h.key (by decide), hk.blk h.mask (by decide), h.ar.keepT hk⟩
theorem Two.k0 (h : Two B w b0 b1 k m A c) : w.cell? ⟨b0, 0, none⟩ = some (.int .i64 k.g) := h.key.cell 0
theorem Two.k1 (h : Two B w b0 b1 k m A c) : w.cell? ⟨b0, 1, none⟩ = some (.int .i64 k.p) := h.key.cell 1
theorem Two.k2 (h : Two B w b0 b1 k m A c) : w.cell? ⟨b0, 2, none⟩ = some (.int .i64 k.x) := h.key.cell 2
theorem Two.k3 (h : Two B w b0 b1 k m A c) : w.cell? ⟨b0, 3, none⟩ = some (.int .i64 k.y) := h.key.cell 3
theorem Two.m0 (h : Two B w b0 b1 k m A c) : w.cell? ⟨b1, 0, none⟩ = some (.int .i64 m.box.a) := h.mask.cell 0
theorem Two.m1 (h : Two B w b0 b1 k m A c) : w.cell? ⟨b1, 1, none⟩ = some (.int .i64 m.box.b) := h.mask.cell 1
theorem Two.m2 (h : Two B w b0 b1 k m A c) : w.cell? ⟨b1, 2, none⟩ = some (.int .i64 m.box.c) := h.mask.cell 2
theorem Two.m3 (h : Two B w b0 b1 k m A c) : w.cell? ⟨b1, 3, none⟩ = some (.int .i64 m.box.d) := h.mask.cell 3
theorem Two.m4 (h : Two B w b0 b1 k m A c) : w.cell? ⟨b1, 4, none⟩ = some (.slice A m.bs.length c) := h.mask.cell 4
end

def maskM (m : Ms) : Int := maskE m.box.a m.box.b m.box.c m.box.d m.bs.length
def PutR (w : World) (g : Nat) (B : Bz) (budget : Int) (k : K4) (m : Ms) (L : List En) (e : Ending) (w' : World) : Prop :=
  e = .returned (.tuple #[.bool (decide (maskM m = 0) && !decide (budget < costM m)), .int .i64 (maskM m)]) ∧
    (if maskM m = 0 then LruH w' g B (heldL (putL budget k m L)) budget (putL budget k m L) else LruH w' g B (heldL L) budget L) ∧ KeepT B w w'
section
variable {B : Bz} {g : Nat} {w : World} {budget : Int} {L : List En}
set_option maxRecDepth 20000 in
set_option maxHeartbeats 2000000 in
theorem Put_bad (h : LruH w g B (heldL L) budget L) (k : K4) (m : Ms) (A : Option Addr) (c : Nat) (hm : maskM m ≠ 0) (hn : m.bs.length ≤ 140737488355328) :
    Calls Try.prog 12 #[.pointer (some ⟨g, 0, none⟩), .agg #[.int .i64 k.g, .int .i64 k.p, .int .i64 k.x, .int .i64 k.y], .agg #[.int .i64 m.box.a, .int .i64 m.box.b, .int .i64 m.box.c, .int .i64 m.box.d, .slice A m.bs.length c]] w (PutR w g B budget k m L) := by
  have hck := fun w => Check_any m.box.a m.box.b m.box.c m.box.d A m.bs.length c hn w
  have hme : maskE m.box.a m.box.b m.box.c m.box.d m.bs.length = maskM m := rfl
  simp only [hme] at hck
  have hm2 : (maskM m != 0) = true := by simpa using hm
  have HC := Lib.hid hck
  have H := Lib.hid h.le
  have HL := Lib.hid (fun w' hb => LruH.keep (w' := w') h hb)
  have HM := Lib.hid hm
  clear h hck hme hm
  go_enter Try.func12, Try.ntmps12
  go_wp2_with (first | (go_at_call 26; (with_reducible refine (HC.out _).mono ?_); rintro e w1 ⟨rfl, hb1⟩; have HB := Lib.hid hb1; clear hb1))
  go_ret2
  have hbel : Below w.heap.size w _ := (bel_alloc (o := .cells #[.int .i64 m.box.a, .int .i64 m.box.b, .int .i64 m.box.c, .int .i64 m.box.d, .slice A m.bs.length c] 35) (bel_alloc (o := .cells #[.int .i64 k.g, .int .i64 k.p, .int .i64 k.x, .int .i64 k.y] 24) (bel_refl (a := w)))).below.trans (HB.out.mono (by simp; omega))
  refine ⟨by rw [decide_eq_false HM.out]; rfl, ?_, (KeepT.refl H.out).below hbel⟩
  rw [if_neg HM.out]
  exact HL.out _ hbel
theorem Put_nil (k : K4) (m : Ms) (A : Option Addr) (c : Nat) :
    Calls Try.prog 12 #[.pointer none, .agg #[.int .i64 k.g, .int .i64 k.p, .int .i64 k.x, .int .i64 k.y], .agg #[.int .i64 m.box.a, .int .i64 m.box.b, .int .i64 m.box.c, .int .i64 m.box.d, .slice A m.bs.length c]] w
      fun e w' => e = .returned (.tuple #[.bool false, .int .i64 6]) ∧ Below w.heap.size w w' := by
  go_enter Try.func12, Try.ntmps12
  go_wp2_with fail
  go_ret2
  refine ⟨rfl, Bel.below ?_⟩
  repeat (first | with_reducible exact bel_refl | with_reducible apply bel_alloc | with_reducible apply bel_drewN | with_reducible apply bel_drew | (with_reducible refine bel_set ?_ ?_; rotate_left; · first | (simp; done) | (simp; omega) | omega) | with_reducible refine bel_call (by assumption) ?_)
set_option maxRecDepth 20000 in
set_option maxHeartbeats 4000000 in
theorem Put_big (h : LruH w g B (heldL L) budget L) (hbig : heldL L ≤ 4611686018427387904) (k : K4) (hk : k.wf) (m : Ms) (A : Option Addr) (c : Nat) (hm : maskM m = 0) (ha : Ar B w A m.bs c) (hc : budget < costM m) :
    Calls Try.prog 12 #[.pointer (some ⟨g, 0, none⟩), .agg #[.int .i64 k.g, .int .i64 k.p, .int .i64 k.x, .int .i64 k.y], .agg #[.int .i64 m.box.a, .int .i64 m.box.b, .int .i64 m.box.c, .int .i64 m.box.d, .slice A m.bs.length c]] w (PutR w g B budget k m L) := by
  have hn := ha.br.small
  have hck := fun w => Check_any m.box.a m.box.b m.box.c m.box.d A m.bs.length c hn w
  have hme : maskE m.box.a m.box.b m.box.c m.box.d m.bs.length = 0 := hm
  simp only [hme] at hck
  have htw : Two B ((w.alloc (.cells #[.int .i64 k.g, .int .i64 k.p, .int .i64 k.x, .int .i64 k.y] 24)).alloc (.cells #[.int .i64 m.box.a, .int .i64 m.box.b, .int .i64 m.box.c, .int .i64 m.box.d, .slice A m.bs.length c] 35)) w.heap.size (w.heap.size + 1) k m A c :=
    ⟨(Blk.newAt w _ [_, _, _, _] rfl).alloc _, Blk.newAt _ _ [_, _, _, _, _] (by simp), (ha.keepB (bel_alloc (bel_alloc bel_refl)).below)⟩
  have hdr := fun w1 (hb : Below w.heap.size w w1) => Drop_any (h.keep hb) hbig k hk
  have hdd : decide ((64 : Int) + m.bs.length > budget) = true := decide_eq_true (by unfold costM at hc; omega)
  have HC := Lib.hid hck
  have HD := Lib.hid hdr
  have HT := Lib.hid htw
  have H := Lib.hid h.le
  have HM := Lib.hid hm
  have HCC := Lib.hid hc
  clear h hck hme hm htw hdr ha hk hbig hc
  go_enter Try.func12, Try.ntmps12
  go_wp2_with (first
      | (go_at_call 26; (with_reducible refine (HC.out _).mono ?_); rintro e w1 ⟨rfl, hb1⟩
         have ht1 := HT.out.keepB hb1
         have k0 := ht1.k0
         have k1 := ht1.k1
         have k2 := ht1.k2
         have k3 := ht1.k3
         have HT1 := Lib.hid ht1
         have HB1 := Lib.hid hb1
         clear hb1 ht1)
      | (go_at_call 20; (with_reducible refine (HD.out _ ?_).mono ?_); (focus (exact (bel_alloc (bel_alloc bel_refl)).below.trans (HB1.out.mono (by simp; omega)))); rintro e w2 ⟨rfl, h2, k2⟩
         have HT2 := Lib.hid (HT1.out.keepT k2)
         have hm0 := HT2.out.m0
         have hm1 := HT2.out.m1
         have hm2 := HT2.out.m2
         have hm3 := HT2.out.m3
         have hm4 := HT2.out.m4
         obtain ⟨Y, S, l, fr, h3, ok3⟩ := h2
         have g6 : w2.cell? ⟨g, 6, none⟩ = some (.int .i64 budget) := by rw [h3.blk.cell 6]; rfl
         have hgl := h3.blk.lt
         have hml := HT2.out.mask.lt
         have H2 := Lib.hid (LruH.of h3 ok3)
         have K2 := Lib.hid k2
         clear k2 h3 ok3))
  refine wp_region_bw_lit (by kernel_rfl) (by kernel_rfl) ?_
  repeat (go_big_quiet_step ((go_at_call 27; exact Calls.bw_of (cost_any _ _ _ _ _ _ _ hn _))))
  refine wpQuiet_nil ?_
  rintro _ ⟨u, rfl⟩
  have hbu := u.prop
  have hzu := u.prop.size
  try simp at hzu
  go_wp2_with fail
  go_ret2
  have hbel : Below w.heap.size w _ := (bel_alloc (o := .cells #[.int .i64 m.box.a, .int .i64 m.box.b, .int .i64 m.box.c, .int .i64 m.box.d, .slice A m.bs.length c] 35) (bel_alloc (o := .cells #[.int .i64 k.g, .int .i64 k.p, .int .i64 k.x, .int .i64 k.y] 24) (bel_refl (a := w)))).below.trans (HB1.out.mono (by simp; omega))
  refine ⟨by rw [decide_eq_true HM.out, decide_eq_true HCC.out, HM.out]; rfl, ?_, (((KeepT.refl H.out).below hbel).trans K2.out).below u.prop⟩
  rw [if_pos HM.out]
  unfold putL
  rw [if_pos HCC.out]
  exact LruH.keep H2.out u.prop
end
end Go.Proofs.Ytakgeeopfclmoaa
