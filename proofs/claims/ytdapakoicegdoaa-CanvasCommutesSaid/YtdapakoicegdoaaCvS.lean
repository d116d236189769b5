/-
  Law CanvasCommutes: the walk.
-/
import Derived.Test.YtdapakoicegdoaaCvR
import Derived.Deep.RegionHeld3
namespace Go.Proofs.Ytdapakoicegdoaa
open Go.RowKit

set_option maxRecDepth 20000 in
set_option maxHeartbeats 8000000 in
theorem commutes_apart {w : World} {W H : Nat} {a b : Cl} (hW : 1 ≤ W ∧ W ≤ 100) (hH : 1 ≤ H ∧ H ≤ 100) (ha : a.ms.length ≤ 16384) (hb : b.ms.length ≤ 16384) (hma : Bw w a.A a.ms a.cm) (hmb : Bw w b.A b.ms b.cm)
    (hmt : meetF (blBox W H a) (blBox W H b) = ⟨0, 0, 0, 0⟩) :
    Calls Try.prog 5 #[.int .i64 W, .int .i64 H, .agg #[.int .i64 a.k, .int .i64 a.m0, .int .i64 a.m1, .int .i64 a.m2, .int .i64 a.m3, .slice a.A a.ms.length a.cm, .int .i64 a.b0, .int .i64 a.b1, .int .i64 a.b2, .int .i64 a.b3, .int .i64 a.x, .int .i64 a.y, .int .i64 a.c], .agg #[.int .i64 b.k, .int .i64 b.m0, .int .i64 b.m1, .int .i64 b.m2, .int .i64 b.m3, .slice b.A b.ms.length b.cm, .int .i64 b.b0, .int .i64 b.b1, .int .i64 b.b2, .int .i64 b.b3, .int .i64 b.x, .int .i64 b.y, .int .i64 b.c]] w fun e w' =>
      e = .returned (.bool true) ∧ Below w.heap.size w w' := by
  have hw1 : (1 : Int) ≤ W := by omega
  have hw2 : (W : Int) ≤ 100 := by omega
  have hh1 : (1 : Int) ≤ H := by omega
  have hh2 : (H : Int) ≤ 100 := by omega
  have ha' : (a.ms.length : Int) ≤ 16384 := by omega
  have hb' : (b.ms.length : Int) ≤ 16384 := by omega
  have hK := commute_bytes (W := W) (H := H) a b (List.replicate (H * W) (byt 90)) (by simp) hW.1
  have hK0 := fun w => new90 w hW hH
  have hKA := fun (w1 : World) (g k c : Nat) (bs : List UInt8) (h1 : Cv 102 w1 g k W H c bs) (h2 : Bel w.heap.size w w1) (h3 : w.heap.size ≤ k) => Blend_any (o := a) h1 (hma.keep h2.below) (fun h0 b' hb' => by have := hma.row h0 b' hb'; omega)
  have hKB := fun (w1 : World) (g k c : Nat) (bs : List UInt8) (h1 : Cv 102 w1 g k W H c bs) (h2 : Bel w.heap.size w w1) (h3 : w.heap.size ≤ k) => Blend_any (o := b) h1 (hmb.keep h2.below) (fun h0 b' hb' => by have := hmb.row h0 b' hb'; omega)
  generalize List.replicate (H * W) (byt 90) = bs0 at hK hK0
  generalize blBox W H a = P at *
  generalize blBox W H b = Q at *
  generalize blBs W H a = FA at *
  generalize blBs W H b = FB at *
  generalize blErr a = ea at *
  generalize blErr b = eb at *
  obtain ⟨p0, p1, p2, p3⟩ := P
  obtain ⟨q0, q1, q2, q3⟩ := Q
  simp only [Cl.mask, boxA] at hKA hKB
  have HK := Lib.hid (hK hmt)
  have HMT := Lib.hid hmt
  clear hmt
  have K0 := Lib.hid hK0
  have KA := Lib.hid hKA
  have KB := Lib.hid hKB
  have HB0 := Lib.hid (bel_alloc (o := .cells #[.int .i64 b.k, .int .i64 b.m0, .int .i64 b.m1, .int .i64 b.m2, .int .i64 b.m3, .slice b.A b.ms.length b.cm, .int .i64 b.b0, .int .i64 b.b1, .int .i64 b.b2, .int .i64 b.b3, .int .i64 b.x, .int .i64 b.y, .int .i64 b.c] 28) (bel_alloc (o := .cells #[.int .i64 a.k, .int .i64 a.m0, .int .i64 a.m1, .int .i64 a.m2, .int .i64 a.m3, .slice a.A a.ms.length a.cm, .int .i64 a.b0, .int .i64 a.b1, .int .i64 a.b2, .int .i64 a.b3, .int .i64 a.x, .int .i64 a.y, .int .i64 a.c] 28) (bel_refl (a := w))))
  have HA0 : Hid (Blk ((w.alloc (.cells #[.int .i64 a.k, .int .i64 a.m0, .int .i64 a.m1, .int .i64 a.m2, .int .i64 a.m3, .slice a.A a.ms.length a.cm, .int .i64 a.b0, .int .i64 a.b1, .int .i64 a.b2, .int .i64 a.b3, .int .i64 a.x, .int .i64 a.y, .int .i64 a.c] 28)).alloc (.cells #[.int .i64 b.k, .int .i64 b.m0, .int .i64 b.m1, .int .i64 b.m2, .int .i64 b.m3, .slice b.A b.ms.length b.cm, .int .i64 b.b0, .int .i64 b.b1, .int .i64 b.b2, .int .i64 b.b3, .int .i64 b.x, .int .i64 b.y, .int .i64 b.c] 28)) w.heap.size 28 a.cells) := Lib.hid ((Blk.new w 28 a.cells).alloc _)
  have HD0 : Hid (Blk ((w.alloc (.cells #[.int .i64 a.k, .int .i64 a.m0, .int .i64 a.m1, .int .i64 a.m2, .int .i64 a.m3, .slice a.A a.ms.length a.cm, .int .i64 a.b0, .int .i64 a.b1, .int .i64 a.b2, .int .i64 a.b3, .int .i64 a.x, .int .i64 a.y, .int .i64 a.c] 28)).alloc (.cells #[.int .i64 b.k, .int .i64 b.m0, .int .i64 b.m1, .int .i64 b.m2, .int .i64 b.m3, .slice b.A b.ms.length b.cm, .int .i64 b.b0, .int .i64 b.b1, .int .i64 b.b2, .int .i64 b.b3, .int .i64 b.x, .int .i64 b.y, .int .i64 b.c] 28)) (w.heap.size + 1) 28 b.cells) := Lib.hid (Blk.newAt _ 28 b.cells (by simp))
  clear hK hK0 hKA hKB hW hH ha hb hma hmb
  go_enter Try.func5, Try.ntmps5
  go_wp2_with (first
    | (go_at_call 15; have hc1 := HC1.out; (with_reducible refine (K0.out _).mono ?_); rintro e w2 ⟨g2, k2, c2, rfl, hg2, hk2, hc2, hb2⟩
       have hl1 := hc1.blk.lt
       have hl2 := hc1.byt.lt
       have HM2 : Hid (Cm W H w w2 a b g1 k1 c1 bs0 g2 k2 c2 bs0 []) := Lib.hid ⟨bel_call hb2 HB1.out, HA1.out.keepB hb2, HD1.out.keepB hb2, hc1.keep hb2, hc2, ⟨hk1, by omega, by omega, by omega, by omega⟩, fun x hx => by cases hx⟩
       clear hb2 hc1 hc2 HC1 HB1 HA1 HD1 hl1 hl2)
    | (go_at_call 15; (with_reducible refine (K0.out _).mono ?_); rintro e w1 ⟨g1, k1, c1, rfl, hg1, hk1, hc1, hb1⟩
       have HC1 := Lib.hid hc1
       have HB1 := Lib.hid (bel_call hb1 HB0.out)
       have HA1 := Lib.hid (HA0.out.keepB hb1)
       have HD1 := Lib.hid (HD0.out.keepB hb1)
       rw [World.size_alloc, World.size_alloc] at hg1 hk1
       clear hc1 hb1)
    | (go_at_call 14; (with_reducible refine (lives_any _).mono ?_); rintro e w3 ⟨rfl, hb3⟩
       have hm := HM2.out.keep hb3
       have HM3 := Lib.hid hm
       have hl0 := hm.la
       have x1 := hm.ba.cell 1
       have x2 := hm.ba.cell 2
       have x3 := hm.ba.cell 3
       have x4 := hm.ba.cell 4
       have x5 := hm.ba.cell 5
       have x10 := hm.ba.cell 10
       have x11 := hm.ba.cell 11
       have x12 := hm.ba.cell 12
       simp [Cl.cells] at x1 x2 x3 x4 x5 x10 x11 x12
       clear hm hb3 HM2)
    | (go_at_call 16; (with_reducible refine (KA.out _ _ _ _ _ HM3.out.u HM3.out.bel HM3.out.lo1).mono ?_); rintro e w4 ⟨rfl, hc, ht⟩
       have hm := HM3.out.tu ht hc
       have HM4 := Lib.hid (hm.box [.int .i64 p0, .int .i64 p1, .int .i64 p2, .int .i64 p3])
       have hl1 := hm.lb
       have y1 := hm.bb.cell 1
       have y2 := hm.bb.cell 2
       have y3 := hm.bb.cell 3
       have y4 := hm.bb.cell 4
       have y5 := hm.bb.cell 5
       have y10 := hm.bb.cell 10
       have y11 := hm.bb.cell 11
       have y12 := hm.bb.cell 12
       simp [Cl.cells] at y1 y2 y3 y4 y5 y10 y11 y12
       clear hc ht hm HM3)
    | (go_at_call 16; (with_reducible refine (KB.out _ _ _ _ _ HM4.out.u HM4.out.bel HM4.out.lo1).mono ?_); rintro e w5 ⟨rfl, hc, ht⟩
       have hm := HM4.out.tu ht hc
       have HM5 := Lib.hid (hm.box [.int .i64 q0, .int .i64 q1, .int .i64 q2, .int .i64 q3])
       have hl2 := hm.lb
       have z1 := hm.bb.cell 1
       have z2 := hm.bb.cell 2
       have z3 := hm.bb.cell 3
       have z4 := hm.bb.cell 4
       have z5 := hm.bb.cell 5
       have z10 := hm.bb.cell 10
       have z11 := hm.bb.cell 11
       have z12 := hm.bb.cell 12
       simp [Cl.cells] at z1 z2 z3 z4 z5 z10 z11 z12
       clear hc ht hm HM4)
    | (go_at_call 16; (with_reducible refine (KB.out _ _ _ _ _ HM5.out.v HM5.out.bel HM5.out.lo2).mono ?_); rintro e w6 ⟨rfl, hc, ht⟩
       have hm := HM5.out.tv ht hc
       have HM6 := Lib.hid (hm.box [.int .i64 q0, .int .i64 q1, .int .i64 q2, .int .i64 q3])
       have hl3 := hm.la
       have v1 := hm.ba.cell 1
       have v2 := hm.ba.cell 2
       have v3 := hm.ba.cell 3
       have v4 := hm.ba.cell 4
       have v5 := hm.ba.cell 5
       have v10 := hm.ba.cell 10
       have v11 := hm.ba.cell 11
       have v12 := hm.ba.cell 12
       simp [Cl.cells] at v1 v2 v3 v4 v5 v10 v11 v12
       clear hc ht hm HM5)
    | (go_at_call 16; (with_reducible refine (KA.out _ _ _ _ _ HM6.out.v HM6.out.bel HM6.out.lo2).mono ?_); rintro e w7 ⟨rfl, hc, ht⟩
       have hm := HM6.out.tv ht hc
       have HM7 := Lib.hid (hm.box [.int .i64 p0, .int .i64 p1, .int .i64 p2, .int .i64 p3])
       have hl1' := (hm.ex (w4.heap.size, [.int .i64 p0, .int .i64 p1, .int .i64 p2, .int .i64 p3]) (by simp)).1
       have hl2' := (hm.ex (w5.heap.size, [.int .i64 q0, .int .i64 q1, .int .i64 q2, .int .i64 q3]) (by simp)).1
       have hl3' := (hm.ex (w6.heap.size, [.int .i64 q0, .int .i64 q1, .int .i64 q2, .int .i64 q3]) (by simp)).1
       have ht1 := hl1'.lt
       have y10 := hl1'.cell 0
       have y11 := hl1'.cell 1
       have y12 := hl1'.cell 2
       have y13 := hl1'.cell 3
       have ht2 := hl2'.lt
       have y20 := hl2'.cell 0
       have y21 := hl2'.cell 1
       have y22 := hl2'.cell 2
       have y23 := hl2'.cell 3
       have ht3 := hl3'.lt
       have y30 := hl3'.cell 0
       have y31 := hl3'.cell 1
       have y32 := hl3'.cell 2
       have y33 := hl3'.cell 3
       simp at y10 y11 y12 y13 y20 y21 y22 y23 y30 y31 y32 y33
       clear hl1' hl2' hl3'
       clear hc ht hm HM6)
    | (go_at_call 22; (with_reducible refine (rMeet_any p0 p1 p2 p3 q0 q1 q2 q3 _).mono ?_); rintro e w8 ⟨rfl, hb8⟩
       have HM8 := Lib.hid (HM7.out.keep hb8)
       rw [HMT.out]
       clear hb8 HM7))
  all_goals
    have HU8 := Lib.hid HM8.out.u.drew
    have HV8 := Lib.hid HM8.out.v.drew
    rw [HK.out] at HU8
    go_region_with (first
      | (go_at_call 23; have HU := HA9.out; (with_reducible refine (cvBytes HV9.out).mono ?_); rintro e w10 ⟨b10, c10, rfl, hb, hB, hl, hb10⟩
         have hq2 : ∀ c, _ := hB.sl.aft _ (aft_refl (W := w10))
         have hq3 : ∀ c, _ := HU9.out.sl.aft _ hb10
         have HA10 := Lib.hid (HA9.out.call hb10)
         clear hb10 hB HU)
      | (go_at_call 23; (with_reducible refine (cvBytes HU8.out).mono ?_); rintro e w9 ⟨b9, c9, rfl, hb, hB, hl, hb9⟩
         have hq1 : ∀ c, _ := hB.sl.aft _ (aft_refl (W := w9))
         have HU9 := Lib.hid hB
         have HV9 := Lib.hid (HV8.out.keep hb9)
         have HA9 := Lib.hid (aft_drew.call hb9)
         clear hb9 hB)
      | (go_at_call 24; (with_reducible refine (rcheck_zero _).mono ?_); rintro e w11 ⟨rfl, hb11⟩
         have HA11 := Lib.hid (HA10.out.call hb11)
         clear hb11))
  all_goals
    go_wp2
    go_ret
    exact ⟨rfl, (Aft.bel HA11.out HM8.out.bel).below⟩

set_option maxRecDepth 20000 in
set_option maxHeartbeats 8000000 in
theorem commutes_meet {w : World} {W H : Nat} {a b : Cl} (hW : 1 ≤ W ∧ W ≤ 100) (hH : 1 ≤ H ∧ H ≤ 100) (ha : a.ms.length ≤ 16384) (hb : b.ms.length ≤ 16384) (hma : Bw w a.A a.ms a.cm) (hmb : Bw w b.A b.ms b.cm)
    (hmt : meetF (blBox W H a) (blBox W H b) ≠ ⟨0, 0, 0, 0⟩) :
    Calls Try.prog 5 #[.int .i64 W, .int .i64 H, .agg #[.int .i64 a.k, .int .i64 a.m0, .int .i64 a.m1, .int .i64 a.m2, .int .i64 a.m3, .slice a.A a.ms.length a.cm, .int .i64 a.b0, .int .i64 a.b1, .int .i64 a.b2, .int .i64 a.b3, .int .i64 a.x, .int .i64 a.y, .int .i64 a.c], .agg #[.int .i64 b.k, .int .i64 b.m0, .int .i64 b.m1, .int .i64 b.m2, .int .i64 b.m3, .slice b.A b.ms.length b.cm, .int .i64 b.b0, .int .i64 b.b1, .int .i64 b.b2, .int .i64 b.b3, .int .i64 b.x, .int .i64 b.y, .int .i64 b.c]] w fun e w' =>
      e = .returned (.bool true) ∧ Below w.heap.size w w' := by
  have hw1 : (1 : Int) ≤ W := by omega
  have hw2 : (W : Int) ≤ 100 := by omega
  have hh1 : (1 : Int) ≤ H := by omega
  have hh2 : (H : Int) ≤ 100 := by omega
  have ha' : (a.ms.length : Int) ≤ 16384 := by omega
  have hb' : (b.ms.length : Int) ≤ 16384 := by omega
  have hK := commute_bytes (W := W) (H := H) a b (List.replicate (H * W) (byt 90)) (by simp) hW.1
  have hK0 := fun w => new90 w hW hH
  have hKA := fun (w1 : World) (g k c : Nat) (bs : List UInt8) (h1 : Cv 102 w1 g k W H c bs) (h2 : Bel w.heap.size w w1) (h3 : w.heap.size ≤ k) => Blend_any (o := a) h1 (hma.keep h2.below) (fun h0 b' hb' => by have := hma.row h0 b' hb'; omega)
  have hKB := fun (w1 : World) (g k c : Nat) (bs : List UInt8) (h1 : Cv 102 w1 g k W H c bs) (h2 : Bel w.heap.size w w1) (h3 : w.heap.size ≤ k) => Blend_any (o := b) h1 (hmb.keep h2.below) (fun h0 b' hb' => by have := hmb.row h0 b' hb'; omega)
  generalize List.replicate (H * W) (byt 90) = bs0 at hK hK0
  generalize blBox W H a = P at *
  generalize blBox W H b = Q at *
  generalize blBs W H a = FA at *
  generalize blBs W H b = FB at *
  generalize blErr a = ea at *
  generalize blErr b = eb at *
  obtain ⟨p0, p1, p2, p3⟩ := P
  obtain ⟨q0, q1, q2, q3⟩ := Q
  simp only [Cl.mask, boxA] at hKA hKB
  have hne : eq4 (meetF ⟨p0, p1, p2, p3⟩ ⟨q0, q1, q2, q3⟩).x0 (meetF ⟨p0, p1, p2, p3⟩ ⟨q0, q1, q2, q3⟩).y0 (meetF ⟨p0, p1, p2, p3⟩ ⟨q0, q1, q2, q3⟩).x1 (meetF ⟨p0, p1, p2, p3⟩ ⟨q0, q1, q2, q3⟩).y1 0 0 0 0 = false := eq4_ne hmt
  clear hmt
  have K0 := Lib.hid hK0
  have KA := Lib.hid hKA
  have KB := Lib.hid hKB
  have HB0 := Lib.hid (bel_alloc (o := .cells #[.int .i64 b.k, .int .i64 b.m0, .int .i64 b.m1, .int .i64 b.m2, .int .i64 b.m3, .slice b.A b.ms.length b.cm, .int .i64 b.b0, .int .i64 b.b1, .int .i64 b.b2, .int .i64 b.b3, .int .i64 b.x, .int .i64 b.y, .int .i64 b.c] 28) (bel_alloc (o := .cells #[.int .i64 a.k, .int .i64 a.m0, .int .i64 a.m1, .int .i64 a.m2, .int .i64 a.m3, .slice a.A a.ms.length a.cm, .int .i64 a.b0, .int .i64 a.b1, .int .i64 a.b2, .int .i64 a.b3, .int .i64 a.x, .int .i64 a.y, .int .i64 a.c] 28) (bel_refl (a := w))))
  have HA0 : Hid (Blk ((w.alloc (.cells #[.int .i64 a.k, .int .i64 a.m0, .int .i64 a.m1, .int .i64 a.m2, .int .i64 a.m3, .slice a.A a.ms.length a.cm, .int .i64 a.b0, .int .i64 a.b1, .int .i64 a.b2, .int .i64 a.b3, .int .i64 a.x, .int .i64 a.y, .int .i64 a.c] 28)).alloc (.cells #[.int .i64 b.k, .int .i64 b.m0, .int .i64 b.m1, .int .i64 b.m2, .int .i64 b.m3, .slice b.A b.ms.length b.cm, .int .i64 b.b0, .int .i64 b.b1, .int .i64 b.b2, .int .i64 b.b3, .int .i64 b.x, .int .i64 b.y, .int .i64 b.c] 28)) w.heap.size 28 a.cells) := Lib.hid ((Blk.new w 28 a.cells).alloc _)
  have HD0 : Hid (Blk ((w.alloc (.cells #[.int .i64 a.k, .int .i64 a.m0, .int .i64 a.m1, .int .i64 a.m2, .int .i64 a.m3, .slice a.A a.ms.length a.cm, .int .i64 a.b0, .int .i64 a.b1, .int .i64 a.b2, .int .i64 a.b3, .int .i64 a.x, .int .i64 a.y, .int .i64 a.c] 28)).alloc (.cells #[.int .i64 b.k, .int .i64 b.m0, .int .i64 b.m1, .int .i64 b.m2, .int .i64 b.m3, .slice b.A b.ms.length b.cm, .int .i64 b.b0, .int .i64 b.b1, .int .i64 b.b2, .int .i64 b.b3, .int .i64 b.x, .int .i64 b.y, .int .i64 b.c] 28)) (w.heap.size + 1) 28 b.cells) := Lib.hid (Blk.newAt _ 28 b.cells (by simp))
  clear hK hK0 hKA hKB hW hH ha hb hma hmb
  go_enter Try.func5, Try.ntmps5
  go_wp2_with (first
    | (go_at_call 15; have hc1 := HC1.out; (with_reducible refine (K0.out _).mono ?_); rintro e w2 ⟨g2, k2, c2, rfl, hg2, hk2, hc2, hb2⟩
       have hl1 := hc1.blk.lt
       have hl2 := hc1.byt.lt
       have HM2 : Hid (Cm W H w w2 a b g1 k1 c1 bs0 g2 k2 c2 bs0 []) := Lib.hid ⟨bel_call hb2 HB1.out, HA1.out.keepB hb2, HD1.out.keepB hb2, hc1.keep hb2, hc2, ⟨hk1, by omega, by omega, by omega, by omega⟩, fun x hx => by cases hx⟩
       clear hb2 hc1 hc2 HC1 HB1 HA1 HD1 hl1 hl2)
    | (go_at_call 15; (with_reducible refine (K0.out _).mono ?_); rintro e w1 ⟨g1, k1, c1, rfl, hg1, hk1, hc1, hb1⟩
       have HC1 := Lib.hid hc1
       have HB1 := Lib.hid (bel_call hb1 HB0.out)
       have HA1 := Lib.hid (HA0.out.keepB hb1)
       have HD1 := Lib.hid (HD0.out.keepB hb1)
       rw [World.size_alloc, World.size_alloc] at hg1 hk1
       clear hc1 hb1)
    | (go_at_call 14; (with_reducible refine (lives_any _).mono ?_); rintro e w3 ⟨rfl, hb3⟩
       have hm := HM2.out.keep hb3
       have HM3 := Lib.hid hm
       have hl0 := hm.la
       have x1 := hm.ba.cell 1
       have x2 := hm.ba.cell 2
       have x3 := hm.ba.cell 3
       have x4 := hm.ba.cell 4
       have x5 := hm.ba.cell 5
       have x10 := hm.ba.cell 10
       have x11 := hm.ba.cell 11
       have x12 := hm.ba.cell 12
       simp [Cl.cells] at x1 x2 x3 x4 x5 x10 x11 x12
       clear hm hb3 HM2)
    | (go_at_call 16; (with_reducible refine (KA.out _ _ _ _ _ HM3.out.u HM3.out.bel HM3.out.lo1).mono ?_); rintro e w4 ⟨rfl, hc, ht⟩
       have hm := HM3.out.tu ht hc
       have HM4 := Lib.hid (hm.box [.int .i64 p0, .int .i64 p1, .int .i64 p2, .int .i64 p3])
       have hl1 := hm.lb
       have y1 := hm.bb.cell 1
       have y2 := hm.bb.cell 2
       have y3 := hm.bb.cell 3
       have y4 := hm.bb.cell 4
       have y5 := hm.bb.cell 5
       have y10 := hm.bb.cell 10
       have y11 := hm.bb.cell 11
       have y12 := hm.bb.cell 12
       simp [Cl.cells] at y1 y2 y3 y4 y5 y10 y11 y12
       clear hc ht hm HM3)
    | (go_at_call 16; (with_reducible refine (KB.out _ _ _ _ _ HM4.out.u HM4.out.bel HM4.out.lo1).mono ?_); rintro e w5 ⟨rfl, hc, ht⟩
       have hm := HM4.out.tu ht hc
       have HM5 := Lib.hid (hm.box [.int .i64 q0, .int .i64 q1, .int .i64 q2, .int .i64 q3])
       have hl2 := hm.lb
       have z1 := hm.bb.cell 1
       have z2 := hm.bb.cell 2
       have z3 := hm.bb.cell 3
       have z4 := hm.bb.cell 4
       have z5 := hm.bb.cell 5
       have z10 := hm.bb.cell 10
       have z11 := hm.bb.cell 11
       have z12 := hm.bb.cell 12
       simp [Cl.cells] at z1 z2 z3 z4 z5 z10 z11 z12
       clear hc ht hm HM4)
    | (go_at_call 16; (with_reducible refine (KB.out _ _ _ _ _ HM5.out.v HM5.out.bel HM5.out.lo2).mono ?_); rintro e w6 ⟨rfl, hc, ht⟩
       have hm := HM5.out.tv ht hc
       have HM6 := Lib.hid (hm.box [.int .i64 q0, .int .i64 q1, .int .i64 q2, .int .i64 q3])
       have hl3 := hm.la
       have v1 := hm.ba.cell 1
       have v2 := hm.ba.cell 2
       have v3 := hm.ba.cell 3
       have v4 := hm.ba.cell 4
       have v5 := hm.ba.cell 5
       have v10 := hm.ba.cell 10
       have v11 := hm.ba.cell 11
       have v12 := hm.ba.cell 12
       simp [Cl.cells] at v1 v2 v3 v4 v5 v10 v11 v12
       clear hc ht hm HM5)
    | (go_at_call 16; (with_reducible refine (KA.out _ _ _ _ _ HM6.out.v HM6.out.bel HM6.out.lo2).mono ?_); rintro e w7 ⟨rfl, hc, ht⟩
       have hm := HM6.out.tv ht hc
       have HM7 := Lib.hid (hm.box [.int .i64 p0, .int .i64 p1, .int .i64 p2, .int .i64 p3])
       have hl1' := (hm.ex (w4.heap.size, [.int .i64 p0, .int .i64 p1, .int .i64 p2, .int .i64 p3]) (by simp)).1
       have hl2' := (hm.ex (w5.heap.size, [.int .i64 q0, .int .i64 q1, .int .i64 q2, .int .i64 q3]) (by simp)).1
       have hl3' := (hm.ex (w6.heap.size, [.int .i64 q0, .int .i64 q1, .int .i64 q2, .int .i64 q3]) (by simp)).1
       have ht1 := hl1'.lt
       have y10 := hl1'.cell 0
       have y11 := hl1'.cell 1
       have y12 := hl1'.cell 2
       have y13 := hl1'.cell 3
       have ht2 := hl2'.lt
       have y20 := hl2'.cell 0
       have y21 := hl2'.cell 1
       have y22 := hl2'.cell 2
       have y23 := hl2'.cell 3
       have ht3 := hl3'.lt
       have y30 := hl3'.cell 0
       have y31 := hl3'.cell 1
       have y32 := hl3'.cell 2
       have y33 := hl3'.cell 3
       simp at y10 y11 y12 y13 y20 y21 y22 y23 y30 y31 y32 y33
       clear hl1' hl2' hl3'
       clear hc ht hm HM6)
    | (go_at_call 22; (with_reducible refine (rMeet_any p0 p1 p2 p3 q0 q1 q2 q3 _).mono ?_); rintro e w8 ⟨rfl, hb8⟩
       have HB8 := Lib.hid (bel_call hb8 HM7.out.bel)
       clear hb8 HM7))
  go_ret
  exact ⟨rfl, HB8.out.below⟩

end Go.Proofs.Ytdapakoicegdoaa
