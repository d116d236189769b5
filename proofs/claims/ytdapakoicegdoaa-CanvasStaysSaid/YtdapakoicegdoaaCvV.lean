/-
  Law CanvasStays: the walk.
-/
import Derived.Test.YtdapakoicegdoaaCvU
namespace Go.Proofs.Ytdapakoicegdoaa
open Go.RowKit

theorem new77 (w : World) {W H : Nat} (hW : 1 ≤ W ∧ W ≤ 200) (hH : 1 ≤ H ∧ H ≤ 200) : Calls Try.prog 15 #[.int .i64 W, .int .i64 H, .int .i64 77] w fun e w' => ∃ g k c', e = .returned (.tuple #[.pointer (some ⟨g, 0, none⟩), .int .i64 0]) ∧
    w.heap.size ≤ g ∧ w.heap.size ≤ k ∧ Cv 102 w' g k W H c' (List.replicate (H * W) (byt 77)) ∧ Below w.heap.size w w' := by
  have h := New_yes w W H 77 (by simp only [newB, sideB, byteB]; simp; omega)
  simpa only [Int.toNat_natCast] using h

set_option maxRecDepth 20000 in
set_option maxHeartbeats 8000000 in
theorem stays_ok {w : World} {W H : Nat} {a : Cl} (hW : 1 ≤ W ∧ W ≤ 200) (hH : 1 ≤ H ∧ H ≤ 200) (ha : a.ms.length ≤ 16384) (hma : Bw w a.A a.ms a.cm) (hz : blErr a = 0) :
    Calls Try.prog 3 #[.int .i64 W, .int .i64 H, .agg #[.int .i64 a.k, .int .i64 a.m0, .int .i64 a.m1, .int .i64 a.m2, .int .i64 a.m3, .slice a.A a.ms.length a.cm, .int .i64 a.b0, .int .i64 a.b1, .int .i64 a.b2, .int .i64 a.b3, .int .i64 a.x, .int .i64 a.y, .int .i64 a.c]] w fun e w' =>
      e = .returned (.bool true) ∧ Below w.heap.size w w' := by
  have hw1 : (1 : Int) ≤ W := by omega
  have hw2 : (W : Int) ≤ 200 := by omega
  have hh1 : (1 : Int) ≤ H := by omega
  have hh2 : (H : Int) ≤ 200 := by omega
  have ha' : (a.ms.length : Int) ≤ 16384 := by omega
  have hK0 := fun w => new77 w hW hH
  have hKA := fun (w1 : World) (g k c : Nat) (bs : List UInt8) (h1 : Cv 102 w1 g k W H c bs) (h2 : Bel w.heap.size w w1) (h3 : w.heap.size ≤ k) => Blend_any (o := a) h1 (hma.keep h2.below) (fun h0 b' hb' => by have := hma.row h0 b' hb'; omega)
  have hout := fun (X Y : Nat) (h1 : X < W) (h2 : Y < H) (h3 : ¬ inB (blBox W H a) X Y) => stays_out h1 h2 h3
  have hzer := fun (X Y : Nat) (h1 : X < W) (h2 : Y < H) (h3 : inB (blBox W H a) X Y) => stays_zero h1 h2 h3
  have hins := fun (X Y : Nat) (h3 : inB (blBox W H a) X Y) => stays_in h3
  rw [hz] at hKA
  generalize blBox W H a = P at *
  obtain ⟨p0, p1, p2, p3⟩ := P
  simp only [Cl.mask, boxA] at hKA
  generalize List.replicate (H * W) (byt 77) = bs0 at *
  generalize blBs W H a = FA at *
  have K0 := Lib.hid hK0
  have KA := Lib.hid hKA
  have HO := Lib.hid hout
  have HZ := Lib.hid hzer
  have HI := Lib.hid hins
  have HMA := Lib.hid hma
  have HB0 := Lib.hid (bel_alloc (o := .cells #[.int .i64 a.k, .int .i64 a.m0, .int .i64 a.m1, .int .i64 a.m2, .int .i64 a.m3, .slice a.A a.ms.length a.cm, .int .i64 a.b0, .int .i64 a.b1, .int .i64 a.b2, .int .i64 a.b3, .int .i64 a.x, .int .i64 a.y, .int .i64 a.c] 28) (bel_refl (a := w)))
  have HA0 : Hid (Blk (w.alloc (.cells #[.int .i64 a.k, .int .i64 a.m0, .int .i64 a.m1, .int .i64 a.m2, .int .i64 a.m3, .slice a.A a.ms.length a.cm, .int .i64 a.b0, .int .i64 a.b1, .int .i64 a.b2, .int .i64 a.b3, .int .i64 a.x, .int .i64 a.y, .int .i64 a.c] 28)) w.heap.size 28 a.cells) := Lib.hid (Blk.new w 28 a.cells)
  clear hK0 hKA hW hH ha hma hout hzer hins 
  go_enter Try.func3, Try.ntmps3
  go_wp2_with (first
    | (go_at_call 15; (with_reducible refine (K0.out _).mono ?_); rintro e w1 ⟨g, k, c, rfl, hg, hk, hc1, hb1⟩
       have HC1 := Lib.hid hc1
       have HB1 := Lib.hid (bel_call hb1 HB0.out)
       have HA1 := Lib.hid (HA0.out.keepB hb1)
       rw [World.size_alloc] at hg hk
       clear hc1 hb1)
    | (go_at_call 14; (with_reducible refine (lives_any _).mono ?_); rintro e w2 ⟨rfl, hb2⟩
       have HC2 := Lib.hid (HC1.out.keep hb2)
       have HB2 := Lib.hid (bel_call hb2 HB1.out)
       have ha2 := HA1.out.keepB hb2
       have HA2 := Lib.hid ha2
       have x1 := ha2.cell 1
       have x2 := ha2.cell 2
       have x3 := ha2.cell 3
       have x4 := ha2.cell 4
       have x5 := ha2.cell 5
       have x10 := ha2.cell 10
       have x11 := ha2.cell 11
       have x12 := ha2.cell 12
       simp [Cl.cells] at x1 x2 x3 x4 x5 x10 x11 x12
       clear ha2 hb2 HC1 HB1 HA1)
    | (go_at_call 16; (with_reducible refine (KA.out _ _ _ _ _ HC2.out HB2.out (by omega)).mono ?_); rintro e w3 ⟨rfl, hc3, ht3⟩
       have HC3 := Lib.hid hc3
       have HB3 := Lib.hid (bel_turn HB2.out ht3 (by omega))
       have HA3 := Lib.hid (ht3.blk HA2.out (by omega) (fun e => by cases e))
       clear hc3 ht3 HC2 HB2 HA2))
  obtain ⟨W4, hW4⟩ : ∃ W4, w3.alloc (.cells #[.int .i64 p0, .int .i64 p1, .int .i64 p2, .int .i64 p3] 23) = W4 := ⟨_, rfl⟩
  obtain ⟨b, hb⟩ : ∃ b, w3.heap.size = b := ⟨_, rfl⟩
  have hbl : Below w3.heap.size w3 W4 := by rw [← hW4]; exact (bel_alloc bel_refl).below
  have HB4 := Lib.hid (bel_call hbl HB3.out)
  have HC4 := Lib.hid (HC3.out.keep hbl)
  have HA4 := Lib.hid (HA3.out.keepB hbl)
  have HP4 : Hid (Blk W4 b 23 [.int .i64 p0, .int .i64 p1, .int .i64 p2, .int .i64 p3]) := Lib.hid (by rw [← hW4, ← hb]; exact Blk.new w3 23 [.int .i64 p0, .int .i64 p1, .int .i64 p2, .int .i64 p3])
  have HM4 := Lib.hid (HMA.out.keep HB4.out.below)
  rw [hW4]
  simp only [hb]
  clear hW4 hb hbl HB3 HC3 HA3
  go_loopw [11] (fun y wr => ∃ j : Nat, j ≤ H ∧ y = .int .i64 j ∧ Hid (Below W4.heap.size W4 wr)) (fun y _ => H - (intOf y).toNat)
  case atStart => exact ⟨0, Nat.zero_le _, by simp, Lib.hid (Below.refl _ _)⟩
  case round =>
    obtain ⟨j, hj, rfl, HBr⟩ := hrel
    by_cases hlt : j < H
    · go_wp2_with fail
      go_loopw [12] (fun x wr => ∃ i : Nat, i ≤ W ∧ x = .int .i64 i ∧ Hid (Below W4.heap.size W4 wr)) (fun x _ => W - (intOf x).toNat)
      case atStart => exact ⟨0, Nat.zero_le _, by simp, HBr⟩
      case round =>
        obtain ⟨i, hi, rfl, HBq⟩ := hrel
        by_cases hlt2 : i < W
        · have hpk := HP4.out.keepB HBq.out
          have q0 := hpk.cell 0
          have q1 := hpk.cell 1
          have q2 := hpk.cell 2
          have q3 := hpk.cell 3
          have hpl := hpk.lt
          simp at q0 q1 q2 q3
          have HCr := Lib.hid (HC4.out.keep HBq.out)
          clear hpk
          by_cases hin : inB ⟨p0, p1, p2, p3⟩ i j
          · obtain ⟨s1, s2, s3, s4, s5, s6⟩ := HI.out i j hin
            have hak := HA4.out.keepB HBq.out
            have x1 := hak.cell 1
            have x2 := hak.cell 2
            have x3 := hak.cell 3
            have x4 := hak.cell 4
            have x5 := hak.cell 5
            have x10 := hak.cell 10
            have x11 := hak.cell 11
            simp [Cl.cells] at x1 x2 x3 x4 x5 x10 x11
            have hal := hak.lt
            have HS := Lib.hid (rAt23 (w := wr) s1 (HM4.out.keep HBq.out) s4 s5)
            rw [s6] at HS
            have HZ1 := HZ.out i j hlt2 hlt hin
            unfold inB at hin
            simp only at hin
            obtain ⟨n1, n2, n3, n4⟩ := hin
            have g1 : IntKind.i64.wrap ((i : Int) - a.x) = i - a.x := IntWalk.i64_in _ (by omega)
            have g2 : IntKind.i64.wrap ((j : Int) - a.y) = j - a.y := IntWalk.i64_in _ (by omega)
            clear hak s1 s4 s5 s6
            obtain ⟨v, hv⟩ : ∃ v, (mAt a i j).toNat = v := ⟨_, rfl⟩
            rw [hv] at HS HZ1
            clear hv
            by_cases hv0 : v = 0
            · have HPX := Lib.hid (HZ1 hv0)
              subst hv0
              clear HZ1
              go_wp2_with (first
                | (go_at_call 18; (with_reducible refine HS.out.mono ?_); rintro e w5 ⟨rfl, hb5⟩
                   have HC5 := Lib.hid (HCr.out.keep hb5)
                   have HB5 := Lib.hid (HBq.out.trans (hb5.mono HBq.out.size))
                   clear hb5)
                | (go_at_call 17; (with_reducible refine (cvAt HC5.out i j).mono ?_); rintro e w6 ⟨rfl, hb6⟩
                   rw [HPX.out]
                   have HB6 := Lib.hid (HB5.out.trans (hb6.mono HB5.out.size))
                   clear hb6))
              go_roundw
              case rel => exact ⟨i + 1, by omega, by go_num, HB6⟩
              case measure => simp [intOf]; omega
            · have hv1 : 0 < (v : Int) := by omega
              clear HZ1 hv0
              go_wp2_with (first
                | (go_at_call 18; (with_reducible refine HS.out.mono ?_); rintro e w5 ⟨rfl, hb5⟩
                   have HB5 := Lib.hid (HBq.out.trans (hb5.mono HBq.out.size))
                   clear hb5))
              go_roundw
              case rel => exact ⟨i + 1, by omega, by go_num, HB5⟩
              case measure => simp [intOf]; omega
          · have HPX := Lib.hid (HO.out i j hlt2 hlt hin)
            have key : (i : Int) < p0 ∨ (p0 ≤ (i : Int) ∧ p2 ≤ (i : Int)) ∨ (p0 ≤ (i : Int) ∧ (i : Int) < p2 ∧ (j : Int) < p1) ∨ (p0 ≤ (i : Int) ∧ (i : Int) < p2 ∧ p1 ≤ (j : Int) ∧ p3 ≤ (j : Int)) := by
              unfold inB at hin
              simp only at hin
              omega
            clear hin
            rcases key with k1 | ⟨k1, k2⟩ | ⟨k1, k2, k3⟩ | ⟨k1, k2, k3, k4⟩
            all_goals
              go_wp2_with (first
                | (go_at_call 17; (with_reducible refine (cvAt HCr.out i j).mono ?_); rintro e w5 ⟨rfl, hb5⟩
                   rw [HPX.out]
                   have HB5 := Lib.hid (HBq.out.trans (hb5.mono HBq.out.size))
                   clear hb5))
              go_roundw
              case rel => exact ⟨i + 1, by omega, by go_num, HB5⟩
              case measure => simp [intOf]; omega
        · obtain rfl : i = W := by omega
          go_wp2_with fail
          go_roundw
          case rel => exact ⟨j + 1, by omega, by go_num, HBq⟩
          case measure => simp [intOf]; omega
    · obtain rfl : j = H := by omega
      go_wp2
      go_ret
      exact ⟨rfl, (bel_call HBr.out HB4.out).below⟩

set_option maxRecDepth 20000 in
set_option maxHeartbeats 8000000 in
theorem stays_err {w : World} {W H : Nat} {a : Cl} (hW : 1 ≤ W ∧ W ≤ 200) (hH : 1 ≤ H ∧ H ≤ 200) (ha : a.ms.length ≤ 16384) (hma : Bw w a.A a.ms a.cm) (hz : blErr a ≠ 0) :
    Calls Try.prog 3 #[.int .i64 W, .int .i64 H, .agg #[.int .i64 a.k, .int .i64 a.m0, .int .i64 a.m1, .int .i64 a.m2, .int .i64 a.m3, .slice a.A a.ms.length a.cm, .int .i64 a.b0, .int .i64 a.b1, .int .i64 a.b2, .int .i64 a.b3, .int .i64 a.x, .int .i64 a.y, .int .i64 a.c]] w fun e w' =>
      e = .returned (.bool true) ∧ Below w.heap.size w w' := by
  have hw1 : (1 : Int) ≤ W := by omega
  have hw2 : (W : Int) ≤ 200 := by omega
  have hh1 : (1 : Int) ≤ H := by omega
  have hh2 : (H : Int) ≤ 200 := by omega
  have ha' : (a.ms.length : Int) ≤ 16384 := by omega
  have hK0 := fun w => new77 w hW hH
  have hKA := fun (w1 : World) (g k c : Nat) (bs : List UInt8) (h1 : Cv 102 w1 g k W H c bs) (h2 : Bel w.heap.size w w1) (h3 : w.heap.size ≤ k) => Blend_any (o := a) h1 (hma.keep h2.below) (fun h0 b' hb' => by have := hma.row h0 b' hb'; omega)
  have hout := fun (X Y : Nat) (h1 : X < W) (h2 : Y < H) (h3 : ¬ inB (blBox W H a) X Y) => stays_out h1 h2 h3
  have hzer := fun (X Y : Nat) (h1 : X < W) (h2 : Y < H) (h3 : inB (blBox W H a) X Y) => stays_zero h1 h2 h3
  have hins := fun (X Y : Nat) (h3 : inB (blBox W H a) X Y) => stays_in h3
  have hbox : blBox W H a = ⟨0, 0, 0, 0⟩ := if_neg hz
  rw [hbox] at hout hzer hins
  simp only [hbox] at hKA
  obtain ⟨E, hE⟩ : ∃ E, blErr a = E := ⟨_, rfl⟩
  rw [hE] at hKA hz
  have hz1 : (E != 0) = true := by simpa using hz
  simp only [Cl.mask, boxA] at hKA
  generalize List.replicate (H * W) (byt 77) = bs0 at *
  generalize blBs W H a = FA at *
  have K0 := Lib.hid hK0
  have KA := Lib.hid hKA
  have HO := Lib.hid hout
  have HZ := Lib.hid hzer
  have HI := Lib.hid hins
  have HMA := Lib.hid hma
  have HB0 := Lib.hid (bel_alloc (o := .cells #[.int .i64 a.k, .int .i64 a.m0, .int .i64 a.m1, .int .i64 a.m2, .int .i64 a.m3, .slice a.A a.ms.length a.cm, .int .i64 a.b0, .int .i64 a.b1, .int .i64 a.b2, .int .i64 a.b3, .int .i64 a.x, .int .i64 a.y, .int .i64 a.c] 28) (bel_refl (a := w)))
  have HA0 : Hid (Blk (w.alloc (.cells #[.int .i64 a.k, .int .i64 a.m0, .int .i64 a.m1, .int .i64 a.m2, .int .i64 a.m3, .slice a.A a.ms.length a.cm, .int .i64 a.b0, .int .i64 a.b1, .int .i64 a.b2, .int .i64 a.b3, .int .i64 a.x, .int .i64 a.y, .int .i64 a.c] 28)) w.heap.size 28 a.cells) := Lib.hid (Blk.new w 28 a.cells)
  clear hK0 hKA hW hH ha hma hout hzer hins hbox hz hE
  go_enter Try.func3, Try.ntmps3
  go_wp2_with (first
    | (go_at_call 15; (with_reducible refine (K0.out _).mono ?_); rintro e w1 ⟨g, k, c, rfl, hg, hk, hc1, hb1⟩
       have HC1 := Lib.hid hc1
       have HB1 := Lib.hid (bel_call hb1 HB0.out)
       have HA1 := Lib.hid (HA0.out.keepB hb1)
       rw [World.size_alloc] at hg hk
       clear hc1 hb1)
    | (go_at_call 14; (with_reducible refine (lives_any _).mono ?_); rintro e w2 ⟨rfl, hb2⟩
       have HC2 := Lib.hid (HC1.out.keep hb2)
       have HB2 := Lib.hid (bel_call hb2 HB1.out)
       have ha2 := HA1.out.keepB hb2
       have HA2 := Lib.hid ha2
       have x1 := ha2.cell 1
       have x2 := ha2.cell 2
       have x3 := ha2.cell 3
       have x4 := ha2.cell 4
       have x5 := ha2.cell 5
       have x10 := ha2.cell 10
       have x11 := ha2.cell 11
       have x12 := ha2.cell 12
       simp [Cl.cells] at x1 x2 x3 x4 x5 x10 x11 x12
       clear ha2 hb2 HC1 HB1 HA1)
    | (go_at_call 16; (with_reducible refine (KA.out _ _ _ _ _ HC2.out HB2.out (by omega)).mono ?_); rintro e w3 ⟨rfl, hc3, ht3⟩
       have HC3 := Lib.hid hc3
       have HB3 := Lib.hid (bel_turn HB2.out ht3 (by omega))
       have HA3 := Lib.hid (ht3.blk HA2.out (by omega) (fun e => by cases e))
       clear hc3 ht3 HC2 HB2 HA2))
  obtain ⟨W4, hW4⟩ : ∃ W4, w3.alloc (.cells #[.int .i64 0, .int .i64 0, .int .i64 0, .int .i64 0] 23) = W4 := ⟨_, rfl⟩
  obtain ⟨b, hb⟩ : ∃ b, w3.heap.size = b := ⟨_, rfl⟩
  have hbl : Below w3.heap.size w3 W4 := by rw [← hW4]; exact (bel_alloc bel_refl).below
  have HB4 := Lib.hid (bel_call hbl HB3.out)
  have HC4 := Lib.hid (HC3.out.keep hbl)
  have HA4 := Lib.hid (HA3.out.keepB hbl)
  have HP4 : Hid (Blk W4 b 23 [.int .i64 0, .int .i64 0, .int .i64 0, .int .i64 0]) := Lib.hid (by rw [← hW4, ← hb]; exact Blk.new w3 23 [.int .i64 0, .int .i64 0, .int .i64 0, .int .i64 0])
  have HM4 := Lib.hid (HMA.out.keep HB4.out.below)
  rw [hW4]
  simp only [hb]
  clear hW4 hb hbl HB3 HC3 HA3
  go_loopw [11] (fun y wr => ∃ j : Nat, j ≤ H ∧ y = .int .i64 j ∧ Hid (Below W4.heap.size W4 wr)) (fun y _ => H - (intOf y).toNat)
  case atStart => exact ⟨0, Nat.zero_le _, by simp, Lib.hid (Below.refl _ _)⟩
  case round =>
    obtain ⟨j, hj, rfl, HBr⟩ := hrel
    by_cases hlt : j < H
    · go_wp2_with fail
      go_loopw [12] (fun x wr => ∃ i : Nat, i ≤ W ∧ x = .int .i64 i ∧ Hid (Below W4.heap.size W4 wr)) (fun x _ => W - (intOf x).toNat)
      case atStart => exact ⟨0, Nat.zero_le _, by simp, HBr⟩
      case round =>
        obtain ⟨i, hi, rfl, HBq⟩ := hrel
        by_cases hlt2 : i < W
        · have hpk := HP4.out.keepB HBq.out
          have q0 := hpk.cell 0
          have q1 := hpk.cell 1
          have q2 := hpk.cell 2
          have q3 := hpk.cell 3
          have hpl := hpk.lt
          simp at q0 q1 q2 q3
          have HCr := Lib.hid (HC4.out.keep HBq.out)
          clear hpk
          have HPX := Lib.hid (HO.out i j hlt2 hlt (by unfold inB; simp only; omega))
          have key1 : (0 : Int) ≤ i := by omega
          go_wp2_with (first
            | (go_at_call 17; (with_reducible refine (cvAt HCr.out i j).mono ?_); rintro e w5 ⟨rfl, hb5⟩
               rw [HPX.out]
               have HB5 := Lib.hid (HBq.out.trans (hb5.mono HBq.out.size))
               clear hb5))
          go_roundw
          case rel => exact ⟨i + 1, by omega, by go_num, HB5⟩
          case measure => simp [intOf]; omega
        · obtain rfl : i = W := by omega
          go_wp2_with fail
          go_roundw
          case rel => exact ⟨j + 1, by omega, by go_num, HBq⟩
          case measure => simp [intOf]; omega
    · obtain rfl : j = H := by omega
      go_wp2
      go_ret
      exact ⟨rfl, (bel_call HBr.out HB4.out).below⟩

end Go.Proofs.Ytdapakoicegdoaa
