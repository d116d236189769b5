/-
  The document's Blend of the mask without pixels; of any call.
-/
import Derived.Test.YtdapakoicegdoaaCxA
namespace Go.Proofs.Ytdapakoicegdoaa
open Go.RowKit Go.Shelf

set_option maxRecDepth 20000 in
set_option maxHeartbeats 4000000 in
theorem rBlend_zero {w : World} {g k W H c : Nat} {bs : List UInt8} {Am : Option Addr} {L cm : Nat} {x y col : Int} (h : Cv 54 w g k W H c bs) :
    Calls Try.prog 72 #[.pointer (some ⟨g, 0, none⟩), .agg #[.int .i64 0, .int .i64 0, .int .i64 0, .int .i64 0, .slice Am L cm], .int .i64 x, .int .i64 y, .int .i64 col] w fun e w' =>
      e = .returned (.agg #[.int .i64 0, .int .i64 0, .int .i64 0, .int .i64 0]) ∧ Cv 54 w' g k W H c bs ∧ Turn w w' k none := by
  have KM := fun w => rMeet_any 0 0 W H 0 0 0 0 w
  have hME : meetF ⟨0, 0, W, H⟩ ⟨0, 0, 0, 0⟩ = ⟨0, 0, 0, 0⟩ := by
    have e : emptyB (max 0 0) (max 0 0) (min W 0) (min H 0) = true := emptyB_true.2 (by omega)
    simp only [meetF, plainF]
    rw [e]
    rfl
  simp only [hME] at KM
  replace KM := Lib.hid KM
  have hgl := h.blk.lt
  have hkl := h.byt.lt
  obtain ⟨W1, hW1⟩ : ∃ W1, (((w.alloc (.cells #[.int .i64 0, .int .i64 0, .int .i64 0, .int .i64 0, .slice Am L cm] 26)).alloc (.cells #[.int .i64 0, .int .i64 0, .int .i64 0, .int .i64 0] 23)).alloc (.cells #[.int .i64 0, .int .i64 0, .int .i64 0, .int .i64 0] 23)) = W1 := ⟨_, rfl⟩
  have hbe : Bel w.heap.size w W1 := by rw [← hW1]; exact bel_alloc (bel_alloc (bel_alloc bel_refl))
  have hXM : Blk W1 w.heap.size 26 [.int .i64 0, .int .i64 0, .int .i64 0, .int .i64 0, .slice Am L cm] := by rw [← hW1]; exact ((Blk.new w 26 [.int .i64 0, .int .i64 0, .int .i64 0, .int .i64 0, .slice Am L cm]).alloc _).alloc _
  have hX6 : Blk W1 (w.heap.size + 1) 23 [.int .i64 0, .int .i64 0, .int .i64 0, .int .i64 0] := by rw [← hW1]; exact (Blk.newAt (n := w.heap.size + 1) _ 23 [.int .i64 0, .int .i64 0, .int .i64 0, .int .i64 0] (by simp)).alloc _
  have hX11 : Blk W1 (w.heap.size + 1 + 1) 23 [.int .i64 0, .int .i64 0, .int .i64 0, .int .i64 0] := by rw [← hW1]; exact Blk.newAt (n := w.heap.size + 1 + 1) _ 23 [.int .i64 0, .int .i64 0, .int .i64 0, .int .i64 0] (by simp)
  have hcv1 := h.keep hbe.below
  have HB0 := Lib.hid hbe
  have HXM := Lib.hid hXM
  have HX6 := Lib.hid hX6
  have HX11 := Lib.hid hX11
  have HH := Lib.hid h
  have HHd := Lib.hid hcv1.drew
  have HHz := Lib.hid (hcv1.keep (bel_alloc (o := .cells #[.int .i64 0, .int .i64 0, .int .i64 0, .int .i64 0] 23) (bel_refl (a := W1))).below).drew
  clear h hME hbe hXM hX6 hX11 hcv1
  have HW1 := Lib.hid hW1
  clear hW1
  go_enter Try.func72, Try.ntmps72
  go_upto_region 5 with (fail)
  rw [HW1.out]
  have hk1 := HX11.out.aft
  have hkl4 := HX11.out.lt
  clear HW1
  go_cut [13] (fun s7 wx => ∃ b7, s7 = .pointer (some ⟨b7, 0, none⟩) ∧ W1.heap.size ≤ b7 ∧ Hid (Blk wx b7 23 [.int .i64 0, .int .i64 0, .int .i64 0, .int .i64 0]) ∧ Hid (Below W1.heap.size W1 wx))
  case first =>
    go_region_held (fun u => Aft W1 u) (first | (with_reducible exact aft_drew) | (with_reducible exact (Aft.alloc aft_refl _).drew) | (with_reducible exact HA1.out) | (with_reducible exact HA1.out.alloc _) | (with_reducible exact HA2.out) | (with_reducible exact HA2.out.alloc _) | ((with_reducible refine Aft.set (Aft.set (Aft.set (Aft.set ?_ ?_ _) ?_ _) ?_ _) ?_ _); (· exact HA2.out); all_goals (first | exact Nat.le_refl _ | exact HA1.out.size | exact HA2.out.size)))
      (first
        | (go_at_call 99; (with_reducible refine (rcvAll HHd.out).mono ?_); rintro e w1 ⟨rfl, hb1⟩; have HA1 := Lib.hid (aft_drew.call hb1); clear hb1)
        | (go_at_call 99; (with_reducible refine (rcvAll HHz.out).mono ?_); rintro e w1 ⟨rfl, hb1⟩; have HA1 := Lib.hid ((Aft.alloc aft_refl _).drew.call hb1); have HZ1 : Hid (Blk w1 W1.heap.size 23 [.int .i64 0, .int .i64 0, .int .i64 0, .int .i64 0]) := Lib.hid ((Blk.new W1 23 [.int .i64 0, .int .i64 0, .int .i64 0, .int .i64 0]).drew.keepB hb1); clear hb1)
        | (go_at_call 22; have hz1 := HZ1.out; (with_reducible refine (KM.out _).mono ?_); rintro e w2 ⟨rfl, hb2⟩; have HA2 := Lib.hid (HA1.out.call hb2); have HZ2 := Lib.hid (hz1.keepB hb2); have z0 := HZ2.out.cell 0; have z1 := HZ2.out.cell 1; have z2 := HZ2.out.cell 2; have z3 := HZ2.out.cell 3; have f0 := HZ2.out.frozen 0; have f1 := HZ2.out.frozen 1; have f2 := HZ2.out.frozen 2; have f3 := HZ2.out.frozen 3; simp at z0 z1 z2 z3; clear hb2 hz1)
        | (go_at_call 22; (with_reducible refine (KM.out _).mono ?_); rintro e w2 ⟨rfl, hb2⟩; have HA2 := Lib.hid ((HA1.out.alloc _).call hb2); have HZ2 := Lib.hid ((Blk.new w1 23 [.int .i64 0, .int .i64 0, .int .i64 0, .int .i64 0]).keepB hb2); have z0 := HZ2.out.cell 0; have z1 := HZ2.out.cell 1; have z2 := HZ2.out.cell 2; have z3 := HZ2.out.cell 3; have f0 := HZ2.out.frozen 0; have f1 := HZ2.out.frozen 1; have f2 := HZ2.out.frozen 2; have f3 := HZ2.out.frozen 3; simp at z0 z1 z2 z3; clear hb2)
        | (go_at_call 22; (with_reducible refine (KM.out _).mono ?_); rintro e w2 ⟨rfl, hb2⟩; have HA2 := Lib.hid (HA1.out.call hb2); clear hb2))
    all_goals (go_wp2_with fail; go_meet)
    all_goals first
      | exact ⟨_, rfl, HA2.out.size, Lib.hid (Blk.new w2 23 [_, _, _, _]), Lib.hid (HA2.out.alloc _)⟩
      | exact ⟨_, rfl, HA1.out.size, Lib.hid ((((HZ2.out.set 0 _).set 1 _).set 2 _).set 3 _), Lib.hid ((((HA2.out.set HA1.out.size _).set HA1.out.size _).set HA1.out.size _).set HA1.out.size _)⟩
      | exact ⟨_, rfl, Nat.le_refl _, Lib.hid ((((HZ2.out.set 0 _).set 1 _).set 2 _).set 3 _), Lib.hid ((((HA2.out.set (Nat.le_refl _) _).set (Nat.le_refl _) _).set (Nat.le_refl _) _).set (Nat.le_refl _) _)⟩
  case rest =>
    obtain ⟨b7, rfl, hb7, HX7, HBx⟩ := hcut
    have HCV := Lib.hid ((HH.out.keep HB0.out.below).keep HBx.out)
    have HX6c := Lib.hid (HX6.out.keepB HBx.out)
    have HBW := Lib.hid (Below.trans HB0.out.below (HBx.out.mono HB0.out.le))
    have q0 := HX7.out.cell 0
    have q1 := HX7.out.cell 1
    have q2 := HX7.out.cell 2
    have q3 := HX7.out.cell 3
    simp at q0 q1 q2 q3
    clear hk1 hkl4 HB0 HHd HHz HX6 KM HXM HX11
    go_wp2_with fail
    go_loopw [14] (fun y wr => y = .int .i64 0 ∧ wr = wc) (fun _ _ => 0)
    case atStart => exact ⟨rfl, rfl⟩
    case round =>
      obtain ⟨rfl, rfl⟩ := hrel
      have hx6 := HX6c.out
      have z0 := hx6.cell 0
      have z1 := hx6.cell 1
      have z2 := hx6.cell 2
      have z3 := hx6.cell 3
      have y0' := hx6.frozen 0
      have y1' := hx6.frozen 1
      have y2' := hx6.frozen 2
      have y3' := hx6.frozen 3
      simp at z0 z1 z2 z3
      clear hx6

      have HT3 := Lib.hid (Turn.of_below (g := k) (row := none) HBW.out)
      go_wp2
      refine bodyPost_ret (v := .agg #[.int .i64 0, .int .i64 0, .int .i64 0, .int .i64 0]) ?_ rfl ⟨rfl, ?_, ?_⟩
      · simp [results, Try.results72, go_sem, *]
      all_goals
        have hT4 := (((HT3.out.setNew (p := ⟨w.heap.size + 1, 0, none⟩) (Nat.le_succ _) (.int .i64 0)).setNew (p := ⟨w.heap.size + 1, 1, none⟩) (Nat.le_succ _) (.int .i64 0)).setNew (p := ⟨w.heap.size + 1, 2, none⟩) (Nat.le_succ _) (.int .i64 0)).setNew (p := ⟨w.heap.size + 1, 3, none⟩) (Nat.le_succ _) (.int .i64 0)
      · refine HH.out.bytes hT4 ?_ rfl
        have hne : k ≠ w.heap.size + 1 := by omega
        exact (((HCV.out.byt.far (p := ⟨w.heap.size + 1, 0, none⟩) hne _).far (p := ⟨w.heap.size + 1, 1, none⟩) hne _).far (p := ⟨w.heap.size + 1, 2, none⟩) hne _).far (p := ⟨w.heap.size + 1, 3, none⟩) hne _
      · exact hT4

end Go.Proofs.Ytdapakoicegdoaa
