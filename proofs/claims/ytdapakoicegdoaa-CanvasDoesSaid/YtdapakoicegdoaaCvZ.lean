/-
  The document's Fill.
-/
import Derived.Test.YtdapakoicegdoaaCvU
import Derived.Deep.DeepCutAuto
namespace Go.Proofs.Ytdapakoicegdoaa
open Go.RowKit Go.Shelf

set_option maxRecDepth 20000 in
set_option maxHeartbeats 4000000 in
theorem rFill_any {w : World} {g k W H c : Nat} {bs : List UInt8} {b0 b1 b2 b3 col : Int} (h : Cv 54 w g k W H c bs) (hc : byteB col = true) {x0 y0 n m : Nat} (hM : MeetN W H ⟨b0, b1, b2, b3⟩ x0 y0 n m) :
    Calls Try.prog 70 #[.pointer (some ⟨g, 0, none⟩), .agg #[.int .i64 b0, .int .i64 b1, .int .i64 b2, .int .i64 b3], .int .i64 col] w fun e w' =>
      e = .returned (boxA ⟨x0, y0, (x0 : Int) + n, (y0 : Int) + m⟩) ∧ Cv 54 w' g k W H c (boxG (fun _ _ _ => byt col) bs (y0 * W + x0) W n m) ∧ Turn w w' k none := by
  have KM := fun w => rMeet_any 0 0 W H b0 b1 b2 b3 w
  have hME : meetF ⟨0, 0, W, H⟩ ⟨b0, b1, b2, b3⟩ = ⟨x0, y0, (x0 : Int) + n, (y0 : Int) + m⟩ := hM.eq
  simp only [hME] at KM
  replace KM := Lib.hid KM
  have hcr := byteB_true.1 hc
  have hconv : IntKind.u8.wrap col = col := by rw [IntKind.wrap_u8]; omega
  have hgl := h.blk.lt
  have hkl := h.byt.lt
  obtain ⟨W1, hW1⟩ : ∃ W1, ((w.alloc (.cells #[.int .i64 b0, .int .i64 b1, .int .i64 b2, .int .i64 b3] 23)).alloc (.cells #[.int .i64 0, .int .i64 0, .int .i64 0, .int .i64 0] 23)) = W1 := ⟨_, rfl⟩
  have hb0 : Bel w.heap.size w W1 := by rw [← hW1]; exact bel_alloc (bel_alloc bel_refl)
  have hX4 : Blk W1 w.heap.size 23 [.int .i64 b0, .int .i64 b1, .int .i64 b2, .int .i64 b3] := by rw [← hW1]; exact (Blk.new w 23 [.int .i64 b0, .int .i64 b1, .int .i64 b2, .int .i64 b3]).alloc _
  have hX6 : Blk W1 (w.heap.size + 1) 23 [.int .i64 0, .int .i64 0, .int .i64 0, .int .i64 0] := by rw [← hW1]; exact Blk.newAt (n := w.heap.size + 1) _ 23 [.int .i64 0, .int .i64 0, .int .i64 0, .int .i64 0] (by simp)
  have hcv1 := h.keep hb0.below
  have HB0 := Lib.hid hb0
  have HX4 := Lib.hid hX4
  have HX6 := Lib.hid hX6
  have HH := Lib.hid h
  have HHd := Lib.hid hcv1.drew
  have HHz := Lib.hid (hcv1.keep (bel_alloc (o := .cells #[.int .i64 0, .int .i64 0, .int .i64 0, .int .i64 0] 23) (bel_refl (a := W1))).below).drew
  have HMN := Lib.hid hM
  have HCC := Lib.hid hc
  clear h hM hc hME hb0 hX4 hX6 hcv1
  unfold boxA
  go_enter Try.func70, Try.ntmps70
  go_upto_region 1 with (fail)
  have hk1 := HX4.out.aft
  have hkl4 := HX4.out.lt
  clear hW1
  go_cut [7] (fun s7 wx => ∃ b7, s7 = .pointer (some ⟨b7, 0, none⟩) ∧ W1.heap.size ≤ b7 ∧ Hid (Blk wx b7 23 [.int .i64 x0, .int .i64 y0, .int .i64 ((x0 : Int) + n), .int .i64 ((y0 : Int) + m)]) ∧ Hid (Below W1.heap.size W1 wx))
  case first =>
    go_region_held (fun u => Aft W1 u) (first | (with_reducible exact aft_drew) | (with_reducible exact (Aft.alloc aft_refl _).drew) | (with_reducible exact HA1.out) | (with_reducible exact HA1.out.alloc _) | (with_reducible exact HA2.out) | (with_reducible exact HA2.out.alloc _) | ((with_reducible refine Aft.set (Aft.set (Aft.set (Aft.set ?_ ?_ _) ?_ _) ?_ _) ?_ _); (· exact HA2.out); all_goals (first | exact Nat.le_refl _ | exact HA1.out.size | exact HA2.out.size)))
      (first
        | (go_at_call 99; (with_reducible refine (rcvAll HHd.out).mono ?_); rintro e w1 ⟨rfl, hb1⟩; have HA1 := Lib.hid (aft_drew.call hb1); clear hb1)
        | (go_at_call 99; (with_reducible refine (rcvAll HHz.out).mono ?_); rintro e w1 ⟨rfl, hb1⟩; have HA1 := Lib.hid ((Aft.alloc aft_refl _).drew.call hb1); have HZ1 : Hid (Blk w1 W1.heap.size 23 [.int .i64 0, .int .i64 0, .int .i64 0, .int .i64 0]) := Lib.hid ((Blk.new W1 23 [.int .i64 0, .int .i64 0, .int .i64 0, .int .i64 0]).drew.keepB hb1); clear hb1)
        | (go_at_call 22; have hz1 := HZ1.out; (with_reducible refine (KM.out _).mono ?_); rintro e w2 ⟨rfl, hb2⟩; have HA2 := Lib.hid (HA1.out.call hb2); have HZ2 := Lib.hid (hz1.keepB hb2); have z0 := HZ2.out.cell 0; have z1 := HZ2.out.cell 1; have z2 := HZ2.out.cell 2; have z3 := HZ2.out.cell 3; have f0 := HZ2.out.frozen 0; have f1 := HZ2.out.frozen 1; have f2 := HZ2.out.frozen 2; have f3 := HZ2.out.frozen 3; simp at z0 z1 z2 z3; clear hb2 hz1)
        | (go_at_call 22; (with_reducible refine (KM.out _).mono ?_); rintro e w2 ⟨rfl, hb2⟩; have HA2 := Lib.hid ((HA1.out.alloc _).call hb2); have HZ2 := Lib.hid ((Blk.new w1 23 [.int .i64 0, .int .i64 0, .int .i64 0, .int .i64 0]).keepB hb2); have z0 := HZ2.out.cell 0; have z1 := HZ2.out.cell 1; have z2 := HZ2.out.cell 2; have z3 := HZ2.out.cell 3; have f0 := HZ2.out.frozen 0; have f1 := HZ2.out.frozen 1; have f2 := HZ2.out.frozen 2; have f3 := HZ2.out.frozen 3; simp at z0 z1 z2 z3; clear hb2)
        | (go_at_call 22; (with_reducible refine (KM.out _).mono ?_); rintro e w2 ⟨rfl, hb2⟩; have HA2 := Lib.hid (HA1.out.call hb2); clear hb2))
    all_goals (go_wp2_with fail; go_meet)
    all_goals first
      | exact ⟨_, rfl, HA2.out.size, Lib.hid (Blk.new w2 23 [_, _, _, _]), Lib.hid (HA2.out.alloc _)⟩
      | exact ⟨_, rfl, HA1.out.size, Lib.hid ((((HZ2.out.set 0 _).set 1 _).set 2 _).set 3 _), Lib.hid ((((HA2.out.set HA1.out.size _).set HA1.out.size _).set HA1.out.size _).set HA1.out.size _)⟩
      | exact ⟨_, rfl, Nat.le_refl _, Lib.hid ((((HZ2.out.set 0 _).set 1 _).set 2 _).set 3 _), Lib.hid ((((HA2.out.set (Nat.le_refl _) _).set (Nat.le_refl _) _).set (Nat.le_refl _) _).set (Nat.le_refl _) _)⟩
  case rest =>
    obtain ⟨b7, rfl, hb7, HX7, HBx⟩ := hcut
    have HCV := Lib.hid ((HH.out.keep HB0.out.below).keep HBx.out)
    have HX6c := Lib.hid (HX6.out.keepB HBx.out)
    have HBW := Lib.hid (Below.trans HB0.out.below (HBx.out.mono HB0.out.le))
    have hz1 := HB0.out.le
    have hb7k : b7 ≠ k := by omega
    have hyh : (y0 : Int) + m ≤ 4096 := by have := HMN.out.yh; have := HCV.out.h1; omega
    have hxw : (x0 : Int) + n ≤ 4096 := by have := HMN.out.xw; have := HCV.out.w1; omega
    have q0 := HX7.out.cell 0
    have q1 := HX7.out.cell 1
    have q2 := HX7.out.cell 2
    have q3 := HX7.out.cell 3
    simp at q0 q1 q2 q3
    clear hk1 hkl4 HB0 HHd HHz HX4 HX6 KM
    go_wp2_with fail
    clear q0 q1 q2 q3
    go_loopw [8] (fun y wr => ∃ j : Nat, j ≤ m ∧ y = .int .i64 ((y0 : Int) + j) ∧ Hid (Byt wr k (boxG (fun _ _ _ => byt col) bs (y0 * W + x0) W n j)) ∧ Hid (Turn wc wr k none)) (fun y _ => m + y0 - (intOf y).toNat)
    case atStart => exact ⟨0, Nat.zero_le _, by simp, Lib.hid HCV.out.byt, Lib.hid (Turn.refl _ _ _)⟩
    case round =>
      obtain ⟨j, hj, rfl, HJ, HT⟩ := hrel
      have hx7 := HT.out.blk HX7.out hb7k (fun e => by cases e)
      have q0 := hx7.cell 0
      have q1 := hx7.cell 1
      have q2 := hx7.cell 2
      have q3 := hx7.cell 3
      simp at q0 q1 q2 q3
      clear hx7
      by_cases hlt : j < m
      · go_wp2_with fail
        clear q0 q1 q2 q3
        go_loopw [9] (fun x wr => ∃ i : Nat, i ≤ n ∧ x = .int .i64 ((x0 : Int) + i) ∧ Hid (Byt wr k (rowG (fun _ _ => byt col) (boxG (fun _ _ _ => byt col) bs (y0 * W + x0) W n j) (y0 * W + x0 + j * W) i)) ∧ Hid (Turn wc wr k none)) (fun x _ => n + x0 - (intOf x).toNat)
        case atStart => exact ⟨0, Nat.zero_le _, by simp, HJ, HT⟩
        case round =>
          obtain ⟨i, hi, rfl, HI, HT2⟩ := hrel
          have hx7 := HT2.out.blk HX7.out hb7k (fun e => by cases e)
          have q0 := hx7.cell 0
          have q1 := hx7.cell 1
          have q2 := hx7.cell 2
          have q3 := hx7.cell 3
          simp at q0 q1 q2 q3
          clear hx7
          by_cases hlt2 : i < n
          · have hfit := row_fits HCV.out HMN.out.xw HMN.out.yh hlt
            have hcap := HCV.out.cap
            have hbd := HCV.out.bd.1
            have hlen : (rowG (fun _ _ => byt col) (boxG (fun _ _ _ => byt col) bs (y0 * W + x0) W n j) (y0 * W + x0 + j * W) i).length = bs.length := by rw [rowG_len, boxG_len]
            have hGB : Blk wr g 54 [.int .i64 W, .int .i64 H, .slice (some ⟨k, 0, none⟩) bs.length c] := HT2.out.blk HCV.out.blk HCV.out.ne (fun e => by cases e)
            have g0 : wr.cell? ⟨g, 0, none⟩ = some (.int .i64 W) := hGB.cell 0
            have g2 : wr.cell? ⟨g, 2, none⟩ = some (.slice (some ⟨k, 0, none⟩) bs.length c) := hGB.cell 2
            obtain ⟨p, hp⟩ : ∃ p, y0 * W + x0 + j * W = p := ⟨_, rfl⟩
            have hmul : ((y0 : Int) + j) * W = (p : Int) - x0 := by rw [← hp]; push_cast; rw [Int.add_mul]; omega
            rw [hp] at hfit hlen
            have HP := Lib.hid hp
            rw [hp] at HI
            obtain ⟨lo, hlo⟩ : ∃ lo, p + i = lo := ⟨_, rfl⟩
            have kc := HI.out.cell lo (by omega)
            have kf := HI.out.frozen lo
            obtain ⟨u, hu⟩ : ∃ u, byteV ((rowG (fun _ _ => byt col) (boxG (fun _ _ _ => byt col) bs (y0 * W + x0) W n j) p i)[lo]?.getD 0) = u := ⟨_, rfl⟩
            rw [hu] at kc
            obtain ⟨Wi, hWi⟩ : ∃ Wi : Int, (W : Int) = Wi := ⟨_, rfl⟩
            rw [hWi] at g0 hmul
            obtain ⟨mm, hmm⟩ : ∃ mm : Int, ((y0 : Int) + j) * Wi = mm := ⟨_, rfl⟩
            have hx0 : x0 ≤ p := by rw [← hp]; omega
            rw [hmm] at hmul
            have hq0 : IntKind.i64.wrap (((y0 : Int) + j) * Wi) = mm := by rw [hmm]; exact IntWalk.i64_in _ (by omega)
            have hq1 : IntKind.i64.wrap (mm + ((x0 : Int) + i)) = mm + ((x0 : Int) + i) := IntWalk.i64_in _ (by omega)
            have hq2 : (mm + ((x0 : Int) + i)).toNat = lo := by omega
            have hq3 : mm + ((x0 : Int) + i) < bs.length := by omega
            have hq4 : 0 ≤ mm + ((x0 : Int) + i) := by omega
            have HLO := Lib.hid hlo
            have HLL := Lib.hid hlen
            clear hmul hmm hWi hGB hx0 hu hp hlen hlo
            go_wp2_with fail
            refine wp_region_drew_tail 15 (by kernel_rfl) (by kernel_rfl) ?_
            simp only [List.take_succ_cons, List.take_zero, List.drop_succ_cons, List.drop_zero]
            repeat (go_big_quiet_step (fail))
            refine wpQuiet_nil ?_
            rintro _ ⟨nq, rfl⟩
            go_wp2_with fail
            go_roundw
            case rel =>
              refine ⟨i + 1, by omega, by push_cast; go_num, Lib.hid ?_, Lib.hid ((HT2.out.drewN nq).set lo _)⟩
              rw [HP.out, rowG, HLO.out, ← byteV_byt HCC.out]
              exact (HI.out.drewN nq).set lo _ (by have := HLL.out; have := HLO.out; omega)
            case measure => simp [intOf]; omega
          · obtain rfl : i = n := by omega
            go_wp2_with fail
            go_roundw
            case rel => exact ⟨j + 1, by omega, by push_cast; go_num, HI, HT2⟩
            case measure => simp [intOf]; omega
      · obtain rfl : j = m := by omega
        have hx6 := HT.out.blk HX6c.out (by omega) (fun e => by cases e)
        have z0 := hx6.cell 0
        have z1 := hx6.cell 1
        have z2 := hx6.cell 2
        have z3 := hx6.cell 3
        have y0' := hx6.frozen 0
        have y1' := hx6.frozen 1
        have y2' := hx6.frozen 2
        have y3' := hx6.frozen 3
        simp at z0 z1 z2 z3
        clear hx6
        have HT3 := Lib.hid ((Turn.of_below (g := k) (row := none) HBW.out).trans HT.out (.inl rfl))
        go_wp2
        refine bodyPost_ret (v := .agg #[.int .i64 x0, .int .i64 y0, .int .i64 ((x0 : Int) + n), .int .i64 ((y0 : Int) + j)]) ?_ rfl ⟨rfl, ?_, ?_⟩
        · simp [results, Try.results70, go_sem, *]
        all_goals
          have hT4 := (((HT3.out.setNew (p := ⟨w.heap.size + 1, 0, none⟩) (Nat.le_succ _) (.int .i64 x0)).setNew (p := ⟨w.heap.size + 1, 1, none⟩) (Nat.le_succ _) (.int .i64 y0)).setNew (p := ⟨w.heap.size + 1, 2, none⟩) (Nat.le_succ _) (.int .i64 ((x0 : Int) + n))).setNew (p := ⟨w.heap.size + 1, 3, none⟩) (Nat.le_succ _) (.int .i64 ((y0 : Int) + j))
        · refine HH.out.bytes hT4 ?_ (boxG_len _ _ _ _ _ _)
          have hne : k ≠ w.heap.size + 1 := by omega
          exact (((HJ.out.far (p := ⟨w.heap.size + 1, 0, none⟩) hne _).far (p := ⟨w.heap.size + 1, 1, none⟩) hne _).far (p := ⟨w.heap.size + 1, 2, none⟩) hne _).far (p := ⟨w.heap.size + 1, 3, none⟩) hne _
        · exact hT4

end Go.Proofs.Ytdapakoicegdoaa
