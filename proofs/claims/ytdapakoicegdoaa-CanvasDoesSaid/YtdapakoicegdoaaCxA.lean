/-
  The document's Blend of a mask that has pixels.
-/
import Derived.Test.YtdapakoicegdoaaCvU
import Derived.Deep.DeepCutAuto
namespace Go.Proofs.Ytdapakoicegdoaa
open Go.RowKit Go.Shelf

theorem q_many {P : Program} {f : FuncId} {args : Array Value} {w : World} {n : Nat} {v : Value}
    (h : Calls P f args (w.drewN n) fun e w' => e = .returned v ∧ ∃ m, w' = (w.drewN n).drewN m) : Calls P f args (w.drewN n) fun e w'' => e = .returned v ∧ ∃ m, w'' = w.drewN m :=
  h.mono fun _ _ ⟨he, m, hm⟩ => ⟨he, n + m, by rw [hm]; simp [World.drewN, Nat.add_assoc]⟩

set_option maxRecDepth 20000 in
set_option maxHeartbeats 4000000 in
theorem rBlend_ok {w : World} {g k W H c : Nat} {bs ms : List UInt8} {Am : Option Addr} {L cm : Nat} {m0 m1 m2 m3 x y col : Int} (h : Cv 54 w g k W H c bs) (hm : maskE m0 m1 m2 m3 L = 0) (hms : Bw w Am ms cm) (hL : ms.length = L)
    (hne : 0 < ms.length → ∀ b, rowOf Am = some b → b ≠ k) (hx : farB x = false) (hy : farB y = false) (hc : byteB col = true) (h4 : eq4 m0 m1 m2 m3 0 0 0 0 = false) {x0 y0 n m : Nat} (hM : MeetN W H (shB m0 m1 m2 m3 x y) x0 y0 n m) :
    Calls Try.prog 72 #[.pointer (some ⟨g, 0, none⟩), .agg #[.int .i64 m0, .int .i64 m1, .int .i64 m2, .int .i64 m3, .slice Am L cm], .int .i64 x, .int .i64 y, .int .i64 col] w fun e w' =>
      e = .returned (boxA ⟨x0, y0, (x0 : Int) + n, (y0 : Int) + m⟩) ∧ Cv 54 w' g k W H c (boxG (blF col ms (shB m0 m1 m2 m3 x y) (m2 - m0) x0 y0) bs (y0 * W + x0) W n m) ∧ Turn w w' k none := by
  have hcr := byteB_true.1 hc
  have hrm := fun j (hj : j < m) => row_mask hm hx hy hM hj
  have hce : cellE m0 m1 m2 m3 = 0 := by
    rcases maskE_ok hm with ⟨rfl, rfl, rfl, rfl, _⟩ | ⟨_, hce, _⟩
    · rw [eq4_self] at h4; cases h4
    · exact hce
  obtain ⟨g1, g2, g3, g4', g5, g6, g7, _⟩ := cellE_zero.1 hce
  have gx := farB_false.1 hx
  have gy := farB_false.1 hy
  have hsh : shB m0 m1 m2 m3 x y = ⟨m0 + x, m1 + y, m2 + x, m3 + y⟩ := by rw [shB, if_neg (by rw [h4]; decide)]
  rw [hsh] at hM hrm ⊢
  have hw0 : IntKind.i64.wrap (m0 + x) = m0 + x := IntWalk.i64_in _ (by omega)
  have hw1 : IntKind.i64.wrap (m1 + y) = m1 + y := IntWalk.i64_in _ (by omega)
  have hw2 : IntKind.i64.wrap (m2 + x) = m2 + x := IntWalk.i64_in _ (by omega)
  have hw3 : IntKind.i64.wrap (m3 + y) = m3 + y := IntWalk.i64_in _ (by omega)
  have hw4 : IntKind.i64.wrap (m2 - m0) = m2 - m0 := IntWalk.i64_in _ (by omega)
  have hr0 : -1100000 ≤ m0 + x ∧ m0 + x ≤ 1100000 ∧ -1100000 ≤ m1 + y ∧ m1 + y ≤ 1100000 ∧ -32768 ≤ m2 - m0 ∧ m2 - m0 ≤ 32768 := by omega
  simp only at hrm
  obtain ⟨b0, hb0⟩ : ∃ b0, m0 + x = b0 := ⟨_, rfl⟩
  obtain ⟨b1, hb1⟩ : ∃ b1, m1 + y = b1 := ⟨_, rfl⟩
  obtain ⟨b2, hb2⟩ : ∃ b2, m2 + x = b2 := ⟨_, rfl⟩
  obtain ⟨b3, hb3⟩ : ∃ b3, m3 + y = b3 := ⟨_, rfl⟩
  obtain ⟨wd, hwd⟩ : ∃ wd, m2 - m0 = wd := ⟨_, rfl⟩
  rw [hb0] at hw0 hr0; rw [hb1] at hw1 hr0; rw [hb2] at hw2; rw [hb3] at hw3; rw [hwd] at hw4 hr0
  rw [hb0, hb1, hb2, hb3] at hM
  simp only [hb0, hb1, hb2, hb3, hwd] at hrm ⊢
  have KM := fun w => rMeet_any 0 0 W H b0 b1 b2 b3 w
  have hME : meetF ⟨0, 0, W, H⟩ ⟨b0, b1, b2, b3⟩ = ⟨x0, y0, (x0 : Int) + n, (y0 : Int) + m⟩ := hM.eq
  simp only [hME] at KM
  replace KM := Lib.hid KM
  have hgl := h.blk.lt
  have hkl := h.byt.lt
  have hrf : ∀ j, j < m → ∃ q : Nat, blF col ms ⟨b0, b1, b2, b3⟩ wd x0 y0 j = blendF col ms q ∧ (((y0 : Int) + j) - b1) * wd + x0 - b0 = q ∧ (q : Int) + n ≤ L ∧ (L : Int) ≤ 4194304 ∧ 0 ≤ ((y0 : Int) + j) - b1 ∧ ((y0 : Int) + j) - b1 ≤ 32768 := fun j hj => by
    obtain ⟨q, hq, r1, r2, r3, r4, _⟩ := hrm j hj
    refine ⟨q, ?_, hq, r1, r2, r3, r4⟩
    unfold blF
    simp only
    rw [hq, Int.toNat_natCast]
  generalize blF col ms ⟨b0, b1, b2, b3⟩ wd x0 y0 = F at *
  obtain ⟨W1, hW1⟩ : ∃ W1, (((w.alloc (.cells #[.int .i64 m0, .int .i64 m1, .int .i64 m2, .int .i64 m3, .slice Am L cm] 26)).alloc (.cells #[.int .i64 0, .int .i64 0, .int .i64 0, .int .i64 0] 23)).alloc (.cells #[.int .i64 b0, .int .i64 b1, .int .i64 b2, .int .i64 b3] 23)) = W1 := ⟨_, rfl⟩
  have hbe : Bel w.heap.size w W1 := by rw [← hW1]; exact bel_alloc (bel_alloc (bel_alloc bel_refl))
  have hXM : Blk W1 w.heap.size 26 [.int .i64 m0, .int .i64 m1, .int .i64 m2, .int .i64 m3, .slice Am L cm] := by rw [← hW1]; exact ((Blk.new w 26 [.int .i64 m0, .int .i64 m1, .int .i64 m2, .int .i64 m3, .slice Am L cm]).alloc _).alloc _
  have hX6 : Blk W1 (w.heap.size + 1) 23 [.int .i64 0, .int .i64 0, .int .i64 0, .int .i64 0] := by rw [← hW1]; exact (Blk.newAt (n := w.heap.size + 1) _ 23 [.int .i64 0, .int .i64 0, .int .i64 0, .int .i64 0] (by simp)).alloc _
  have hX11 : Blk W1 (w.heap.size + 1 + 1) 23 [.int .i64 b0, .int .i64 b1, .int .i64 b2, .int .i64 b3] := by rw [← hW1]; exact Blk.newAt (n := w.heap.size + 1 + 1) _ 23 [.int .i64 b0, .int .i64 b1, .int .i64 b2, .int .i64 b3] (by simp)
  have cm0 : W1.cell? ⟨w.heap.size, 0, none⟩ = some (.int .i64 m0) := hXM.cell 0
  have cm2 : W1.cell? ⟨w.heap.size, 2, none⟩ = some (.int .i64 m2) := hXM.cell 2
  have hcv1 := h.keep hbe.below
  have HB0 := Lib.hid hbe
  have HXM := Lib.hid hXM
  have HX6 := Lib.hid hX6
  have HX11 := Lib.hid hX11
  have HH := Lib.hid h
  have HHd := Lib.hid hcv1.drew
  have HHz := Lib.hid (hcv1.keep (bel_alloc (o := .cells #[.int .i64 0, .int .i64 0, .int .i64 0, .int .i64 0] 23) (bel_refl (a := W1))).below).drew
  have HMN := Lib.hid hM
  have HCC := Lib.hid hcr
  have HMS := Lib.hid hms
  have HRF := Lib.hid hrf
  have HLM := Lib.hid hL
  have HNE := Lib.hid hne
  have HWR := Lib.hid hr0
  clear h hM hc hME hbe hXM hX6 hX11 hcv1 hcr hms hrf hL hne hr0 hrm hm hx hy hce g1 g2 g3 g4' g5 g6 g7 gx gy hsh
  unfold boxA
  go_enter Try.func72, Try.ntmps72
  go_upto_region 5 with (fail)
  have hk1 := HX11.out.aft
  have hkl4 := HX11.out.lt
  clear cm0 cm2 hW1 hb0 hb1 hb2 hb3 hwd hw0 hw1 hw2 hw3 hw4 h4
  go_cut [13] (fun s7 wx => ∃ b7, s7 = .pointer (some ⟨b7, 0, none⟩) ∧ W1.heap.size ≤ b7 ∧ Hid (Blk wx b7 23 [.int .i64 x0, .int .i64 y0, .int .i64 ((x0 : Int) + n), .int .i64 ((y0 : Int) + m)]) ∧ Hid (Below W1.heap.size W1 wx))
  case first =>
    go_region_held (fun u => Aft W1 u) (first | (with_reducible exact aft_drew) | (with_reducible exact (Aft.alloc aft_refl _).drew) | (with_reducible exact HA1.out) | (with_reducible exact HA1.out.alloc _) | (with_reducible exact HA2.out) | (with_reducible exact HA2.out.alloc _) | ((with_reducible refine Aft.set (Aft.set (Aft.set (Aft.set ?_ ?_ _) ?_ _) ?_ _) ?_ _); (· exact HA2.out); all_goals (first | exact Nat.le_refl _ | exact HA1.out.size | exact HA2.out.size)))
      (first
        | (go_at_call 99; (with_reducible refine (rcvAll HHd.out).mono ?_); rintro e w1 ⟨rfl, hb1⟩; have HA1 := Lib.hid (aft_drew.call hb1); clear hb1)
        | (go_at_call 99; (with_reducible refine (rcvAll HHz.out).mono ?_); rintro e w1 ⟨rfl, hb1⟩; have HA1 := Lib.hid ((Aft.alloc aft_refl _).drew.call hb1); have HZ1 : Hid (Blk w1 W1.heap.size 23 [.int .i64 0, .int .i64 0, .int .i64 0, .int .i64 0]) := Lib.hid ((Blk.new W1 23 [.int .i64 0, .int .i64 0, .int .i64 0, .int .i64 0]).drew.keepB hb1); clear hb1)
        | (go_at_call 22; have hz1 := HZ1.out; (with_reducible refine (KM.out _).mono ?_); rintro e w2 ⟨rfl, hb2⟩; have HA2 := Lib.hid (HA1.out.call hb2); have HZ2 := Lib.hid (hz1.keepB hb2); have z0 := HZ2.out.cell 0; have z1 := HZ2.out.cell 1; have z2 := HZ2.out.cell 2; have z3 := HZ2.out.cell 3; have f0 := HZ2.out.frozen 0; have f1 := HZ2.out.frozen 1; have f2 := HZ2.out.frozen 2; have f3 := HZ2.out.frozen 3; simp at z0 z1 z2 z3; clear hb2 hz1)
        | (go_at_call 22; (with_reducible refine (KM.out _).mono ?_); rintro e w2 ⟨rfl, hb2⟩; have HA2 := Lib.hid ((HA1.out.alloc _).call hb2); have HZ2 := Lib.hid ((Blk.new w1 23 [.int .i64 0, .int .i64 0, .int .i64 0, .int .i64 0]).keepB hb2); have z0 := HZ2.out.cell 0; have z1 := HZ2.out.cell 1; have z2 := HZ2.out.cell 2; have z3 := HZ2.out.cell 3; have f0 := HZ2.out.frozen 0; have f1 := HZ2.out.frozen 1; have f2 := HZ2.out.frozen 2; have f3 := HZ2.out.frozen 3; simp at z0 z1 z2 z3; clear hb2)
        | (go_at_call 22; (with_reducible refine (KM.out _).mono ?_); rintro e w2 ⟨rfl, hb2⟩; have HA2 := Lib.hid (HA1.out.call hb2); clear hb2))
    all_goals (go_wp2_with fail; go_meet)
    all_goals first
      | exact ⟨_, rfl, HA2.out.size, Lib.hid (Blk.new w2 23 [_, _, _, _]), Lib.hid (HA2.out.alloc _)⟩
      | exact ⟨_, rfl, HA1.out.size, Lib.hid ((((HZ2.out.set 0 _).set 1 _).set 2 _).set 3 _), Lib.hid ((((HA2.out.set HA1.out.size _).set HA1.out.size _).set HA1.out.size _).set HA1.out.size _)⟩
      | exact ⟨_, rfl, Nat.le_refl _, Lib.hid ((((HZ2.out.set 0 _).set 1 _).set 2 _).set 3 _), Lib.hid ((((HA2.out.set (Nat.le_refl _) _).set (Nat.le_refl _) _).set (Nat.le_refl _) _).set (Nat.le_refl _) _)⟩
  case rest =>
    obtain ⟨b7, rfl, hb7, HX7, HBx⟩ := hcut
    have HCV := Lib.hid ((HH.out.keep HB0.out.below).keep HBx.out)
    have HX6c := Lib.hid (HX6.out.keepB HBx.out)
    have HBW := Lib.hid (Below.trans HB0.out.below (HBx.out.mono HB0.out.le))
    have hz1 := HB0.out.le
    have hb7k : b7 ≠ k := by omega
    have hyh : (y0 : Int) + m ≤ 4096 := by have := HMN.out.yh; have := HCV.out.h1; omega
    have hxw : (x0 : Int) + n ≤ 4096 := by have := HMN.out.xw; have := HCV.out.w1; omega
    have q0 := HX7.out.cell 0
    have q1 := HX7.out.cell 1
    have q2 := HX7.out.cell 2
    have q3 := HX7.out.cell 3
    simp at q0 q1 q2 q3
    have HXMc := Lib.hid (HXM.out.keepB HBx.out)
    have HX11c := Lib.hid (HX11.out.keepB HBx.out)
    have HMSc := Lib.hid (HMS.out.keep HBW.out)
    clear hk1 hkl4 HB0 HHd HHz HX6 KM HXM HX11
    go_wp2_with fail
    clear q0 q1 q2 q3
    go_loopw [14] (fun y wr => ∃ j : Nat, j ≤ m ∧ y = .int .i64 ((y0 : Int) + j) ∧ Hid (Byt wr k (boxG F bs (y0 * W + x0) W n j)) ∧ Hid (Turn wc wr k none)) (fun y _ => m + y0 - (intOf y).toNat)
    case atStart => exact ⟨0, Nat.zero_le _, by simp, Lib.hid HCV.out.byt, Lib.hid (Turn.refl _ _ _)⟩
    case round =>
      obtain ⟨j, hj, rfl, HJ, HT⟩ := hrel
      have hx7 := HT.out.blk HX7.out hb7k (fun e => by cases e)
      have q0 := hx7.cell 0
      have q1 := hx7.cell 1
      have q2 := hx7.cell 2
      have q3 := hx7.cell 3
      simp at q0 q1 q2 q3
      clear hx7
      by_cases hlt : j < m
      · go_wp2_with fail
        clear q0 q1 q2 q3
        go_loopw [15] (fun x wr => ∃ i : Nat, i ≤ n ∧ x = .int .i64 ((x0 : Int) + i) ∧ Hid (Byt wr k (rowG (F j) (boxG F bs (y0 * W + x0) W n j) (y0 * W + x0 + j * W) i)) ∧ Hid (Turn wc wr k none)) (fun x _ => n + x0 - (intOf x).toNat)
        case atStart => exact ⟨0, Nat.zero_le _, by simp, HJ, HT⟩
        case round =>
          obtain ⟨i, hi, rfl, HI, HT2⟩ := hrel
          have hx7 := HT2.out.blk HX7.out hb7k (fun e => by cases e)
          have q0 := hx7.cell 0
          have q1 := hx7.cell 1
          have q2 := hx7.cell 2
          have q3 := hx7.cell 3
          simp at q0 q1 q2 q3
          clear hx7
          by_cases hlt2 : i < n
          · have hfit := row_fits HCV.out HMN.out.xw HMN.out.yh hlt
            obtain ⟨q, hF, hq, hqn, hL2, hy1, hy2⟩ := HRF.out j hlt
            obtain ⟨mb, mo, rfl, hmb, _⟩ := HMS.out.sl.2 0 (by have := HLM.out; omega)
            have hmk : mb ≠ k := HNE.out (by have := HLM.out; omega) mb rfl
            have hxm := HT2.out.blk HXMc.out (by omega) (fun e => by cases e)
            have kM : wr.cell? ⟨w.heap.size, 4, none⟩ = some (.slice (some ⟨mb, mo, none⟩) L cm) := hxm.cell 4
            have kMl := hxm.lt
            have hx11 := HT2.out.blk HX11c.out (by omega) (fun e => by cases e)
            have t0 : wr.cell? ⟨w.heap.size + 1 + 1, 0, none⟩ = some (.int .i64 b0) := hx11.cell 0
            have t1 : wr.cell? ⟨w.heap.size + 1 + 1, 1, none⟩ = some (.int .i64 b1) := hx11.cell 1
            have htl := hx11.lt
            obtain ⟨b', o', he, hbm, hcm⟩ := HMSc.out.sl.2 (q + i) (by have := HLM.out; omega)
            injection he with he
            injection he with e1 e2
            subst e1 e2
            have hml : q + i < ms.length := by have := HLM.out; omega
            obtain ⟨u, hu⟩ : ∃ u, ms[q + i]?.getD 0 = u := ⟨_, rfl⟩
            have km : wr.cell? ⟨mb, mo + (q + i), none⟩ = some (.int .u8 u.toNat) := by
              rw [World.cell?_of_block (w := wc) (w' := wr) (HT2.out.block mb hbm hmk (fun e => by cases e)), hcm, List.getElem?_map, List.getElem?_eq_getElem hml, ← hu, List.getElem?_eq_getElem hml]
              rfl
            have hmcap : L ≤ cm := by have := HMS.out.cap; have := HLM.out; omega
            obtain ⟨pm, hpm⟩ : ∃ pm, (((y0 : Int) + j) - b1) * wd = pm := ⟨_, rfl⟩
            rw [hpm] at hq
            obtain ⟨r1, r2, r3, r4, r5, r6⟩ := HWR.out
            have hwp : wrap64 ((((y0 : Int) + j) - b1) * wd) = pm := by rw [hpm]; exact IntWalk.wrap64_in _ (by omega)
            have hwp' : IntKind.i64.wrap ((((y0 : Int) + j) - b1) * wd) = pm := by rw [hpm]; exact IntWalk.i64_in _ (by omega)
            have hpi : (pm + ((x0 : Int) + i) - b0).toNat = q + i := by omega
            have hpi0 : 0 ≤ pm + ((x0 : Int) + i) - b0 := by omega
            have hpi1 : pm + ((x0 : Int) + i) - b0 < L := by omega
            have hpmb : -5300000 ≤ pm ∧ pm ≤ 5300000 := by omega
            have HF := Lib.hid hF
            have HU := Lib.hid hu
            clear hxm hx11 hpm hq hF hu hcm hml
            have hcap := HCV.out.cap
            have hbd := HCV.out.bd.1
            have hlen : (rowG (F j) (boxG F bs (y0 * W + x0) W n j) (y0 * W + x0 + j * W) i).length = bs.length := by rw [rowG_len, boxG_len]
            have hGB : Blk wr g 54 [.int .i64 W, .int .i64 H, .slice (some ⟨k, 0, none⟩) bs.length c] := HT2.out.blk HCV.out.blk HCV.out.ne (fun e => by cases e)
            have g0 : wr.cell? ⟨g, 0, none⟩ = some (.int .i64 W) := hGB.cell 0
            have g2 : wr.cell? ⟨g, 2, none⟩ = some (.slice (some ⟨k, 0, none⟩) bs.length c) := hGB.cell 2
            obtain ⟨p, hp⟩ : ∃ p, y0 * W + x0 + j * W = p := ⟨_, rfl⟩
            have hmul : ((y0 : Int) + j) * W = (p : Int) - x0 := by rw [← hp]; push_cast; rw [Int.add_mul]; omega
            rw [hp] at hfit hlen
            have HP := Lib.hid hp
            rw [hp] at HI
            obtain ⟨lo, hlo⟩ : ∃ lo, p + i = lo := ⟨_, rfl⟩
            have kc := HI.out.cell lo (by omega)
            have kf := HI.out.frozen lo
            obtain ⟨d, hd⟩ : ∃ d, (rowG (F j) (boxG F bs (y0 * W + x0) W n j) p i)[lo]?.getD 0 = d := ⟨_, rfl⟩
            rw [hd] at kc
            unfold byteV at kc
            have bd := u8_le d
            have bu := u8_le u
            have hcr := HCC.out
            have HV := Lib.hid (blendB_val hcr u d)
            have hvb := mixI_bd (d := d.toNat) (c := col) (m := u.toNat) ⟨Int.natCast_nonneg _, bd⟩ hcr ⟨Int.natCast_nonneg _, bu⟩
            have KX := Lib.hid (fun w => rMix_any d.toNat col u.toNat w ⟨Int.natCast_nonneg _, bd⟩ hcr ⟨Int.natCast_nonneg _, bu⟩)
            obtain ⟨v, hv⟩ : ∃ v, mixI d.toNat col u.toNat = v := ⟨_, rfl⟩
            rw [hv] at hvb HV KX
            have hw8 : IntKind.u8.wrap v = v := by rw [IntKind.wrap_u8]; omega
            have hpos : lo = (y0 + j) * W + (x0 + i) := by rw [← hlo, ← hp, Nat.add_mul]; omega
            have hpx : pxF W H (rowG (F j) (boxG F bs (y0 * W + x0) W n j) p i) ((x0 : Int) + i) ((y0 : Int) + j) = d.toNat := by
              have h1 := px_nat (W := W) (H := H) (rowG (F j) (boxG F bs (y0 * W + x0) W n j) p i) (X := x0 + i) (Y := y0 + j) (by have := HMN.out.xw; omega) (by have := HMN.out.yh; omega)
              rw [← hpos, hd] at h1
              push_cast at h1
              exact h1
            have KA : Hid (∀ nq, Calls Try.prog 30 #[.pointer (some ⟨g, 0, none⟩), .int .i64 ((x0 : Int) + i), .int .i64 ((y0 : Int) + j)] (wr.drewN nq) fun e w' => e = .returned (.int .i64 d.toNat) ∧ ∃ m, w' = (wr.drewN nq).drewN m) := Lib.hid fun nq => by
              have h1 := rcvAt ((HCV.out.bytes HT2.out HI.out hlen).drewN nq) ((x0 : Int) + i) ((y0 : Int) + j)
              rw [hpx] at h1
              exact h1
            have HD := Lib.hid hd
            clear hpos hpx hd hv
            obtain ⟨Wi, hWi⟩ : ∃ Wi : Int, (W : Int) = Wi := ⟨_, rfl⟩
            rw [hWi] at g0 hmul
            obtain ⟨mm, hmm⟩ : ∃ mm : Int, ((y0 : Int) + j) * Wi = mm := ⟨_, rfl⟩
            have hx0 : x0 ≤ p := by rw [← hp]; omega
            rw [hmm] at hmul
            have hq0 : IntKind.i64.wrap (((y0 : Int) + j) * Wi) = mm := by rw [hmm]; exact IntWalk.i64_in _ (by omega)
            have hq1 : IntKind.i64.wrap (mm + ((x0 : Int) + i)) = mm + ((x0 : Int) + i) := IntWalk.i64_in _ (by omega)
            have hq2 : (mm + ((x0 : Int) + i)).toNat = lo := by omega
            have hq3 : mm + ((x0 : Int) + i) < bs.length := by omega
            have hq4 : 0 ≤ mm + ((x0 : Int) + i) := by omega
            have HLO := Lib.hid hlo
            have HLL := Lib.hid hlen
            clear hmul hmm hWi hGB hx0 hp hlen hlo
            go_wp2_with fail
            refine wp_region_drew_tail 21 (by kernel_rfl) (by kernel_rfl) ?_
            simp only [List.take_succ_cons, List.take_zero, List.drop_succ_cons, List.drop_zero]
            repeat (go_big_quiet_step (first | (go_at_call 21; exact Calls.q_left (KX.out _)) | (go_at_call 30; exact q_many (KA.out _))))
            refine wpQuiet_nil ?_
            rintro _ ⟨nq, rfl⟩
            go_wp2_with fail
            have e : Value.int .u8 v = byteV (blendB col u d) := by unfold byteV; rw [HV.out]
            rw [e]
            go_roundw
            case rel =>
              refine ⟨i + 1, by omega, by push_cast; go_num, Lib.hid ?_, Lib.hid ((HT2.out.drewN nq).set lo _)⟩
              rw [HP.out, rowG, HLO.out, HD.out, show F j i d = blendB col u d by rw [HF.out, blendF, HU.out]]
              exact (HI.out.drewN nq).set lo _ (by have := HLL.out; have := HLO.out; omega)
            case measure => simp [intOf]; omega
          · obtain rfl : i = n := by omega
            go_wp2_with fail
            go_roundw
            case rel => exact ⟨j + 1, by omega, by push_cast; go_num, HI, HT2⟩
            case measure => simp [intOf]; omega
      · obtain rfl : j = m := by omega
        have hx6 := HT.out.blk HX6c.out (by omega) (fun e => by cases e)
        have z0 := hx6.cell 0
        have z1 := hx6.cell 1
        have z2 := hx6.cell 2
        have z3 := hx6.cell 3
        have y0' := hx6.frozen 0
        have y1' := hx6.frozen 1
        have y2' := hx6.frozen 2
        have y3' := hx6.frozen 3
        simp at z0 z1 z2 z3
        clear hx6
        have HT3 := Lib.hid ((Turn.of_below (g := k) (row := none) HBW.out).trans HT.out (.inl rfl))
        go_wp2
        refine bodyPost_ret (v := .agg #[.int .i64 x0, .int .i64 y0, .int .i64 ((x0 : Int) + n), .int .i64 ((y0 : Int) + j)]) ?_ rfl ⟨rfl, ?_, ?_⟩
        · simp [results, Try.results72, go_sem, *]
        all_goals
          have hT4 := (((HT3.out.setNew (p := ⟨w.heap.size + 1, 0, none⟩) (Nat.le_succ _) (.int .i64 x0)).setNew (p := ⟨w.heap.size + 1, 1, none⟩) (Nat.le_succ _) (.int .i64 y0)).setNew (p := ⟨w.heap.size + 1, 2, none⟩) (Nat.le_succ _) (.int .i64 ((x0 : Int) + n))).setNew (p := ⟨w.heap.size + 1, 3, none⟩) (Nat.le_succ _) (.int .i64 ((y0 : Int) + j))
        · refine HH.out.bytes hT4 ?_ (boxG_len _ _ _ _ _ _)
          have hne : k ≠ w.heap.size + 1 := by omega
          exact (((HJ.out.far (p := ⟨w.heap.size + 1, 0, none⟩) hne _).far (p := ⟨w.heap.size + 1, 1, none⟩) hne _).far (p := ⟨w.heap.size + 1, 2, none⟩) hne _).far (p := ⟨w.heap.size + 1, 3, none⟩) hne _
        · exact hT4

end Go.Proofs.Ytdapakoicegdoaa
