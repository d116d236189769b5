/-
  The document's Tally.
-/
import Derived.Test.YtnmnehgcliiofaaExS
import Derived.Test.YtnmnehgcliiofaaExL
import Derived.Deep.DeepCutAuto
namespace Go.Proofs.Ytnmnehgcliiofaa
open Go.RowKit Go.Shelf

def rStep (L : List Sg) (t : Ty) (p : Int × Int) : Ty :=
  if 0 < cntT p.1 p.2 (p.1 + 4) (p.2 + 4) L then { t with touched := t.touched + 1 } else t.square (windN (p.1 + 2) (p.2 + 2) L)
def rFold (L : List Sg) (n : Nat) (pre : List (Int × Int)) : Ty := pre.foldl (rStep L) ⟨0, 0, 0, 0, n, false⟩
theorem rFold_snoc (L : List Sg) (n : Nat) (pre : List (Int × Int)) (p : Int × Int) : rFold L n (pre ++ [p]) = rStep L (rFold L n pre) p := by simp [rFold]
theorem rFold_bd (L : List Sg) (m : Nat) (pre : List (Int × Int)) : (0 ≤ (rFold L m pre).touched ∧ (rFold L m pre).touched ≤ pre.length) ∧ (0 ≤ (rFold L m pre).inside ∧ (rFold L m pre).inside ≤ pre.length) := by
  suffices h : ∀ (l : List (Int × Int)) (t : Ty) (n : Nat), (0 ≤ t.touched ∧ t.touched ≤ n) ∧ (0 ≤ t.inside ∧ t.inside ≤ n) → (0 ≤ (l.foldl (rStep L) t).touched ∧ (l.foldl (rStep L) t).touched ≤ (n + l.length : Nat)) ∧ (0 ≤ (l.foldl (rStep L) t).inside ∧ (l.foldl (rStep L) t).inside ≤ (n + l.length : Nat)) by
    have := h pre ⟨0, 0, 0, 0, m, false⟩ 0 (by simp)
    simpa [rFold] using this
  intro l
  induction l with
  | nil => intro t n h; simpa using h
  | cons p l ih =>
    intro t n h
    have h2 : (0 ≤ (rStep L t p).touched ∧ (rStep L t p).touched ≤ (n + 1 : Nat)) ∧ (0 ≤ (rStep L t p).inside ∧ (rStep L t p).inside ≤ (n + 1 : Nat)) := by
      unfold rStep Ty.square
      split
      · dsimp only; omega
      · dsimp only; split <;> omega
    have := ih _ _ h2
    rw [List.foldl_cons, List.length_cons]
    omega
def Ty.five (t : Ty) : List Value := [.int .i64 t.touched, .int .i64 t.inside, .int .i64 t.most, .int .i64 t.least, .int .i64 t.lines]
def rTally (ls : List (List Dt)) (x y : Int) : Ty := rFold (segs ls) (cntT (64 * x - 4) (64 * y - 4) (64 * x + 68) (64 * y + 68) (segs ls)) (sqs x y)

section
variable {w : World} {A : Option Addr} {c : Nat} {ls : List (List Dt)} {x y : Int}
set_option maxRecDepth 20000 in
set_option maxHeartbeats 8000000 in
theorem rTally_any (h : Dl w A ls) (hn : ls.length ≤ 1000) (hc : cnt ls ≤ 1000) (hm : mayL ls = true) (hx : -16384 ≤ x ∧ x ≤ 16384) (hy : -16384 ≤ y ∧ y ≤ 16384) :
    Calls Try.prog 37 #[.slice A ls.length c, .int .i64 x, .int .i64 y] w fun e w' => e = .returned (tyV (rTally ls x y)) ∧ Below w.heap.size w w' := by
  obtain ⟨W1, hW1⟩ : ∃ W1, ((w.alloc (.cells #[.int .i64 0, .int .i64 0, .int .i64 0, .int .i64 0, .int .i64 0] 75)).alloc (.cells #[.int .i64 0, .int .i64 0, .int .i64 0, .int .i64 0, .int .i64 0] 75)) = W1 := ⟨_, rfl⟩
  obtain ⟨s, hs⟩ : ∃ s, w.heap.size = s := ⟨_, rfl⟩
  have HB1 : Hid (Bel w.heap.size w W1) := Lib.hid (by rw [← hW1]; exact bel_alloc (bel_alloc bel_refl))
  have HR1 : Hid (Blk W1 s 75 [.int .i64 0, .int .i64 0, .int .i64 0, .int .i64 0, .int .i64 0]) := Lib.hid (by rw [← hW1, ← hs]; exact (Blk.new w _ _).alloc _)
  have HT1 : Hid (Blk W1 (s + 1) 75 [.int .i64 0, .int .i64 0, .int .i64 0, .int .i64 0, .int .i64 0]) := Lib.hid (by rw [← hW1, ← hs]; exact Blk.newAt _ _ [.int .i64 0, .int .i64 0, .int .i64 0, .int .i64 0, .int .i64 0] (by simp))
  have hz1 : W1.heap.size = s + 2 := by rw [← hW1, ← hs]; simp
  have hT4 := HT1.out.cell 4
  have fT4 := HT1.out.frozen 4
  simp at hT4
  have KT := fun (b0 b1 b2 b3 : Int) (W : World) (hb : Below w.heap.size w W) => rtouched_any (c := c) (b0 := b0) (b1 := b1) (b2 := b2) (b3 := b3) (h.keep hb) hn hc
  have KW := fun (u v : Int) (hu : fit2 u = true) (hv : fit2 v = true) (W : World) (hb : Below w.heap.size w W) => rWinding_any (c := c) (x := u) (y := v) (h.keep hb) hn hc hm hu hv
  have hlines := cntT_le (64 * x - 4) (64 * y - 4) (64 * x + 68) (64 * y + 68) (segs ls)
  rw [segs_len] at hlines
  obtain ⟨n0, hn0⟩ : ∃ n0, cntT (64 * x - 4) (64 * y - 4) (64 * x + 68) (64 * y + 68) (segs ls) = n0 := ⟨_, rfl⟩
  rw [hn0] at hlines
  have KL := KT (64 * x - 4) (64 * y - 4) (64 * x + 68) (64 * y + 68)
  rw [hn0] at KL
  have HN0 := Lib.hid hn0
  replace KT := Lib.hid KT
  replace KW := Lib.hid KW
  replace KL := Lib.hid KL
  have HS := Lib.hid hs
  clear h hm hn0
  go_enter Try.func37, Try.ntmps37
  go_wp2_with (first
    | (go_at_call 70; (with_reducible refine (KL.out _ HB1.out.below).mono ?_); rintro e w2 ⟨rfl, hb2⟩
       have HB2 := Lib.hid hb2
       have HT2 := Lib.hid (HT1.out.keepB hb2)
       have hT4' := HT2.out.cell 4
       have fT4' := HT2.out.frozen 4
       simp at hT4'
       clear hb2))
  have h0 : Blk (w2.setCell ⟨s + 1, 4, none⟩ (.int .i64 n0)) (s + 1) 75 (Ty.five ⟨0, 0, 0, 0, n0, false⟩) := HT2.out.set 4 (.int .i64 n0)
  have hb0 : Below (s + 1) W1 (w2.setCell ⟨s + 1, 4, none⟩ (.int .i64 n0)) := Below.setCell (p := ⟨s + 1, 4, none⟩) (HB2.out.mono (show s + 1 ≤ W1.heap.size by omega)) (Nat.le_refl _) _
  have H0 := Lib.hid h0
  have HBB := Lib.hid hb0
  clear hW1 hT4 fT4 hT4' fT4' h0 hb0 KL hs
  go_loopw [8, 9] (fun fi j wr => ∃ k : Nat, k ≤ 16 ∧ j = .int .i64 k ∧ ∃ t : Ty, Hid (t = rFold (segs ls) n0 ((sqRows x y).take k).flatten) ∧ fi = .bool (!t.plain) ∧ Hid (Blk wr (s + 1) 75 t.five) ∧ Hid (Below (s + 1) W1 wr)) (fun _ j _ => 16 - (intOf j).toNat)
  case atStart => exact ⟨0, Nat.zero_le _, rfl, ⟨0, 0, 0, 0, n0, false⟩, Lib.hid rfl, rfl, H0, HBB⟩
  case round =>
    obtain ⟨k, hk, rfl, t, HT, rfl, HBT, HB⟩ := hrel
    by_cases hlt : k < 16
    · have hk16 : (k : Int) < 16 := by omega
      go_wp2_with fail
      go_loopw [8, 10] (fun fi i wq => ∃ j : Nat, j ≤ 16 ∧ i = .int .i64 j ∧ ∃ t : Ty, Hid (t = rFold (segs ls) n0 (((sqRows x y).take k).flatten ++ (sqRow x y k).take j)) ∧ fi = .bool (!t.plain) ∧ Hid (Blk wq (s + 1) 75 t.five) ∧ Hid (Below (s + 1) W1 wq)) (fun _ i _ => 16 - (intOf i).toNat)
      case atStart => exact ⟨0, Nat.zero_le _, rfl, t, by simpa using HT, rfl, HBT, HB⟩
      case round =>
        obtain ⟨j, hj, rfl, t, HT, rfl, HBT, HB⟩ := hrel
        by_cases hlt2 : j < 16
        · have hj16 : (j : Int) < 16 := by omega
          obtain ⟨u, hu⟩ : ∃ u, 64 * x + 4 * (j : Int) = u := ⟨_, rfl⟩
          obtain ⟨v, hv⟩ : ∃ v, 64 * y + 4 * (k : Int) = v := ⟨_, rfl⟩
          have hsq : (sqRow x y k)[j]? = some (u, v) := by rw [sqRow_at hlt2, hu, hv]
          have hpre := prefix_flat (sqRows_at hlt) hsq
          have hlen := hpre.length_le
          rw [show (sqRows x y).flatten = sqs x y from rfl, sqs_len, List.length_append] at hlen
          have hbd := rFold_bd (segs ls) n0 (((sqRows x y).take k).flatten ++ (sqRow x y k).take j)
          have hsn := rFold_snoc (segs ls) n0 (((sqRows x y).take k).flatten ++ (sqRow x y k).take j) (u, v)
          rw [← HT.out] at hbd hsn
          rw [List.append_assoc, ← take_snoc hsq] at hsn
          have hub : -1048576 ≤ u ∧ u ≤ 1048636 := by omega
          have hvb : -1048576 ≤ v ∧ v ≤ 1048636 := by omega
          have hww : Below w.heap.size w wr := HB1.out.below.trans (HB.out.mono (by have := HS.out; omega))
          have HWW := Lib.hid hww
          have K1 := KT.out u v (u + 4) (v + 4) wr hww
          have K2 := fun W hb => KW.out (u + 2) (v + 2) (fit2_true.2 (by omega)) (fit2_true.2 (by omega)) W hb
          have hst : rStep (segs ls) t (u, v) = if 0 < cntT u v (u + 4) (v + 4) (segs ls) then { t with touched := t.touched + 1 } else t.square (windN (u + 2) (v + 2) (segs ls)) := rfl
          rw [hst] at hsn
          obtain ⟨N, hN⟩ : ∃ N, cntT u v (u + 4) (v + 4) (segs ls) = N := ⟨_, rfl⟩
          obtain ⟨n, hn'⟩ : ∃ n, windN (u + 2) (v + 2) (segs ls) = n := ⟨_, rfl⟩
          have hNl := cntT_le u v (u + 4) (v + 4) (segs ls)
          rw [segs_len, hN] at hNl
          rw [hN] at K1 hsn
          rw [hn'] at K2 hsn
          have HSN := Lib.hid hsn
          have HHT := HT
          obtain ⟨ta, tbi, tm, tl, tli, tp⟩ := t
          dsimp only at hbd
          have htb : 0 ≤ ta ∧ ta ≤ 256 ∧ 0 ≤ tbi ∧ tbi ≤ 256 := by simp only [List.length_singleton] at hlen; omega
          replace K1 := Lib.hid K1
          replace K2 := Lib.hid K2
          clear hsq hpre hlen hbd hsn hst hN hn' hww HT
          have hbq := HBT.out
          have k0 := hbq.cell 0
          have k1 := hbq.cell 1
          have f0 := hbq.frozen 0
          have hwl := HB.out.size
          have hql := hbq.lt
          simp [Ty.five] at k0 k1
          clear hbq
          rcases Nat.eq_zero_or_pos N with hN0 | hN0
          · subst hN0
            rw [if_neg (by decide)] at HSN
            obtain ⟨b2, hb2⟩ : ∃ b2 : Int, (if n = 0 then tbi else tbi + 1) = b2 := ⟨_, rfl⟩
            obtain ⟨m2v, hm2⟩ : ∃ m2v : Int, (if tp = true then max tm n else n) = m2v := ⟨_, rfl⟩
            obtain ⟨l2, hl2⟩ : ∃ l2 : Int, (if tp = true then min tl n else n) = l2 := ⟨_, rfl⟩
            have E2 : Hid (Ty.square ⟨ta, tbi, tm, tl, tli, tp⟩ n = ⟨ta, b2, m2v, l2, tli, true⟩) := Lib.hid (by rw [← hb2, ← hm2, ← hl2]; rfl)
            have HB2' := Lib.hid hb2
            have HM2 := Lib.hid hm2
            have HL2 := Lib.hid hl2
            clear hb2 hm2 hl2
            go_upto_if 73 with (first
              | (go_at_call 70; (with_reducible refine K1.out.mono ?_); rintro e w3 ⟨rfl, hb3⟩
                 have HW3 := Lib.hid (HWW.out.trans (hb3.mono (by have := HS.out; omega)))
                 have HB3 := Lib.hid (HB.out.trans (hb3.mono (by omega)))
                 have HT3 := Lib.hid (HBT.out.keepB hb3)
                 clear hb3)
              | (go_at_call 33; (with_reducible refine (K2.out _ HW3.out).mono ?_); rintro e w4 ⟨rfl, hb4⟩
                 have hz3 := HB3.out.size
                 have HB4 := Lib.hid (HB3.out.trans (hb4.mono (by omega)))
                 have hq4 := HT3.out.keepB hb4
                 have HT4 := Lib.hid hq4
                 have m1 := hq4.cell 1
                 have m2 := hq4.cell 2
                 have m3 := hq4.cell 3
                 have g1 := hq4.frozen 1
                 have g2 := hq4.frozen 2
                 have g3 := hq4.frozen 3
                 simp [Ty.five] at m1 m2 m3
                 clear hb4 hq4))
            go_cut [] (fun wx => Hid (Blk wx (s + 1) 75 [.int .i64 ta, .int .i64 b2, .int .i64 tm, .int .i64 tl, .int .i64 tli]) ∧ Hid (Below (s + 1) W1 wx))
            case first =>
              by_cases hn : n = 0
              · have e := HB2'.out
                rw [if_pos hn] at e
                subst e
                have hn2 : (n != 0) = false := by simpa using hn
                go_wp2_with fail
                go_meet
                exact ⟨HT4, HB4⟩
              · have e := HB2'.out
                rw [if_neg hn] at e
                subst e
                have hn2 : (n != 0) = true := by simpa using hn
                go_wp2_with fail
                go_meet
                exact ⟨Lib.hid (HT4.out.set 1 (.int .i64 (tbi + 1))), Lib.hid (Below.setCell (p := ⟨s + 1, 1, none⟩) HB4.out (Nat.le_refl _) _)⟩
            case rest =>
              obtain ⟨HT5, HB5⟩ := hcut
              clear m1 m2 m3 g1 g2 g3
              have m2 := HT5.out.cell 2
              have g2 := HT5.out.frozen 2
              simp at m2
              go_upto_region 16 with fail
              go_cut [84] (fun q wx => q = .bool (!tp || decide (tm < n)) ∧ wx = wc)
              case first =>
                cases tp
                all_goals
                  go_wp2_with fail
                all_goals go_meet
                all_goals exact ⟨congrArg Value.bool (by simp), rfl⟩
              case rest =>
                obtain ⟨rfl, rfl⟩ := hcut
                have hB1 : (!tp || decide (tm < n)) = true → m2v = n := by
                  intro h
                  rw [← HM2.out]
                  cases tp
                  · simp
                  · simp at h ⊢; omega
                have hB2 : (!tp || decide (tm < n)) = false → m2v = tm := by
                  intro h
                  rw [← HM2.out]
                  cases tp
                  · simp at h
                  · simp at h ⊢; omega
                generalize (!tp || decide (tm < n)) = B at *
                go_upto_if 84 with fail
                go_cut [] (fun wx => Hid (Blk wx (s + 1) 75 [.int .i64 ta, .int .i64 b2, .int .i64 m2v, .int .i64 tl, .int .i64 tli]) ∧ Hid (Below (s + 1) W1 wx))
                case first =>
                  cases B
                  · have h1 := hB2 rfl
                    clear hB1 hB2
                    subst h1
                    go_wp2_with fail
                    go_meet
                    exact ⟨HT5, HB5⟩
                  · have h1 := hB1 rfl
                    clear hB1 hB2
                    subst h1
                    go_wp2_with fail
                    go_meet
                    exact ⟨Lib.hid (HT5.out.set 2 _), Lib.hid (Below.setCell (p := ⟨s + 1, 2, none⟩) HB5.out (Nat.le_refl _) _)⟩
                case rest =>
                  obtain ⟨HT6, HB6⟩ := hcut
                  clear hB1 hB2
                  clear m2 g2
                  have m3 := HT6.out.cell 3
                  have g3 := HT6.out.frozen 3
                  simp at m3
                  go_upto_region 18 with fail
                  go_cut [93] (fun q wx => q = .bool (!tp || decide (n < tl)) ∧ wx = wc)
                  case first =>
                    cases tp
                    all_goals
                      go_wp2_with fail
                    all_goals go_meet
                    all_goals exact ⟨congrArg Value.bool (by simp), rfl⟩
                  case rest =>
                    obtain ⟨rfl, rfl⟩ := hcut
                    have hB1 : (!tp || decide (n < tl)) = true → l2 = n := by
                      intro h
                      rw [← HL2.out]
                      cases tp
                      · simp
                      · simp at h ⊢; omega
                    have hB2 : (!tp || decide (n < tl)) = false → l2 = tl := by
                      intro h
                      rw [← HL2.out]
                      cases tp
                      · simp at h
                      · simp at h ⊢; omega
                    generalize (!tp || decide (n < tl)) = B at *
                    go_upto_if 93 with fail
                    go_cut [] (fun wx => Hid (Blk wx (s + 1) 75 [.int .i64 ta, .int .i64 b2, .int .i64 m2v, .int .i64 l2, .int .i64 tli]) ∧ Hid (Below (s + 1) W1 wx))
                    case first =>
                      cases B
                      · have h1 := hB2 rfl
                        clear hB1 hB2
                        subst h1
                        go_wp2_with fail
                        go_meet
                        exact ⟨HT6, HB6⟩
                      · have h1 := hB1 rfl
                        clear hB1 hB2
                        subst h1
                        go_wp2_with fail
                        go_meet
                        exact ⟨Lib.hid (HT6.out.set 3 _), Lib.hid (Below.setCell (p := ⟨s + 1, 3, none⟩) HB6.out (Nat.le_refl _) _)⟩
                    case rest =>
                      obtain ⟨HT7, HB7⟩ := hcut
                      clear hB1 hB2 m3 g3
                      go_wp2_with fail
                      go_roundw
                      case rel => exact ⟨j + 1, by omega, by go_num, ⟨ta, b2, m2v, l2, tli, true⟩, Lib.hid (by rw [HSN.out, E2.out]), rfl, HT7, HB7⟩
                      case measure => simp [intOf]; omega
          · have hN1 : (0 : Int) < N := by omega
            rw [if_pos hN0] at HSN
            go_wp2_with (first
              | (go_at_call 70; (with_reducible refine K1.out.mono ?_); rintro e w3 ⟨rfl, hb3⟩
                 have HB3 := Lib.hid (HB.out.trans (hb3.mono (by omega)))
                 have hq3 := HBT.out.keepB hb3
                 have HT3 := Lib.hid hq3
                 have m0 := hq3.cell 0
                 have g0 := hq3.frozen 0
                 simp [Ty.five] at m0
                 clear hb3 hq3))
            go_roundw
            case rel => exact ⟨j + 1, by omega, by go_num, _, Lib.hid HSN.out.symm, rfl, Lib.hid (HT3.out.set 0 (.int .i64 (ta + 1))), Lib.hid (Below.setCell (p := ⟨s + 1, 0, none⟩) HB3.out (Nat.le_refl _) _)⟩
            case measure => simp [intOf]; omega
        · obtain rfl : j = 16 := by omega
          have HT3 : Hid (t = rFold (segs ls) n0 ((sqRows x y).take (k + 1)).flatten) := Lib.hid (by
            have := HT.out
            rw [show (sqRow x y k).take 16 = sqRow x y k from List.take_of_length_le (Nat.le_of_eq (by unfold sqRow; rw [List.length_map, List.length_range]))] at this
            rw [flat_snoc (sqRows_at hlt)]
            exact this)
          go_wp2_with fail
          go_roundw
          case rel => exact ⟨k + 1, by omega, by go_num, t, HT3, rfl, HBT, HB⟩
          case measure => simp [intOf]; omega
    · obtain rfl : k = 16 := by omega
      have ht : t = rTally ls x y := by
        have := HT.out
        rw [List.take_of_length_le (Nat.le_of_eq (by unfold sqRows; rw [List.length_map, List.length_range]))] at this
        rw [this]
        unfold rTally
        rw [HN0.out]
        rfl
      have hbq := HBT.out
      have hbr := HR1.out.below HB.out (Nat.lt_succ_self _)
      have k0 := hbq.cell 0
      have k1 := hbq.cell 1
      have k2 := hbq.cell 2
      have k3 := hbq.cell 3
      have k4 := hbq.cell 4
      have r0 := hbr.cell 0
      have r1 := hbr.cell 1
      have r2 := hbr.cell 2
      have r3 := hbr.cell 3
      have r4 := hbr.cell 4
      have f0 := hbr.frozen 0
      have f1 := hbr.frozen 1
      have f2 := hbr.frozen 2
      have f3 := hbr.frozen 3
      have f4 := hbr.frozen 4
      have HTT := Lib.hid ht
      clear ht hbq hbr
      obtain ⟨ta, tbi, tm, tl, tli, tp⟩ := t
      simp [Ty.five] at k0 k1 k2 k3 k4 r0 r1 r2 r3 r4
      have hss := HS.out
      have HWW := Lib.hid (HB1.out.below.trans (HB.out.mono (show w.heap.size ≤ s + 1 by omega)))
      go_wp2_with fail
      refine bodyPost_ret (v := tyV ⟨ta, tbi, tm, tl, tli, tp⟩) ?_ rfl ⟨by rw [HTT.out], ?_⟩
      · unfold tyV; simp [results, Try.results37, go_sem, *]
      · exact ((((HWW.out.setCell (by show w.heap.size ≤ s; omega) _).setCell (by show w.heap.size ≤ s; omega) _).setCell (by show w.heap.size ≤ s; omega) _).setCell (by show w.heap.size ≤ s; omega) _).setCell (by show w.heap.size ≤ s; omega) _
end
end Go.Proofs.Ytnmnehgcliiofaa
