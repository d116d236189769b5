/-
  index.Load, behind a head that may be.
-/
import Derived.Test.YtbmflgcahbkdeaaIdxJ
import Derived.Deep.DeepCutAuto
namespace Go.Proofs.Ytbmflgcahbkdeaa
open Go.RowKit

set_option maxHeartbeats 1000000 in
theorem clone_b (w : World) (A : Option Addr) (n c : Nat) (bs : List UInt8) (h : SlAt w A n (bs.map byteV)) (hn : n ≤ 140737488355328) :
    Calls Try.prog 57 #[.slice A n c] w fun e w' => ∃ A' c', e = .returned (.slice A' n c') ∧ SlAt w' A' n (bs.map byteV) ∧ Below w.heap.size w w' ∧ (∀ k, rowOf A' = some k → w.heap.size ≤ k ∧ k < w'.heap.size) ∧ n ≤ c' := by
  obtain ⟨i0, hi0, hz0, hz1, hz2⟩ := info_parts u8_info
  rcases A with _ | a
  · have hn0 : n = 0 := by
      rcases Nat.eq_zero_or_pos n with h0 | h0
      · exact h0
      · obtain ⟨b, o, hA, _⟩ := h.2 0 h0
        cases hA
    subst hn0
    have HS := Lib.hid h
    clear h
    go_enter Try.func57, Try.ntmps57
    go_wp2
    go_ret
    exact ⟨none, 0, rfl, HS.out, bel_refl.below, (by intro k hk; cases hk), Nat.le_refl _⟩
  · have HS := Lib.hid h
    clear h
    go_enter Try.func57, Try.ntmps57
    have HR := Lib.hid ((HS.out.keep (w' := w.alloc (.cells #[] 5)) (bel_alloc bel_refl).below).reads)
    go_wp2_with (at_builtin; refine wpList_append_any _ (by rfl) (.tmp 5) (.tmp 6) _ (by rfl) w.heap.size 5 i0 _ 1 1 Try.underlying22 hi0 hz0 hz1 hz2 rfl (by omega) _ 0 [] (by rfl) (own_empty w _) _ _ _ _ _ (by rfl) HR.out (bytes_one _) (by unfold maxLen; omega) (by omega) (by simp) ?_; intro v' w' hown hgrow hat)
    have hlt := own_lt hown
    obtain ⟨A', c', rfl, hs, hge, hcap⟩ := of_ownC hown
    rw [ownBlock_slice] at hlt
    go_ret
    rw [Nat.zero_add] at *
    refine ⟨A', c', rfl, hs, ?_, fun k hk => ?_, hcap⟩
    · exact (bel_alloc bel_refl).below.trans ⟨hgrow.os, hgrow.tape, hgrow.output, hgrow.size, fun k hk => hgrow.block k (by simp; omega) (by simp [Value.ownBlock]; omega)⟩
    · exact hlt k hk

set_option maxHeartbeats 1000000 in
theorem rTake_c {w : World} {r : Nat} {bs : List UInt8} {p : Nat} {A : Option Addr} {c : Nat} (h : Rd w r bs p false A c) (n : Nat) (h2 : p + n ≤ bs.length) :
    Calls Try.prog 46 #[.pointer (some ⟨r, 0, none⟩), .int .i64 n] w fun e w' => ∃ A' c', e = .returned (.slice A' n c') ∧ SlAt w' A' n (((bs.drop p).take n).map byteV) ∧
      Rd w' r bs (p + n) false A c ∧ Turn w w' r none ∧ (∀ k, rowOf A' = some k → w.heap.size ≤ k ∧ k < w'.heap.size) ∧ n ≤ c' := by
  have hN := next_ok w r bs p A c n h h2
  have hn : n ≤ 140737488355328 := by have := h.small; omega
  go_enter Try.func46, Try.ntmps46
  go_wp2_with (first | (go_at_call 76; refine hN.mono ?_; rintro e w1 ⟨A1, c1, rfl, hs1, hc1, hro, hr, ht⟩; have HS := Lib.hid hs1; have HR := Lib.hid hr; have HT := Lib.hid ht; clear hr ht hs1) | (go_at_call 57; refine (clone_b _ _ _ _ _ HS.out hn).mono ?_; rintro e w2 ⟨A2, c2, rfl, hs, hb2, hg, hc2⟩))
  go_ret
  exact ⟨A2, c2, rfl, hs, HR.out.keep hb2, HT.out.trans (Turn.of_below hb2) (.inl rfl), fun k hk => ⟨Nat.le_trans HT.out.size (hg k hk).1, (hg k hk).2⟩, hc2⟩

theorem ix_of {w : World} {g : Nat} {bs : List UInt8} {A Ao : Option Addr} {c co n z m q sz : Nat} (hn : ixN bs = n) (hz : ixS bs = z) (hq : (n + 1) * z = q) (h0 : n ≠ 0) (hn16 : n ≤ 65535) (hsm : bs.length ≤ 140737488355328) (hfit : 3 + q + m ≤ bs.length)
    (hm : offAt bs 3 z n = m + 1) (hpos : ∀ i, i ≤ n → 1 ≤ offAt bs 3 z i) (hmono : ∀ i, i < n → offAt bs 3 z i ≤ offAt bs 3 z (i + 1)) (hsz : sz = 3 + q + m)
    (hblk : Blk w g 83 [.slice A m c, .slice Ao (n + 1) co, .int .i64 sz]) (hs : SlAt w A m (((bs.drop (3 + q)).take m).map byteV)) (hc : m ≤ c) (hrow : ∀ k, rowOf A = some k → k < w.heap.size)
    (ho : SlAt w Ao (n + 1) ((offList bs 3 z (n + 1)).map (Value.int .i64))) :
    Ix w g (ixLists bs) (ixBytes bs) A c ((bs.drop (3 + q)).take m) Ao co ((List.range (n + 1)).map (offAt bs 3 z)) := by
  have hl : ((bs.drop (3 + q)).take m).length = m := by simp; omega
  have hlo : ((List.range (n + 1)).map (offAt bs 3 z)).length = n + 1 := by simp
  have hll : (ixLists bs).length = n := by simp [ixLists, hn]
  have get : ∀ i, i ≤ n → ((List.range (n + 1)).map (offAt bs 3 z))[i]?.getD 0 = offAt bs 3 z i := fun i hi => by
    rw [List.getElem?_map, List.getElem?_range (by omega)]; rfl
  have up : ∀ i j, i ≤ j → j ≤ n → offAt bs 3 z i ≤ offAt bs 3 z j := by
    intro i j hij
    induction j with
    | zero => intro _; obtain rfl : i = 0 := by omega
              exact Nat.le_refl _
    | succ j ih =>
      intro hj
      rcases Nat.lt_or_ge i (j + 1) with h | h
      · exact Nat.le_trans (ih (by omega) (by omega)) (hmono j (by omega))
      · obtain rfl : i = j + 1 := by omega
        exact Nat.le_refl _
  subst hsz
  refine ⟨?_, ⟨by rw [hl]; exact hs, by rw [hl]; exact hc, by rw [hl]; omega, hrow⟩, ?_, ?_, ?_, ?_, ?_, ?_, ?_, ?_⟩
  · rw [hl, hlo, ixBytes, hn, if_neg h0, ixBase, hn, hz, hq, ixO, hz, hm]
    exact hblk
  · rw [hlo]
    refine ⟨by simp, fun k hk => ?_⟩
    obtain ⟨b, o, hA, hb, hcell⟩ := ho.2 k hk
    refine ⟨b, o, hA, hb, ?_⟩
    rw [hcell]
    simp [offList]
    rfl
  · rw [hlo, hll]
  · rw [hlo]; omega
  · rw [ixBytes, hn, if_neg h0, ixBase, hn, hz, hq, ixO, hz, hm]; omega
  · intro i hi
    rw [hlo] at hi
    rw [get i (by omega)]
    exact hpos i (by omega)
  · intro i hi
    rw [hll] at hi
    rw [get i (by omega), get (i + 1) (by omega)]
    exact hmono i hi
  · intro i hi
    rw [hlo] at hi
    rw [get i (by omega), hl]
    have := up i n (by omega) (Nat.le_refl _)
    omega
  · intro i hi
    rw [hll] at hi
    rw [get i (by omega), get (i + 1) (by omega)]
    have h1 := up (i + 1) n (by omega) (Nat.le_refl _)
    have h2 := hpos i (by omega)
    have h3 := hmono i hi
    rw [ixLists, hn, List.getElem?_map, List.getElem?_range hi]
    simp only [Option.map_some, Option.some.injEq, ixO, ixBase, hn, hz, hq]
    rw [List.drop_take, List.drop_drop, List.take_take, Nat.min_eq_left (by omega)]

set_option maxHeartbeats 4000000 in
theorem Load_rest (w : World) (A : Option Addr) (bs : List UInt8) (c : Nat) (h : Bs w A bs c) (h0 : ixN bs ≠ 0) (hh : ixHeadOk bs = true) :
    Calls Try.prog 13 #[.slice A bs.length c] w (IxPost bs w) := by
  have hsm := h.small
  have H := Lib.hid h
  obtain ⟨n, hn⟩ : ∃ n, ixN bs = n := ⟨_, rfl⟩
  obtain ⟨z, hz⟩ : ∃ z, ixS bs = z := ⟨_, rfl⟩
  have hn2 : (n : Int) ≤ 65535 := by rw [← hn]; exact nAt_lt2 bs 0
  have hHH := hh
  simp only [ixHeadOk, ixBase, hn, hz] at hHH
  simp at hHH
  obtain ⟨h1, h2, h3, h4⟩ := hHH
  have HOK0 : Hid (ixOk bs = (offGood bs 3 z n && decide (3 + (n + 1) * z + (offAt bs 3 z n - 1) ≤ bs.length))) := Lib.hid (by
    simp only [ixOk, ixGood, hh, ixBase, ixO, hn, hz, Bool.true_and]
    have e1 : decide (2 ≤ bs.length) = true := by simp; omega
    have e2 : decide (n = 0) = false := by rw [hn] at h0; simp [h0]
    rw [e1, e2, Bool.true_and, Bool.false_or])
  rw [hn] at h0
  have hb0 : ((n : Int) == 0) = false := by simp; omega
  have HN : Hid (nAt bs 0 2 = n) := Lib.hid hn
  have HZ : Hid (nAt bs 2 1 = z) := Lib.hid hz
  obtain ⟨q, hq, hq0⟩ : ∃ q : Nat, (n + 1) * z = q ∧ q ≤ 262144 := ⟨_, rfl, Nat.mul_le_mul (show n + 1 ≤ 65536 by omega) h3⟩
  have hqi : wrap64 (((n : Int) + 1) * (z : Int)) = (q : Int) := by
    have e : ((n : Int) + 1) * z = (((n + 1) * z : Nat) : Int) := by simp
    rw [e, hq]
    exact IntWalk.wrap64_in _ ⟨by omega, by omega⟩
  rw [hq] at h4 HOK0
  have HQ := Lib.hid hq
  have h5 : (q : Int) ≤ (bs.length : Int) - 3 := by omega
  have hn16 : n ≤ 65535 := by omega
  clear hq h hh hn hz
  go_enter Try.func13, Try.ntmps13
  go_wp2_with (first
    | (go_at_call 39; (with_reducible refine (new_G w bs A c H.out.sl H.out.cap H.out.small H.out.row).mono ?_); rintro e w1 ⟨r, hr, rfl, hr1, hb1⟩; have HR1 := Lib.hid hr1; have HT1 := Lib.hid (hb1); have HL := Lib.hid hr; clear hr1 hb1 hr)
    | (go_at_call 40; (with_reducible refine (rU16_p HR1.out (by omega)).mono ?_); rintro e w2 ⟨rfl, hr2, ht2⟩; rw [HN.out]; have HR2 := Lib.hid hr2; have HT2 := Lib.hid (HT1.out.trans (ht2.below HT1.out.size HL.out (by intro k e; cases e))); clear hr2 ht2)
    | (go_at_call 41; (with_reducible refine (rdone_W _ _ _ _ _ _ _ HR2.out).mono ?_); rintro e w3 ⟨rfl, rfl⟩)
    | (go_at_call 43; (with_reducible refine (rU8_p HR2.out (by omega)).mono ?_); rintro e w4 ⟨rfl, hr4, ht4⟩; rw [HZ.out]; have HR4 := Lib.hid hr4; have HT4 := Lib.hid (HT2.out.trans (ht4.below HT2.out.size HL.out (by intro k e; cases e))); clear hr4 ht4)
    | (go_at_call 44; (with_reducible refine (rleft_p HR4.out).mono ?_); rintro e w5 ⟨rfl, hb5⟩; have HR5 := Lib.hid (HR4.out.keep hb5); have HT5 := Lib.hid (HT4.out.trans (hb5.mono HT4.out.size)); clear hb5)
    | (go_at_call 45; (with_reducible refine (offsets_any w5 r bs 3 z n A c HR5.out (fun k hk => Nat.lt_of_lt_of_le (H.out.row k hk) HT5.out.size) hn16 h2 h3 (by rw [HQ.out]; omega)).mono ?_); rintro e w6 ⟨ht6, hd6⟩
       have HT6 := Lib.hid (HT5.out.trans (ht6.below HT5.out.size HL.out (by intro k e; cases e)))
       clear ht6
       rcases hd6 with ⟨hg, A6, c6, rfl, ho6, hr6⟩ | ⟨hg, rfl⟩))
  · obtain ⟨b, o, rfl, hb, hc⟩ := ho6.sl.2 n (by omega)
    obtain ⟨g0, g1⟩ := (offGood_iff _ _ _ _).1 hg
    have gpos : ∀ i, i ≤ n → 1 ≤ offAt bs 3 z i := by
      intro i
      induction i with
      | zero => intro _; omega
      | succ i ih => intro hi; have := g1 i (by omega); have := ih (by omega); omega
    obtain ⟨m, hm⟩ : ∃ m, offAt bs 3 z n = m + 1 := ⟨offAt bs 3 z n - 1, by have := gpos n (Nat.le_refl _); omega⟩
    have hc' : w6.cell? ⟨b, o + n, none⟩ = some (.int .i64 ((m : Int) + 1)) := by
      rw [hc, List.getElem?_map, offList, List.getElem?_map, List.getElem?_range (by omega)]
      simp [hm]
    have hml : (m : Int) ≤ 4294967295 := by
      have h1 := nAt_lt bs (3 + n * z) z
      have h2 : 256 ^ z ≤ 256 ^ 4 := Nat.pow_le_pow_right (by omega) h3
      have e : (256 : Nat) ^ 4 = 4294967296 := by decide
      have : offAt bs 3 z n = nAt bs (3 + n * z) z := rfl
      omega
    rw [HQ.out] at hr6
    have HR6 := Lib.hid hr6
    have HO6 := Lib.hid ho6
    have HG := Lib.hid hg
    have HGP := Lib.hid gpos
    have HG1 := Lib.hid g1
    have HM := Lib.hid hm
    have HOK : Hid (ixOk bs = decide (3 + q + m ≤ bs.length)) := Lib.hid (by rw [HOK0.out, hg, hm]; simp)
    clear hr6 ho6 hg gpos g0 g1 hc hm
    rcases Int.lt_or_le ((bs.length : Int) - ((3 + q : Nat) : Int)) m with hfit | hfit
    · have HOK2 : Hid (ixOk bs = false) := Lib.hid (by rw [HOK.out]; simp; omega)
      refine wp_region_bw_lit (by kernel_rfl) (by kernel_rfl) ?_
      repeat (go_big_quiet_step ((go_at_call 44; exact Calls.bw_of (rleft_p (HR6.out.keep (BW.prop _))))))
      refine wpQuiet_nil ?_
      rintro _ ⟨u, rfl⟩
      have hbu := u.prop
      have hzu := u.prop.size
      try simp at hzu
      go_wp2
      go_ret2
      exact ⟨HT6.out.trans (hbu.mono HT6.out.size), .inr ⟨HOK2.out, rfl⟩⟩
    · have HOK2 : Hid (ixOk bs = true) := Lib.hid (by rw [HOK.out]; simp; omega)
      have hfit2 : 3 + q + m ≤ bs.length := by omega
      refine wp_region_bw_lit (by kernel_rfl) (by kernel_rfl) ?_
      repeat (go_big_quiet_step ((go_at_call 44; exact Calls.bw_of (rleft_p (HR6.out.keep (BW.prop _))))))
      refine wpQuiet_nil ?_
      rintro _ ⟨u, rfl⟩
      have hbu := u.prop
      have hzu := u.prop.size
      try simp at hzu
      have HR7 := Lib.hid (HR6.out.keep hbu)
      have HO7 := Lib.hid (HO6.out.keep hbu)
      have HT7 := Lib.hid (HT6.out.trans (hbu.mono HT6.out.size))
      go_wp2_with (first
        | (go_at_call 46; (with_reducible refine (rTake_c HR7.out m hfit2).mono ?_); rintro e w8 ⟨A8, c8, rfl, hs8, hr8, ht8, hrow8, hc8⟩
           have HS8 := Lib.hid hs8
           have HR8 := Lib.hid hr8
           have HRW := Lib.hid hrow8
           have HC8 := Lib.hid hc8
           have HO8 := Lib.hid (HO7.out.turn ht8 (Nat.lt_succ_of_lt HR5.out.blk.lt))
           have HT8 := Lib.hid (HT7.out.trans (ht8.below HT7.out.size HL.out (by intro k e; cases e)))
           clear hs8 hr8 ht8 hrow8 hc8)
        | (go_at_call 42; (with_reducible refine (at_W _ _ _ _ _ _ _ HR8.out).mono ?_); rintro e w9 ⟨rfl, rfl⟩))
      go_ret2
      refine ⟨(bel_alloc ⟨HT8.out, HT8.out.size⟩).below, .inl ⟨HOK2.out, w8.heap.size, A8, c8, (bs.drop (3 + q)).take m, some ⟨b, o, none⟩, c6, (List.range (n + 1)).map (offAt bs 3 z), rfl, ?_⟩⟩
      exact ix_of HN.out HZ.out HQ.out h0 hn16 hsm hfit2 HM.out HGP.out HG1.out rfl (Blk.to (Blk.newAt _ _ [_, _, _] rfl) (by simp)) (HS8.out.keep (bel_alloc bel_refl).below) HC8.out (fun k hk => Nat.lt_of_lt_of_le (HRW.out k hk).2 (by simp)) (HO8.out.sl.keep (bel_alloc bel_refl).below)
  · have HOK : Hid (ixOk bs = false) := Lib.hid (by rw [HOK0.out, hg]; rfl)
    go_quiet (fail)
    go_wp2
    go_ret2
    exact ⟨below_drewN HT6.out _, .inr ⟨HOK.out, rfl⟩⟩

end Go.Proofs.Ytbmflgcahbkdeaa
