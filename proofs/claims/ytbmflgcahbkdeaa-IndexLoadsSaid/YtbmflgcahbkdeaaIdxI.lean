/-
  index.offsets, for each size.
-/
import Derived.Test.YtbmflgcahbkdeaaIdxH
namespace Go.Proofs.Ytbmflgcahbkdeaa
open Go.RowKit

set_option maxRecDepth 20000 in
set_option maxHeartbeats 4000000 in
theorem offsets_1 (w : World) (r : Nat) (bs : List UInt8) (pos size n : Nat) (A : Option Addr) (c : Nat) (h : Rd w r bs pos false A c) (hA : ∀ k, rowOf A = some k → k < w.heap.size) (hn : n ≤ 65535) (hs : size ≤ 4) (hp : pos + (n + 1) * size ≤ bs.length)
    (hnum : Calls Try.prog 75 #[.pointer (some ⟨r, 0, none⟩), .int .i64 size] w fun e w' => e = .returned (.func (.func 43) #[.pointer (some ⟨r, 0, none⟩)] #[]) ∧ w.alloc (.cells #[.pointer (some ⟨r, 0, none⟩)] 78) = w')
    (hnext : Next r w.heap.size size 43 #[.pointer (some ⟨r, 0, none⟩)]) :
    Calls Try.prog 45 #[.pointer (some ⟨r, 0, none⟩), .int .i64 n, .int .i64 size] w (OffPost w r bs pos size n A c) := by
  obtain ⟨i0, hi0, hz0, hz1, hz2⟩ := info_parts int_info
  have hrB := h.blk.lt
  have HA := Lib.hid fun (_ : 0 < bs.length) k (hk : rowOf A = some k) => Nat.lt_succ_of_lt (hA k hk)
  have H0 := Lib.hid (h.keep (w' := w.alloc (.cells #[.pointer (some ⟨r, 0, none⟩)] 78)) (bel_alloc bel_refl).below)
  have HB0 := Lib.hid (Blk.new w 78 [.pointer (some ⟨r, 0, none⟩)])
  have HT0 := Lib.hid (Turn.of_below (g := r) (row := none) (bel_alloc (o := .cells #[.pointer (some ⟨r, 0, none⟩)] 78) (bel_refl (a := w))).below)
  have HNX := Lib.hid hnext
  have HNM := Lib.hid hnum
  have HP := Lib.hid hp
  have hbr : w.heap.size ≠ r := by omega
  have HBR := Lib.hid hbr
  obtain ⟨W0, hW0⟩ : ∃ W0, w.alloc (.cells #[.pointer (some ⟨r, 0, none⟩)] 78) = W0 := ⟨_, rfl⟩
  have hsz : W0.heap.size = w.heap.size + 1 := by rw [← hW0]; simp
  rw [hW0] at H0 HB0 HT0 HNM
  have HSZ := Lib.hid hsz
  clear h hA hnext hnum hp hbr hW0 hsz
  go_enter Try.func45, Try.ntmps45
  go_wp2_with (first
    | (go_at_call 75; (with_reducible refine HNM.out.mono ?_); rintro e w1 ⟨rfl, rfl⟩)
    | (at_make; refine wpList_make_own _ rfl _ _ 81 rfl (w.heap.size + 1) 3 i0 _ 1 Try.underlying81 hi0 hz0 hz1 .i64 .i64 _ (n + 1) rfl rfl (by simp) (by rw [hz2]; omega) (by unfold maxLen; omega) (by rw [HSZ.out]; exact Nat.le_refl _) ?_; intro w2 hown hgrow
       have hb2 := grown_below' hgrow (Nat.le_refl _) (by intro k e; cases e)
       have HR2 := Lib.hid (H0.out.keep hb2)
       have HB2 := Lib.hid (HB0.out.keepB hb2)
       have HT2 := Lib.hid (HT0.out.trans (Turn.of_below (g := r) (row := none) hb2) (.inl rfl))
       have HO2 : Hid (∃ A' c', OwI (w.heap.size + 1) w2 A' 0 c' [] ∧ Value.slice (some ⟨W0.heap.size, 0, none⟩) 0 (n + 1) = .slice A' 0 c') := Lib.hid ⟨_, _, ⟨rfl, hown, Nat.le_trans (by rw [HSZ.out]; exact Nat.le_refl _) hb2.size⟩, rfl⟩
       clear hown hgrow hb2))
  obtain ⟨A2, c2, HO2', hv⟩ := HO2.out
  rw [hv]
  have HO3 := Lib.hid HO2'
  clear HO2' hv HO2
  go_loopw [9, 10, 21] (fun v la i wr => ∃ k : Nat, k ≤ n + 1 ∧ i = .int .i64 k ∧ (∃ A1 c1, v = .slice A1 k c1 ∧ Hid (OwI (w.heap.size + 1) wr A1 k c1 (offList bs pos size k))) ∧ (∃ x : Nat, la = .int .i64 x ∧ Hid ((k = 0 → x = 1) ∧ (∀ j, k = j + 1 → x = offAt bs pos size j))) ∧
    Hid (Rd wr r bs (pos + k * size) false A c) ∧ Hid (Blk wr w.heap.size 78 [.pointer (some ⟨r, 0, none⟩)]) ∧ Hid (Turn w wr r none) ∧ Hid ((1 ≤ k → offAt bs pos size 0 = 1) ∧ ∀ i, i + 1 < k → offAt bs pos size i ≤ offAt bs pos size (i + 1))) (fun _ _ i _ => n + 1 - (intOf i).toNat)
  case atStart => exact ⟨0, Nat.zero_le _, rfl, ⟨A2, c2, rfl, HO3⟩, ⟨1, rfl, Lib.hid ⟨fun _ => rfl, fun j e => by omega⟩⟩, Lib.hid (by have := HR2.out; simpa using this), HB2, HT2, Lib.hid ⟨fun h => by omega, fun i h => by omega⟩⟩
  case round =>
    obtain ⟨k, hk, rfl, ⟨A1, c1, rfl, HO⟩, ⟨x, rfl, HXl⟩, HR, HB, HT, HG⟩ := hrel
    by_cases hlt : k < n + 1
    · have hps : (k + 1) * size ≤ (n + 1) * size := Nat.mul_le_mul_right _ (by omega)
      have HC := Lib.hid (HNX.out wr bs (pos + k * size) A c HR.out HB.out HBR.out (by rw [Nat.succ_mul] at hps; have := HP.out; omega))
      have hyl := nAt_lt bs (pos + k * size) size
      obtain ⟨y, hy⟩ : ∃ y, nAt bs (pos + k * size) size = y := ⟨_, rfl⟩
      rw [hy] at HC hyl
      have hyb : (y : Int) ≤ 4294967295 := by
        have : 256 ^ size ≤ 256 ^ 4 := Nat.pow_le_pow_right (by omega) hs
        have e : (256 : Nat) ^ 4 = 4294967296 := by decide
        omega
      have HY : Hid (offAt bs pos size k = y) := Lib.hid hy
      clear hps hy hyl
      have key : ((k = 0 ∧ y ≠ 1) ∨ (1 ≤ k ∧ y < x)) ∨ ((k = 0 ∧ y = 1 ∧ x = 1) ∨ (1 ≤ k ∧ x ≤ y)) := by
        rcases Nat.eq_zero_or_pos k with h0 | h0
        · have := HXl.out.1 h0
          by_cases h1 : y = 1
          · exact .inr (.inl ⟨h0, h1, this⟩)
          · exact .inl (.inl ⟨h0, h1⟩)
        · by_cases h1 : y < x
          · exact .inl (.inr ⟨h0, h1⟩)
          · exact .inr (.inr ⟨h0, by omega⟩)
      rcases key with key | key
      · have HBad : Hid (offGood bs pos size n = false) := Lib.hid (by
          rcases Bool.eq_false_or_eq_true (offGood bs pos size n) with hg | hg
          · exfalso
            obtain ⟨g1, g2⟩ := offs_bad hg (show k ≤ n by omega)
            rw [HY.out] at g1 g2
            rcases key with ⟨h0, h1⟩ | ⟨h0, h1⟩
            · exact h1 (g1 h0)
            · have := g2 (k - 1) (by omega)
              have := HXl.out.2 (k - 1) (by omega)
              omega
          · exact hg)
        have key' : (k = 0 ∧ x = 1 ∧ y = 0) ∨ (k = 0 ∧ x = 1 ∧ 2 ≤ y) ∨ (1 ≤ k ∧ y < x) := by
          rcases key with ⟨h0, h1⟩ | h
          · have := HXl.out.1 h0
            omega
          · exact .inr (.inr h)
        clear key
        rcases key' with ⟨rfl, rfl, rfl⟩ | ⟨rfl, rfl, h2⟩ | ⟨h1, h2⟩
        all_goals
          (try have hb : ((y : Int) != 1) = true := by simp; omega)
          go_wp2_with (first | (go_at_call 43; (with_reducible refine HC.out.mono ?_); rintro e w5 ⟨rfl, hr5, ht5⟩; have HT5 := Lib.hid (HT.out.trans ht5 (.inl rfl)); clear hr5 ht5))
          go_ret2
          exact ⟨HT5.out, .inr ⟨HBad.out, rfl⟩⟩
      · have HN' : Hid ((1 ≤ k + 1 → offAt bs pos size 0 = 1) ∧ ∀ i, i + 1 < k + 1 → offAt bs pos size i ≤ offAt bs pos size (i + 1)) := Lib.hid (by
          refine ⟨fun _ => ?_, fun i hi => ?_⟩
          · rcases Nat.eq_zero_or_pos k with h0 | h0
            · have := HY.out; rw [h0] at this; omega
            · exact HG.out.1 h0
          · rcases Nat.lt_or_ge (i + 1) k with h | h
            · exact HG.out.2 i h
            · have e : i + 1 = k := by omega
              rw [e, HY.out]
              have := HXl.out.2 i e.symm
              omega)
        have key' : (k = 0 ∧ x = 1 ∧ y = 1) ∨ (1 ≤ k ∧ x ≤ y) := by omega
        have HOL := Lib.hid (offList_next bs pos size k)
        have hk4 : k ≤ 65535 := by omega
        clear key
        rcases key' with ⟨rfl, rfl, rfl⟩ | ⟨h1, h2⟩
        all_goals
          go_wp2_with (first
            | (go_at_call 43; (with_reducible refine HC.out.mono ?_); rintro e w5 ⟨rfl, hr5, ht5⟩
               have HR5 := Lib.hid hr5
               have HO5 := Lib.hid (HO.out.turn ht5 (by omega))
               have HB5 := Lib.hid (ht5.blk HB.out HBR.out (by intro e; cases e))
               have HT5 := Lib.hid (HT.out.trans ht5 (.inl rfl))
               clear hr5 ht5)
            | (at_builtin; refine wpList_append_oi (by rfl) (.tmp 37) (.tmp 39) (by rfl) (by rfl) (HO5.out.keep (bel_alloc bel_refl).below) _ _ _ (by rfl) [_] (slat_int _ _) (by omega) ?_; intro A6 c6 w6 ho6 hgrow
               have hb6 := grown_below' hgrow (HO5.out.keep (bel_alloc bel_refl).below).le (fun k hk => (HO5.out.row k hk).1)
               have HO6 := Lib.hid ho6
               clear ho6 hgrow))
          go_roundw
          case rel =>
            refine ⟨_ + 1, ?_, ?_, ⟨A6, c6, rfl, Lib.hid (by rw [HOL.out, HY.out]; exact HO6.out)⟩, ⟨_, rfl, Lib.hid ⟨fun e => ?_, fun j e => ?_⟩⟩, Lib.hid ?_, Lib.hid ((HB5.out.alloc _).below hb6 (by omega)), Lib.hid ((HT5.out.alloc _).belowR hb6 (by omega)), HN'⟩
            · omega
            · go_num
            · omega
            · rw [show j = _ by exact (Nat.succ.inj e).symm]; exact HY.out.symm
            · rw [Nat.succ_mul, ← Nat.add_assoc]; exact (HR5.out.keep (bel_alloc bel_refl).below).keepB hb6 (HO5.out.keep (bel_alloc bel_refl).below).le (by omega) HA.out
          case measure => first | (simp [intOf]; done) | (simp [intOf]; omega)
    · obtain rfl : k = n + 1 := by omega
      have HGood : Hid (offGood bs pos size n = true) := Lib.hid ((offGood_iff _ _ _ _).2 ⟨HG.out.1 (by omega), fun i hi => HG.out.2 i (by omega)⟩)
      go_wp2_with (first | (go_at_call 41; (with_reducible refine (rdone_W _ _ _ _ _ _ _ HR.out).mono ?_); rintro e w7 ⟨rfl, rfl⟩))
      go_ret2
      exact ⟨HT.out, .inl ⟨HGood.out, A1, c1, rfl, HO.out, HR.out⟩⟩

set_option maxRecDepth 20000 in
set_option maxHeartbeats 4000000 in
theorem offsets_2 (w : World) (r : Nat) (bs : List UInt8) (pos size n : Nat) (A : Option Addr) (c : Nat) (h : Rd w r bs pos false A c) (hA : ∀ k, rowOf A = some k → k < w.heap.size) (hn : n ≤ 65535) (hs : size ≤ 4) (hp : pos + (n + 1) * size ≤ bs.length)
    (hnum : Calls Try.prog 75 #[.pointer (some ⟨r, 0, none⟩), .int .i64 size] w fun e w' => e = .returned (.func (.func 40) #[.pointer (some ⟨r, 0, none⟩)] #[]) ∧ w.alloc (.cells #[.pointer (some ⟨r, 0, none⟩)] 78) = w')
    (hnext : Next r w.heap.size size 40 #[.pointer (some ⟨r, 0, none⟩)]) :
    Calls Try.prog 45 #[.pointer (some ⟨r, 0, none⟩), .int .i64 n, .int .i64 size] w (OffPost w r bs pos size n A c) := by
  obtain ⟨i0, hi0, hz0, hz1, hz2⟩ := info_parts int_info
  have hrB := h.blk.lt
  have HA := Lib.hid fun (_ : 0 < bs.length) k (hk : rowOf A = some k) => Nat.lt_succ_of_lt (hA k hk)
  have H0 := Lib.hid (h.keep (w' := w.alloc (.cells #[.pointer (some ⟨r, 0, none⟩)] 78)) (bel_alloc bel_refl).below)
  have HB0 := Lib.hid (Blk.new w 78 [.pointer (some ⟨r, 0, none⟩)])
  have HT0 := Lib.hid (Turn.of_below (g := r) (row := none) (bel_alloc (o := .cells #[.pointer (some ⟨r, 0, none⟩)] 78) (bel_refl (a := w))).below)
  have HNX := Lib.hid hnext
  have HNM := Lib.hid hnum
  have HP := Lib.hid hp
  have hbr : w.heap.size ≠ r := by omega
  have HBR := Lib.hid hbr
  obtain ⟨W0, hW0⟩ : ∃ W0, w.alloc (.cells #[.pointer (some ⟨r, 0, none⟩)] 78) = W0 := ⟨_, rfl⟩
  have hsz : W0.heap.size = w.heap.size + 1 := by rw [← hW0]; simp
  rw [hW0] at H0 HB0 HT0 HNM
  have HSZ := Lib.hid hsz
  clear h hA hnext hnum hp hbr hW0 hsz
  go_enter Try.func45, Try.ntmps45
  go_wp2_with (first
    | (go_at_call 75; (with_reducible refine HNM.out.mono ?_); rintro e w1 ⟨rfl, rfl⟩)
    | (at_make; refine wpList_make_own _ rfl _ _ 81 rfl (w.heap.size + 1) 3 i0 _ 1 Try.underlying81 hi0 hz0 hz1 .i64 .i64 _ (n + 1) rfl rfl (by simp) (by rw [hz2]; omega) (by unfold maxLen; omega) (by rw [HSZ.out]; exact Nat.le_refl _) ?_; intro w2 hown hgrow
       have hb2 := grown_below' hgrow (Nat.le_refl _) (by intro k e; cases e)
       have HR2 := Lib.hid (H0.out.keep hb2)
       have HB2 := Lib.hid (HB0.out.keepB hb2)
       have HT2 := Lib.hid (HT0.out.trans (Turn.of_below (g := r) (row := none) hb2) (.inl rfl))
       have HO2 : Hid (∃ A' c', OwI (w.heap.size + 1) w2 A' 0 c' [] ∧ Value.slice (some ⟨W0.heap.size, 0, none⟩) 0 (n + 1) = .slice A' 0 c') := Lib.hid ⟨_, _, ⟨rfl, hown, Nat.le_trans (by rw [HSZ.out]; exact Nat.le_refl _) hb2.size⟩, rfl⟩
       clear hown hgrow hb2))
  obtain ⟨A2, c2, HO2', hv⟩ := HO2.out
  rw [hv]
  have HO3 := Lib.hid HO2'
  clear HO2' hv HO2
  go_loopw [9, 10, 21] (fun v la i wr => ∃ k : Nat, k ≤ n + 1 ∧ i = .int .i64 k ∧ (∃ A1 c1, v = .slice A1 k c1 ∧ Hid (OwI (w.heap.size + 1) wr A1 k c1 (offList bs pos size k))) ∧ (∃ x : Nat, la = .int .i64 x ∧ Hid ((k = 0 → x = 1) ∧ (∀ j, k = j + 1 → x = offAt bs pos size j))) ∧
    Hid (Rd wr r bs (pos + k * size) false A c) ∧ Hid (Blk wr w.heap.size 78 [.pointer (some ⟨r, 0, none⟩)]) ∧ Hid (Turn w wr r none) ∧ Hid ((1 ≤ k → offAt bs pos size 0 = 1) ∧ ∀ i, i + 1 < k → offAt bs pos size i ≤ offAt bs pos size (i + 1))) (fun _ _ i _ => n + 1 - (intOf i).toNat)
  case atStart => exact ⟨0, Nat.zero_le _, rfl, ⟨A2, c2, rfl, HO3⟩, ⟨1, rfl, Lib.hid ⟨fun _ => rfl, fun j e => by omega⟩⟩, Lib.hid (by have := HR2.out; simpa using this), HB2, HT2, Lib.hid ⟨fun h => by omega, fun i h => by omega⟩⟩
  case round =>
    obtain ⟨k, hk, rfl, ⟨A1, c1, rfl, HO⟩, ⟨x, rfl, HXl⟩, HR, HB, HT, HG⟩ := hrel
    by_cases hlt : k < n + 1
    · have hps : (k + 1) * size ≤ (n + 1) * size := Nat.mul_le_mul_right _ (by omega)
      have HC := Lib.hid (HNX.out wr bs (pos + k * size) A c HR.out HB.out HBR.out (by rw [Nat.succ_mul] at hps; have := HP.out; omega))
      have hyl := nAt_lt bs (pos + k * size) size
      obtain ⟨y, hy⟩ : ∃ y, nAt bs (pos + k * size) size = y := ⟨_, rfl⟩
      rw [hy] at HC hyl
      have hyb : (y : Int) ≤ 4294967295 := by
        have : 256 ^ size ≤ 256 ^ 4 := Nat.pow_le_pow_right (by omega) hs
        have e : (256 : Nat) ^ 4 = 4294967296 := by decide
        omega
      have HY : Hid (offAt bs pos size k = y) := Lib.hid hy
      clear hps hy hyl
      have key : ((k = 0 ∧ y ≠ 1) ∨ (1 ≤ k ∧ y < x)) ∨ ((k = 0 ∧ y = 1 ∧ x = 1) ∨ (1 ≤ k ∧ x ≤ y)) := by
        rcases Nat.eq_zero_or_pos k with h0 | h0
        · have := HXl.out.1 h0
          by_cases h1 : y = 1
          · exact .inr (.inl ⟨h0, h1, this⟩)
          · exact .inl (.inl ⟨h0, h1⟩)
        · by_cases h1 : y < x
          · exact .inl (.inr ⟨h0, h1⟩)
          · exact .inr (.inr ⟨h0, by omega⟩)
      rcases key with key | key
      · have HBad : Hid (offGood bs pos size n = false) := Lib.hid (by
          rcases Bool.eq_false_or_eq_true (offGood bs pos size n) with hg | hg
          · exfalso
            obtain ⟨g1, g2⟩ := offs_bad hg (show k ≤ n by omega)
            rw [HY.out] at g1 g2
            rcases key with ⟨h0, h1⟩ | ⟨h0, h1⟩
            · exact h1 (g1 h0)
            · have := g2 (k - 1) (by omega)
              have := HXl.out.2 (k - 1) (by omega)
              omega
          · exact hg)
        have key' : (k = 0 ∧ x = 1 ∧ y = 0) ∨ (k = 0 ∧ x = 1 ∧ 2 ≤ y) ∨ (1 ≤ k ∧ y < x) := by
          rcases key with ⟨h0, h1⟩ | h
          · have := HXl.out.1 h0
            omega
          · exact .inr (.inr h)
        clear key
        rcases key' with ⟨rfl, rfl, rfl⟩ | ⟨rfl, rfl, h2⟩ | ⟨h1, h2⟩
        all_goals
          (try have hb : ((y : Int) != 1) = true := by simp; omega)
          go_wp2_with (first | (go_at_call 40; (with_reducible refine HC.out.mono ?_); rintro e w5 ⟨rfl, hr5, ht5⟩; have HT5 := Lib.hid (HT.out.trans ht5 (.inl rfl)); clear hr5 ht5))
          go_ret2
          exact ⟨HT5.out, .inr ⟨HBad.out, rfl⟩⟩
      · have HN' : Hid ((1 ≤ k + 1 → offAt bs pos size 0 = 1) ∧ ∀ i, i + 1 < k + 1 → offAt bs pos size i ≤ offAt bs pos size (i + 1)) := Lib.hid (by
          refine ⟨fun _ => ?_, fun i hi => ?_⟩
          · rcases Nat.eq_zero_or_pos k with h0 | h0
            · have := HY.out; rw [h0] at this; omega
            · exact HG.out.1 h0
          · rcases Nat.lt_or_ge (i + 1) k with h | h
            · exact HG.out.2 i h
            · have e : i + 1 = k := by omega
              rw [e, HY.out]
              have := HXl.out.2 i e.symm
              omega)
        have key' : (k = 0 ∧ x = 1 ∧ y = 1) ∨ (1 ≤ k ∧ x ≤ y) := by omega
        have HOL := Lib.hid (offList_next bs pos size k)
        have hk4 : k ≤ 65535 := by omega
        clear key
        rcases key' with ⟨rfl, rfl, rfl⟩ | ⟨h1, h2⟩
        all_goals
          go_wp2_with (first
            | (go_at_call 40; (with_reducible refine HC.out.mono ?_); rintro e w5 ⟨rfl, hr5, ht5⟩
               have HR5 := Lib.hid hr5
               have HO5 := Lib.hid (HO.out.turn ht5 (by omega))
               have HB5 := Lib.hid (ht5.blk HB.out HBR.out (by intro e; cases e))
               have HT5 := Lib.hid (HT.out.trans ht5 (.inl rfl))
               clear hr5 ht5)
            | (at_builtin; refine wpList_append_oi (by rfl) (.tmp 37) (.tmp 39) (by rfl) (by rfl) (HO5.out.keep (bel_alloc bel_refl).below) _ _ _ (by rfl) [_] (slat_int _ _) (by omega) ?_; intro A6 c6 w6 ho6 hgrow
               have hb6 := grown_below' hgrow (HO5.out.keep (bel_alloc bel_refl).below).le (fun k hk => (HO5.out.row k hk).1)
               have HO6 := Lib.hid ho6
               clear ho6 hgrow))
          go_roundw
          case rel =>
            refine ⟨_ + 1, ?_, ?_, ⟨A6, c6, rfl, Lib.hid (by rw [HOL.out, HY.out]; exact HO6.out)⟩, ⟨_, rfl, Lib.hid ⟨fun e => ?_, fun j e => ?_⟩⟩, Lib.hid ?_, Lib.hid ((HB5.out.alloc _).below hb6 (by omega)), Lib.hid ((HT5.out.alloc _).belowR hb6 (by omega)), HN'⟩
            · omega
            · go_num
            · omega
            · rw [show j = _ by exact (Nat.succ.inj e).symm]; exact HY.out.symm
            · rw [Nat.succ_mul, ← Nat.add_assoc]; exact (HR5.out.keep (bel_alloc bel_refl).below).keepB hb6 (HO5.out.keep (bel_alloc bel_refl).below).le (by omega) HA.out
          case measure => first | (simp [intOf]; done) | (simp [intOf]; omega)
    · obtain rfl : k = n + 1 := by omega
      have HGood : Hid (offGood bs pos size n = true) := Lib.hid ((offGood_iff _ _ _ _).2 ⟨HG.out.1 (by omega), fun i hi => HG.out.2 i (by omega)⟩)
      go_wp2_with (first | (go_at_call 41; (with_reducible refine (rdone_W _ _ _ _ _ _ _ HR.out).mono ?_); rintro e w7 ⟨rfl, rfl⟩))
      go_ret2
      exact ⟨HT.out, .inl ⟨HGood.out, A1, c1, rfl, HO.out, HR.out⟩⟩

set_option maxRecDepth 20000 in
set_option maxHeartbeats 4000000 in
theorem offsets_4 (w : World) (r : Nat) (bs : List UInt8) (pos size n : Nat) (A : Option Addr) (c : Nat) (h : Rd w r bs pos false A c) (hA : ∀ k, rowOf A = some k → k < w.heap.size) (hn : n ≤ 65535) (hs : size ≤ 4) (hp : pos + (n + 1) * size ≤ bs.length)
    (hnum : Calls Try.prog 75 #[.pointer (some ⟨r, 0, none⟩), .int .i64 size] w fun e w' => e = .returned (.func (.func 88) #[.pointer (some ⟨r, 0, none⟩)] #[]) ∧ w.alloc (.cells #[.pointer (some ⟨r, 0, none⟩)] 78) = w')
    (hnext : Next r w.heap.size size 88 #[.pointer (some ⟨r, 0, none⟩)]) :
    Calls Try.prog 45 #[.pointer (some ⟨r, 0, none⟩), .int .i64 n, .int .i64 size] w (OffPost w r bs pos size n A c) := by
  obtain ⟨i0, hi0, hz0, hz1, hz2⟩ := info_parts int_info
  have hrB := h.blk.lt
  have HA := Lib.hid fun (_ : 0 < bs.length) k (hk : rowOf A = some k) => Nat.lt_succ_of_lt (hA k hk)
  have H0 := Lib.hid (h.keep (w' := w.alloc (.cells #[.pointer (some ⟨r, 0, none⟩)] 78)) (bel_alloc bel_refl).below)
  have HB0 := Lib.hid (Blk.new w 78 [.pointer (some ⟨r, 0, none⟩)])
  have HT0 := Lib.hid (Turn.of_below (g := r) (row := none) (bel_alloc (o := .cells #[.pointer (some ⟨r, 0, none⟩)] 78) (bel_refl (a := w))).below)
  have HNX := Lib.hid hnext
  have HNM := Lib.hid hnum
  have HP := Lib.hid hp
  have hbr : w.heap.size ≠ r := by omega
  have HBR := Lib.hid hbr
  obtain ⟨W0, hW0⟩ : ∃ W0, w.alloc (.cells #[.pointer (some ⟨r, 0, none⟩)] 78) = W0 := ⟨_, rfl⟩
  have hsz : W0.heap.size = w.heap.size + 1 := by rw [← hW0]; simp
  rw [hW0] at H0 HB0 HT0 HNM
  have HSZ := Lib.hid hsz
  clear h hA hnext hnum hp hbr hW0 hsz
  go_enter Try.func45, Try.ntmps45
  go_wp2_with (first
    | (go_at_call 75; (with_reducible refine HNM.out.mono ?_); rintro e w1 ⟨rfl, rfl⟩)
    | (at_make; refine wpList_make_own _ rfl _ _ 81 rfl (w.heap.size + 1) 3 i0 _ 1 Try.underlying81 hi0 hz0 hz1 .i64 .i64 _ (n + 1) rfl rfl (by simp) (by rw [hz2]; omega) (by unfold maxLen; omega) (by rw [HSZ.out]; exact Nat.le_refl _) ?_; intro w2 hown hgrow
       have hb2 := grown_below' hgrow (Nat.le_refl _) (by intro k e; cases e)
       have HR2 := Lib.hid (H0.out.keep hb2)
       have HB2 := Lib.hid (HB0.out.keepB hb2)
       have HT2 := Lib.hid (HT0.out.trans (Turn.of_below (g := r) (row := none) hb2) (.inl rfl))
       have HO2 : Hid (∃ A' c', OwI (w.heap.size + 1) w2 A' 0 c' [] ∧ Value.slice (some ⟨W0.heap.size, 0, none⟩) 0 (n + 1) = .slice A' 0 c') := Lib.hid ⟨_, _, ⟨rfl, hown, Nat.le_trans (by rw [HSZ.out]; exact Nat.le_refl _) hb2.size⟩, rfl⟩
       clear hown hgrow hb2))
  obtain ⟨A2, c2, HO2', hv⟩ := HO2.out
  rw [hv]
  have HO3 := Lib.hid HO2'
  clear HO2' hv HO2
  go_loopw [9, 10, 21] (fun v la i wr => ∃ k : Nat, k ≤ n + 1 ∧ i = .int .i64 k ∧ (∃ A1 c1, v = .slice A1 k c1 ∧ Hid (OwI (w.heap.size + 1) wr A1 k c1 (offList bs pos size k))) ∧ (∃ x : Nat, la = .int .i64 x ∧ Hid ((k = 0 → x = 1) ∧ (∀ j, k = j + 1 → x = offAt bs pos size j))) ∧
    Hid (Rd wr r bs (pos + k * size) false A c) ∧ Hid (Blk wr w.heap.size 78 [.pointer (some ⟨r, 0, none⟩)]) ∧ Hid (Turn w wr r none) ∧ Hid ((1 ≤ k → offAt bs pos size 0 = 1) ∧ ∀ i, i + 1 < k → offAt bs pos size i ≤ offAt bs pos size (i + 1))) (fun _ _ i _ => n + 1 - (intOf i).toNat)
  case atStart => exact ⟨0, Nat.zero_le _, rfl, ⟨A2, c2, rfl, HO3⟩, ⟨1, rfl, Lib.hid ⟨fun _ => rfl, fun j e => by omega⟩⟩, Lib.hid (by have := HR2.out; simpa using this), HB2, HT2, Lib.hid ⟨fun h => by omega, fun i h => by omega⟩⟩
  case round =>
    obtain ⟨k, hk, rfl, ⟨A1, c1, rfl, HO⟩, ⟨x, rfl, HXl⟩, HR, HB, HT, HG⟩ := hrel
    by_cases hlt : k < n + 1
    · have hps : (k + 1) * size ≤ (n + 1) * size := Nat.mul_le_mul_right _ (by omega)
      have HC := Lib.hid (HNX.out wr bs (pos + k * size) A c HR.out HB.out HBR.out (by rw [Nat.succ_mul] at hps; have := HP.out; omega))
      have hyl := nAt_lt bs (pos + k * size) size
      obtain ⟨y, hy⟩ : ∃ y, nAt bs (pos + k * size) size = y := ⟨_, rfl⟩
      rw [hy] at HC hyl
      have hyb : (y : Int) ≤ 4294967295 := by
        have : 256 ^ size ≤ 256 ^ 4 := Nat.pow_le_pow_right (by omega) hs
        have e : (256 : Nat) ^ 4 = 4294967296 := by decide
        omega
      have HY : Hid (offAt bs pos size k = y) := Lib.hid hy
      clear hps hy hyl
      have key : ((k = 0 ∧ y ≠ 1) ∨ (1 ≤ k ∧ y < x)) ∨ ((k = 0 ∧ y = 1 ∧ x = 1) ∨ (1 ≤ k ∧ x ≤ y)) := by
        rcases Nat.eq_zero_or_pos k with h0 | h0
        · have := HXl.out.1 h0
          by_cases h1 : y = 1
          · exact .inr (.inl ⟨h0, h1, this⟩)
          · exact .inl (.inl ⟨h0, h1⟩)
        · by_cases h1 : y < x
          · exact .inl (.inr ⟨h0, h1⟩)
          · exact .inr (.inr ⟨h0, by omega⟩)
      rcases key with key | key
      · have HBad : Hid (offGood bs pos size n = false) := Lib.hid (by
          rcases Bool.eq_false_or_eq_true (offGood bs pos size n) with hg | hg
          · exfalso
            obtain ⟨g1, g2⟩ := offs_bad hg (show k ≤ n by omega)
            rw [HY.out] at g1 g2
            rcases key with ⟨h0, h1⟩ | ⟨h0, h1⟩
            · exact h1 (g1 h0)
            · have := g2 (k - 1) (by omega)
              have := HXl.out.2 (k - 1) (by omega)
              omega
          · exact hg)
        have key' : (k = 0 ∧ x = 1 ∧ y = 0) ∨ (k = 0 ∧ x = 1 ∧ 2 ≤ y) ∨ (1 ≤ k ∧ y < x) := by
          rcases key with ⟨h0, h1⟩ | h
          · have := HXl.out.1 h0
            omega
          · exact .inr (.inr h)
        clear key
        rcases key' with ⟨rfl, rfl, rfl⟩ | ⟨rfl, rfl, h2⟩ | ⟨h1, h2⟩
        all_goals
          (try have hb : ((y : Int) != 1) = true := by simp; omega)
          go_wp2_with (first | (go_at_call 88; (with_reducible refine HC.out.mono ?_); rintro e w5 ⟨rfl, hr5, ht5⟩; have HT5 := Lib.hid (HT.out.trans ht5 (.inl rfl)); clear hr5 ht5))
          go_ret2
          exact ⟨HT5.out, .inr ⟨HBad.out, rfl⟩⟩
      · have HN' : Hid ((1 ≤ k + 1 → offAt bs pos size 0 = 1) ∧ ∀ i, i + 1 < k + 1 → offAt bs pos size i ≤ offAt bs pos size (i + 1)) := Lib.hid (by
          refine ⟨fun _ => ?_, fun i hi => ?_⟩
          · rcases Nat.eq_zero_or_pos k with h0 | h0
            · have := HY.out; rw [h0] at this; omega
            · exact HG.out.1 h0
          · rcases Nat.lt_or_ge (i + 1) k with h | h
            · exact HG.out.2 i h
            · have e : i + 1 = k := by omega
              rw [e, HY.out]
              have := HXl.out.2 i e.symm
              omega)
        have key' : (k = 0 ∧ x = 1 ∧ y = 1) ∨ (1 ≤ k ∧ x ≤ y) := by omega
        have HOL := Lib.hid (offList_next bs pos size k)
        have hk4 : k ≤ 65535 := by omega
        clear key
        rcases key' with ⟨rfl, rfl, rfl⟩ | ⟨h1, h2⟩
        all_goals
          go_wp2_with (first
            | (go_at_call 88; (with_reducible refine HC.out.mono ?_); rintro e w5 ⟨rfl, hr5, ht5⟩
               have HR5 := Lib.hid hr5
               have HO5 := Lib.hid (HO.out.turn ht5 (by omega))
               have HB5 := Lib.hid (ht5.blk HB.out HBR.out (by intro e; cases e))
               have HT5 := Lib.hid (HT.out.trans ht5 (.inl rfl))
               clear hr5 ht5)
            | (at_builtin; refine wpList_append_oi (by rfl) (.tmp 37) (.tmp 39) (by rfl) (by rfl) (HO5.out.keep (bel_alloc bel_refl).below) _ _ _ (by rfl) [_] (slat_int _ _) (by omega) ?_; intro A6 c6 w6 ho6 hgrow
               have hb6 := grown_below' hgrow (HO5.out.keep (bel_alloc bel_refl).below).le (fun k hk => (HO5.out.row k hk).1)
               have HO6 := Lib.hid ho6
               clear ho6 hgrow))
          go_roundw
          case rel =>
            refine ⟨_ + 1, ?_, ?_, ⟨A6, c6, rfl, Lib.hid (by rw [HOL.out, HY.out]; exact HO6.out)⟩, ⟨_, rfl, Lib.hid ⟨fun e => ?_, fun j e => ?_⟩⟩, Lib.hid ?_, Lib.hid ((HB5.out.alloc _).below hb6 (by omega)), Lib.hid ((HT5.out.alloc _).belowR hb6 (by omega)), HN'⟩
            · omega
            · go_num
            · omega
            · rw [show j = _ by exact (Nat.succ.inj e).symm]; exact HY.out.symm
            · rw [Nat.succ_mul, ← Nat.add_assoc]; exact (HR5.out.keep (bel_alloc bel_refl).below).keepB hb6 (HO5.out.keep (bel_alloc bel_refl).below).le (by omega) HA.out
          case measure => first | (simp [intOf]; done) | (simp [intOf]; omega)
    · obtain rfl : k = n + 1 := by omega
      have HGood : Hid (offGood bs pos size n = true) := Lib.hid ((offGood_iff _ _ _ _).2 ⟨HG.out.1 (by omega), fun i hi => HG.out.2 i (by omega)⟩)
      go_wp2_with (first | (go_at_call 41; (with_reducible refine (rdone_W _ _ _ _ _ _ _ HR.out).mono ?_); rintro e w7 ⟨rfl, rfl⟩))
      go_ret2
      exact ⟨HT.out, .inl ⟨HGood.out, A1, c1, rfl, HO.out, HR.out⟩⟩

set_option maxRecDepth 20000 in
set_option maxHeartbeats 4000000 in
theorem offsets_3 (w : World) (r : Nat) (bs : List UInt8) (pos size n : Nat) (A : Option Addr) (c : Nat) (h : Rd w r bs pos false A c) (hA : ∀ k, rowOf A = some k → k < w.heap.size) (hn : n ≤ 65535) (hs : size ≤ 4) (hp : pos + (n + 1) * size ≤ bs.length)
    (hnum : Calls Try.prog 75 #[.pointer (some ⟨r, 0, none⟩), .int .i64 size] w fun e w' => e = .returned (.func (.func 89) #[] #[.pointer (some ⟨w.heap.size, 0, none⟩)]) ∧ w.alloc (.cells #[.pointer (some ⟨r, 0, none⟩)] 78) = w')
    (hnext : Next r w.heap.size size 89 #[.pointer (some ⟨w.heap.size, 0, none⟩)]) :
    Calls Try.prog 45 #[.pointer (some ⟨r, 0, none⟩), .int .i64 n, .int .i64 size] w (OffPost w r bs pos size n A c) := by
  obtain ⟨i0, hi0, hz0, hz1, hz2⟩ := info_parts int_info
  have hrB := h.blk.lt
  have HA := Lib.hid fun (_ : 0 < bs.length) k (hk : rowOf A = some k) => Nat.lt_succ_of_lt (hA k hk)
  have H0 := Lib.hid (h.keep (w' := w.alloc (.cells #[.pointer (some ⟨r, 0, none⟩)] 78)) (bel_alloc bel_refl).below)
  have HB0 := Lib.hid (Blk.new w 78 [.pointer (some ⟨r, 0, none⟩)])
  have HT0 := Lib.hid (Turn.of_below (g := r) (row := none) (bel_alloc (o := .cells #[.pointer (some ⟨r, 0, none⟩)] 78) (bel_refl (a := w))).below)
  have HNX := Lib.hid hnext
  have HNM := Lib.hid hnum
  have HP := Lib.hid hp
  have hbr : w.heap.size ≠ r := by omega
  have HBR := Lib.hid hbr
  obtain ⟨W0, hW0⟩ : ∃ W0, w.alloc (.cells #[.pointer (some ⟨r, 0, none⟩)] 78) = W0 := ⟨_, rfl⟩
  have hsz : W0.heap.size = w.heap.size + 1 := by rw [← hW0]; simp
  rw [hW0] at H0 HB0 HT0 HNM
  have HSZ := Lib.hid hsz
  clear h hA hnext hnum hp hbr hW0 hsz
  go_enter Try.func45, Try.ntmps45
  go_wp2_with (first
    | (go_at_call 75; (with_reducible refine HNM.out.mono ?_); rintro e w1 ⟨rfl, rfl⟩)
    | (at_make; refine wpList_make_own _ rfl _ _ 81 rfl (w.heap.size + 1) 3 i0 _ 1 Try.underlying81 hi0 hz0 hz1 .i64 .i64 _ (n + 1) rfl rfl (by simp) (by rw [hz2]; omega) (by unfold maxLen; omega) (by rw [HSZ.out]; exact Nat.le_refl _) ?_; intro w2 hown hgrow
       have hb2 := grown_below' hgrow (Nat.le_refl _) (by intro k e; cases e)
       have HR2 := Lib.hid (H0.out.keep hb2)
       have HB2 := Lib.hid (HB0.out.keepB hb2)
       have HT2 := Lib.hid (HT0.out.trans (Turn.of_below (g := r) (row := none) hb2) (.inl rfl))
       have HO2 : Hid (∃ A' c', OwI (w.heap.size + 1) w2 A' 0 c' [] ∧ Value.slice (some ⟨W0.heap.size, 0, none⟩) 0 (n + 1) = .slice A' 0 c') := Lib.hid ⟨_, _, ⟨rfl, hown, Nat.le_trans (by rw [HSZ.out]; exact Nat.le_refl _) hb2.size⟩, rfl⟩
       clear hown hgrow hb2))
  obtain ⟨A2, c2, HO2', hv⟩ := HO2.out
  rw [hv]
  have HO3 := Lib.hid HO2'
  clear HO2' hv HO2
  go_loopw [9, 10, 21] (fun v la i wr => ∃ k : Nat, k ≤ n + 1 ∧ i = .int .i64 k ∧ (∃ A1 c1, v = .slice A1 k c1 ∧ Hid (OwI (w.heap.size + 1) wr A1 k c1 (offList bs pos size k))) ∧ (∃ x : Nat, la = .int .i64 x ∧ Hid ((k = 0 → x = 1) ∧ (∀ j, k = j + 1 → x = offAt bs pos size j))) ∧
    Hid (Rd wr r bs (pos + k * size) false A c) ∧ Hid (Blk wr w.heap.size 78 [.pointer (some ⟨r, 0, none⟩)]) ∧ Hid (Turn w wr r none) ∧ Hid ((1 ≤ k → offAt bs pos size 0 = 1) ∧ ∀ i, i + 1 < k → offAt bs pos size i ≤ offAt bs pos size (i + 1))) (fun _ _ i _ => n + 1 - (intOf i).toNat)
  case atStart => exact ⟨0, Nat.zero_le _, rfl, ⟨A2, c2, rfl, HO3⟩, ⟨1, rfl, Lib.hid ⟨fun _ => rfl, fun j e => by omega⟩⟩, Lib.hid (by have := HR2.out; simpa using this), HB2, HT2, Lib.hid ⟨fun h => by omega, fun i h => by omega⟩⟩
  case round =>
    obtain ⟨k, hk, rfl, ⟨A1, c1, rfl, HO⟩, ⟨x, rfl, HXl⟩, HR, HB, HT, HG⟩ := hrel
    by_cases hlt : k < n + 1
    · have hps : (k + 1) * size ≤ (n + 1) * size := Nat.mul_le_mul_right _ (by omega)
      have HC := Lib.hid (HNX.out wr bs (pos + k * size) A c HR.out HB.out HBR.out (by rw [Nat.succ_mul] at hps; have := HP.out; omega))
      have hyl := nAt_lt bs (pos + k * size) size
      obtain ⟨y, hy⟩ : ∃ y, nAt bs (pos + k * size) size = y := ⟨_, rfl⟩
      rw [hy] at HC hyl
      have hyb : (y : Int) ≤ 4294967295 := by
        have : 256 ^ size ≤ 256 ^ 4 := Nat.pow_le_pow_right (by omega) hs
        have e : (256 : Nat) ^ 4 = 4294967296 := by decide
        omega
      have HY : Hid (offAt bs pos size k = y) := Lib.hid hy
      clear hps hy hyl
      have key : ((k = 0 ∧ y ≠ 1) ∨ (1 ≤ k ∧ y < x)) ∨ ((k = 0 ∧ y = 1 ∧ x = 1) ∨ (1 ≤ k ∧ x ≤ y)) := by
        rcases Nat.eq_zero_or_pos k with h0 | h0
        · have := HXl.out.1 h0
          by_cases h1 : y = 1
          · exact .inr (.inl ⟨h0, h1, this⟩)
          · exact .inl (.inl ⟨h0, h1⟩)
        · by_cases h1 : y < x
          · exact .inl (.inr ⟨h0, h1⟩)
          · exact .inr (.inr ⟨h0, by omega⟩)
      rcases key with key | key
      · have HBad : Hid (offGood bs pos size n = false) := Lib.hid (by
          rcases Bool.eq_false_or_eq_true (offGood bs pos size n) with hg | hg
          · exfalso
            obtain ⟨g1, g2⟩ := offs_bad hg (show k ≤ n by omega)
            rw [HY.out] at g1 g2
            rcases key with ⟨h0, h1⟩ | ⟨h0, h1⟩
            · exact h1 (g1 h0)
            · have := g2 (k - 1) (by omega)
              have := HXl.out.2 (k - 1) (by omega)
              omega
          · exact hg)
        have key' : (k = 0 ∧ x = 1 ∧ y = 0) ∨ (k = 0 ∧ x = 1 ∧ 2 ≤ y) ∨ (1 ≤ k ∧ y < x) := by
          rcases key with ⟨h0, h1⟩ | h
          · have := HXl.out.1 h0
            omega
          · exact .inr (.inr h)
        clear key
        rcases key' with ⟨rfl, rfl, rfl⟩ | ⟨rfl, rfl, h2⟩ | ⟨h1, h2⟩
        all_goals
          (try have hb : ((y : Int) != 1) = true := by simp; omega)
          go_wp2_with (first | (go_at_call 89; (with_reducible refine HC.out.mono ?_); rintro e w5 ⟨rfl, hr5, ht5⟩; have HT5 := Lib.hid (HT.out.trans ht5 (.inl rfl)); clear hr5 ht5))
          go_ret2
          exact ⟨HT5.out, .inr ⟨HBad.out, rfl⟩⟩
      · have HN' : Hid ((1 ≤ k + 1 → offAt bs pos size 0 = 1) ∧ ∀ i, i + 1 < k + 1 → offAt bs pos size i ≤ offAt bs pos size (i + 1)) := Lib.hid (by
          refine ⟨fun _ => ?_, fun i hi => ?_⟩
          · rcases Nat.eq_zero_or_pos k with h0 | h0
            · have := HY.out; rw [h0] at this; omega
            · exact HG.out.1 h0
          · rcases Nat.lt_or_ge (i + 1) k with h | h
            · exact HG.out.2 i h
            · have e : i + 1 = k := by omega
              rw [e, HY.out]
              have := HXl.out.2 i e.symm
              omega)
        have key' : (k = 0 ∧ x = 1 ∧ y = 1) ∨ (1 ≤ k ∧ x ≤ y) := by omega
        have HOL := Lib.hid (offList_next bs pos size k)
        have hk4 : k ≤ 65535 := by omega
        clear key
        rcases key' with ⟨rfl, rfl, rfl⟩ | ⟨h1, h2⟩
        all_goals
          go_wp2_with (first
            | (go_at_call 89; (with_reducible refine HC.out.mono ?_); rintro e w5 ⟨rfl, hr5, ht5⟩
               have HR5 := Lib.hid hr5
               have HO5 := Lib.hid (HO.out.turn ht5 (by omega))
               have HB5 := Lib.hid (ht5.blk HB.out HBR.out (by intro e; cases e))
               have HT5 := Lib.hid (HT.out.trans ht5 (.inl rfl))
               clear hr5 ht5)
            | (at_builtin; refine wpList_append_oi (by rfl) (.tmp 37) (.tmp 39) (by rfl) (by rfl) (HO5.out.keep (bel_alloc bel_refl).below) _ _ _ (by rfl) [_] (slat_int _ _) (by omega) ?_; intro A6 c6 w6 ho6 hgrow
               have hb6 := grown_below' hgrow (HO5.out.keep (bel_alloc bel_refl).below).le (fun k hk => (HO5.out.row k hk).1)
               have HO6 := Lib.hid ho6
               clear ho6 hgrow))
          go_roundw
          case rel =>
            refine ⟨_ + 1, ?_, ?_, ⟨A6, c6, rfl, Lib.hid (by rw [HOL.out, HY.out]; exact HO6.out)⟩, ⟨_, rfl, Lib.hid ⟨fun e => ?_, fun j e => ?_⟩⟩, Lib.hid ?_, Lib.hid ((HB5.out.alloc _).below hb6 (by omega)), Lib.hid ((HT5.out.alloc _).belowR hb6 (by omega)), HN'⟩
            · omega
            · go_num
            · omega
            · rw [show j = _ by exact (Nat.succ.inj e).symm]; exact HY.out.symm
            · rw [Nat.succ_mul, ← Nat.add_assoc]; exact (HR5.out.keep (bel_alloc bel_refl).below).keepB hb6 (HO5.out.keep (bel_alloc bel_refl).below).le (by omega) HA.out
          case measure => first | (simp [intOf]; done) | (simp [intOf]; omega)
    · obtain rfl : k = n + 1 := by omega
      have HGood : Hid (offGood bs pos size n = true) := Lib.hid ((offGood_iff _ _ _ _).2 ⟨HG.out.1 (by omega), fun i hi => HG.out.2 i (by omega)⟩)
      go_wp2_with (first | (go_at_call 41; (with_reducible refine (rdone_W _ _ _ _ _ _ _ HR.out).mono ?_); rintro e w7 ⟨rfl, rfl⟩))
      go_ret2
      exact ⟨HT.out, .inl ⟨HGood.out, A1, c1, rfl, HO.out, HR.out⟩⟩

theorem offsets_any (w : World) (r : Nat) (bs : List UInt8) (pos size n : Nat) (A : Option Addr) (c : Nat) (h : Rd w r bs pos false A c) (hA : ∀ k, rowOf A = some k → k < w.heap.size) (hn : n ≤ 65535) (h1 : 1 ≤ size) (hs : size ≤ 4) (hp : pos + (n + 1) * size ≤ bs.length) :
    Calls Try.prog 45 #[.pointer (some ⟨r, 0, none⟩), .int .i64 n, .int .i64 size] w (OffPost w r bs pos size n A c) := by
  have : size = 1 ∨ size = 2 ∨ size = 3 ∨ size = 4 := by omega
  rcases this with rfl | rfl | rfl | rfl
  · exact offsets_1 w r bs pos 1 n A c h hA hn hs hp (number_1 w r) (next_1 r _)
  · exact offsets_2 w r bs pos 2 n A c h hA hn hs hp (number_2 w r) (next_2 r _)
  · exact offsets_3 w r bs pos 3 n A c h hA hn hs hp (number_3 w r) (next_3 r _)
  · exact offsets_4 w r bs pos 4 n A c h hA hn hs hp (number_4 w r) (next_4 r _)

end Go.Proofs.Ytbmflgcahbkdeaa
