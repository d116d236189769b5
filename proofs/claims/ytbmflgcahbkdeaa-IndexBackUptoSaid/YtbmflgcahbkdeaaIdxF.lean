/-
  The document's Put of layer 14.
-/
import Derived.Test.YtbmflgcahbkdeaaIdxE
import Derived.Test.YtbmflgcahbkdeaaOw
namespace Go.Proofs.Ytbmflgcahbkdeaa
open Go.RowKit

theorem rPut_long (w : World) (A : Option Addr) (n c : Nat) (h : (65535 : Int) < n) :
    Calls Try.prog 18 #[.slice A n c] w fun e w' => e = .returned (.tuple #[.slice none 0 0, .bool false]) ∧ Below w.heap.size w w' := by
  go_enter Try.func18, Try.ntmps18
  go_wp2
  go_ret2
  exact ⟨rfl, bel_refl.below⟩
theorem rPut_nil (w : World) (A : Option Addr) (c : Nat) :
    Calls Try.prog 18 #[.slice A 0 c] w fun e w' => ∃ A' c', e = .returned (.tuple #[.slice A' 2 c', .bool true]) ∧ SlAt w' A' 2 (([0, 0] : List UInt8).map byteV) ∧ Below w.heap.size w w' := by
  go_enter Try.func18, Try.ntmps18
  go_wp2
  go_ret2
  refine ⟨_, _, rfl, ?_, (bel_alloc bel_refl).below⟩
  exact slat_new w ([0, 0].map byteV) 5 _ rfl
theorem ixB_len (ls : List (List UInt8)) : (ixB ls).length = 3 + (ls.length + 1) * ixZ ls + lsSum ls := by
  have h : ∀ k, (offB (ixZ ls) ls k).length = k * ixZ ls := by
    intro k
    induction k with
    | zero => simp [offB]
    | succ k ih => rw [offB_next, List.length_append, ih, beB_length, Nat.succ_mul]
  rw [ixB, ixHd]
  simp only [List.length_append, beB_length, h, lsSum_flatten]
  rw [Nat.succ_mul]
  omega
theorem pre_len (z n : Nat) (ls : List (List UInt8)) (k : Nat) : (beB 2 n ++ beB 1 z ++ beB z 1 ++ offB z ls k).length = 3 + (k + 1) * z := by
  have h : ∀ k, (offB z ls k).length = k * z := by
    intro k
    induction k with
    | zero => simp [offB]
    | succ k ih => rw [offB_next, List.length_append, ih, beB_length, Nat.succ_mul]
  simp only [List.length_append, beB_length, h]
  rw [Nat.succ_mul]
  omega
theorem ixW_shl (x k : Nat) (h0 : 1 ≤ k) (h : k < ixW x) : wrap64 (2 ^ (8 * k)) ≤ (x : Int) := by
  have hb := ixW_bd x
  have : k = 1 ∨ k = 2 ∨ k = 3 := by omega
  unfold ixW at h
  rcases this with rfl | rfl | rfl
  · rw [show wrap64 (2 ^ (8 * 1)) = 256 by decide +kernel]; split at h <;> (try split at h) <;> (try split at h) <;> omega
  · rw [show wrap64 (2 ^ (8 * 2)) = 65536 by decide +kernel]; split at h <;> (try split at h) <;> (try split at h) <;> omega
  · rw [show wrap64 (2 ^ (8 * 3)) = 16777216 by decide +kernel]; split at h <;> (try split at h) <;> (try split at h) <;> omega
theorem ixW_shl' (x k : Nat) (h0 : 1 ≤ k) (h1 : k < 4) (h : ixW x ≤ k) : (x : Int) < wrap64 (2 ^ (8 * k)) := by
  have : k = 1 ∨ k = 2 ∨ k = 3 := by omega
  unfold ixW at h
  rcases this with rfl | rfl | rfl
  · rw [show wrap64 (2 ^ (8 * 1)) = 256 by decide +kernel]; split at h <;> (try split at h) <;> (try split at h) <;> omega
  · rw [show wrap64 (2 ^ (8 * 2)) = 65536 by decide +kernel]; split at h <;> (try split at h) <;> (try split at h) <;> omega
  · rw [show wrap64 (2 ^ (8 * 3)) = 16777216 by decide +kernel]; split at h <;> (try split at h) <;> (try split at h) <;> omega
theorem bytes2_O (w : World) (x : Int) :
    Calls Try.prog 55 #[.int .i64 2, .int .i64 x] w fun e w' => ∃ g, w.heap.size ≤ g ∧ e = .returned (.slice (some ⟨g, 0, none⟩) 2 2) ∧ Blk w' g 5 ((beB 2 x).map byteV) ∧ Below w.heap.size w w' := bytes_O w 2 x (by decide) (by decide)
def rPutPost (N : List UInt8) (w : World) (e : Ending) (w' : World) : Prop :=
  (((N.length : Int) ≤ 1048576 ∧ ∃ A' c', e = .returned (.tuple #[.slice A' N.length c', .bool true]) ∧ SlAt w' A' N.length (N.map byteV)) ∨
    ((1048576 : Int) < N.length ∧ e = .returned (.tuple #[.slice none 0 0, .bool false]))) ∧ Below w.heap.size w w'

set_option maxRecDepth 20000 in
set_option maxHeartbeats 4000000 in
theorem rPut_walk (w : World) (A : Option Addr) (c : Nat) (ls : List (List UInt8)) (h : Ls w A ls) (hn : ls.length ≤ 65535) (h0 : 0 < ls.length) :
    Calls Try.prog 18 #[.slice A ls.length c] w (rPutPost (ixB ls) w) := by
  have hlen := ixB_len ls
  obtain ⟨n, hn'⟩ : ∃ n, ls.length = n := ⟨_, rfl⟩
  obtain ⟨z, hz'⟩ : ∃ z, ixZ ls = z := ⟨_, rfl⟩
  have hz4 : z ≤ 4 := by rw [← hz']; exact (ixW_bd _).2
  have hz1 : 1 ≤ z := by rw [← hz']; exact (ixW_bd _).1
  have HZ : Hid (ixW (lsSum ls + 1) = z) := Lib.hid hz'
  have HX : Hid (ixB ls = beB 2 n ++ beB 1 z ++ beB z 1 ++ offB z ls n ++ ls.flatten) := Lib.hid (by rw [ixB, ixHd, hz', hn'])
  rw [hn'] at hn h0 hlen ⊢
  rw [hz'] at hlen
  have HN := Lib.hid hn'
  have HL := Lib.hid h
  obtain ⟨T, hT⟩ : ∃ T, lsSum ls = T := ⟨_, rfl⟩
  rw [hT] at hlen
  have HT0 := Lib.hid hT
  obtain ⟨N, hN⟩ : ∃ N, ixB ls = N := ⟨_, rfl⟩
  rw [hN] at HX hlen ⊢
  have HLEN := Lib.hid hlen
  clear hn' hz' h hN hT hlen
  go_enter Try.func18, Try.ntmps18
  go_wp2
  go_loop [4, 5] (fun e i => ∃ k : Nat, k ≤ n ∧ i = .int .i64 k ∧ ∃ s : Nat, Hid (lsSum (ls.take k) + 1 = s) ∧ e = .int .i64 s ∧ (s : Int) ≤ 2097153) (fun _ i => n - (intOf i).toNat)
  case atStart => exact ⟨0, Nat.zero_le _, rfl, 1, Lib.hid (by simp [lsSum]), rfl, by decide⟩
  case round =>
    obtain ⟨k, hk, rfl, s, HS, rfl, hs⟩ := hrel
    by_cases hlt : k < n
    · obtain ⟨l, hl⟩ := ls_get (ls := ls) (k := k) (by rw [HN.out]; exact hlt)
      obtain ⟨b, o, Ai, ci, rfl, hb', hc, hB⟩ := HL.out k l hl
      have hsm := hB.small
      have HT := Lib.hid (lsSum_snoc hl)
      have HM := Lib.hid (lsSum_mem hl)
      have HT2 := Lib.hid (lsSum_take ls (k + 1))
      have HT3 := Lib.hid (lsSum_take ls k)
      obtain ⟨m, hm⟩ : ∃ m, l.length = m := ⟨_, rfl⟩
      rw [hm] at hc hsm HT HM
      clear hl hB hm
      have big : ∀ {x : Nat}, x ≤ T + 1 → (1048576 : Int) < x → (1048576 : Int) < N.length := fun h1 h2 => by have := HLEN.out; have : 1 ≤ (n + 1) * z := Nat.mul_pos (by omega) hz1; omega
      have HBig := fun {x} => Lib.hid (@big x)
      clear big
      by_cases hbig : (1048576 : Int) < m ∨ (1048576 : Int) < s
      · have hbb : (1048576 : Int) < N.length := by
          rcases hbig with hb | hb
          · exact HBig.out (by have := HM.out; have := HT0.out; omega) hb
          · exact HBig.out (by have := HT3.out; have := HS.out; have := HT0.out; omega) hb
        have HBB := Lib.hid hbb
        clear hbb HBig
        rcases Int.lt_or_le 1048576 m with hb | hb
        · go_wp2
          go_ret2
          exact ⟨.inr ⟨HBB.out, rfl⟩, bel_refl.below⟩
        · have hb2 : (1048576 : Int) < s := by omega
          clear hbig
          go_wp2
          go_ret2
          exact ⟨.inr ⟨HBB.out, rfl⟩, bel_refl.below⟩
      · have hb1 : (m : Int) ≤ 1048576 := by omega
        have hb2 : (s : Int) ≤ 1048576 := by omega
        clear hbig HBig
        go_wp2
        refine ⟨⟨_, _, _, _, ⟨k + 1, by omega, ?_, s + m, Lib.hid (by rw [HT.out]; have := HS.out; omega), ?_, by omega⟩, rfl, rfl, rfl, rfl⟩, by simp [intOf]; omega⟩
        · go_num
        · go_num
    · obtain rfl : n = k := by omega
      have hs1 := HS.out
      rw [List.take_of_length_le (by have := HN.out; omega)] at hs1
      have HW : Hid (ixW s = z) := Lib.hid (by rw [← hs1]; exact HZ.out)
      have HST : Hid (s = T + 1) := Lib.hid (by rw [← HT0.out]; exact hs1.symm)
      clear hs1 HS
      go_wp2
      go_loop [6] (fun i => ∃ k : Nat, 1 ≤ k ∧ k ≤ z ∧ i = .int .i64 k) (fun i => z - (intOf i).toNat)
      case atStart => exact ⟨1, by omega, by omega, rfl⟩
      case round =>
        obtain ⟨k, hk1, hk2, rfl⟩ := hrel
        by_cases h : k < z
        · have h3 : k < 4 := by omega
          have hg : wrap64 (2 ^ (8 * k)) ≤ (s : Int) := ixW_shl s k hk1 (by rw [HW.out]; exact h)
          go_wp2
          exact ⟨⟨k + 1, by omega, by omega, by go_num⟩, by simp [intOf]; omega⟩
        · obtain rfl : z = k := by omega
          obtain ⟨q, hq, hq0⟩ : ∃ q : Nat, (n + 1) * z = q ∧ q ≤ 262144 := ⟨_, rfl, Nat.mul_le_mul (show n + 1 ≤ 65536 by omega) hz4⟩
          have hqi : wrap64 (((n : Int) + 1) * (z : Int)) = (q : Int) := by
            rw [← hq, IntWalk.wrap64_in _ ⟨by have := Int.mul_nonneg (show (0 : Int) ≤ n + 1 by omega) (show (0 : Int) ≤ z by omega); omega, ?_⟩]
            · simp
            · have e : ((n : Int) + 1) * z = (((n + 1) * z : Nat) : Int) := by simp
              rw [e, hq]; omega
          have HQ := Lib.hid hq
          clear hq
          have HF : Hid (N.length = 3 + q + T) := Lib.hid (by rw [← HQ.out]; exact HLEN.out)
          by_cases hfit : (1048576 : Int) < N.length
          · have hf : (1048576 : Int) < 3 + q + s - 1 := by have := HF.out; have := HST.out; omega
            have HFI := Lib.hid hfit
            clear hfit
            by_cases h4 : z < 4
            · have hg := ixW_shl' s z hk1 h4 (by rw [HW.out]; exact Nat.le_refl _)
              go_wp2
              go_ret2
              exact ⟨.inr ⟨HFI.out, rfl⟩, bel_refl.below⟩
            · go_wp2
              go_ret2
              exact ⟨.inr ⟨HFI.out, rfl⟩, bel_refl.below⟩
          · have hf : 3 + (q : Int) + s - 1 ≤ 1048576 := by have := HF.out; have := HST.out; omega
            have HFI : Hid ((N.length : Int) ≤ 1048576) := Lib.hid (by omega)
            clear hfit
            have hg2 : (z < 4 ∧ (s : Int) < wrap64 (2 ^ (8 * z))) ∨ 4 ≤ z := by
              rcases Nat.lt_or_ge z 4 with h4 | h4
              · exact .inl ⟨h4, ixW_shl' s z hk1 h4 (by rw [HW.out]; exact Nat.le_refl _)⟩
              · exact .inr h4
            have HZ8 : Hid (z ≤ 8) := Lib.hid (by omega)
            have HZ0 : Hid (0 < z) := Lib.hid hz1
            rcases hg2 with ⟨h4, hg⟩ | h4
            all_goals
              go_wp2_with (first
                | (go_at_call 55; (with_reducible refine (bytes2_O _ _).mono ?_); rintro e w1 ⟨g, hg1, rfl, hB1, hb1⟩
                   have HO1 := Lib.hid (OwB.of_blk hB1 (beB_length _ _) hg1 hb1 (by decide))
                   clear hB1 hb1)
                | (at_builtin; refine wpList_append_ow (by rfl) (.tmp 64) (.tmp 67) (by rfl) (by rfl) (HO1.out.alloc _) _ _ _ (by rfl) (beB 1 z) (slat_byte _ _ _ (by omega)) (by decide) ?_; intro A2 c2 w2 ho2; have HO2 := Lib.hid ho2; clear ho2)
                | (go_at_call 55; (with_reducible refine (bytes_O _ z _ HZ0.out HZ8.out).mono ?_); rintro e w3 ⟨g3, hg3, rfl, hB3, hb3⟩
                   have HO3 := Lib.hid (HO2.out.keep hb3)
                   have HB3 := Lib.hid hB3
                   clear hB3 hb3)
                | (at_builtin; refine wpList_append_ow (by rfl) (.tmp 69) (.tmp 72) (by rfl) (by rfl) HO3.out _ _ _ (by rfl) (beB z 1) (slat_blk HB3.out (by rw [List.length_map, beB_length])) (by have := HZ8.out; omega) ?_; intro A4 c4 w4 ho4; have HO4 := Lib.hid ho4; clear ho4))
              go_loopw [7, 8, 9] (fun o e i wr => ∃ k : Nat, k ≤ n ∧ i = .int .i64 k ∧ (∃ s : Nat, Hid (1 + lsSum (ls.take k) = s) ∧ e = .int .i64 s ∧ (s : Int) ≤ 2097153) ∧ ∃ A L c, o = .slice A L c ∧ (L : Int) ≤ 1048576 ∧ Hid (OwB w.heap.size w wr A L c (beB 2 n ++ beB 1 z ++ beB z 1 ++ offB z ls k))) (fun _ _ i _ => n - (intOf i).toNat)
              case atStart => exact ⟨0, Nat.zero_le _, rfl, ⟨1, Lib.hid (by simp [lsSum]), rfl, by decide⟩, _, _, _, rfl, by have := HZ8.out; simp; omega, Lib.hid (by have := HO4.out; simpa [offB] using this)⟩
              case round =>
                obtain ⟨k, hk, rfl, ⟨s', HS, rfl, hs'⟩, A5, L5, c5, rfl, hL5, HO5⟩ := hrel
                by_cases hlt : k < n
                · obtain ⟨l, hl⟩ := ls_get (ls := ls) (k := k) (by rw [HN.out]; exact hlt)
                  obtain ⟨b, o, Ai, ci, rfl, hb', hc, hB⟩ := HL.out.keep HO5.out.bel k l hl
                  have hsm := hB.small
                  have HT := Lib.hid (lsSum_snoc hl)
                  have hle := lsSum_take ls (k + 1)
                  obtain ⟨m, hm⟩ : ∃ m, l.length = m := ⟨_, rfl⟩
                  rw [hm] at hc hsm HT
                  have hsl : (s' : Int) + m ≤ 2097153 := by have := HT.out; have := HS.out; have := HT0.out; have := HST.out; omega
                  have HOf := Lib.hid (offB_next z ls k)
                  have HA : Hid ((s' : Int) + m = 1 + (lsSum (ls.take (k + 1)) : Int)) := Lib.hid (by have := HT.out; have := HS.out; omega)
                  clear hl hB hm hle
                  go_wp2_with (first
                    | (go_at_call 55; (with_reducible refine (bytes_O _ z _ HZ0.out HZ8.out).mono ?_); rintro e w6 ⟨g6, hg6, rfl, hB6, hb6⟩
                       have HO6 := Lib.hid (HO5.out.keep hb6)
                       have HB6 := Lib.hid hB6
                       clear hB6 hb6)
                    | (at_builtin; refine wpList_append_ow (by rfl) (.tmp 87) (.tmp 90) (by rfl) (by rfl) HO6.out _ _ _ (by rfl) (beB z ((s' : Int) + m)) (slat_blk HB6.out (by rw [List.length_map, beB_length])) (by have := HZ8.out; omega) ?_; intro A7 c7 w7 ho7; rw [HA.out, List.append_assoc, ← HOf.out] at ho7; have HO7 := Lib.hid ho7; clear ho7))
                  go_roundw
                  case rel => exact ⟨k + 1, by omega, by go_num, ⟨s' + m, Lib.hid (by have := HT.out; have := HS.out; omega), by go_num, by omega⟩, _, _, _, rfl, by have h1 := HO7.out.len; rw [pre_len] at h1; have h2 : (k + 1 + 1) * z ≤ (n + 1) * z := Nat.mul_le_mul_right _ (by omega); have := HQ.out; have := HF.out; have := HFI.out; omega, HO7⟩
                  case measure => simp [intOf]; omega
                · obtain rfl : n = k := by omega
                  go_wp2
                  go_loopw [7, 10] (fun o i wr => ∃ k : Nat, k ≤ n ∧ i = .int .i64 k ∧ ∃ A L c, o = .slice A L c ∧ (L : Int) ≤ 1048576 ∧ Hid (OwB w.heap.size w wr A L c (beB 2 n ++ beB 1 z ++ beB z 1 ++ offB z ls n ++ (ls.take k).flatten))) (fun _ i _ => n - (intOf i).toNat)
                  case atStart => exact ⟨0, Nat.zero_le _, rfl, _, _, _, rfl, hL5, Lib.hid (by have := HO5.out; simpa using this)⟩
                  case round =>
                    obtain ⟨k, hk, rfl, A8, L8, c8, rfl, hL8, HO8⟩ := hrel
                    by_cases hlt : k < n
                    · obtain ⟨l, hl⟩ := ls_get (ls := ls) (k := k) (by rw [HN.out]; exact hlt)
                      obtain ⟨b, o, Ai, ci, rfl, hb', hc, hB⟩ := HL.out.keep HO8.out.bel k l hl
                      have hsm := hB.small
                      have hle := lsSum_mem hl
                      have hmT : l.length ≤ 1048576 := by have := HT0.out; have := HF.out; have := HFI.out; omega
                      have HSl := Lib.hid hB.sl
                      have HFl := Lib.hid (flatten_snoc hl)
                      have hTk := lsSum_take ls (k + 1)
                      have HLn : Hid ((beB 2 n ++ beB 1 z ++ beB z 1 ++ offB z ls n ++ (ls.take (k + 1)).flatten).length ≤ 1048576) := Lib.hid (by rw [List.length_append, pre_len, lsSum_flatten]; have := HT0.out; have := HQ.out; have := HF.out; have := HFI.out; omega)
                      obtain ⟨m, hm⟩ : ∃ m, l.length = m := ⟨_, rfl⟩
                      rw [hm] at hc HSl hsm
                      have hmb : (m : Int) ≤ 1048576 := by omega
                      clear hl hB hm hle hmT hTk
                      go_wp2_with (at_builtin; refine wpList_append_ow (by rfl) (.tmp 98) (.tmp 102) (by rfl) (by rfl) HO8.out _ _ _ (by rfl) l HSl.out (by omega) ?_; intro A9 c9 w9 ho9; rw [List.append_assoc, ← HFl.out] at ho9; have HO9 := Lib.hid ho9; clear ho9)
                      go_roundw
                      case rel => exact ⟨k + 1, by omega, by go_num, _, _, _, rfl, by have h1 := HO9.out.len; have := HLn.out; omega, HO9⟩
                      case measure => simp [intOf]; omega
                    · obtain rfl : n = k := by omega
                      have ho := HO8.out
                      rw [List.take_of_length_le (by have := HN.out; omega), ← HX.out] at ho
                      have hlen := ho.len
                      subst hlen
                      have HO := Lib.hid ho
                      clear ho
                      go_wp2
                      go_ret2
                      exact ⟨.inl ⟨HFI.out, A8, c8, rfl, (HO.out.toBs (by omega)).sl⟩, HO.out.bel⟩

end Go.Proofs.Ytbmflgcahbkdeaa
