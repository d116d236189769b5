/-
  The document's Load of layer 14, behind a head that may be.
-/
import Derived.Test.YtbmflgcahbkdeaaIdxO
import Derived.Test.YtbmflgcahbkdeaaOwLs
import Derived.Test.YtbmflgcahbkdeaaSliceAt
import Derived.Deep.RegionHeldLaw
namespace Go.Proofs.Ytbmflgcahbkdeaa
open Go.RowKit

set_option maxRecDepth 20000 in
set_option maxHeartbeats 4000000 in
theorem rLoad_rest (w : World) (A : Option Addr) (bs : List UInt8) (c : Nat) (h : Bs w A bs c) (h0 : ixN bs ≠ 0) (hh : ixHeadOk bs = true) :
    Calls Try.prog 14 #[.slice A bs.length c] w (RLPost bs w) := by
  have hsm := h.small
  have HR0 := Lib.hid (Rx.new h)
  have HB0 := Lib.hid (bel_alloc (o := .cells #[.slice A bs.length c, .int .i64 0, .bool false] 89) (bel_refl (a := w)))
  have HS := Lib.hid h
  have HRow : Hid (0 < bs.length → ∀ b, rowOf A = some b → b < w.heap.size + 1) := Lib.hid fun _ b hb => Nat.lt_succ_of_lt (h.row b hb)
  obtain ⟨n, hn⟩ : ∃ n, ixN bs = n := ⟨_, rfl⟩
  obtain ⟨z, hz⟩ : ∃ z, ixS bs = z := ⟨_, rfl⟩
  have hn2 : (n : Int) ≤ 65535 := by rw [← hn]; exact nAt_lt2 bs 0
  have hHH := hh
  simp only [ixHeadOk, ixBase, hn, hz] at hHH
  simp at hHH
  obtain ⟨h1, h2, h3, h4⟩ := hHH
  have HOK0 : Hid (ixOk bs = (offGood bs 3 z n && decide (3 + (n + 1) * z + (offAt bs 3 z n - 1) ≤ bs.length))) := Lib.hid (by
    simp only [ixOk, ixGood, hh, ixBase, ixO, hn, hz, Bool.true_and]
    have e1 : decide (2 ≤ bs.length) = true := by simp; omega
    have e2 : decide (n = 0) = false := by rw [hn] at h0; simp [h0]
    rw [e1, e2, Bool.true_and, Bool.false_or])
  have HLE : Hid ((ixLists bs).length = n) := Lib.hid (by simp [ixLists, hn])
  have HIL : Hid (∀ i, i < n → (ixLists bs)[i]? = some ((bs.drop (3 + (n + 1) * z + (offAt bs 3 z i - 1))).take (offAt bs 3 z (i + 1) - offAt bs 3 z i))) := Lib.hid fun i hi => by
    rw [ixLists, hn, List.getElem?_map, List.getElem?_range hi]
    simp only [Option.map_some, ixO, ixBase, hn, hz]
  have HIY : Hid (ixBytes bs = 3 + (n + 1) * z + (offAt bs 3 z n - 1)) := Lib.hid (by rw [ixBytes, hn, if_neg (by rw [hn] at h0; exact h0), ixBase, hn, hz, ixO, hz])
  rw [hn] at h0
  have hb0 : ((n : Int) == 0) = false := by simp; omega
  have HN : Hid (nAt bs 0 2 = n) := Lib.hid hn
  have HZ : Hid (nAt bs 2 1 = z) := Lib.hid hz
  obtain ⟨q, hq, hq0⟩ : ∃ q : Nat, (n + 1) * z = q ∧ q ≤ 262144 := ⟨_, rfl, Nat.mul_le_mul (show n + 1 ≤ 65536 by omega) h3⟩
  have hqi : wrap64 (((n : Int) + 1) * (z : Int)) = (q : Int) := by
    have e : ((n : Int) + 1) * z = (((n + 1) * z : Nat) : Int) := by simp
    rw [e, hq]
    exact IntWalk.wrap64_in _ ⟨by omega, by omega⟩
  rw [hq] at h4 HOK0 HIL HIY
  have HQ := Lib.hid hq
  have h5 : (q : Int) ≤ (bs.length : Int) - 3 := by omega
  have hn16 : n ≤ 65535 := by omega
  clear hq h hh hn hz
  go_enter Try.func14, Try.ntmps14
  go_wp2_with (first | (go_at_call 47; (with_reducible refine (xU2_p HR0.out (by omega)).mono ?_); rintro e w1 ⟨rfl, hr1, ht1⟩; rw [HN.out]; have k2 := hr1.badC; have HR1 := Lib.hid hr1; have HB1 := Lib.hid (HB0.out.below.trans (ht1.below HB0.out.le (Nat.le_refl _) (by intro k e; cases e))); clear hr1 ht1) | (go_at_call 47; (with_reducible refine (xU1_p HR1.out (by omega)).mono ?_); rintro e w2 ⟨rfl, hr2, ht2⟩; rw [HZ.out]; have k3 := hr2.badC; have HR2 := Lib.hid hr2; have HB2 := Lib.hid (HB1.out.trans (ht2.below HB1.out.size (Nat.le_refl _) (by intro k e; cases e))); clear hr2 ht2))
  go_loopw [8, 9] (fun v i wr => ∃ k : Nat, k ≤ n + 1 ∧ i = .int .i64 k ∧ (∃ A1 c1, v = .slice A1 k c1 ∧ Hid (OwI (w.heap.size + 1) wr A1 k c1 (offList bs 3 z k))) ∧
    Hid (Rx wr w.heap.size bs (3 + k * z) false A c) ∧ Hid (Below w.heap.size w wr) ∧ Hid ((1 ≤ k → offAt bs 3 z 0 = 1) ∧ ∀ i, i + 1 < k → offAt bs 3 z i ≤ offAt bs 3 z (i + 1))) (fun _ i _ => n + 1 - (intOf i).toNat)
  case atStart => exact ⟨0, Nat.zero_le _, rfl, ⟨none, 0, rfl, Lib.hid (OwI.nilB (by have := HR2.out.blk.lt; omega))⟩, Lib.hid (by have := HR2.out; simpa using this), HB2, Lib.hid ⟨fun h => by omega, fun i h => by omega⟩⟩
  case round =>
    obtain ⟨k, hk, rfl, ⟨A1, c1, rfl, HO⟩, HR, HB, HG⟩ := hrel
    by_cases hlt : k < n + 1
    · have hps : (k + 1) * z ≤ (n + 1) * z := Nat.mul_le_mul_right _ (by omega)
      have HC := Lib.hid (xU_p HR.out z h3 (by rw [Nat.succ_mul] at hps; have := HQ.out; omega))
      have hyl := nAt_lt bs (3 + k * z) z
      obtain ⟨y, hy⟩ : ∃ y, nAt bs (3 + k * z) z = y := ⟨_, rfl⟩
      rw [hy] at HC hyl
      have hyb : (y : Int) ≤ 4294967295 := by
        have : 256 ^ z ≤ 256 ^ 4 := Nat.pow_le_pow_right (by omega) h3
        have e : (256 : Nat) ^ 4 = 4294967296 := by decide
        omega
      have HY : Hid (offAt bs 3 z k = y) := Lib.hid hy
      clear hps hy hyl
      have HOL := Lib.hid (offList_next bs 3 z k)
      have hk4 : k ≤ 65535 := by omega
      rcases Nat.eq_zero_or_pos k with h0k | h0k
      · subst h0k
        by_cases hy1 : y = 1
        · subst hy1
          have HN' : Hid ((1 ≤ 0 + 1 → offAt bs 3 z 0 = 1) ∧ ∀ i, i + 1 < 0 + 1 → offAt bs 3 z i ≤ offAt bs 3 z (i + 1)) := Lib.hid ⟨fun _ => HY.out, fun i hi => by omega⟩
          go_wp2_with (first
            | (go_at_call 47; (with_reducible refine HC.out.mono ?_); rintro e w5 ⟨rfl, hr5, ht5⟩
               have HR5 := Lib.hid hr5
               have HO5 := Lib.hid (HO.out.turn ht5 (by omega))
               have HB5 := Lib.hid (HB.out.trans (ht5.below HB.out.size (Nat.le_refl _) (by intro k e; cases e)))
               clear hr5 ht5)
            | (at_builtin; refine wpList_append_oi (by rfl) (.tmp 83) (.tmp 85) (by rfl) (by rfl) (HO5.out.keep (bel_alloc bel_refl).below) _ _ _ (by rfl) [_] (slat_int _ _) (by omega) ?_; intro A6 c6 w6 ho6 hgrow
               have hb6 := grown_below' hgrow (HO5.out.keep (bel_alloc bel_refl).below).le (fun k hk => (HO5.out.row k hk).1)
               have HB6 := Lib.hid ((HB5.out.alloc HB5.out.size _).trans (hb6.mono (by omega)))
               have HR6 := Lib.hid ((HR5.out.keep (bel_alloc bel_refl).below).keepB hb6 (HO5.out.keep (bel_alloc bel_refl).below).le (by omega) HRow.out)
               have HO6 := Lib.hid ho6
               clear ho6 hgrow hb6))
          go_roundw
          case rel =>
            refine ⟨_ + 1, ?_, ?_, ⟨A6, c6, rfl, Lib.hid (by rw [HOL.out, HY.out]; exact HO6.out)⟩, Lib.hid ?_, HB6, HN'⟩
            · omega
            · go_num
            · rw [Nat.succ_mul, ← Nat.add_assoc]; exact HR6.out
          case measure => first | (simp [intOf]; done) | (simp [intOf]; omega)
        · have hyn : ((y : Int) != 1) = true := by simp; omega
          have HBad : Hid (ixOk bs = false) := Lib.hid (by
            rw [HOK0.out, show offGood bs 3 z n = false by
              rcases Bool.eq_false_or_eq_true (offGood bs 3 z n) with hg | hg
              · have := (offs_bad hg (Nat.zero_le n)).1 rfl
                rw [HY.out] at this
                exact absurd this hy1
              · exact hg]
            rfl)
          go_wp2_with (first | (go_at_call 47; (with_reducible refine HC.out.mono ?_); rintro e w5 ⟨rfl, hr5, ht5⟩; have HB5 := Lib.hid (HB.out.trans (ht5.below HB.out.size (Nat.le_refl _) (by intro k e; cases e))); clear hr5 ht5))
          go_ret3
          exact ⟨HB5.out, .inr ⟨HBad.out, 0, rfl⟩⟩
      · obtain ⟨j, rfl⟩ : ∃ j, k = j + 1 := ⟨k - 1, by omega⟩
        obtain ⟨b, o, rfl, hb, hc⟩ := HO.out.sl.2 j (by omega)
        obtain ⟨x, hx⟩ : ∃ x, offAt bs 3 z j = x := ⟨_, rfl⟩
        have hc' : wr.cell? ⟨b, o + j, none⟩ = some (.int .i64 (x : Int)) := by
          rw [hc, List.getElem?_map, offList, List.getElem?_map, List.getElem?_range (by omega)]
          simp [hx]
        have HXX := Lib.hid hx
        have hBr := (HO.out.row b rfl).1
        clear hc hx
        rcases Nat.lt_or_ge y x with hyx | hyx
        · have HBad : Hid (ixOk bs = false) := Lib.hid (by
            rw [HOK0.out, show offGood bs 3 z n = false by
              rcases Bool.eq_false_or_eq_true (offGood bs 3 z n) with hg | hg
              · have := (offs_bad hg (show j + 1 ≤ n by omega)).2 j rfl
                rw [HY.out, HXX.out] at this
                omega
              · exact hg]
            rfl)
          go_wp2_with (first
            | (go_at_call 47; (with_reducible refine HC.out.mono ?_); rintro e w5 ⟨rfl, hr5, ht5⟩
               have hc5 : w5.cell? ⟨b, o + j, none⟩ = some (.int .i64 (x : Int)) := by rw [World.cell?_of_block (w := wr) (w' := w5) (ht5.block b hb (by omega) (by intro e; cases e))]; exact hc'
               have HR5 := Lib.hid hr5
               have HO5 := Lib.hid (HO.out.turn ht5 (by omega))
               have HB5 := Lib.hid (HB.out.trans (ht5.below HB.out.size (Nat.le_refl _) (by intro k e; cases e)))
               clear hr5 ht5))
          go_ret3
          exact ⟨HB5.out, .inr ⟨HBad.out, 0, rfl⟩⟩
        · have HN' : Hid ((1 ≤ j + 1 + 1 → offAt bs 3 z 0 = 1) ∧ ∀ i, i + 1 < j + 1 + 1 → offAt bs 3 z i ≤ offAt bs 3 z (i + 1)) := Lib.hid (by
            refine ⟨fun _ => HG.out.1 (by omega), fun i hi => ?_⟩
            rcases Nat.lt_or_ge i j with h | h
            · exact HG.out.2 i (by omega)
            · obtain rfl : i = j := by omega
              rw [HXX.out, HY.out]
              exact hyx)
          go_wp2_with (first
            | (go_at_call 47; (with_reducible refine HC.out.mono ?_); rintro e w5 ⟨rfl, hr5, ht5⟩
               have hc5 : w5.cell? ⟨b, o + j, none⟩ = some (.int .i64 (x : Int)) := by rw [World.cell?_of_block (w := wr) (w' := w5) (ht5.block b hb (by omega) (by intro e; cases e))]; exact hc'
               have HR5 := Lib.hid hr5
               have HO5 := Lib.hid (HO.out.turn ht5 (by omega))
               have HB5 := Lib.hid (HB.out.trans (ht5.below HB.out.size (Nat.le_refl _) (by intro k e; cases e)))
               clear hr5 ht5)
            | (at_builtin; refine wpList_append_oi (by rfl) (.tmp 83) (.tmp 85) (by rfl) (by rfl) (HO5.out.keep (bel_alloc bel_refl).below) _ _ _ (by rfl) [_] (slat_int _ _) (by omega) ?_; intro A6 c6 w6 ho6 hgrow
               have hb6 := grown_below' hgrow (HO5.out.keep (bel_alloc bel_refl).below).le (fun k hk => (HO5.out.row k hk).1)
               have HB6 := Lib.hid ((HB5.out.alloc HB5.out.size _).trans (hb6.mono (by omega)))
               have HR6 := Lib.hid ((HR5.out.keep (bel_alloc bel_refl).below).keepB hb6 (HO5.out.keep (bel_alloc bel_refl).below).le (by omega) HRow.out)
               have HO6 := Lib.hid ho6
               clear ho6 hgrow hb6))
          go_roundw
          case rel =>
            refine ⟨_ + 1, ?_, ?_, ⟨A6, c6, rfl, Lib.hid (by rw [HOL.out, HY.out]; exact HO6.out)⟩, Lib.hid ?_, HB6, HN'⟩
            · omega
            · go_num
            · rw [Nat.succ_mul, ← Nat.add_assoc]; exact HR6.out
          case measure => first | (simp [intOf]; done) | (simp [intOf]; omega)
    · obtain rfl : k = n + 1 := by omega
      have HGood : Hid (offGood bs 3 z n = true) := Lib.hid ((offGood_iff _ _ _ _).2 ⟨HG.out.1 (by omega), fun i hi => HG.out.2 i (by omega)⟩)
      have hmono := fun i (hi : i < n) => HG.out.2 i (by omega)
      have gpos : ∀ i, i ≤ n → 1 ≤ offAt bs 3 z i := by
        intro i
        induction i with
        | zero => intro _; have := HG.out.1 (by omega); omega
        | succ i ih => intro hi; have := hmono i (by omega); have := ih (by omega); omega
      have gup : ∀ i j, i ≤ j → j ≤ n → offAt bs 3 z i ≤ offAt bs 3 z j := by
        intro i j hij
        induction j with
        | zero => intro _; obtain rfl : i = 0 := by omega
                  exact Nat.le_refl _
        | succ j ih =>
          intro hj
          rcases Nat.lt_or_ge i (j + 1) with h | h
          · exact Nat.le_trans (ih (by omega) (by omega)) (hmono j (by omega))
          · obtain rfl : i = j + 1 := by omega
            exact Nat.le_refl _
      obtain ⟨m, hm⟩ : ∃ m, offAt bs 3 z n = m + 1 := ⟨offAt bs 3 z n - 1, by have := gpos n (Nat.le_refl _); omega⟩
      have hml : (m : Int) ≤ 4294967295 := by
        have h1 := nAt_lt bs (3 + n * z) z
        have h2 : 256 ^ z ≤ 256 ^ 4 := Nat.pow_le_pow_right (by omega) h3
        have e : (256 : Nat) ^ 4 = 4294967296 := by decide
        have : offAt bs 3 z n = nAt bs (3 + n * z) z := rfl
        omega
      have cellO : ∀ i, i ≤ n → ∃ b o, A1 = some ⟨b, o, none⟩ ∧ b < wr.heap.size ∧ wr.cell? ⟨b, o + i, none⟩ = some (.int .i64 (offAt bs 3 z i : Int)) := fun i hi => by
        obtain ⟨b, o, hA, hb, hc⟩ := HO.out.sl.2 i (by omega)
        refine ⟨b, o, hA, hb, ?_⟩
        rw [hc, List.getElem?_map, offList, List.getElem?_map, List.getElem?_range (by omega)]
        rfl
      obtain ⟨b, o, rfl, hb, hcn⟩ := cellO n (Nat.le_refl _)
      rw [hm] at hcn
      have hcn' : wr.cell? ⟨b, o + n, none⟩ = some (.int .i64 ((m : Int) + 1)) := by rw [hcn]; simp
      obtain ⟨Q, hQ⟩ : ∃ Q, q + 2 = Q := ⟨_, rfl⟩
      have kat : wr.cell? ⟨w.heap.size, 1, none⟩ = some (.int .i64 ((Q : Int) + 1)) := by
        rw [HR.out.atC, HQ.out]
        congr 2
        omega
      have HOK : Hid (ixOk bs = decide (3 + q + m ≤ bs.length)) := Lib.hid (by rw [HOK0.out, HGood.out, hm]; simp)
      have HUP := Lib.hid gup
      have HPOS := Lib.hid gpos
      have HM := Lib.hid hm
      have HCO := Lib.hid cellO
      have HQ2 := Lib.hid hQ
      have hQ3 : (Q : Int) ≤ 300000 := by omega
      clear hcn hmono gpos gup hm cellO
      rcases Int.lt_or_le ((bs.length : Int) - Q) (m + 1) with hfit | hfit
      · have HOK2 : Hid (ixOk bs = false) := Lib.hid (by rw [HOK.out]; simp; have := HQ2.out; omega)
        go_wp2
        go_ret3
        exact ⟨HB.out, .inr ⟨HOK2.out, 0, rfl⟩⟩
      · have HOK2 : Hid (ixOk bs = true) := Lib.hid (by rw [HOK.out]; simp; have := HQ2.out; omega)
        clear hQ
        go_wp2
        obtain ⟨w7, rfl⟩ : ∃ w7, w7 = wr := ⟨_, rfl⟩
        rw [show ((n + 1 : Nat) : Int) = (n : Int) + 1 by omega]
        go_loopw [12, 13] (fun v i wx => ∃ k : Nat, k ≤ n ∧ i = .int .i64 k ∧ (∃ A2 c2, v = .slice A2 k c2 ∧ Hid (OwLs w7.heap.size wx A2 k c2 ((ixLists bs).take k))) ∧ Hid (Below w7.heap.size w7 wx)) (fun _ i _ => n - (intOf i).toNat)
        case atStart => exact ⟨0, Nat.zero_le _, rfl, ⟨none, 0, rfl, Lib.hid (OwLs.nil (Nat.le_refl _))⟩, Lib.hid (Below.refl _ _)⟩
        case round =>
          obtain ⟨k, hk, rfl, ⟨A2, c2, rfl, HOL2⟩, HBx⟩ := hrel
          by_cases hlt : k < n
          · obtain ⟨x0, hx0⟩ : ∃ x0, offAt bs 3 z k = x0 := ⟨_, rfl⟩
            obtain ⟨x1, hx1⟩ : ∃ x1, offAt bs 3 z (k + 1) = x1 := ⟨_, rfl⟩
            have p0 := HPOS.out k (by omega)
            have u0 := HUP.out k (k + 1) (by omega) (by omega)
            have u1 := HUP.out (k + 1) n (by omega) (Nat.le_refl _)
            obtain ⟨b0, o0, hA0, _, hc0⟩ := HCO.out k (by omega)
            obtain ⟨b1, o1, hA1, _, hc1⟩ := HCO.out (k + 1) (by omega)
            rw [HM.out] at u1
            rw [hx0] at p0 u0 hc0
            rw [hx1] at u0 u1 hc1
            injection hA0 with hA0
            injection hA0 with e1 e2
            injection hA1 with hA1
            injection hA1 with e3 e4
            subst e1 e2 e3 e4
            have g0 : w7.cell? ⟨b, o + k, none⟩ = some (.int .i64 (x0 : Int)) := hc0
            have g1 : w7.cell? ⟨b, o + (k + 1), none⟩ = some (.int .i64 (x1 : Int)) := hc1
            have HX0 := Lib.hid hx0
            have HX1 := Lib.hid hx1
            clear hc0 hc1 hx0 hx1
            have hv0 : (Q : Int) + x0 ≤ bs.length := by omega
            have hv1 : (Q : Int) + x1 ≤ bs.length := by omega
            have hi1 : IntKind.i64.wrap ((k : Int) + 1) = (k : Int) + 1 := IntWalk.i64_in _ (by omega)
            have n2 : ((k : Int) + 1).toNat = k + 1 := by omega
            have hg0 : ∀ u, Aft w7 u → u.cell? ⟨b, o + k, none⟩ = some (.int .i64 (x0 : Int)) := fun u hu => (Below.cell hu (p := ⟨b, o + k, none⟩) hb).trans g0
            have hg1 : ∀ u, Aft w7 u → u.cell? ⟨b, o + (k + 1), none⟩ = some (.int .i64 (x1 : Int)) := fun u hu => (Below.cell hu (p := ⟨b, o + (k + 1), none⟩) hb).trans g1
            have hq0 : ((Q : Int) + x0).toNat = Q + x0 := by omega
            have hq1 : ((Q : Int) + x1).toNat = Q + x1 := by omega
            have hcap : bs.length ≤ c := HS.out.cap
            clear g0 g1
            obtain ⟨As, hAs⟩ : ∃ As, (if c = Q + x0 then A else Option.map (fun y => y.add (Q + x0)) A) = As := ⟨_, rfl⟩
            have hsl : ∀ u : World, (Instr.slice 22 (.slice A bs.length c) (some (.int .i64 ((Q : Int) + x0))) (some (.int .i64 ((Q : Int) + x1))) none).run Try.prog u = .ok (.slice As (x1 - x0) (c - (Q + x0))) u := fun u => by
              rw [run_sl u A bs.length c (Q + x0) (Q + x1) _ _ (by omega) (by omega) (by omega) (by omega), hAs, show Q + x1 - (Q + x0) = x1 - x0 by omega]
            have hwa : IntKind.i64.wrap ((Q : Int) + x0) = (Q : Int) + x0 := IntWalk.i64_in _ (by omega)
            have hwb : IntKind.i64.wrap ((Q : Int) + x1) = (Q : Int) + x1 := IntWalk.i64_in _ (by omega)
            have HAs := Lib.hid hAs
            obtain ⟨l, hl⟩ : ∃ l, (bs.drop (Q + x0)).take (x1 - x0) = l := ⟨_, rfl⟩
            have hlL : l.length = x1 - x0 := by rw [← hl]; simp; omega
            have HSl : Hid (SlAt wr As (x1 - x0) (l.map byteV)) := Lib.hid (by
              have h := SlAt.sub_if (c := c) ((HS.out.sl.keep HB.out).keep HBx.out) HS.out.cap (Q + x0) (x1 - x0) (by omega)
              rw [hAs, ← List.map_drop, ← List.map_take, hl] at h
              exact h)
            obtain ⟨M, hM⟩ : ∃ M, x1 - x0 = M := ⟨_, rfl⟩
            have hMl : M ≤ 4294967296 := by omega
            rw [hM] at hsl HSl hlL
            have HE : Hid (OwB wr.heap.size wr (wr.alloc (.cells #[] 5)).drew (some ⟨wr.heap.size, 0, none⟩) 0 0 []) := Lib.hid (OwB.drew ⟨rfl, own_empty wr _, (bel_alloc bel_refl).below, by simp⟩)
            have HSE : Hid (SlAt (wr.alloc (.cells #[] 5)).drew As M (l.map byteV)) := Lib.hid (HSl.out.keep (bel_drew (bel_alloc bel_refl)).below)
            have HAx : Hid (Aft w7 wr) := Lib.hid HBx.out
            have HTK : Hid ((ixLists bs).take (k + 1) = (ixLists bs).take k ++ [l]) := Lib.hid (by
              rw [List.take_add_one, HIL.out k hlt, HX0.out, HX1.out, show 3 + q + (x0 - 1) = Q + x0 by have := HQ2.out; omega, hl]
              rfl)
            have HLL := Lib.hid hlL
            have HLT := Lib.hid hl
            clear hAs hv0 hv1 hcap u0 u1 hq0 hq1 hl hlL hM
            go_wp2_with fail
            go_region_held_law (fun u => Aft w7 u) (first | (with_reducible exact HAx.out.drew) | (with_reducible exact (HAx.out.alloc _).drew) | (with_reducible exact HA8.out) | (with_reducible exact HA8.out.alloc _) | (with_reducible exact HA9.out))
              (first
                | (refine step_append_ow ?_ (.tmp 107) (.tmp 122) ?_ ?_ HE.out As M (c - (Q + x0)) ?_ l HSE.out ?_ ?_; (· rfl); (· rfl); (· rfl); (· rfl); (· omega); intro A8 c8 w8 ho8; rw [Nat.zero_add, List.nil_append] at ho8; rw [Nat.zero_add]; have HO8 := Lib.hid ho8; have HA8 : Hid (Aft w7 w8) := Lib.hid (HAx.out.call ho8.bel); clear ho8)
                | (refine step_append_ols ?_ (.tmp 106) (.tmp 124) ?_ ?_ ((HOL2.out.keep HO8.out.bel).keep (bel_alloc (o := .cells #[.slice A8 M c8] 22) (bel_refl (a := w8))).below) A8 c8 l ((HO8.out.toBt (by omega)).keep (bel_alloc (o := .cells #[.slice A8 M c8] 22) (bel_refl (a := w8))).below) (some ⟨w8.heap.size, 0, none⟩) 1 ?_ ?_ ?_ ?_; (· rfl); (· rfl); (· rfl); (· rfl); (· rw [HLL.out]; exact slat_sl _ _); (· omega); intro A9 c9 w9 ho9 hgrow; have HO9 := Lib.hid ho9; have HA9 : Hid (Aft w7 w9) := Lib.hid ((HA8.out.alloc _).trans (grown_below' hgrow (HA8.out.alloc _).size (fun b hb => (HOL2.out.row b hb).1))); clear ho9 hgrow))
            all_goals
              go_wp2_with fail
              go_roundw
              case rel => exact ⟨k + 1, by omega, by go_num, ⟨A9, c9, rfl, Lib.hid (by rw [HTK.out]; exact HO9.out)⟩, Lib.hid HA9.out⟩
              case measure => simp [intOf]; omega
          · obtain rfl : k = n := by omega
            have hl := HOL2.out
            rw [List.take_of_length_le (by rw [HLE.out]; exact Nat.le_refl _)] at hl
            have HLs := Lib.hid hl.toLs
            have g0 : wr.cell? ⟨b, o + k, none⟩ = some (.int .i64 ((m : Int) + 1)) := (HBx.out.cell (p := ⟨b, o + k, none⟩) hb).trans hcn'
            have hw : IntKind.i64.wrap ((Q : Int) + ((m : Int) + 1)) = (Q : Int) + ((m : Int) + 1) := IntWalk.i64_in _ (by omega)
            have HZZ : Hid ((Q : Int) + ((m : Int) + 1) = (ixBytes bs : Int)) := Lib.hid (by rw [HIY.out, HM.out]; have := HQ2.out; omega)
            clear hl
            go_wp2_with fail
            go_quiet (fail)
            go_wp2
            go_ret3
            exact ⟨below_drewN (HB.out.trans (HBx.out.mono HB.out.size)) _, .inl ⟨HOK2.out, A2, c2, by rw [HLE.out, ← HZZ.out]; rfl, HLs.out.keep (bel_drewN bel_refl).below⟩⟩

end Go.Proofs.Ytbmflgcahbkdeaa
