/-
  Layer 15, the document: what may be put, a whole number.
-/
import Derived.Test.YtoofjkhigonppaaDcS
import Derived.Test.YtoofjkhigonppaaWireF
namespace Go.Proofs.Ytoofjkhigonppaa
open Go.RowKit

theorem rWhole_any (x : Int) (h0 : -9223372036854775808 ≤ x) (h1 : x ≤ 9223372036854775807) (w : World) : Calls Try.prog 33 #[.int .i64 x] w fun e w' => e = .returned (.bool (wholeB x)) ∧ w = w' := by
  have htd := tdm x
  have key : ((x.tmod 65536 == 0) = false ∧ wholeB x = false) ∨ ((x.tmod 65536 == 0) = true ∧ x.tdiv 65536 < -2147483648 ∧ wholeB x = false) ∨ ((x.tmod 65536 == 0) = true ∧ (-2147483648 ≤ x.tdiv 65536 ∧ x.tdiv 65536 < 2147483648) ∧ wholeB x = true) ∨ ((x.tmod 65536 == 0) = true ∧ ¬ x.tdiv 65536 < 2147483648 ∧ wholeB x = false) := by
    unfold wholeB
    simp only [beq_eq_false_iff_ne, beq_iff_eq, decide_eq_false_iff_not, decide_eq_true_eq, ne_eq]
    omega
  obtain ⟨q, hq⟩ : ∃ q, x.tdiv 65536 = q := ⟨_, rfl⟩
  obtain ⟨m, hm⟩ : ∃ m, x.tmod 65536 = m := ⟨_, rfl⟩
  have hqb : -140737488355328 ≤ q ∧ q ≤ 140737488355328 := by omega
  rw [hq, hm] at key
  have hw : wrap64 q = q := IntWalk.wrap64_in _ ⟨by omega, by omega⟩
  clear htd
  rcases key with ⟨h1, hv⟩ | ⟨h1, h2, hv⟩ | ⟨h1, ⟨h2, h3⟩, hv⟩ | ⟨h1, h2, hv⟩
  all_goals
    have HV := Lib.hid hv
    clear hv
    go_enter Try.func33, Try.ntmps33
    go_wp2_with fail
    go_ret
    exact ⟨by rw [HV.out]; rfl, rfl⟩
theorem beB2 (x : Int) : beB 2 x = [by8 (x / 256), by8 x] := by
  unfold beB byteAt by8
  simp [List.range_succ]
theorem beB4 (x : Int) : beB 4 x = [by8 (x / 16777216), by8 (x / 65536), by8 (x / 256), by8 x] := by
  unfold beB byteAt by8
  simp [List.range_succ]
theorem dby2 (w : World) (x : Int) : Calls Try.prog 50 #[.int .i64 2, .int .i64 x] w fun e w' => ∃ A', e = .returned (.slice A' 2 2) ∧ SlAt w' A' 2 ((beB 2 x).map byteV) ∧ Below w.heap.size w w' := bytes_W w 2 x (by omega) (by omega)
theorem dby4 (w : World) (x : Int) : Calls Try.prog 50 #[.int .i64 4, .int .i64 x] w fun e w' => ∃ A', e = .returned (.slice A' 4 4) ∧ SlAt w' A' 4 ((beB 4 x).map byteV) ∧ Below w.heap.size w w' := bytes_W w 4 x (by omega) (by omega)
theorem bs_ow {bs : List UInt8} {w w' : World} {A : Option Addr} {n c : Nat} {cs : List UInt8} (h : OwB w.heap.size w w' A n c cs) (hb : cs = bs) (hn : n ≤ 100) : BsR bs w (.returned (.slice A n c)) w' := by
  have hl := h.len
  subst hb hl
  exact ⟨_, _, rfl, (h.toBs (by omega)).sl, h.bel⟩
set_option maxRecDepth 20000 in
set_option maxHeartbeats 4000000 in
theorem dnumR_any (x : Int) (h0 : -2147483648 ≤ x) (h1 : x < 2147483648) (w : World) : Calls Try.prog 34 #[.int .i64 x] w (BsR (numS x) w) := by
  by_cases c1 : -107 ≤ x ∧ x ≤ 107
  · have hv : numS x = [by8 (x + 139)] := by unfold numS; rw [if_pos c1]
    obtain ⟨a1, a2⟩ := c1
    have HV := Lib.hid hv
    clear hv
    go_enter Try.func34, Try.ntmps34
    go_wp2_with fail
    go_ret
    rw [HV.out]
    exact bs_new (by simp [by8_V]; omega) rfl
  by_cases c2 : -1131 ≤ x ∧ x < 0
  · have hv : numS x = [by8 ((-x - 108) / 256 + 251), by8 (-x - 108)] := by unfold numS; rw [if_neg c1, if_pos c2]
    obtain ⟨a1, a2⟩ := c2
    have a3 : ¬ (-107 ≤ x) := by omega
    have a4 : ¬ (108 ≤ x) := by omega
    have a5 : x ≤ -108 := by omega
    have t1 : (-x - 108).tdiv 256 = (-x - 108) / 256 := Int.tdiv_eq_ediv_of_nonneg (by omega)
    have t2 : (-x - 108).tmod 256 = (-x - 108) % 256 := Int.tmod_eq_emod_of_nonneg (by omega)
    have HV := Lib.hid hv
    clear hv c1
    go_enter Try.func34, Try.ntmps34
    go_wp2_with fail
    go_ret
    rw [HV.out]
    refine bs_new ?_ rfl
    simp [by8_V]
    try omega
  by_cases c3 : 0 < x ∧ x ≤ 1131
  · have hv : numS x = [by8 ((x - 108) / 256 + 247), by8 (x - 108)] := by unfold numS; rw [if_neg c1, if_neg c2, if_pos c3]
    obtain ⟨a1, a2⟩ := c3
    have a3 : ¬ (x ≤ 107) := by omega
    have a4 : -107 ≤ x := by omega
    have a5 : 108 ≤ x := by omega
    have t1 : (x - 108).tdiv 256 = (x - 108) / 256 := Int.tdiv_eq_ediv_of_nonneg (by omega)
    have t2 : (x - 108).tmod 256 = (x - 108) % 256 := Int.tmod_eq_emod_of_nonneg (by omega)
    have HV := Lib.hid hv
    clear hv c1 c2
    go_enter Try.func34, Try.ntmps34
    go_wp2_with fail
    go_ret
    rw [HV.out]
    refine bs_new ?_ rfl
    simp [by8_V]
    try omega
  have hn : x < -1131 ∨ 1131 < x := by omega
  have ho : ∀ b y, (Value.int .u8 y = byteV b) → OwB w.heap.size w (w.alloc (.cells #[.int .u8 y] 5)) (some ⟨w.heap.size, 0, none⟩) 1 1 [b] := fun b y hy => by
    rw [hy]
    exact OwB.of_blk (Blk.newAt w _ [byteV b] rfl) rfl (Nat.le_refl _) (bel_alloc bel_refl).below (by omega)
  by_cases c4 : -32768 ≤ x ∧ x < 32768
  · have hv : [28] ++ beB 2 x = numS x := by unfold numS; rw [if_neg c1, if_neg c2, if_neg c3, if_pos c4, beB2]; rfl
    have HO := Lib.hid (ho 28 28 rfl)
    obtain ⟨a1, a2⟩ := c4
    have HV := Lib.hid hv
    clear hv c1 c2 c3 ho
    rcases hn with d1 | d1
    all_goals
      go_enter Try.func34, Try.ntmps34
      go_wp2_with (first
        | (go_at_call 50; (with_reducible refine (dby2 _ x).mono ?_); rintro e w5 ⟨A5, rfl, hs5, hb5⟩; have HP5 := Lib.hid (HO.out.keep hb5); have HS5 := Lib.hid hs5; clear hs5 hb5)
        | (at_builtin; refine wpList_append_ow (by rfl) (.tmp 57) (.tmp 59) (by rfl) (by rfl) HP5.out A5 2 _ (by rfl) (beB 2 x) HS5.out (by omega) ?_; intro A6 c6 w6 hp6; have HP6 := Lib.hid hp6; clear hp6)
        | fail)
      go_ret
      exact bs_ow HP6.out HV.out (by omega)
  · have hv : [29] ++ beB 4 x = numS x := by unfold numS; rw [if_neg c1, if_neg c2, if_neg c3, if_neg c4, beB4]; rfl
    have HO := Lib.hid (ho 29 29 rfl)
    have HV := Lib.hid hv
    clear hv c1 c2 c3 ho
    have hn2 : x < -32768 ∨ (1131 < x ∧ 32768 ≤ x) := by omega
    clear hn
    rcases hn2 with d1 | ⟨d1, d2⟩
    all_goals
      go_enter Try.func34, Try.ntmps34
      go_wp2_with (first
        | (go_at_call 50; (with_reducible refine (dby4 _ x).mono ?_); rintro e w5 ⟨A5, rfl, hs5, hb5⟩; have HP5 := Lib.hid (HO.out.keep hb5); have HS5 := Lib.hid hs5; clear hs5 hb5)
        | (at_builtin; refine wpList_append_ow (by rfl) (.tmp 61) (.tmp 63) (by rfl) (by rfl) HP5.out A5 4 _ (by rfl) (beB 4 x) HS5.out (by omega) ?_; intro A6 c6 w6 hp6; have HP6 := Lib.hid hp6; clear hp6)
        | fail)
      go_ret
      exact bs_ow HP6.out HV.out (by omega)
end Go.Proofs.Ytoofjkhigonppaa
