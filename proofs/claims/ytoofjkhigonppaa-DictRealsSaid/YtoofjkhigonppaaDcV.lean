/-
  Layer 15: DictWholes.
-/
import Derived.Test.YtoofjkhigonppaaDcU
namespace Go.Proofs.Ytoofjkhigonppaa
open Go.RowKit

theorem parse_whole {w : World} {l : List Int} {x : Int} {A : Option Addr} {n c : Nat} (h : ∀ d ∈ l, 0 ≤ d ∧ d ≤ 14) (hr : realF l = some x) (hl : l.length ≤ 11) (hn : (halvesS l ++ [5]).length = n) (hs : Bs w A (halvesS l ++ [5]) c) :
    Calls Try.prog 9 #[.slice A n c] w fun e w' => ∃ A1 c1 A2 c2, e = .returned (.tuple #[.slice A1 1 c1, .int .i64 0]) ∧ EnL w' A1 1 [⟨5, A2, c2, [x]⟩] ∧ Below w.heap.size w w' :=
  parse_lit (by rw [parse_real h, hr]; rfl) hn (by rw [← hn, List.length_append, halves_len, List.length_singleton]; omega) (by rw [← hn]; exact hs.sl) (by rw [← hn]; exact hs.cap) hs.row
theorem halvesN {w : World} {A : Option Addr} {n c : Nat} {l : List Int} (hn : l.length = n) (h : SlAt w A n (l.map (Value.int .i64))) (hi : ∀ x ∈ l, 0 ≤ x ∧ x ≤ 14) (hl : n ≤ 11) :
    Calls Try.prog 18 #[.slice A n c] w fun e w' => ∃ A c m, e = .returned (.slice A m c) ∧ (halvesS l).length = m ∧ m ≤ 7 ∧ OwB w.heap.size w w' A m c (halvesS l) := by
  subst hn
  exact (halvesL_any h (fun x hx => by have := hi x hx; omega) (by omega)).mono fun e w' ⟨A, c, he, ho⟩ => ⟨A, c, _, he, rfl, by rw [halves_len]; omega, ho⟩
/-- The digits so far. -/
structure DigL (n x : Int) (l : List Int) : Prop where
  dig : ∀ d ∈ l, 0 ≤ d ∧ d ≤ 9
  sum : x * 10 ^ l.length + valP l = n
  le : x * 10 ^ l.length ≤ n
  len : l.length ≤ 10
  x0 : 0 ≤ x
  ge : l ≠ [] ∧ 0 < x → l.length ≤ 9
theorem digL_next {n z : Int} {l : List Int} (h : DigL n z l) (n1 : n ≤ 2147483648) (hg : 0 < z ∨ l = []) : DigL n (z / 10) (z % 10 :: l) := by
  obtain ⟨h1, h2, h3, h4, h5, h6⟩ := h
  have h9 : l.length ≤ 9 := by
    by_cases hl : l = []
    · subst hl; simp
    · exact h6 ⟨hl, by rcases hg with h | h; exact h; exact absurd h hl⟩
  have hz := Int.mul_ediv_add_emod z 10
  have hp : (0 : Int) < 10 ^ l.length := Int.pow_pos (by decide)
  have e1 : z / 10 * 10 ^ (l.length + 1) + z % 10 * 10 ^ l.length = z * 10 ^ l.length := by
    rw [Int.pow_succ, Int.mul_comm (10 ^ l.length) 10, ← Int.mul_assoc, ← Int.add_mul]
    congr 1
    omega
  have e2 : 0 ≤ z % 10 * 10 ^ l.length := Int.mul_nonneg (by omega) (by omega)
  refine ⟨fun d hd => ?_, ?_, ?_, ?_, by omega, fun hx => ?_⟩
  · rcases List.mem_cons.1 hd with rfl | hd
    · omega
    · exact h1 d hd
  · show z / 10 * 10 ^ (l.length + 1) + (z % 10 * 10 ^ l.length + valP l) = n
    omega
  · show z / 10 * 10 ^ (l.length + 1) ≤ n
    omega
  · simp; omega
  · show l.length + 1 ≤ 9
    rcases Nat.lt_or_ge l.length 9 with hh | hh
    · omega
    · exfalso
      have : l.length = 9 := by omega
      rw [this] at e1 e2 h3
      have : (10 : Int) ^ (9 + 1) = 10000000000 := by decide
      have h7 : (10 : Int) ^ 9 = 1000000000 := by decide
      rw [this, h7] at e1
      rw [h7] at h3 e2
      omega
theorem ow1 (W : World) (d : Int) : OwI W.heap.size (W.alloc (.cells #[.int .i64 d] 3)) (some ⟨W.heap.size, 0, none⟩) 1 1 [d] :=
  ⟨rfl, own_of_blk (Blk.newAt W _ [.int .i64 d] rfl) rfl (Nat.le_refl _) (by unfold maxLen; omega), by simp⟩
theorem ent_cells {w : World} {A1 A2 : Option Addr} {c2 : Nat} {op x : Int} (h : EnL w A1 1 [⟨op, A2, c2, [x]⟩]) : ∃ b o b2 o2, A1 = some ⟨b, o, none⟩ ∧ A2 = some ⟨b2, o2, none⟩ ∧ b < w.heap.size ∧ b2 < w.heap.size ∧ w.cell? ⟨b, o + 1, none⟩ = some (.slice (some ⟨b2, o2, none⟩) 1 c2) ∧ w.cell? ⟨b2, o2, none⟩ = some (.int .i64 x) := by
  obtain ⟨b, o, rfl, hb, _, q1⟩ := h.at_ (k := 0) rfl
  obtain ⟨b2, o2, h2, hb2, q2⟩ := (h.args _ (List.mem_singleton.2 rfl)).2 0 (by simp)
  dsimp only at h2
  subst h2
  refine ⟨b, o, b2, o2, rfl, rfl, hb, hb2, ?_, ?_⟩
  · simpa using q1
  · simpa using q2
set_option maxRecDepth 20000 in
set_option maxHeartbeats 8000000 in
theorem dictWholes_any (n : Int) (w : World) : Calls Try.prog 7 #[.int .i64 n] w fun e w' => e = .returned (.bool true) ∧ Below w.heap.size w w' := by
  have hout : (n < 0 ∨ 2147483648 < n) ∨ (0 ≤ n ∧ n ≤ 2147483648) := by omega
  rcases hout with (h | h) | ⟨n0, n1⟩
  · go_enter Try.func7, Try.ntmps7
    go_wp2_with (first | (go_at_call 8; (with_reducible refine (lives15_any _).mono ?_); rintro e w1 ⟨rfl, hb1⟩) | fail)
    go_ret
    exact ⟨rfl, hb1⟩
  · have h' : ¬ n < 0 := by omega
    go_enter Try.func7, Try.ntmps7
    go_wp2_with (first | (go_at_call 8; (with_reducible refine (lives15_any _).mono ?_); rintro e w1 ⟨rfl, hb1⟩) | fail)
    go_ret
    exact ⟨rfl, hb1⟩
  have h' : ¬ n < 0 := by omega
  have h'' : ¬ 2147483648 < n := by omega
  go_enter Try.func7, Try.ntmps7
  go_wp2_with fail
  go_loopg [3, 4] (2 * n.toNat + 1) (fun k out x wr => ∃ (l : List Int) (A1 : Option Addr) (c1 : Nat) (z : Int), k = 2 * z.toNat + (if l = [] then 1 else 0) ∧ out = .slice A1 l.length c1 ∧ x = .int .i64 z ∧ Hid (DigL n z l) ∧ Hid (SlAt wr A1 l.length (l.map (Value.int .i64))) ∧ Hid (Below w.heap.size w wr))
  case atStart => exact ⟨[], none, 0, n, rfl, rfl, rfl, Lib.hid ⟨fun _ h => (List.not_mem_nil h).elim, by simp [valP], by simp, by simp, n0, fun h => absurd rfl h.1⟩, Lib.hid (SlAt.nil _ _), Lib.hid (Below.refl _ _)⟩
  case round =>
    obtain ⟨l, A1, c1, z, hk, rfl, rfl, HD, HS, HB⟩ := hrel
    have hz0 := HD.out.x0
    have hz1 : z ≤ n ∨ l ≠ [] := by
      by_cases hl : l = []
      · have := HD.out.le
        subst hl
        simp at this
        exact .inl this
      · exact .inr hl
    have hll := HD.out.len
    have hzb : z ≤ 2147483648 := by
      have h1 := HD.out.le
      have h2 : z * 1 ≤ z * 10 ^ l.length := Int.mul_le_mul_of_nonneg_left (by have : (0 : Int) < 10 ^ l.length := Int.pow_pos (by decide); omega) hz0
      omega
    have hbs := HB.out.size
    have HOA := Lib.hid (ow1 wr (z % 10))
    have HSA := Lib.hid (HS.out.keep (w' := wr.alloc (.cells #[.int .i64 (z % 10)] 3)) (bel_alloc bel_refl).below)
    have HBA := Lib.hid (HB.out.trans ((bel_alloc (o := .cells #[.int .i64 (z % 10)] 3) (bel_refl (a := wr))).below.mono hbs))
    have hm : z.tmod 10 = z % 10 := Int.tmod_eq_emod_of_nonneg hz0
    have hq : z.tdiv 10 = z / 10 := Int.tdiv_eq_ediv_of_nonneg hz0
    by_cases hgo : 0 < z ∨ l = []
    · have HN := Lib.hid (digL_next HD.out n1 hgo)
      have hcase : 0 < z ∨ (z = 0 ∧ l.length = 0) := by
        rcases hgo with h | h
        · exact .inl h
        · subst h
          rcases Int.lt_or_le 0 z with h | h
          · exact .inl h
          · exact .inr ⟨by omega, rfl⟩
      have hkk : 2 * (z / 10).toNat + (if z % 10 :: l = [] then 1 else 0) < gk := by
        rw [hk, if_neg (by simp)]
        rcases hgo with h | h
        · omega
        · rw [if_pos h]; omega
      have HK := Lib.hid hkk
      have HMQ := Lib.hid (And.intro hm hq)
      clear hk hkk hgo hz1
      rcases hcase with hz | ⟨hz, hl0⟩
      · go_wp2_with (first
          | (at_builtin; refine wpList_append_oi2 (by rfl) (.tmp 28) (.tmp 29) (by rfl) (by rfl) HOA.out _ l.length _ (by rfl) l HSA.out (by omega) ?_; intro A6 c6 w6 ho6 hg6 hr6; have HO6 := Lib.hid ho6; have HG6 := Lib.hid hg6; clear ho6 hg6 hr6)
          | fail)
        have hs6 := HO6.out.sl
        rw [Nat.add_comm 1 l.length] at hs6
        have HS6 := Lib.hid hs6
        have HB6 := Lib.hid (grown_below' HG6.out (B := w.heap.size) (by simp; omega) (fun k e => by simp [rowOf] at e; omega))
        clear hs6
        go_roundg (2 * (z / 10).toNat + (if z % 10 :: l = [] then 1 else 0))
        case rel => exact ⟨z % 10 :: l, A6, c6, z / 10, rfl, by rw [List.length_cons, Nat.add_comm], by first | rfl | go_num, HN, HS6, Lib.hid (HBA.out.trans HB6.out)⟩
        case measure => exact HK.out
      · obtain rfl := List.eq_nil_of_length_eq_zero hl0
        have hz' : ¬ 0 < z := by omega
        clear hl0 hz
        go_wp2_with (first
          | (at_builtin; refine wpList_append_oi2 (by rfl) (.tmp 28) (.tmp 29) (by rfl) (by rfl) HOA.out A1 0 _ (by rfl) [] HSA.out (by omega) ?_; intro A6 c6 w6 ho6 hg6 hr6; have HO6 := Lib.hid ho6; have HG6 := Lib.hid hg6; clear ho6 hg6 hr6)
          | fail)
        have hs6 := HO6.out.sl
        have HS6 := Lib.hid hs6
        have HB6 := Lib.hid (grown_below' HG6.out (B := w.heap.size) (by simp; omega) (fun k e => by simp [rowOf] at e; omega))
        clear hs6
        go_roundg (2 * (z / 10).toNat + (if z % 10 :: [] = [] then 1 else 0))
        case rel => exact ⟨z % 10 :: [], A6, c6, z / 10, rfl, rfl, by first | rfl | go_num, HN, HS6, Lib.hid (HBA.out.trans HB6.out)⟩
        case measure => exact HK.out
    · have hl0 : l ≠ [] := fun h => hgo (.inr h)
      have hz : ¬ 0 < z := fun h => hgo (.inl h)
      have hz2 : z = 0 := by omega
      have hsum := HD.out.sum
      rw [hz2, Int.zero_mul, Int.zero_add] at hsum
      obtain ⟨r1, r2⟩ := realF_dig HD.out.dig hl0 (by omega) hsum n0 n1
      have hll0 : ((l.length : Int) == 0) = false := by
        have := List.length_pos_iff.2 hl0
        rw [beq_eq_false_iff_ne]
        omega
      have HR1 := Lib.hid r1
      have HR2 := Lib.hid r2
      have HI1 := Lib.hid (show ∀ x ∈ l, 0 ≤ x ∧ x ≤ 14 from fun x hx => by have := HD.out.dig x hx; omega)
      have HI2 := Lib.hid (show ∀ x ∈ 14 :: l, 0 ≤ x ∧ x ≤ 14 from fun x hx => by
        rcases List.mem_cons.1 hx with rfl | hx
        · omega
        · exact HI1.out x hx)
      clear r1 r2 hk hgo hz1 hsum HOA HSA HBA hm hq hl0 hz2
      go_wp2_with (first
        | (go_at_call 18; (with_reducible refine (halvesN rfl HS.out HI1.out (by omega)).mono ?_); rintro e w2 ⟨A2, c2, m2, rfl, hm2, hm7, ho2⟩
           have HM2 := Lib.hid (show (halvesS l ++ [5]).length = m2 + 1 by rw [List.length_append, hm2]; rfl)
           have HT2 := Lib.hid (show A2 = A2 from rfl)
           have HO2 := Lib.hid (ho2.alloc (.cells #[.int .u8 5] 5))
           have HSA2 := Lib.hid (slat_u8 w2 5 5 rfl)
           clear ho2 hm2)
        | (at_builtin; refine wpList_append_ow (by rfl) (.tmp 33) (.tmp 34) (by rfl) (by rfl) HO2.out _ 1 _ (by rfl) [5] HSA2.out (by omega) ?_; intro A3 c3 w3 ho3; have HO3 := Lib.hid ho3; clear ho3)
        | (go_at_call 9; (with_reducible refine (parse_whole HI1.out HR1.out (by omega) HM2.out (HO3.out.toBs (by omega))).mono ?_); rintro e w4 ⟨A4, c4, A5, c5, rfl, hl4, hb4⟩
           have HL4 := Lib.hid hl4
           have HB4 := Lib.hid (HO3.out.bel.trans (hb4.mono HO3.out.bel.size))
           have HS4 := Lib.hid ((HS.out.keep HB4.out).keep (w' := w4.alloc (.cells #[.int .i64 14] 3)) (bel_alloc bel_refl).below)
           have HOA4 := Lib.hid (ow1 w4 14)
           have h4s := HB4.out.size
           clear hl4 hb4)
        | (at_builtin; refine wpList_append_oi2 (by rfl) (.tmp 40) (.tmp 41) (by rfl) (by rfl) HOA4.out _ l.length _ (by rfl) l HS4.out (by omega) ?_; intro A6 c6 w6 ho6 hg6 hr6
           have HS6 : Hid (SlAt w6 A6 (1 + l.length) ((14 :: l).map (Value.int .i64))) := Lib.hid ho6.sl
           have HB6 := Lib.hid ((bel_alloc (o := .cells #[.int .i64 14] 3) (bel_refl (a := w4))).below.trans (grown_below' hg6 (B := w4.heap.size) (by simp) (fun k e => by simp [rowOf] at e; omega)))
           have h6s := HB6.out.size
           have HL6 := Lib.hid (show (14 :: l).length = 1 + l.length by rw [List.length_cons, Nat.add_comm])
           clear ho6 hg6 hr6)
        | (go_at_call 18; (with_reducible refine (halvesN HL6.out HS6.out HI2.out (by omega)).mono ?_); rintro e w7 ⟨A7, c7, m7, rfl, hm7', hm77, ho7⟩
           have HM7 := Lib.hid (show (halvesS (14 :: l) ++ [5]).length = m7 + 1 by rw [List.length_append, hm7']; rfl)
           have HL11 := Lib.hid (show (14 :: l).length ≤ 11 by rw [List.length_cons]; omega)
           have HO7 := Lib.hid (ho7.alloc (.cells #[.int .u8 5] 5))
           have HSA7 := Lib.hid (slat_u8 w7 5 5 rfl)
           clear ho7 hm7')
        | (at_builtin; refine wpList_append_ow (by rfl) (.tmp 43) (.tmp 44) (by rfl) (by rfl) HO7.out _ 1 _ (by rfl) [5] HSA7.out (by omega) ?_; intro A8 c8 w8 ho8; have HO8 := Lib.hid ho8; clear ho8)
        | (go_at_call 9; (with_reducible refine (parse_whole HI2.out HR2.out HL11.out HM7.out (HO8.out.toBs (by omega))).mono ?_); rintro e w9 ⟨A9, c9, A10, c10, rfl, hl9, hb9⟩
           have HL9 := Lib.hid hl9
           have HB9 := Lib.hid (HB6.out.trans ((HO8.out.bel.trans (hb9.mono HO8.out.bel.size)).mono h6s))
           have HL49 := Lib.hid (HL4.out.keep HB9.out)
           have h9s := HB9.out.size
           clear hl9 hb9)
        | (go_at_call 8; (with_reducible refine (lives15_any _).mono ?_); rintro e w10 ⟨rfl, hb10⟩
           obtain ⟨b, o, b2, o2, rfl, rfl, hbl, hbl2, q1, q2⟩ := ent_cells (HL49.out.keep hb10)
           obtain ⟨b3, o3, b4, o4, rfl, rfl, hbl3, hbl4, q3, q4⟩ := ent_cells (HL9.out.keep hb10)
           have HBE := Lib.hid (HB.out.trans ((HB4.out.trans ((HB9.out.trans (hb10.mono h9s)).mono h4s)).mono hbs))
           clear hb10)
        | fail)
      go_ret
      exact ⟨rfl, HBE.out⟩
end Go.Proofs.Ytoofjkhigonppaa
