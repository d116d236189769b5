/-
  Layer 22: the nearest to a quotient; a line's numbers.
-/
import Derived.Test.YtbflncfhbmlibaaCoA
import Derived.Test.YtbflncfhbmlibaaAffF
import Derived.Test.YtbflncfhbmlibaaMul64
import Derived.Deep.Cut
namespace Go.Proofs.Ytbflncfhbmlibaa
open Go.RowKit

theorem near_up {x z : Int} (hz : 0 < z) {q r : Int} (hx : x = z * q + r) (h0 : 0 ≤ r) (hr : r < z) : near x z = if z - r ≤ r then q + 1 else q := by
  unfold near
  rw [show 2 * x + z = (2 * r + z) + 2 * z * q by rw [hx, Int.mul_add, Int.mul_assoc 2 z q]; omega, Int.add_mul_ediv_left _ _ (by omega)]
  split
  · rw [show (2 * r + z) = (2 * r - z) + 2 * z * 1 by omega, Int.add_mul_ediv_left _ _ (by omega), Int.ediv_eq_zero_of_lt (by omega) (by omega)]
    omega
  · rw [Int.ediv_eq_zero_of_lt (by omega) (by omega)]
    omega
theorem near_down {x z : Int} (hz : 0 < z) {q r : Int} (hx : x = z * q + r) (h0 : 0 ≤ r) (hr : r < z) : near (-x) z = if z - r < r then -(q + 1) else -q := by
  unfold near
  have e : 2 * z * (-q) = -(2 * (z * q)) := by rw [Int.mul_neg, Int.mul_assoc]
  rw [show 2 * -x + z = (z - 2 * r) + 2 * z * (-q) by rw [e, hx]; omega, Int.add_mul_ediv_left _ _ (by omega)]
  split
  · rw [show (z - 2 * r) = (3 * z - 2 * r) + 2 * z * (-1) by omega, Int.add_mul_ediv_left _ _ (by omega), Int.ediv_eq_zero_of_lt (by omega) (by omega)]
    omega
  · rw [Int.ediv_eq_zero_of_lt (by omega) (by omega)]
    omega
section
variable {w : World}
theorem abs_up (x : Nat) (hx : x ≤ 2305843009213693952) : Calls Try.prog 97 #[.int .i64 x] w fun e w' => e = .returned (.tuple #[.int .u64 x, .bool false]) ∧ w = w' := by
  have h1 : IntKind.u64.wrap (x : Int) = x := m_wrap x (by omega)
  go_enter Try.func97, Try.ntmps97
  go_wp2
  go_ret2
  exact ⟨rfl, rfl⟩
theorem abs_down (x : Nat) (h0 : 0 < x) (hx : x ≤ 2305843009213693952) : Calls Try.prog 97 #[.int .i64 (-(x : Int))] w fun e w' => e = .returned (.tuple #[.int .u64 x, .bool true]) ∧ w = w' := by
  have h1 : IntKind.u64.wrap (-IntKind.u64.wrap (-(x : Int))) = x := by rw [IntKind.wrap_u64, IntKind.wrap_u64]; omega
  have H1 := Lib.hid h1
  clear h1
  go_enter Try.func97, Try.ntmps97
  go_wp2
  go_ret2
  refine ⟨?_, rfl⟩
  show Ending.returned (.tuple #[.int .u64 (IntKind.u64.wrap (-IntKind.u64.wrap (-(x : Int)))), .bool true]) = _
  rw [H1.out]
theorem div64_small (x y : Nat) (hx : x < 18446744073709551616) (hy : y < 18446744073709551616) (h0 : 0 < y) : Calls Try.prog 99 #[.int .u64 0, .int .u64 x, .int .u64 y] w fun e w' => e = .returned (.tuple #[.int .u64 ((x / y : Nat) : Int), .int .u64 ((x % y : Nat) : Int)]) ∧ Below w.heap.size w w' := by
  have h1 : ((y : Int) == 0) = false := by simp; omega
  have h2 : (y : Int) ≠ 0 := by omega
  have h3 : (0 : Int) < y := by omega
  go_enter Try.func99, Try.ntmps99
  go_wp2
  go_quiet (fail)
  go_wp2
  go_ret2
  refine ⟨?_, (bel_drewN bel_refl).below⟩
  show Ending.returned (.tuple #[.int .u64 (IntKind.u64.wrap ((x : Int) / y)), .int .u64 ((x : Int) % y)]) = _
  rw [show IntKind.u64.wrap ((x : Int) / y) = ((x / y : Nat) : Int) from m_wrap (x / y) (Nat.lt_of_le_of_lt (Nat.div_le_self x y) hx)]
  rfl
set_option maxRecDepth 20000 in
set_option maxHeartbeats 2000000 in
theorem ratio_up (x z : Nat) (hx : x ≤ 2305843009213693952) (h0 : 0 < z) (hz : z ≤ 2305843009213693952) : Calls Try.prog 90 #[.int .i64 x, .int .i64 1, .int .i64 z] w fun e w' => e = .returned (.int .i64 (near x z)) ∧ Below w.heap.size w w' := by
  have hn := near_up (x := (x : Int)) (z := (z : Int)) (q := ((x / z : Nat) : Int)) (r := ((x % z : Nat) : Int)) (by omega) (by rw [← Int.natCast_mul, ← Int.natCast_add, Nat.div_add_mod]) (by omega) (by have := Nat.mod_lt x h0; omega)
  have hr : x % z < z := Nat.mod_lt x h0
  have hq : x / z ≤ x := Nat.div_le_self x z
  have hm : ∀ w, Calls Try.prog 98 #[.int .u64 x, .int .u64 ((1 : Nat) : Int)] w fun e w' => e = .returned (.tuple #[.int .u64 0, .int .u64 x]) ∧ w = w' := fun w => by
    have := mul64_any x 1 (by omega) (by omega) w
    rw [Nat.mul_one, Nat.div_eq_of_lt (by omega), Nat.mod_eq_of_lt (by omega)] at this
    exact this
  have hd := fun w => div64_small (w := w) x z (by omega) (by omega) h0
  have hax := fun w => abs_up (w := w) x hx
  have ha1 := fun w => abs_up (w := w) 1 (by omega)
  have haz := fun w => abs_up (w := w) z hz
  generalize x / z = q at *
  generalize x % z = r at *
  have HN := Lib.hid hn
  have HM := Lib.hid hm
  have HD := Lib.hid hd
  have HX := Lib.hid hax
  have H1 := Lib.hid ha1
  have HZ := Lib.hid haz
  have hr' : (r : Int) < z := by omega
  have hr0 : (0 : Int) ≤ r := by omega
  have hzb : (z : Int) ≤ 2305843009213693952 := by omega
  have hqb : (q : Int) ≤ 2305843009213693952 := by omega
  clear hn hm hd hax ha1 haz
  go_enter Try.func90, Try.ntmps90
  go_upto_region 2 with (first | (go_at_call 97; refine (HX.out _).mono ?_; rintro e w1 ⟨rfl, rfl⟩))
  go_upto_region 3 with (first | (go_at_call 97; refine (H1.out _).mono ?_; rintro e w1 ⟨rfl, rfl⟩))
  go_upto_region 5 with (first | (go_at_call 97; refine (HZ.out _).mono ?_; rintro e w1 ⟨rfl, rfl⟩) | (go_at_call 98; refine (HM.out _).mono ?_; rintro e w1 ⟨rfl, rfl⟩))
  rcases Int.lt_trichotomy (z - (r : Int)) r with hc | hc | hc
  · rw [if_pos (by omega)] at HN
    go_wp2_with (first | (go_at_call 99; refine (HD.out _).mono ?_; rintro e w1 ⟨rfl, hb1⟩; obtain ⟨hc1, hf1, hz1⟩ := bcell hb1; (try simp at hz1)))
    go_ret
    exact ⟨by rw [HN.out]; rfl, hb1⟩
  · rw [if_pos (by omega)] at HN
    have hc1 : ((r : Int) == (z : Int) - r) = true := by simp; omega
    have hc2 : (r : Int) ≤ (z : Int) - r := by omega
    clear hc
    go_wp2_with (first | (go_at_call 99; refine (HD.out _).mono ?_; rintro e w1 ⟨rfl, hb1⟩; obtain ⟨hc1, hf1, hz1⟩ := bcell hb1; (try simp at hz1)))
    go_ret
    exact ⟨by rw [HN.out]; rfl, hb1⟩
  · rw [if_neg (by omega)] at HN
    have hc1 : ((r : Int) == (z : Int) - r) = false := by simp; omega
    go_wp2_with (first | (go_at_call 99; refine (HD.out _).mono ?_; rintro e w1 ⟨rfl, hb1⟩; obtain ⟨hc1, hf1, hz1⟩ := bcell hb1; (try simp at hz1)))
    go_ret
    exact ⟨by rw [HN.out]; rfl, hb1⟩
set_option maxRecDepth 20000 in
set_option maxHeartbeats 2000000 in
theorem ratio_down (x z : Nat) (hx0 : 0 < x) (hx : x ≤ 2305843009213693952) (h0 : 0 < z) (hz : z ≤ 2305843009213693952) : Calls Try.prog 90 #[.int .i64 (-(x : Int)), .int .i64 1, .int .i64 z] w fun e w' => e = .returned (.int .i64 (near (-(x : Int)) z)) ∧ Below w.heap.size w w' := by
  have hn := near_down (x := (x : Int)) (z := (z : Int)) (q := ((x / z : Nat) : Int)) (r := ((x % z : Nat) : Int)) (by omega) (by rw [← Int.natCast_mul, ← Int.natCast_add, Nat.div_add_mod]) (by omega) (by have := Nat.mod_lt x h0; omega)
  have hr : x % z < z := Nat.mod_lt x h0
  have hq : x / z ≤ x := Nat.div_le_self x z
  have hm : ∀ w, Calls Try.prog 98 #[.int .u64 x, .int .u64 ((1 : Nat) : Int)] w fun e w' => e = .returned (.tuple #[.int .u64 0, .int .u64 x]) ∧ w = w' := fun w => by
    have := mul64_any x 1 (by omega) (by omega) w
    rw [Nat.mul_one, Nat.div_eq_of_lt (by omega), Nat.mod_eq_of_lt (by omega)] at this
    exact this
  have hd := fun w => div64_small (w := w) x z (by omega) (by omega) h0
  have hax := fun w => abs_down (w := w) x hx0 hx
  have ha1 := fun w => abs_up (w := w) 1 (by omega)
  have haz := fun w => abs_up (w := w) z hz
  generalize x / z = q at *
  generalize x % z = r at *
  have HN := Lib.hid hn
  have HM := Lib.hid hm
  have HD := Lib.hid hd
  have HX := Lib.hid hax
  have H1 := Lib.hid ha1
  have HZ := Lib.hid haz
  have hr' : (r : Int) < z := by omega
  have hr0 : (0 : Int) ≤ r := by omega
  have hzb : (z : Int) ≤ 2305843009213693952 := by omega
  have hqb : (q : Int) ≤ 2305843009213693952 := by omega
  clear hn hm hd hax ha1 haz
  go_enter Try.func90, Try.ntmps90
  go_upto_region 2 with (first | (go_at_call 97; refine (HX.out _).mono ?_; rintro e w1 ⟨rfl, rfl⟩))
  go_upto_region 3 with (first | (go_at_call 97; refine (H1.out _).mono ?_; rintro e w1 ⟨rfl, rfl⟩))
  go_upto_region 5 with (first | (go_at_call 97; refine (HZ.out _).mono ?_; rintro e w1 ⟨rfl, rfl⟩) | (go_at_call 98; refine (HM.out _).mono ?_; rintro e w1 ⟨rfl, rfl⟩))
  rcases Int.lt_trichotomy (z - (r : Int)) r with hc | hc | hc
  · rw [if_pos (by omega)] at HN
    go_wp2_with (first | (go_at_call 99; refine (HD.out _).mono ?_; rintro e w1 ⟨rfl, hb1⟩; obtain ⟨hc1, hf1, hz1⟩ := bcell hb1; (try simp at hz1)))
    go_ret
    exact ⟨by rw [HN.out]; rfl, hb1⟩
  · rw [if_neg (by omega)] at HN
    have hc1 : ((r : Int) == (z : Int) - r) = true := by simp; omega
    have hc2 : (r : Int) ≤ (z : Int) - r := by omega
    clear hc
    go_wp2_with (first | (go_at_call 99; refine (HD.out _).mono ?_; rintro e w1 ⟨rfl, hb1⟩; obtain ⟨hc1, hf1, hz1⟩ := bcell hb1; (try simp at hz1)))
    go_ret
    exact ⟨by rw [HN.out]; rfl, hb1⟩
  · rw [if_neg (by omega)] at HN
    have hc1 : ((r : Int) == (z : Int) - r) = false := by simp; omega
    go_wp2_with (first | (go_at_call 99; refine (HD.out _).mono ?_; rintro e w1 ⟨rfl, hb1⟩; obtain ⟨hc1, hf1, hz1⟩ := bcell hb1; (try simp at hz1)))
    go_ret
    exact ⟨by rw [HN.out]; rfl, hb1⟩
theorem ratio_any (a b : Int) (h1 : -2305843009213693952 ≤ a) (h2 : a ≤ 2305843009213693952) (h3 : 1 ≤ b) (h4 : b ≤ 2305843009213693952) : Calls Try.prog 90 #[.int .i64 a, .int .i64 1, .int .i64 b] w fun e w' => e = .returned (.int .i64 (near a b)) ∧ Below w.heap.size w w' := by
  obtain ⟨z, rfl⟩ : ∃ z : Nat, b = z := ⟨b.toNat, by omega⟩
  rcases Int.lt_or_le a 0 with h | h
  · obtain ⟨x, rfl⟩ : ∃ x : Nat, a = -(x : Int) := ⟨(-a).toNat, by omega⟩
    exact ratio_down x z (by omega) (by omega) (by omega) (by omega)
  · obtain ⟨x, rfl⟩ : ∃ x : Nat, a = x := ⟨a.toNat, by omega⟩
    exact ratio_up x z (by omega) (by omega) (by omega)
set_option maxRecDepth 20000 in
theorem Near_any (a b : Int) (h1 : -2305843009213693952 ≤ a) (h2 : a ≤ 2305843009213693952) (h3 : 1 ≤ b) (h4 : b ≤ 2305843009213693952) : Calls Try.prog 80 #[.int .i64 a, .int .i64 b] w fun e w' => e = .returned (.tuple #[.int .i64 (near a b), .int .i64 0]) ∧ Below w.heap.size w w' := by
  have HR := Lib.hid (fun w => ratio_any (w := w) a b h1 h2 h3 h4)
  go_enter Try.func80, Try.ntmps80
  go_wp2_with (first | (go_at_call 90; refine (HR.out _).mono ?_; rintro e w1 ⟨rfl, hb1⟩; obtain ⟨hc1, hf1, hz1⟩ := bcell hb1; (try simp at hz1)))
  go_ret2
  exact ⟨rfl, hb1⟩
/-- Not 1: the bottom of a line that does not go down: nothing is asked for. -/
theorem Near_zero (a : Int) : Calls Try.prog 80 #[.int .i64 a, .int .i64 0] w fun e w' => e = .returned (.tuple #[.int .i64 0, .int .i64 1]) ∧ w = w' := by
  go_enter Try.func80, Try.ntmps80
  go_wp2
  go_ret2
  exact ⟨rfl, rfl⟩
theorem rNear_any (a b : Int) (h1 : -1152921504606846976 ≤ a) (h2 : a ≤ 1152921504606846976) (h3 : 1 ≤ b) (h4 : b ≤ 1152921504606846976) : Calls Try.prog 94 #[.int .i64 a, .int .i64 b] w fun e w' => e = .returned (.int .i64 (near a b)) ∧ w = w' := by
  have HF := Lib.hid (fun w => Floor_any (2 * a + b) (2 * b) w (by omega) (by omega) (by omega))
  go_enter Try.func94, Try.ntmps94
  go_wp2_with (first | (go_at_call 44; refine (HF.out _).mono ?_; rintro e w1 ⟨rfl, rfl⟩))
  go_ret
  exact ⟨rfl, rfl⟩
theorem mul_bdd {a b A B : Int} (ha : -A ≤ a) (ha' : a ≤ A) (hb : -B ≤ b) (hb' : b ≤ B) : -(A * B) ≤ a * b ∧ a * b ≤ A * B := by
  have h1 : a.natAbs ≤ A.toNat := by omega
  have h2 : b.natAbs ≤ B.toNat := by omega
  have h3 := Nat.mul_le_mul h1 h2
  rw [← Int.natAbs_mul] at h3
  have h4 : A * B = ((A.toNat * B.toNat : Nat) : Int) := by rw [Int.natCast_mul, Int.toNat_of_nonneg (by omega), Int.toNat_of_nonneg (by omega)]
  rw [h4]
  omega
theorem along_any (a p b : Int) (h1 : -4194304 ≤ a) (h2 : a ≤ 4194304) (h3 : -4194304 ≤ p) (h4 : p ≤ 4194304) (h5 : 1 ≤ b) (h6 : b ≤ 4194304) : Calls Try.prog 102 #[.int .i64 a, .int .i64 p, .int .i64 b] w fun e w' => e = .returned (.int .i64 (near (a * p) b)) ∧ Below w.heap.size w w' := by
  have hm := mul_bdd (A := 4194304) (B := 4194304) h1 h2 h3 h4
  have hb1 : -17592186044416 ≤ a * p := by omega
  have hb2 : a * p ≤ 17592186044416 := by omega
  have HR := Lib.hid (fun w => Near_any (w := w) (a * p) b (by omega) (by omega) h5 (by omega))
  clear hm
  go_enter Try.func102, Try.ntmps102
  go_wp2_with (first | (go_at_call 80; refine (HR.out _).mono ?_; rintro e w1 ⟨rfl, hb1⟩; obtain ⟨hc1, hf1, hz1⟩ := bcell hb1; (try simp at hz1)))
  go_ret
  exact ⟨rfl, by assumption⟩
end
end Go.Proofs.Ytbflncfhbmlibaa
