/-
  Layer 15: a number of digits and an exponent: 65536 times its value, the nearest.
-/
import Derived.Test.YtoofjkhigonppaaDcC
import Derived.Test.YtoofjkhigonppaaMul64
namespace Go.Proofs.Ytoofjkhigonppaa
open Go.RowKit

/-- 65536 m 10^e, the nearest; none: it is too great. -/
def valN (m k : Nat) : Option Int := if 2147483648 * 10 ^ k < m then none else some (((131072 * m + 10 ^ k) / (2 * 10 ^ k) : Nat) : Int)
def valS (m : Nat) (e : Int) : Option Int :=
  if 0 ≤ e then (if m * 10 ^ e.toNat ≤ 2147483648 then some ((m * 10 ^ e.toNat * 65536 : Nat) : Int) else none)
  else if e < -17 then valN (m / 10 ^ ((-e).toNat - 17)) 17 else valN m (-e).toNat
theorem int_eq2 {a b : Int} (h : a = b) : Value.int .i64 a = .int .i64 b := by rw [h]
theorem nd_wrap (n : Nat) (h : n < 18446744073709551616) : IntKind.u64.wrap (n : Int) = n := by rw [IntKind.wrap_u64]; omega
theorem pow17 {k : Nat} (h : k ≤ 17) : 10 ^ k ≤ 100000000000000000 := by
  have := Nat.pow_le_pow_right (n := 10) (by omega) h
  omega
theorem power_any (k : Nat) (hk : k ≤ 17) (w : World) : Calls Try.prog 62 #[.int .i64 k] w fun e w' => e = .returned (.int .u64 ((10 ^ k : Nat) : Int)) ∧ w = w' := by
  go_enter Try.func62, Try.ntmps62
  go_wp2_with fail
  go_loop [3, 5] (fun x i => ∃ j : Nat, j ≤ k ∧ i = .int .i64 j ∧ x = .int .u64 ((10 ^ j : Nat) : Int)) (fun _ i => k - (intOf i).toNat)
  case atStart => exact ⟨0, Nat.zero_le _, rfl, rfl⟩
  case round =>
    obtain ⟨j, hj, rfl, rfl⟩ := hrel
    by_cases hlt : j < k
    · have hp := pow17 (show j + 1 ≤ 17 by omega)
      have hs : (10 : Nat) ^ (j + 1) = 10 ^ j * 10 := Nat.pow_succ ..
      obtain ⟨P, hP⟩ : ∃ P : Nat, 10 ^ j = P := ⟨_, rfl⟩
      rw [hP] at hs ⊢
      rw [hs] at hp
      have hw1 : IntKind.u64.wrap ((P : Int) * 10) = ((P * 10 : Nat) : Int) := by rw [show (P : Int) * 10 = ((P * 10 : Nat) : Int) by simp]; exact nd_wrap _ (by omega)
      have HS := Lib.hid hs
      have hj2 : (j : Int) < k := by omega
      clear hs hP hp
      go_wp2_with fail
      go_round
      case rel => exact ⟨j + 1, by omega, by go_num, by rw [HS.out]; simp⟩
      case measure => simp [intOf]; omega
    · obtain rfl : j = k := by omega
      go_wp2_with fail
      go_ret
      exact ⟨rfl, rfl⟩
/-- The quotient of a number of two words. -/
def DivOk (N y : Nat) : Prop := ∀ w, Calls Try.prog 64 #[.int .u64 ((N / 18446744073709551616 : Nat) : Int), .int .u64 ((N % 18446744073709551616 : Nat) : Int), .int .u64 y] w fun e w' => e = .returned (.tuple #[.int .u64 ((N / y : Nat) : Int), .int .u64 ((N % y : Nat) : Int)]) ∧ Below w.heap.size w w'
def sizeV (v : Option Int) (d : Int) : Value := match v with | some x => .tuple #[.int .i64 x, .bool true] | none => .tuple #[.int .i64 d, .bool false]
def SizeR (v : Option Int) (d : Int) (w : World) (e : Ending) (w' : World) : Prop := e = .returned (sizeV v d) ∧ Below w.heap.size w w'
theorem round_eq (m p : Nat) (hp : 0 < p) : (131072 * m + p) / (2 * p) = if p - m * 65536 % p ≤ m * 65536 % p then m * 65536 / p + 1 else m * 65536 / p := by
  obtain ⟨N, hN⟩ : ∃ N, m * 65536 = N := ⟨_, rfl⟩
  have h1 := Nat.div_add_mod N p
  have h2 := Nat.mod_lt N hp
  rw [show 131072 * m = 2 * N by omega, hN]
  obtain ⟨q, hq⟩ : ∃ q, N / p = q := ⟨_, rfl⟩
  obtain ⟨r, hr⟩ : ∃ r, N % p = r := ⟨_, rfl⟩
  rw [hq, hr] at h1
  rw [hr] at h2
  rw [hq, hr, ← h1, show 2 * (p * q + r) + p = (2 * r + p) + 2 * p * q by rw [Nat.mul_add, Nat.mul_assoc 2 p q]; omega, Nat.add_mul_div_left _ _ (by omega)]
  split
  · rw [show 2 * r + p = (2 * r - p) + 2 * p * 1 by omega, Nat.add_mul_div_left _ _ (by omega), Nat.div_eq_of_lt (by omega)]
    omega
  · rw [Nat.div_eq_of_lt (by omega)]
    omega
set_option maxRecDepth 20000 in
set_option maxHeartbeats 8000000 in
theorem size_up (m : Nat) (hm : m < 10000000000000000) (e : Int) (h0 : 0 ≤ e) (h1 : e ≤ 2000) (w : World) : Calls Try.prog 55 #[.int .u64 m, .int .i64 e] w (SizeR (valS m e) 140737488355328 w) := by
  obtain ⟨n, rfl⟩ : ∃ n : Nat, e = n := ⟨e.toNat, by omega⟩
  go_enter Try.func55, Try.ntmps55
  go_wp2_with fail
  go_loop [0, 1] (fun x i => ∃ j : Nat, j ≤ n ∧ i = .int .i64 ((n - j : Nat) : Int) ∧ x = .int .u64 ((m * 10 ^ j : Nat) : Int) ∧ m * 10 ^ j < 100000000000000000) (fun _ i => (intOf i).toNat)
  case atStart => exact ⟨0, Nat.zero_le _, by simp, by simp, by simp; omega⟩
  case round =>
    obtain ⟨j, hj, rfl, rfl, hb⟩ := hrel
    have hs : m * 10 ^ (j + 1) = m * 10 ^ j * 10 := by rw [Nat.pow_succ, Nat.mul_assoc]
    have hS : valS m n = if m * 10 ^ n ≤ 2147483648 then some ((m * 10 ^ n * 65536 : Nat) : Int) else none := by unfold valS; rw [if_pos (by omega), Int.toNat_natCast]
    obtain ⟨M, hM⟩ : ∃ M, m * 10 ^ j = M := ⟨_, rfl⟩
    obtain ⟨E, hE⟩ : ∃ E, n - j = E := ⟨_, rfl⟩
    have hle : M ≤ m * 10 ^ n := by rw [← hM]; exact Nat.mul_le_mul_left _ (Nat.pow_le_pow_right (by omega) hj)
    have hEq : E = 0 → M = m * 10 ^ n := fun h => by rw [← hM, show j = n by omega]
    have hz : M = 0 → m * 10 ^ n = 0 := fun h => by
      rw [← hM] at h
      rcases Nat.mul_eq_zero.1 h with h | h
      · rw [h, Nat.zero_mul]
      · exact absurd h (Nat.ne_of_gt (Nat.pow_pos (by omega)))
    rw [hM] at hb ⊢
    rw [hM] at hs
    rw [hE]
    have HS := Lib.hid hs
    by_cases hgo : 0 < E ∧ 0 < M ∧ M ≤ 2147483648
    · obtain ⟨g1, g2, g3⟩ := hgo
      have hw1 : IntKind.u64.wrap ((M : Int) * 10) = ((M * 10 : Nat) : Int) := by rw [show (M : Int) * 10 = ((M * 10 : Nat) : Int) by simp]; exact nd_wrap _ (by omega)
      have g1' : (0 : Int) < E := by omega
      have g2' : (0 : Int) < M := by omega
      have g3' : (M : Int) ≤ 2147483648 := by omega
      clear hs hle hEq hz hM
      go_wp2_with fail
      go_round
      case rel => exact ⟨j + 1, by omega, by rw [show n - (j + 1) = E - 1 by omega, show ((E - 1 : Nat) : Int) = (E : Int) - 1 by omega], by rw [HS.out]; simp, by rw [HS.out]; omega⟩
      case measure => simp [intOf]; omega
    · have hE0 : (0 : Int) ≤ E := by omega
      have key : (M ≤ 2147483648 ∧ valS m n = some ((M : Int) * 65536) ∧ (E = 0 ∨ (0 < E ∧ M = 0))) ∨ (2147483648 < M ∧ valS m n = none ∧ (E = 0 ∨ (0 < E ∧ 0 < M))) := by
        rcases Nat.lt_or_ge 2147483648 M with hc | hc
        · right
          refine ⟨hc, by rw [hS, if_neg (by omega)], by omega⟩
        · left
          have h2 : E = 0 ∨ M = 0 := by omega
          refine ⟨hc, ?_, by omega⟩
          rcases h2 with h | h
          · rw [hS, ← hEq h, if_pos hc]; simp
          · rw [hS, hz h, if_pos (by omega), h]; simp
      clear hs hle hEq hz hM hS hgo HS
      rcases key with ⟨hc, hv, hcase⟩ | ⟨hc, hv, hcase⟩
      · have HV := Lib.hid hv
        have hc1 : (M : Int) ≤ 2147483648 := by omega
        have hmin : min (M : Int) 2147483648 = M := by omega
        clear hv
        rcases hcase with rfl | ⟨hE1, rfl⟩
        · go_wp2_with fail
          go_ret2
          exact ⟨by rw [HV.out]; rfl, Below.refl _ _⟩
        · have hE2 : (0 : Int) < E := by omega
          go_wp2_with fail
          go_ret2
          exact ⟨by rw [HV.out]; simp [sizeV], Below.refl _ _⟩
      · have HV := Lib.hid hv
        have hc1 : ¬ (M : Int) ≤ 2147483648 := by omega
        have hc2 : (2147483648 : Int) < M := by omega
        have hmin : min (M : Int) 2147483648 = 2147483648 := by omega
        clear hv
        rcases hcase with rfl | ⟨hE1, hM1⟩
        · go_wp2_with fail
          go_ret2
          exact ⟨by rw [HV.out]; rfl, Below.refl _ _⟩
        · have hE2 : (0 : Int) < E := by omega
          have hM2 : (0 : Int) < M := by omega
          go_wp2_with fail
          go_ret2
          exact ⟨by rw [HV.out]; rfl, Below.refl _ _⟩
theorem valN_zero (k : Nat) : valN 0 k = some 0 := by
  unfold valN
  rw [if_neg (by omega), Nat.mul_zero, Nat.zero_add, Nat.div_eq_of_lt (by have := Nat.pow_pos (n := k) (show 0 < 10 by omega); omega)]
  rfl
set_option maxRecDepth 20000 in
set_option maxHeartbeats 8000000 in
theorem size_down (m : Nat) (hm : m < 10000000000000000) (e : Int) (h0 : e < 0) (h1 : -2000 ≤ e) (hdiv : ∀ k, k ≤ 17 → (if e < -17 then m / 10 ^ ((-e).toNat - 17) else m) ≤ 2147483648 * 10 ^ k → DivOk ((if e < -17 then m / 10 ^ ((-e).toNat - 17) else m) * 65536) (10 ^ k)) (w : World) : Calls Try.prog 55 #[.int .u64 m, .int .i64 e] w (SizeR (valS m e) 0 w) := by
  have hS : valS m e = valN (if e < -17 then m / 10 ^ ((-e).toNat - 17) else m) (if e < -17 then 17 else (-e).toNat) := by
    unfold valS
    rw [if_neg (by omega)]
    split <;> rfl
  have HS := Lib.hid hS
  have HDV := Lib.hid hdiv
  clear hS hdiv
  have h0' : ¬ 0 < e := by omega
  have h0'' : ¬ 0 ≤ e := by omega
  go_enter Try.func55, Try.ntmps55
  go_wp2_with fail
  go_loop [0, 1] (fun x i => x = .int .u64 m ∧ i = .int .i64 e) (fun _ i => (intOf i).toNat)
  case atStart => exact ⟨rfl, rfl⟩
  case round =>
    obtain ⟨rfl, rfl⟩ := hrel
    by_cases hm0 : m = 0
    · subst hm0
      have hv : valS 0 e = some 0 := by rw [HS.out, show (if e < -17 then 0 / 10 ^ ((-e).toNat - 17) else 0) = 0 by split <;> simp, valN_zero]
      have HV := Lib.hid hv
      clear hv
      go_wp2_with fail
      go_ret2
      exact ⟨by rw [HV.out]; rfl, Below.refl _ _⟩
    · have hm1 : ((m : Int) == 0) = false := by rw [beq_eq_false_iff_ne]; omega
      go_wp2_with fail
      go_loop [0, 1] (fun x i => ∃ j : Nat, (j : Int) ≤ max 0 (-17 - e) ∧ i = .int .i64 (e + j) ∧ x = .int .u64 ((m / 10 ^ j : Nat) : Int)) (fun _ i => (-(intOf i)).toNat)
      case atStart => exact ⟨0, by omega, by simp, by simp⟩
      case round =>
        obtain ⟨j, hj, rfl, rfl⟩ := hrel
        have hdd : m / 10 ^ (j + 1) = m / 10 ^ j / 10 := by rw [Nat.pow_succ, Nat.div_div_eq_div_mul]
        have hle := Nat.div_le_self m (10 ^ j)
        by_cases hgo : e + j < -17
        · obtain ⟨M, hM⟩ : ∃ M, m / 10 ^ j = M := ⟨_, rfl⟩
          rw [hM] at hdd hle ⊢
          have HDD := Lib.hid hdd
          have hw1 : IntKind.u64.wrap ((M : Int).tdiv 10) = ((M / 10 : Nat) : Int) := by rw [Int.tdiv_eq_ediv_of_nonneg (by omega), show (M : Int) / 10 = ((M / 10 : Nat) : Int) by simp]; exact nd_wrap _ (by omega)
          clear hdd hM
          go_wp2_with fail
          go_round
          case rel => exact ⟨j + 1, by omega, int_eq2 (by omega), by rw [HDD.out]; simp⟩
          case measure => simp [intOf]; omega
        · have hjj : (e < -17 ∧ (j : Int) = -17 - e) ∨ (¬ e < -17 ∧ j = 0) := by omega
          obtain ⟨k, hk⟩ : ∃ k : Nat, e + (j : Int) = -(k : Int) := ⟨(-(e + j)).toNat, by omega⟩
          have hk1 : k ≤ 17 := by omega
          have hMM : (if e < -17 then m / 10 ^ ((-e).toNat - 17) else m) = m / 10 ^ j := by
            rcases hjj with ⟨h, h'⟩ | ⟨h, rfl⟩
            · rw [if_pos h, show (-e).toNat - 17 = j by omega]
            · rw [if_neg h]; simp
          have hkk : (if e < -17 then 17 else (-e).toNat) = k := by
            rcases hjj with ⟨h, h'⟩ | ⟨h, rfl⟩
            · rw [if_pos h]; omega
            · rw [if_neg h]; omega
          have hv := HS.out
          rw [hMM, hkk] at hv
          have hdv := HDV.out k hk1
          rw [hMM] at hdv
          obtain ⟨M, hM⟩ : ∃ M, m / 10 ^ j = M := ⟨_, rfl⟩
          rw [hM] at hv hdv hle ⊢
          rw [hk]
          have hp := pow17 hk1
          have hp0 : 0 < 10 ^ k := Nat.pow_pos (by omega)
          have KP := fun w => power_any k hk1 w
          have hre := round_eq M (10 ^ k) hp0
          have hvv : valN M k = if 2147483648 * 10 ^ k < M then none else some (((131072 * M + 10 ^ k) / (2 * 10 ^ k) : Nat) : Int) := rfl
          rw [hre] at hvv
          rw [hvv] at hv
          obtain ⟨P, hP⟩ : ∃ P, 10 ^ k = P := ⟨_, rfl⟩
          rw [hP] at hp hp0 KP hdv hv
          have KM1 : ∀ w, Calls Try.prog 63 #[.int .u64 2147483648, .int .u64 P] w fun e w' => e = .returned (.tuple #[.int .u64 ((2147483648 * P / 18446744073709551616 : Nat) : Int), .int .u64 ((2147483648 * P % 18446744073709551616 : Nat) : Int)]) ∧ w = w' := fun w => mul64_any 2147483648 P (by omega) (by omega) w
          have KM2 : ∀ w, Calls Try.prog 63 #[.int .u64 M, .int .u64 65536] w fun e w' => e = .returned (.tuple #[.int .u64 ((M * 65536 / 18446744073709551616 : Nat) : Int), .int .u64 ((M * 65536 % 18446744073709551616 : Nat) : Int)]) ∧ w = w' := fun w => mul64_any M 65536 (by omega) (by omega) w
          have hlt3 := Nat.mod_lt (M * 65536) hp0
          have hq := Nat.div_add_mod (M * 65536) P
          have hqle : ¬ 2147483648 * P < M → M * 65536 / P ≤ 140737488355328 := fun h => by
            rw [← Nat.lt_add_one_iff, Nat.div_lt_iff_lt_mul hp0]
            omega
          unfold DivOk at hdv
          obtain ⟨H1, hH1⟩ : ∃ x, 2147483648 * P / 18446744073709551616 = x := ⟨_, rfl⟩
          obtain ⟨L1, hL1⟩ : ∃ x, 2147483648 * P % 18446744073709551616 = x := ⟨_, rfl⟩
          obtain ⟨H2, hH2⟩ : ∃ x, M * 65536 / 18446744073709551616 = x := ⟨_, rfl⟩
          obtain ⟨L2, hL2⟩ : ∃ x, M * 65536 % 18446744073709551616 = x := ⟨_, rfl⟩
          obtain ⟨q, hqe⟩ : ∃ x, M * 65536 / P = x := ⟨_, rfl⟩
          obtain ⟨r, hre'⟩ : ∃ x, M * 65536 % P = x := ⟨_, rfl⟩
          rw [hH1, hL1] at KM1
          rw [hH2, hL2] at KM2
          rw [hH2, hL2] at hdv
          rw [hqe, hre'] at hdv hv
          rw [hqe] at hqle
          rw [hre'] at hlt3
          have HP := Lib.hid KP
          have HM1 := Lib.hid KM1
          have HM2 := Lib.hid KM2
          have HDD0 := Lib.hid hdv
          have HV := Lib.hid hv
          have key : (2147483648 * P < M ∧ H1 = 0 ∧ (L1 : Int) < M) ∨ (¬ 2147483648 * P < M ∧ H1 = 0 ∧ ¬ (L1 : Int) < M) ∨ (¬ 2147483648 * P < M ∧ ((H1 : Int) == 0) = false) := by
            rw [beq_eq_false_iff_ne]
            omega
          clear KP KM1 KM2 hdv hv hre hvv hP hq hH1 hL1 hH2 hL2 hqe hre' hMM hkk hjj hM hdd hk hj hgo
          rcases key with ⟨c1, rfl, c3⟩ | ⟨c1, rfl, c3⟩ | ⟨c1, c2⟩
          · go_wp2_with (first
              | (go_at_call 62; (with_reducible refine (HP.out _).mono ?_); rintro e w1 ⟨rfl, rfl⟩)
              | (go_at_call 63; (with_reducible refine (HM1.out _).mono ?_); rintro e w1 ⟨rfl, rfl⟩) | fail)
            go_ret2
            exact ⟨by rw [HV.out, if_pos c1]; rfl, Below.refl _ _⟩
          all_goals
            have hqb := hqle c1
            have HDD := Lib.hid (HDD0.out (by omega))
            have hw1 : IntKind.u64.wrap ((P : Int) - r) = ((P - r : Nat) : Int) := by rw [IntKind.wrap_u64]; omega
            have hcase : P - r ≤ r ∨ ¬ P - r ≤ r := by omega
            rcases hcase with c5 | c5
            all_goals
              have c6 : (P : Int) - r ≤ r ↔ P - r ≤ r := by omega
              go_wp2_with (first
                | (go_at_call 62; (with_reducible refine (HP.out _).mono ?_); rintro e w1 ⟨rfl, rfl⟩)
                | (go_at_call 63; (with_reducible refine (HM1.out _).mono ?_); rintro e w1 ⟨rfl, rfl⟩) | (go_at_call 63; (with_reducible refine (HM2.out _).mono ?_); rintro e w1 ⟨rfl, rfl⟩) | (go_at_call 64; refine (HDD.out _).mono ?_; rintro e w1 ⟨rfl, hb1⟩; obtain ⟨hc1, hf1, hz1⟩ := bcell hb1; (try simp at hz1)) | fail)
              go_ret2
              refine ⟨?_, hb1⟩
              first
                | (rw [HV.out, if_neg c1, if_pos c5, show ((q + 1 : Nat) : Int) = (q : Int) + 1 by simp]; rfl)
                | (rw [HV.out, if_neg c1, if_neg c5]; rfl)
theorem div64_small (x y : Nat) (hx : x < 18446744073709551616) (hy : y < 18446744073709551616) (h0 : 0 < y) (w : World) : Calls Try.prog 64 #[.int .u64 0, .int .u64 x, .int .u64 y] w fun e w' => e = .returned (.tuple #[.int .u64 ((x / y : Nat) : Int), .int .u64 ((x % y : Nat) : Int)]) ∧ Below w.heap.size w w' := by
  have h1 : ((y : Int) == 0) = false := by simp; omega
  have h2 : (y : Int) ≠ 0 := by omega
  have h3 : (0 : Int) < y := by omega
  go_enter Try.func64, Try.ntmps64
  go_wp2
  go_quiet (fail)
  go_wp2
  go_ret2
  refine ⟨?_, (bel_drewN bel_refl).below⟩
  show Ending.returned (.tuple #[.int .u64 (IntKind.u64.wrap ((x : Int) / y)), .int .u64 ((x : Int) % y)]) = _
  rw [show IntKind.u64.wrap ((x : Int) / y) = ((x / y : Nat) : Int) from m_wrap (x / y) (Nat.lt_of_le_of_lt (Nat.div_le_self x y) hx)]
  rfl
theorem div_small {N y : Nat} (hN : N < 18446744073709551616) (hy : y < 18446744073709551616) (h0 : 0 < y) : DivOk N y := fun w => by
  rw [Nat.div_eq_of_lt hN, Nat.mod_eq_of_lt hN]
  exact div64_small N y hN hy h0 w
end Go.Proofs.Ytoofjkhigonppaa
