/-
  For every list of numbers DictReals answers true and leaves its argument as it was. No conditions.
  Layer 15: DictReals.
  Layer 15: entries that came in.
  Layer 15, the document: the value of half bytes: the walk.
  Layer 15, the document: the value of half bytes.
  Layer 15, the document: 65536 m 10^e, the nearest.
  math/bits.Div64.
  The quotient of a number of two words: plainly.
-/
import Derived.Test.YtoofjkhigonppaaLen
import Derived.Test.YtoofjkhigonppaaDcU
import Derived.Test.YtoofjkhigonppaaDcD
import Derived.Test.YtoofjkhigonppaaDcE
import Derived.Test.YtoofjkhigonppaaDcL
import Derived.Test.YtoofjkhigonppaaDcM
import Derived.Test.YtoofjkhigonppaaFlat
import Derived.Test.YtoofjkhigonppaaDcV
import Derived.Test.YtoofjkhigonppaaOpn
import Derived.Test.YtoofjkhigonppaaFrame
namespace Go.Proofs.Ytoofjkhigonppaa

/-- One digit of a quotient: (u b + n) / v, v = a b + c. -/
structure Kn (a c u n Q : Nat) : Prop where
  c1 : c < 4294967296
  a0 : 2147483648 ≤ a
  a1 : a < 4294967296
  u1 : u < a * 4294967296 + c
  n1 : n < 4294967296
  q0 : Q * (a * 4294967296 + c) ≤ u * 4294967296 + n
  q1 : u * 4294967296 + n < (Q + 1) * (a * 4294967296 + c)
structure KnI (a u Q q r : Nat) : Prop where
  eq : q * a + r = u
  le : Q ≤ q
  q1 : q ≤ 4294967297
  r1 : r < 4294967296
section
variable {a c u n Q q r : Nat}
theorem Kn.Qlt (h : Kn a c u n Q) : Q < 4294967296 := by
  rcases Nat.lt_or_ge Q 4294967296 with hq | hq
  · exact hq
  · exfalso
    have h1 := h.q0
    have h2 : 4294967296 * (a * 4294967296 + c) ≤ Q * (a * 4294967296 + c) := Nat.mul_le_mul_right _ hq
    have h3 := h.u1
    have h4 := h.n1
    omega
theorem Kn.init (h : Kn a c u n Q) : KnI a u Q (u / a) (u % a) := by
  have a0 := h.a0
  refine ⟨by rw [Nat.mul_comm]; exact Nat.div_add_mod u a, ?_, ?_, by have := Nat.mod_lt u (show 0 < a by omega); have := h.a1; omega⟩
  · rw [Nat.le_div_iff_mul_le (by omega)]
    have h1 := h.q0
    rw [Nat.mul_add, ← Nat.mul_assoc] at h1
    have h2 := h.n1
    have : 0 ≤ Q * c := Nat.zero_le _
    omega
  · have h1 := h.u1
    have h2 := h.c1
    have : u / a < 4294967298 := by
      rw [Nat.div_lt_iff_lt_mul (by omega)]
      omega
    omega
theorem Kn.leQ (h : Kn a c u n Q) {x : Nat} (hx : x * (a * 4294967296 + c) ≤ u * 4294967296 + n) : x ≤ Q := by
  have h1 := h.q1
  rcases Nat.lt_or_ge Q x with hq | hq
  · exfalso
    have : (Q + 1) * (a * 4294967296 + c) ≤ x * (a * 4294967296 + c) := Nat.mul_le_mul_right _ hq
    omega
  · exact hq
theorem Kn.done (h : Kn a c u n Q) (i : KnI a u Q q r) (h1 : ¬ (4294967296 * r + n < q * c)) : q = Q := by
  refine Nat.le_antisymm (h.leQ ?_) i.le
  have e := i.eq
  rw [Nat.mul_add, ← Nat.mul_assoc]
  omega
theorem Kn.more (h : Kn a c u n Q) (i : KnI a u Q q r) (h1 : 4294967296 ≤ q ∨ 4294967296 * r + n < q * c) : Q + 1 ≤ q ∧ (q - 1) * a + (r + a) = u := by
  have e := i.eq
  have hQ := h.Qlt
  have hle := i.le
  have hlt : Q < q := by
    rcases h1 with h1 | h1
    · omega
    · rcases Nat.lt_or_ge Q q with hq | hq
      · exact hq
      · exfalso
        have hqe : q = Q := by omega
        have h2 := h.q0
        rw [← hqe, Nat.mul_add, ← Nat.mul_assoc] at h2
        omega
  refine ⟨by omega, ?_⟩
  obtain ⟨k, rfl⟩ : ∃ k, q = k + 1 := ⟨q - 1, by omega⟩
  rw [Nat.add_mul] at e
  rw [Nat.add_sub_cancel]
  omega
theorem Kn.next (h : Kn a c u n Q) (i : KnI a u Q q r) (h1 : 4294967296 ≤ q ∨ 4294967296 * r + n < q * c) (h2 : ¬ 4294967296 ≤ r + a) : KnI a u Q (q - 1) (r + a) := by
  obtain ⟨m1, m2⟩ := h.more i h1
  have := i.q1
  exact ⟨m2, by omega, by omega, by omega⟩
theorem Kn.brk (h : Kn a c u n Q) (i : KnI a u Q q r) (h1 : 4294967296 ≤ q ∨ 4294967296 * r + n < q * c) (h2 : 4294967296 ≤ r + a) : q - 1 = Q := by
  obtain ⟨m1, m2⟩ := h.more i h1
  have hq1 := i.q1
  refine Nat.le_antisymm (h.leQ ?_) (by omega)
  obtain ⟨k, hk⟩ : ∃ k, q - 1 = k := ⟨_, rfl⟩
  rw [hk] at m2 ⊢
  have hc := h.c1
  have h3 : k * c ≤ 4294967296 * 4294967296 := Nat.mul_le_mul (by omega) (by omega)
  rw [Nat.mul_add, ← Nat.mul_assoc]
  omega
theorem Kn.small (h : Kn a c u n Q) (i : KnI a u Q q r) (hq : ¬ 4294967296 ≤ q) : q * c < 18446744073709551616 ∧ 4294967296 * r + n < 18446744073709551616 := by
  have h1 := h.c1
  have h2 := h.n1
  have h3 := i.r1
  have : q * c ≤ 4294967295 * 4294967295 := Nat.mul_le_mul (by omega) (by omega)
  omega
theorem kn_of {v u n : Nat} (hv0 : 9223372036854775808 ≤ v) (hv1 : v < 18446744073709551616) (hu : u < v) (hn : n < 4294967296) : Kn (v / 4294967296) (v % 4294967296) u n ((u * 4294967296 + n) / v) := by
  have e : v / 4294967296 * 4294967296 + v % 4294967296 = v := by omega
  refine ⟨by omega, by omega, by omega, by rw [e]; exact hu, hn, ?_, ?_⟩
  · rw [e, Nat.mul_comm]
    exact Nat.mul_div_le _ _
  · rw [e]
    have h := Nat.lt_mul_div_succ (u * 4294967296 + n) (show 0 < v by omega)
    rw [Nat.mul_comm v] at h
    exact h
end
/-- All the pieces of a division of two words by one. -/
structure Dv (N y s v u n1 n0 Q1 R Q0 R0 : Nat) : Prop where
  k1 : Kn (v / 4294967296) (v % 4294967296) u n1 Q1
  k2 : Kn (v / 4294967296) (v % 4294967296) R n0 Q0
  r1 : u * 4294967296 + n1 = Q1 * v + R
  r2 : R * 4294967296 + n0 = Q0 * v + R0
  rl : R < v
  r0l : R0 < v
  ul : u < v
  vl : v < 18446744073709551616
  q : N / y = Q1 * 4294967296 + Q0
  m : N % y = R0 / 2 ^ s
theorem dv_all {N y s : Nat} (hs0 : 9223372036854775808 ≤ y * 2 ^ s) (hs1 : y * 2 ^ s < 18446744073709551616) (hN : N < y * 18446744073709551616) :
    ∃ v u n1 n0 Q1 R Q0 R0, Dv N y s v u n1 n0 Q1 R Q0 R0 ∧ v = y * 2 ^ s ∧ u = N * 2 ^ s / 18446744073709551616 ∧ n1 = N * 2 ^ s % 18446744073709551616 / 4294967296 ∧ n0 = N * 2 ^ s % 18446744073709551616 % 4294967296 := by
  obtain ⟨v, hv⟩ : ∃ v, y * 2 ^ s = v := ⟨_, rfl⟩
  obtain ⟨M, hM⟩ : ∃ M, N * 2 ^ s = M := ⟨_, rfl⟩
  have hp : 0 < 2 ^ s := Nat.pow_pos (by omega)
  have hy : 0 < y := by
    rcases Nat.eq_zero_or_pos y with h | h
    · subst h; omega
    · exact h
  have hMl : M < v * 18446744073709551616 := by
    rw [← hM, ← hv, Nat.mul_right_comm]
    exact Nat.mul_lt_mul_of_pos_right hN hp
  have hq : N / y = M / v := by rw [← hM, ← hv, Nat.mul_div_mul_right _ _ hp]
  have hm : N % y = M % v / 2 ^ s := by rw [← hM, ← hv, Nat.mul_mod_mul_right, Nat.mul_div_cancel _ hp]
  rw [hv] at hs0 hs1
  have hu : M / 18446744073709551616 < v := by rw [Nat.div_lt_iff_lt_mul (by omega)]; exact hMl
  obtain ⟨u, hu'⟩ : ∃ u, M / 18446744073709551616 = u := ⟨_, rfl⟩
  obtain ⟨n1, hn1⟩ : ∃ u, M % 18446744073709551616 / 4294967296 = u := ⟨_, rfl⟩
  obtain ⟨n0, hn0⟩ : ∃ u, M % 18446744073709551616 % 4294967296 = u := ⟨_, rfl⟩
  have hMe : M = (u * 4294967296 + n1) * 4294967296 + n0 := by omega
  have hn1l : n1 < 4294967296 := by omega
  have hn0l : n0 < 4294967296 := by omega
  rw [hu'] at hu
  have hv0 : 0 < v := by omega
  have d1 := Nat.div_add_mod (u * 4294967296 + n1) v
  have l1 := Nat.mod_lt (u * 4294967296 + n1) hv0
  have k1 := kn_of hs0 hs1 hu hn1l
  obtain ⟨Q1, hQ1⟩ : ∃ x, (u * 4294967296 + n1) / v = x := ⟨_, rfl⟩
  obtain ⟨R, hR⟩ : ∃ x, (u * 4294967296 + n1) % v = x := ⟨_, rfl⟩
  rw [hQ1, hR] at d1
  rw [hQ1] at k1
  rw [hR] at l1
  have d2 := Nat.div_add_mod (R * 4294967296 + n0) v
  have l2 := Nat.mod_lt (R * 4294967296 + n0) hv0
  have k2 := kn_of hs0 hs1 l1 hn0l
  obtain ⟨Q0, hQ0⟩ : ∃ x, (R * 4294967296 + n0) / v = x := ⟨_, rfl⟩
  obtain ⟨R0, hR0⟩ : ∃ x, (R * 4294967296 + n0) % v = x := ⟨_, rfl⟩
  rw [hQ0, hR0] at d2
  rw [hQ0] at k2
  rw [hR0] at l2
  have hM2 : M = v * (Q1 * 4294967296 + Q0) + R0 := by
    rw [hMe, ← d1, Nat.mul_add, ← Nat.mul_assoc]
    omega
  refine ⟨v, u, n1, n0, Q1, R, Q0, R0, ⟨k1, k2, by rw [Nat.mul_comm Q1 v]; exact d1.symm, by rw [Nat.mul_comm Q0 v]; exact d2.symm, l1, l2, hu, hs1, ?_, ?_⟩, hv.symm, by rw [hM]; exact hu'.symm, by rw [hM]; exact hn1.symm, by rw [hM]; exact hn0.symm⟩
  · rw [hq, hM2, Nat.mul_add_div hv0, Nat.div_eq_of_lt l2, Nat.add_zero]
  · rw [hm, hM2, Nat.mul_add_mod, Nat.mod_eq_of_lt l2]
end Go.Proofs.Ytoofjkhigonppaa

namespace Go.Proofs.Ytoofjkhigonppaa
open Go.RowKit

theorem shl_u {P : Program} (x : Nat) (s : Nat) (hs : s ≤ 64) (w : World) : (Op.shift .shl .u64 x .u64 s).run P w = .ok (.int .u64 ((x * 2 ^ s % 18446744073709551616 : Nat) : Int)) w := by
  unfold Op.shift
  rw [if_neg (by omega)]
  simp only [Int.toNat_natCast, IntKind.bits, Nat.min_eq_left hs]
  rw [show (x : Int) * 2 ^ s = ((x * 2 ^ s : Nat) : Int) by simp, m_wrapM]
  rfl
theorem shr_u {P : Program} (x : Nat) (s : Int) (k : Nat) (hs : s = k) (hk : k ≤ 64) (w : World) : (Op.shift .shr .u64 x .u64 s).run P w = .ok (.int .u64 ((x / 2 ^ k : Nat) : Int)) w := by
  subst hs
  unfold Op.shift
  rw [if_neg (by omega)]
  simp only [Int.toNat_natCast, IntKind.bits, Nat.min_eq_left hk]
  rw [Int.fdiv_eq_ediv_of_nonneg (x : Int) (Int.pow_nonneg (by decide)), show (x : Int) / 2 ^ k = ((x / 2 ^ k : Nat) : Int) by simp]
  rfl
theorem un32_eq {N s : Nat} (hs : s ≤ 64) (h : N / 18446744073709551616 * 2 ^ s < 18446744073709551616) :
    (N / 18446744073709551616 * 2 ^ s % 18446744073709551616) ||| (N % 18446744073709551616 / 2 ^ (64 - s)) = N * 2 ^ s / 18446744073709551616 := by
  have e1 : (2 : Nat) ^ 64 = 2 ^ (64 - s) * 2 ^ s := by rw [← Nat.pow_add]; congr 1; omega
  have hp : 0 < 2 ^ s := Nat.pow_pos (by omega)
  have hp2 : 0 < 2 ^ (64 - s) := Nat.pow_pos (by omega)
  have hl : N % 18446744073709551616 / 2 ^ (64 - s) < 2 ^ s := by
    rw [Nat.div_lt_iff_lt_mul hp2, Nat.mul_comm, ← e1]
    omega
  rw [Nat.mod_eq_of_lt h, Nat.mul_comm, ← Nat.two_pow_add_eq_or_of_lt hl]
  have hN := Nat.div_add_mod N 18446744073709551616
  have e3 : N * 2 ^ s = 2 ^ s * (N / 18446744073709551616) * 18446744073709551616 + N % 18446744073709551616 * 2 ^ s := by
    have : N * 2 ^ s = (18446744073709551616 * (N / 18446744073709551616) + N % 18446744073709551616) * 2 ^ s := by rw [hN]
    rw [this, Nat.add_mul, Nat.mul_assoc, Nat.mul_comm, Nat.mul_comm (N / 18446744073709551616)]
  rw [e3, Nat.add_comm (_ * 18446744073709551616), Nat.add_mul_div_right _ _ (by omega), Nat.add_comm]
  congr 1
  rw [show (18446744073709551616 : Nat) = 2 ^ (64 - s) * 2 ^ s from e1, Nat.mul_div_mul_right _ _ hp]
theorem un10_eq {N s : Nat} : N % 18446744073709551616 * 2 ^ s % 18446744073709551616 = N * 2 ^ s % 18446744073709551616 := by
  rw [Nat.mod_mul_mod]
theorem kn_cases {a c u n Q q r : Nat} (h : Kn a c u n Q) (i : KnI a u Q q r) : ∃ P G1 G2 : Int, IntKind.u64.wrap ((q : Int) * c) = P ∧ IntKind.u64.wrap (4294967296 * (r : Int)) = G1 ∧ IntKind.u64.wrap (G1 + n) = G2 ∧
    ((¬ (4294967296 : Int) ≤ q ∧ ¬ G2 < P ∧ q = Q) ∨
      (∃ q' r' : Nat, IntKind.u64.wrap ((q : Int) - 1) = q' ∧ IntKind.u64.wrap ((r : Int) + a) = r' ∧ q' < q ∧ ((4294967296 : Int) ≤ q ∨ (¬ (4294967296 : Int) ≤ q ∧ G2 < P)) ∧
        (((4294967296 : Int) ≤ r' ∧ q' = Q) ∨ (¬ (4294967296 : Int) ≤ r' ∧ KnI a u Q q' r')))) := by
  refine ⟨_, _, _, rfl, rfl, rfl, ?_⟩
  have hr := i.r1
  have hq1 := i.q1
  have ha := h.a1
  have hn := h.n1
  obtain ⟨P, hP⟩ : ∃ P, q * c = P := ⟨_, rfl⟩
  have eP : (q : Int) * c = (P : Int) := by rw [← hP]; simp
  have hG : IntKind.u64.wrap (IntKind.u64.wrap (4294967296 * (r : Int)) + n) = ((4294967296 * r + n : Nat) : Int) := by
    simp only [IntKind.wrap_u64]
    omega
  rw [hG, eP]
  by_cases hb : 4294967296 ≤ q
  · right
    obtain ⟨m1, m2⟩ := h.more i (.inl hb)
    refine ⟨q - 1, r + a, by rw [IntKind.wrap_u64]; omega, by rw [IntKind.wrap_u64]; omega, by omega, .inl (by omega), ?_⟩
    by_cases hr2 : 4294967296 ≤ r + a
    · exact .inl ⟨by omega, h.brk i (.inl hb) hr2⟩
    · exact .inr ⟨by omega, h.next i (.inl hb) hr2⟩
  · obtain ⟨s1, s2⟩ := h.small i hb
    rw [hP] at s1
    have hw : IntKind.u64.wrap (P : Int) = P := m_wrap P s1
    rw [hw]
    by_cases hc : 4294967296 * r + n < P
    · right
      have hc' : 4294967296 ≤ q ∨ 4294967296 * r + n < q * c := .inr (by rw [hP]; exact hc)
      obtain ⟨m1, m2⟩ := h.more i hc'
      refine ⟨q - 1, r + a, by rw [IntKind.wrap_u64]; omega, by rw [IntKind.wrap_u64]; omega, by omega, .inr ⟨by omega, by omega⟩, ?_⟩
      by_cases hr2 : 4294967296 ≤ r + a
      · exact .inl ⟨by omega, h.brk i hc' hr2⟩
      · exact .inr ⟨by omega, h.next i hc' hr2⟩
    · left
      exact ⟨by omega, by omega, h.done i (by rw [hP]; exact hc)⟩
structure T1 (v u n1 Q1 R : Nat) (X1 X2 X3 F1 : Int) : Prop where
  e1 : IntKind.u64.wrap ((u : Int) * 4294967296) = X1
  e2 : IntKind.u64.wrap (X1 + n1) = X2
  e3 : IntKind.u64.wrap ((Q1 : Int) * v) = X3
  e4 : IntKind.u64.wrap (X2 - X3) = R
  f1 : IntKind.u64.wrap ((Q1 : Int) * 4294967296) = F1
structure T2 (v R n0 Q0 R0 Nq : Nat) (F1 F3 F4 F5 : Int) : Prop where
  f2 : IntKind.u64.wrap (F1 + Q0) = Nq
  f3 : IntKind.u64.wrap ((R : Int) * 4294967296) = F3
  f4 : IntKind.u64.wrap (F3 + n0) = F4
  f5 : IntKind.u64.wrap ((Q0 : Int) * v) = F5
  f6 : IntKind.u64.wrap (F4 - F5) = R0
theorem t_of {N y s v u n1 n0 Q1 R Q0 R0 : Nat} (D : Dv N y s v u n1 n0 Q1 R Q0 R0) : ∃ X1 X2 X3 F1 F3 F4 F5, T1 v u n1 Q1 R X1 X2 X3 F1 ∧ T2 v R n0 Q0 R0 (Q1 * 4294967296 + Q0) F1 F3 F4 F5 := by
  have h1 := D.k1.Qlt
  have h2 := D.k2.Qlt
  have h3 := D.r1
  have h4 := D.r2
  have h5 := D.rl
  have h6 := D.r0l
  have h7 := D.vl
  have h8 := D.k1.n1
  have h9 := D.k2.n1
  obtain ⟨P1, hP1⟩ : ∃ P, Q1 * v = P := ⟨_, rfl⟩
  obtain ⟨P2, hP2⟩ : ∃ P, Q0 * v = P := ⟨_, rfl⟩
  have e1 : (Q1 : Int) * v = (P1 : Int) := by rw [← hP1]; simp
  have e2 : (Q0 : Int) * v = (P2 : Int) := by rw [← hP2]; simp
  rw [hP1] at h3
  rw [hP2] at h4
  refine ⟨_, _, _, _, _, _, _, ⟨rfl, rfl, rfl, ?_, rfl⟩, ⟨?_, rfl, rfl, rfl, ?_⟩⟩
  · rw [e1]
    simp only [IntKind.wrap_u64]
    omega
  · simp only [IntKind.wrap_u64]
    omega
  · rw [e2]
    simp only [IntKind.wrap_u64]
    omega
theorem div_first {u a : Nat} (ha : 0 < a) (hu : u < 18446744073709551616) : ∃ Y, IntKind.u64.wrap ((u : Int) / a) = ((u / a : Nat) : Int) ∧ IntKind.u64.wrap (((u / a : Nat) : Int) * a) = Y ∧ IntKind.u64.wrap ((u : Int) - Y) = ((u % a : Nat) : Int) := by
  have h1 := Nat.div_add_mod u a
  have h2 := Nat.div_le_self u a
  obtain ⟨q, hq⟩ : ∃ q, u / a = q := ⟨_, rfl⟩
  obtain ⟨r, hr⟩ : ∃ r, u % a = r := ⟨_, rfl⟩
  have e : (u : Int) / a = (q : Int) := by rw [← hq]; simp
  rw [hq] at h2
  rw [hq, hr] at h1
  rw [hq, hr, e]
  obtain ⟨P, hP⟩ : ∃ P, a * q = P := ⟨_, rfl⟩
  have e2 : (q : Int) * a = (P : Int) := by rw [← hP]; simp [Int.mul_comm]
  rw [hP] at h1
  refine ⟨_, by rw [IntKind.wrap_u64]; omega, rfl, ?_⟩
  rw [e2]
  simp only [IntKind.wrap_u64]
  omega
set_option maxRecDepth 20000 in
set_option maxHeartbeats 8000000 in
theorem div64_big {N y : Nat} (hN : N < y * 18446744073709551616) (hb : 18446744073709551616 ≤ N) (hy : y < 18446744073709551616) : DivOk N y := by
  intro w
  have y0 : 0 < y := by
    rcases Nat.eq_zero_or_pos y with h | h
    · subst h; omega
    · exact h
  obtain ⟨b1, b2, b3⟩ := bitLen_le_pow y (by omega) hy
  have b4 := Lib.bitLen_le y 64 (by omega) hy
  have KL := fun w => lead_any y hy w
  obtain ⟨L, hL⟩ : ∃ L, Lib.bitLen y = L := ⟨_, rfl⟩
  rw [hL] at b1 b2 b3 b4 KL
  obtain ⟨s, hs⟩ : ∃ s, 64 - L = s := ⟨_, rfl⟩
  rw [hs] at KL
  have hs64 : s ≤ 63 := by omega
  have hs0 : 9223372036854775808 ≤ y * 2 ^ s := by
    have h1 : 2 ^ (L - 1) * 2 ^ s ≤ y * 2 ^ s := Nat.mul_le_mul_right _ b1
    rw [← Nat.pow_add, show L - 1 + s = 63 by omega] at h1
    exact h1
  have hs1 : y * 2 ^ s < 18446744073709551616 := by
    have h1 : y * 2 ^ s < 2 ^ L * 2 ^ s := Nat.mul_lt_mul_of_pos_right b2 (Nat.pow_pos (by omega))
    rw [← Nat.pow_add, show L + s = 64 by omega] at h1
    exact h1
  obtain ⟨v, u, n1, n0, Q1, R, Q0, R0, D, hv, hu, hn1, hn0⟩ := dv_all hs0 hs1 hN
  have hH : N / 18446744073709551616 < y := by rw [Nat.div_lt_iff_lt_mul (by omega)]; exact hN
  have hHs : N / 18446744073709551616 * 2 ^ s < 18446744073709551616 := Nat.lt_of_le_of_lt (Nat.mul_le_mul_right _ (Nat.le_of_lt hH)) hs1
  have or1 := un32_eq (N := N) (s := s) (by omega) hHs
  have un1 := un10_eq (N := N) (s := s)
  rw [← hu] at or1
  have wsh : ∀ x : Nat, IntKind.u64.wrap ((x : Int) * 2 ^ s) = ((x * 2 ^ s % 18446744073709551616 : Nat) : Int) := fun x => by rw [show (x : Int) * 2 ^ s = ((x * 2 ^ s : Nat) : Int) by simp, m_wrapM]
  have wsr : ∀ x k : Nat, k ≤ 64 → (x : Int) / 2 ^ min k 64 = ((x / 2 ^ k : Nat) : Int) := fun x k hk => by rw [Nat.min_eq_left hk]; simp
  have s1 : IntKind.u64.wrap ((y : Int) * 2 ^ s) = v := by rw [wsh, ← hv, Nat.mod_eq_of_lt (by rw [hv]; exact hs1)]
  have s3 := wsh (N / 18446744073709551616)
  have s4 := wsr (N % 18446744073709551616) (64 - s) (by omega)
  have s5 := wsh (N % 18446744073709551616)
  rw [un1] at s5
  have hH0 : N / 18446744073709551616 ≠ 0 := by omega
  have hLo := Nat.mod_lt N (show 0 < 18446744073709551616 by omega)
  have o1 : N / 18446744073709551616 * 2 ^ s % 18446744073709551616 < 18446744073709551616 := Nat.mod_lt _ (by omega)
  have o2 : N % 18446744073709551616 / 2 ^ (64 - s) < 18446744073709551616 := Nat.lt_of_le_of_lt (Nat.div_le_self _ _) hLo
  have hw10 := Nat.mod_lt (N * 2 ^ s) (show 0 < 18446744073709551616 by omega)
  obtain ⟨t, ht⟩ : ∃ t, 64 - s = t := ⟨_, rfl⟩
  rw [ht] at s4 or1 o2
  obtain ⟨H, hHe⟩ : ∃ x, N / 18446744073709551616 = x := ⟨_, rfl⟩
  obtain ⟨Lo, hLoe⟩ : ∃ x, N % 18446744073709551616 = x := ⟨_, rfl⟩
  obtain ⟨Z, hZ⟩ : ∃ x, N * 2 ^ s % 18446744073709551616 = x := ⟨_, rfl⟩
  rw [hHe] at hH hH0 s3 or1 o1
  rw [hLoe] at s4 s5 or1 o2
  rw [hZ] at s5 hn1 hn0 hw10
  obtain ⟨U1, hU1⟩ : ∃ x, H * 2 ^ s % 18446744073709551616 = x := ⟨_, rfl⟩
  obtain ⟨U2, hU2⟩ : ∃ x, Lo / 2 ^ t = x := ⟨_, rfl⟩
  rw [hU1] at s3 or1 o1
  rw [hU2] at s4 or1 o2
  have hor : bits .or .u64 (U1 : Int) (U2 : Int) = (u : Int) := by rw [bits_or_u64_nat _ _ o1 o2, or1]
  have hcv : bits .and .u64 (v : Int) 4294967295 = ((v % 4294967296 : Nat) : Int) := m_mask v D.vl
  have hcz : bits .and .u64 (Z : Int) 4294967295 = (n0 : Int) := by rw [m_mask Z hw10, hn0]
  have s2 : (v : Int) / 4294967296 = ((v / 4294967296 : Nat) : Int) := by simp
  have s6 : (Z : Int) / 4294967296 = (n1 : Int) := by rw [hn1]; simp
  have s7 : (R0 : Int) / 2 ^ min s 64 = ((N % y : Nat) : Int) := by rw [wsr R0 s (by omega), D.m]
  have k1 := D.k1
  have k2 := D.k2
  have hq := D.q
  have hul := D.ul
  have hrl := D.rl
  have hvl := D.vl
  obtain ⟨X1, X2, X3, F1, F3, F4, F5, t1, t2⟩ := t_of D
  rw [← hq] at t2
  obtain ⟨a, ha⟩ : ∃ a, v / 4294967296 = a := ⟨_, rfl⟩
  obtain ⟨c, hc⟩ : ∃ a, v % 4294967296 = a := ⟨_, rfl⟩
  rw [ha] at s2 k1 k2
  rw [hc] at hcv k1 k2
  obtain ⟨Nq, hNq⟩ : ∃ a, N / y = a := ⟨_, rfl⟩
  obtain ⟨Nm, hNm⟩ : ∃ a, N % y = a := ⟨_, rfl⟩
  rw [hNq] at t2
  rw [hNm] at s7
  rw [hNq, hNm, hHe, hLoe]
  have ha0 : 0 < a := by have := k1.a0; omega
  obtain ⟨Y1, p1, p2, p3⟩ := div_first (u := u) ha0 (by omega)
  obtain ⟨Y2, p4, p5, p6⟩ := div_first (u := R) ha0 (by omega)
  have i1 := k1.init
  have i2 := k2.init
  obtain ⟨q1, hq1⟩ : ∃ x, u / a = x := ⟨_, rfl⟩
  obtain ⟨r1, hr1⟩ : ∃ x, u % a = x := ⟨_, rfl⟩
  obtain ⟨q2, hq2⟩ : ∃ x, R / a = x := ⟨_, rfl⟩
  obtain ⟨r2, hr2⟩ : ∃ x, R % a = x := ⟨_, rfl⟩
  rw [hq1, hr1] at i1
  rw [hq2, hr2] at i2
  rw [hq1] at p1 p2
  rw [hr1] at p3
  rw [hq2] at p4 p5
  rw [hr2] at p6
  have K1 := Lib.hid k1
  have K2 := Lib.hid k2
  have TT1 := Lib.hid t1
  have TT2 := Lib.hid t2
  have I1 := Lib.hid i1
  have I2 := Lib.hid i2
  have P4 := Lib.hid (And.intro p4 (And.intro p5 p6))
  have HK := Lib.hid KL
  have z1 : ((y : Int) == 0) = false := by rw [beq_eq_false_iff_ne]; omega
  have z2 : ¬ (y : Int) ≤ H := by omega
  have z3 : ((H : Int) == 0) = false := by rw [beq_eq_false_iff_ne]; omega
  have z4 : (a : Int) ≠ 0 := by omega
  have z5 : ((a : Int) == 0) = false := by rw [beq_eq_false_iff_ne]; omega
  have z6 : (0 : Int) < a := by omega
  have wt : IntKind.u64.wrap (64 - (s : Int)) = t := by rw [IntKind.wrap_u64]; omega
  have ws : IntKind.u64.wrap (s : Int) = s := by rw [IntKind.wrap_u64]; omega
  have s8 : (R0 : Int) / 2 ^ s = (Nm : Int) := by rw [← s7, Nat.min_eq_left (by omega)]
  have p1' : (u : Int).tdiv a = (u : Int) / a := Int.tdiv_eq_ediv_of_nonneg (by omega)
  clear wsh wsr k1 k2 t1 t2 i1 i2 p4 p5 p6 KL hq1 hr1 hq2 hr2 hq hul hrl hvl ha hc hNq hNm hU1 hU2 hZ hHe hLoe hH hH0 or1 o1 o2 hw10 hLo un1 hHs D hv hu hn1 hn0 hs0 hs1 b1 b2 b3 b4 hL hs ht hN hb hy y0
  go_enter Try.func64, Try.ntmps64
  go_wp2_with (first | (go_at_call 65; (with_reducible refine (HK.out _).mono ?_); rintro e w1 ⟨rfl, rfl⟩) | fail)
  go_loop [15, 16] (fun q r => ∃ q' r' : Nat, q = .int .u64 q' ∧ r = .int .u64 r' ∧ Hid (KnI a u Q1 q' r')) (fun q _ => (intOf q).toNat)
  case atStart => exact ⟨q1, r1, rfl, rfl, I1⟩
  case round =>
    obtain ⟨q, r, rfl, rfl, HI⟩ := hrel
    obtain ⟨P, G1, G2, g1, g2, g3, hc⟩ := kn_cases K1.out HI.out
    clear p1 p2 p3 p1'
    rcases hc with ⟨c1, c2, hqe0⟩ | ⟨q', r', hq', hr', hlt, hc1, hc2⟩
    rotate_left
    · rcases hc1 with c1 | ⟨c1, c2⟩ <;> rcases hc2 with ⟨d1, hqe⟩ | ⟨d1, d2⟩
      rotate_left
      · have D2 := Lib.hid d2
        clear d2
        go_wp2_with fail
        go_round
        case rel => exact ⟨q', r', rfl, rfl, D2⟩
        case measure => simp [intOf]; omega
      rotate_left
      · have D2 := Lib.hid d2
        clear d2
        go_wp2_with fail
        go_round
        case rel => exact ⟨q', r', rfl, rfl, D2⟩
        case measure => simp [intOf]; omega
      all_goals
        obtain ⟨e1, e2, e3, e4, f1⟩ := TT1.out
        obtain ⟨p4, p5, p6⟩ := P4.out
        have p4' : (R : Int).tdiv a = (R : Int) / a := Int.tdiv_eq_ediv_of_nonneg (by omega)
        clear K1 TT1 I1 P4 HI
        go_wp2_with fail
        clear e1 e2 e3 e4 p4 p5 p6 p4'
        go_loop [18, 16] (fun q r => ∃ q' r' : Nat, q = .int .u64 q' ∧ r = .int .u64 r' ∧ Hid (KnI a R Q0 q' r')) (fun q _ => (intOf q).toNat)
        case atStart => exact ⟨q2, r2, rfl, rfl, I2⟩
        case round =>
          obtain ⟨qq, rr, rfl, rfl, HI⟩ := hrel
          obtain ⟨P', G3, G4, g4, g5, g6, hc⟩ := kn_cases K2.out HI.out
          rcases hc with ⟨c3, c4, hqf0⟩ | ⟨q3, r3, hq3, hr3, hlt3, hc3, hc4⟩
          · rw [← hqf0] at TT2
            clear hqf0
            obtain ⟨f2, f3, f4, f5, f6⟩ := TT2.out
            clear TT2 HI K2 I2
            go_wp2_with fail
            go_ret2
            exact ⟨rfl, Below.refl _ _⟩
          · rcases hc3 with c3 | ⟨c3, c4⟩ <;> rcases hc4 with ⟨d3, hqf⟩ | ⟨d3, d4⟩
            · skip
              obtain ⟨f2, f3, f4, f5, f6⟩ := TT2.out
              clear TT2 HI K2 I2
              go_wp2_with fail
              go_ret2
              exact ⟨rfl, Below.refl _ _⟩
            · have D4 := Lib.hid d4
              clear d4
              go_wp2_with fail
              go_round
              case rel => exact ⟨q3, r3, rfl, rfl, D4⟩
              case measure => simp [intOf]; omega
            · skip
              obtain ⟨f2, f3, f4, f5, f6⟩ := TT2.out
              clear TT2 HI K2 I2
              go_wp2_with fail
              go_ret2
              exact ⟨rfl, Below.refl _ _⟩
            · have D4 := Lib.hid d4
              clear d4
              go_wp2_with fail
              go_round
              case rel => exact ⟨q3, r3, rfl, rfl, D4⟩
              case measure => simp [intOf]; omega
    · rw [← hqe0] at TT1
      clear hqe0
      obtain ⟨e1, e2, e3, e4, f1⟩ := TT1.out
      obtain ⟨p4, p5, p6⟩ := P4.out
      have p4' : (R : Int).tdiv a = (R : Int) / a := Int.tdiv_eq_ediv_of_nonneg (by omega)
      clear K1 TT1 I1 P4 HI
      go_wp2_with fail
      clear e1 e2 e3 e4 p4 p5 p6 p4'
      go_loop [18, 16] (fun q r => ∃ q' r' : Nat, q = .int .u64 q' ∧ r = .int .u64 r' ∧ Hid (KnI a R Q0 q' r')) (fun q _ => (intOf q).toNat)
      case atStart => exact ⟨q2, r2, rfl, rfl, I2⟩
      case round =>
        obtain ⟨qq, rr, rfl, rfl, HI⟩ := hrel
        obtain ⟨P', G3, G4, g4, g5, g6, hc⟩ := kn_cases K2.out HI.out
        rcases hc with ⟨c3, c4, hqf0⟩ | ⟨q3, r3, hq3, hr3, hlt3, hc3, hc4⟩
        · rw [← hqf0] at TT2
          clear hqf0
          obtain ⟨f2, f3, f4, f5, f6⟩ := TT2.out
          clear TT2 HI K2 I2
          go_wp2_with fail
          go_ret2
          exact ⟨rfl, Below.refl _ _⟩
        · rcases hc3 with c3 | ⟨c3, c4⟩ <;> rcases hc4 with ⟨d3, hqf⟩ | ⟨d3, d4⟩
          · skip
            obtain ⟨f2, f3, f4, f5, f6⟩ := TT2.out
            clear TT2 HI K2 I2
            go_wp2_with fail
            go_ret2
            exact ⟨rfl, Below.refl _ _⟩
          · have D4 := Lib.hid d4
            clear d4
            go_wp2_with fail
            go_round
            case rel => exact ⟨q3, r3, rfl, rfl, D4⟩
            case measure => simp [intOf]; omega
          · skip
            obtain ⟨f2, f3, f4, f5, f6⟩ := TT2.out
            clear TT2 HI K2 I2
            go_wp2_with fail
            go_ret2
            exact ⟨rfl, Below.refl _ _⟩
          · have D4 := Lib.hid d4
            clear d4
            go_wp2_with fail
            go_round
            case rel => exact ⟨q3, r3, rfl, rfl, D4⟩
            case measure => simp [intOf]; omega
end Go.Proofs.Ytoofjkhigonppaa

namespace Go.Proofs.Ytoofjkhigonppaa
open Go.RowKit

theorem dbl {X P : Nat} (hP : 0 < P) : (P ≤ 2 * (X % P) ∧ (2 * X) / P = 2 * (X / P) + 1 ∧ (2 * X) % P = 2 * (X % P) - P) ∨ (¬ P ≤ 2 * (X % P) ∧ (2 * X) / P = 2 * (X / P) ∧ (2 * X) % P = 2 * (X % P)) := by
  have h1 := Nat.div_add_mod X P
  have h2 := Nat.mod_lt X hP
  obtain ⟨q, hq⟩ : ∃ q, X / P = q := ⟨_, rfl⟩
  obtain ⟨r, hr⟩ : ∃ r, X % P = r := ⟨_, rfl⟩
  rw [hq, hr] at h1
  rw [hr] at h2
  rw [hq, hr]
  by_cases h : P ≤ 2 * r
  · left
    have e : 2 * X = P * (2 * q + 1) + (2 * r - P) := by rw [← h1, Nat.mul_add P, Nat.mul_one, Nat.mul_left_comm P 2 q]; omega
    refine ⟨h, ?_, ?_⟩
    · rw [e, Nat.mul_add_div hP, Nat.div_eq_of_lt (by omega), Nat.add_zero]
    · rw [e, Nat.mul_add_mod, Nat.mod_eq_of_lt (by omega)]
  · right
    have e : 2 * X = P * (2 * q) + 2 * r := by rw [← h1, Nat.mul_left_comm P 2 q]; omega
    refine ⟨h, ?_, ?_⟩
    · rw [e, Nat.mul_add_div hP, Nat.div_eq_of_lt (by omega), Nat.add_zero]
    · rw [e, Nat.mul_add_mod, Nat.mod_eq_of_lt (by omega)]
def ScaR (v : Option Int) (w : World) (e : Ending) (w' : World) : Prop :=
  (match v with
    | some x => e = .returned (.tuple #[.int .i64 x, .bool true])
    | none => ∃ d, e = .returned (.tuple #[.int .i64 d, .bool false])) ∧ Below w.heap.size w w'
theorem sca_no {v : Option Int} {w w' : World} {d : Int} (h : v = none) (hb : Below w.heap.size w w') : ScaR v w (.returned (.tuple #[.int .i64 d, .bool false])) w' := by
  subst h; exact ⟨⟨_, rfl⟩, hb⟩
theorem sca_yes {v : Option Int} {w w' : World} {x y : Int} (h : v = some x) (hy : y = x) (hb : Below w.heap.size w w') : ScaR v w (.returned (.tuple #[.int .i64 y, .bool true])) w' := by
  subst h hy; exact ⟨rfl, hb⟩
set_option maxRecDepth 20000 in
set_option maxHeartbeats 8000000 in
theorem scaled_up (m : Nat) (hm : m < 10000000000000000) (n : Nat) (h1 : n ≤ 2000) (w : World) : Calls Try.prog 35 #[.int .i64 m, .int .i64 n] w (ScaR (valS m n) w) := by
  go_enter Try.func35, Try.ntmps35
  go_wp2_with fail
  go_loop [0, 6] (fun x i => ∃ j : Nat, j ≤ n ∧ i = .int .i64 j ∧ x = .int .i64 ((m * 10 ^ j : Nat) : Int) ∧ m * 10 ^ j < 100000000000000000) (fun _ i => n - (intOf i).toNat)
  case atStart => exact ⟨0, Nat.zero_le _, by simp, by simp, by simp; omega⟩
  case round =>
    obtain ⟨j, hj, rfl, rfl, hb⟩ := hrel
    have hs : m * 10 ^ (j + 1) = m * 10 ^ j * 10 := by rw [Nat.pow_succ, Nat.mul_assoc]
    have hS : valS m n = if m * 10 ^ n ≤ 2147483648 then some ((m * 10 ^ n * 65536 : Nat) : Int) else none := by unfold valS; rw [if_pos (by omega), Int.toNat_natCast]
    obtain ⟨M, hM⟩ : ∃ M, m * 10 ^ j = M := ⟨_, rfl⟩
    have hle : M ≤ m * 10 ^ n := by rw [← hM]; exact Nat.mul_le_mul_left _ (Nat.pow_le_pow_right (by omega) hj)
    have hEq : j = n → M = m * 10 ^ n := fun h => by rw [← hM, h]
    have hz : M = 0 → m * 10 ^ n = 0 := fun h => by
      rw [← hM] at h
      rcases Nat.mul_eq_zero.1 h with h | h
      · rw [h, Nat.zero_mul]
      · exact absurd h (Nat.ne_of_gt (Nat.pow_pos (by omega)))
    rw [hM] at hb ⊢
    rw [hM] at hs
    have HS := Lib.hid hs
    obtain ⟨Mi, hMi⟩ : ∃ Mi : Int, (M : Int) = Mi := ⟨_, rfl⟩
    obtain ⟨Wv, hWv⟩ : ∃ v, wrap64 (Mi * 65536) = v := ⟨_, rfl⟩
    have hn0 : (0 : Int) ≤ n := by omega
    by_cases hgo : j < n ∧ 0 < M
    · obtain ⟨g1, g2⟩ := hgo
      have g1' : (j : Int) < n := by omega
      have g2' : (0 : Int) < Mi := by omega
      by_cases g3 : M ≤ 2147483648
      · have g3' : Mi ≤ 2147483648 := by omega
        have HMi := Lib.hid hMi
        rw [hMi]
        clear hs hle hEq hz hM hMi hWv hS
        go_wp2_with fail
        go_round
        case rel => exact ⟨j + 1, by omega, by go_num, by rw [HS.out]; have := HMi.out; simp; omega, by rw [HS.out]; omega⟩
        case measure => simp [intOf]; omega
      · have g3' : ¬ Mi ≤ 2147483648 := by omega
        have hv : valS m n = none := by rw [hS, if_neg (by omega)]
        have HV := Lib.hid hv
        rw [hMi]
        clear hs hle hEq hz hM hMi hWv hS hv
        go_wp2_with fail
        go_ret2
        exact sca_no HV.out (Below.refl _ _)
    · have key : (Mi ≤ 2147483648 ∧ valS m n = some (Mi * 65536)) ∨ (¬ Mi ≤ 2147483648 ∧ valS m n = none) := by
        rcases Nat.lt_or_ge 2147483648 M with hc | hc
        · right
          refine ⟨by omega, by rw [hS, if_neg (by omega)]⟩
        · left
          have h2 : j = n ∨ M = 0 := by omega
          refine ⟨by omega, ?_⟩
          rcases h2 with h | h
          · rw [hS, ← hEq h, if_pos hc, ← hMi]; simp
          · rw [hS, hz h, if_pos (by omega), ← hMi, h]; simp
      have hcase : j = n ∨ ((j : Int) < n ∧ ¬ 0 < Mi) := by omega
      have hMi0 : 0 ≤ Mi := by omega
      rw [hMi]
      clear hs hle hEq hz hM hMi hS hgo HS
      rcases key with ⟨hc, hv⟩ | ⟨hc, hv⟩
      · have HV := Lib.hid hv
        clear hv hWv
        rcases hcase with rfl | ⟨hE1, hE2⟩
        · go_wp2_with fail
          go_ret2
          exact sca_yes HV.out rfl (Below.refl _ _)
        · go_wp2_with fail
          go_ret2
          exact sca_yes HV.out rfl (Below.refl _ _)
      · have HV := Lib.hid hv
        clear hv
        rcases hcase with rfl | ⟨hE1, hE2⟩
        · go_wp2_with fail
          go_ret2
          exact sca_no HV.out (Below.refl _ _)
        · go_wp2_with fail
          go_ret2
          exact sca_no HV.out (Below.refl _ _)
theorem p10n {k n : Nat} (h : k ≤ n) : 10 ^ k ≤ 10 ^ n := Nat.pow_le_pow_right (by omega) h
/-- What stands behind the second loop: so many digits M, K places down. -/
structure Sc (m : Nat) (e : Int) (M K : Nat) (E : Int) : Prop where
  kl : K ≤ 18
  lt : ∀ i : Nat, i ≤ K → (i < K ↔ ((i : Int) < -E ∧ i < 18))
  val : valS m e = if 2147483648 * 10 ^ K < M then none else some (((131072 * M + 10 ^ K) / (2 * 10 ^ K) : Nat) : Int)
theorem sc_of {m : Nat} {e : Int} {j : Nat} (h0 : e < 0) (hj : (j : Int) ≤ max 0 (-17 - e)) (hgo : ¬ (e + j < -17 ∧ 0 < m / 10 ^ j)) : ∃ K, Sc m e (m / 10 ^ j) K (e + j) := by
  have hS : valS m e = valN (if e < -17 then m / 10 ^ ((-e).toNat - 17) else m) (if e < -17 then 17 else (-e).toNat) := by
    unfold valS
    rw [if_neg (by omega)]
    split <;> rfl
  by_cases hE : e + j < -17
  · have hM : m / 10 ^ j = 0 := by
      rcases Nat.eq_zero_or_pos (m / 10 ^ j) with h | h
      · exact h
      · exact absurd ⟨hE, h⟩ hgo
    refine ⟨18, Nat.le_refl _, fun i hi => by omega, ?_⟩
    have hz : m / 10 ^ ((-e).toNat - 17) = 0 := by
      have h1 : m < 10 ^ j := by
        rcases Nat.lt_or_ge m (10 ^ j) with h | h
        · exact h
        · have := (Nat.le_div_iff_mul_le (Nat.pow_pos (n := j) (show 0 < 10 by omega))).2 (show 1 * 10 ^ j ≤ m by omega)
          omega
      exact Nat.div_eq_of_lt (Nat.lt_of_lt_of_le h1 (p10n (by omega)))
    rw [hS, if_pos (by omega), if_pos (by omega), hz, valN_zero, hM, if_neg (by omega), Nat.mul_zero, Nat.zero_add, Nat.div_eq_of_lt (by decide)]
    rfl
  · have hjj : (e < -17 ∧ (j : Int) = -17 - e) ∨ (¬ e < -17 ∧ j = 0) := by omega
    refine ⟨(-(e + j)).toNat, by omega, fun i hi => by omega, ?_⟩
    have hMM : (if e < -17 then m / 10 ^ ((-e).toNat - 17) else m) = m / 10 ^ j := by
      rcases hjj with ⟨h, h'⟩ | ⟨h, rfl⟩
      · rw [if_pos h, show (-e).toNat - 17 = j by omega]
      · rw [if_neg h]; simp
    have hkk : (if e < -17 then 17 else (-e).toNat) = (-(e + j)).toNat := by
      rcases hjj with ⟨h, h'⟩ | ⟨h, rfl⟩
      · rw [if_pos h]; omega
      · rw [if_neg h]; omega
    rw [hS, hMM, hkk]
    rfl
set_option maxRecDepth 20000 in
set_option maxHeartbeats 8000000 in
theorem scaled_down (m : Nat) (hm : m < 10000000000000000) (e : Int) (h0 : e < 0) (h1 : -2000 ≤ e) (w : World) : Calls Try.prog 35 #[.int .i64 m, .int .i64 e] w (ScaR (valS m e) w) := by
  have h0' : ¬ 0 < e := by omega
  have h0'' : ¬ 0 ≤ e := by omega
  go_enter Try.func35, Try.ntmps35
  go_wp2_with fail
  go_loop [0, 6] (fun x i => x = .int .i64 m ∧ i = .int .i64 0) (fun _ i => 0)
  case atStart => exact ⟨rfl, rfl⟩
  case round =>
    obtain ⟨rfl, rfl⟩ := hrel
    go_wp2_with fail
    go_loop [0, 1] (fun x i => ∃ j : Nat, (j : Int) ≤ max 0 (-17 - e) ∧ i = .int .i64 (e + j) ∧ x = .int .i64 ((m / 10 ^ j : Nat) : Int)) (fun _ i => (-(intOf i)).toNat)
    case atStart => exact ⟨0, by omega, by simp, by simp⟩
    case round =>
      obtain ⟨j, hj, rfl, rfl⟩ := hrel
      have hdd : m / 10 ^ (j + 1) = m / 10 ^ j / 10 := by rw [Nat.pow_succ, Nat.div_div_eq_div_mul]
      have hle := Nat.div_le_self m (10 ^ j)
      by_cases hgo : e + j < -17 ∧ 0 < m / 10 ^ j
      · obtain ⟨g1, g2⟩ := hgo
        obtain ⟨M, hM⟩ : ∃ M, m / 10 ^ j = M := ⟨_, rfl⟩
        rw [hM] at hdd hle g2 ⊢
        have HDD := Lib.hid hdd
        have g2' : (0 : Int) < M := by omega
        have hw1 : (M : Int).tdiv 10 = ((M / 10 : Nat) : Int) := by rw [Int.tdiv_eq_ediv_of_nonneg (by omega)]; simp
        clear hdd hM
        go_wp2_with fail
        go_round
        case rel => exact ⟨j + 1, by omega, int_eq2 (by omega), by rw [HDD.out]; try rfl⟩
        case measure => simp [intOf]; omega
      · obtain ⟨K, hsc⟩ := sc_of h0 hj hgo
        have hexit : ¬ e + j < -17 ∨ (e + j < -17 ∧ ¬ (0 : Int) < ((m / 10 ^ j : Nat) : Int)) := by omega
        obtain ⟨M, hM⟩ : ∃ M, m / 10 ^ j = M := ⟨_, rfl⟩
        rw [hM] at hle hsc hexit ⊢
        obtain ⟨E, hE⟩ : ∃ E, e + (j : Int) = E := ⟨_, rfl⟩
        have hE2 : -2000 ≤ E ∧ E ≤ 0 := by omega
        obtain ⟨hE3, hE4⟩ := hE2
        rw [hE] at hsc hexit ⊢
        have HSC := Lib.hid hsc
        clear hdd hM hE hgo hj hsc
        rcases hexit with hx | ⟨hx, hx2⟩
        all_goals
          go_wp2_with fail
          go_loop [7, 8] (fun x i => ∃ k : Nat, k ≤ K ∧ i = .int .i64 k ∧ x = .int .i64 ((10 ^ k : Nat) : Int)) (fun _ i => K - (intOf i).toNat)
          case atStart => exact ⟨0, Nat.zero_le _, rfl, rfl⟩
          case round =>
            obtain ⟨k, hk, rfl, rfl⟩ := hrel
            have hKl := HSC.out.kl
            by_cases hlt : k < K
            · obtain ⟨c1, c2⟩ := (HSC.out.lt k hk).1 hlt
              have c2' : (k : Int) < 18 := by omega
              have hp : 10 ^ k ≤ 100000000000000000 := p10n (n := 17) (by omega)
              have hs : (10 : Nat) ^ (k + 1) = 10 ^ k * 10 := Nat.pow_succ ..
              obtain ⟨P, hP⟩ : ∃ P : Nat, 10 ^ k = P := ⟨_, rfl⟩
              rw [hP] at hs hp ⊢
              have hw1 : wrap64 ((P : Int) * 10) = ((P * 10 : Nat) : Int) := by rw [IntWalk.wrap64_in _ ⟨by omega, by omega⟩]; simp
              have HS := Lib.hid hs
              clear hs hP
              go_wp2_with fail
              go_round
              case rel => exact ⟨k + 1, by omega, by go_num, by rw [HS.out]; simp⟩
              case measure => simp [intOf]; omega
            · obtain rfl : k = K := by omega
              have hex : ¬ (k : Int) < -E ∨ ((k : Int) < -E ∧ ¬ (k : Int) < 18) := by
                have := HSC.out.lt k (Nat.le_refl _)
                omega
              have hv := HSC.out.val
              have hp0 : 0 < 10 ^ k := Nat.pow_pos (by omega)
              have hp : 10 ^ k ≤ 1000000000000000000 := p10n (n := 18) (by omega)
              rw [round_eq M (10 ^ k) hp0] at hv
              obtain ⟨P, hP⟩ : ∃ P : Nat, 10 ^ k = P := ⟨_, rfl⟩
              rw [hP] at hv hp0 hp ⊢
              have hd := Nat.div_add_mod M P
              have hml := Nat.mod_lt M hp0
              have hql : ¬ 2147483648 * P < M → M / P ≤ 2147483648 := fun h => by
                have : M / P < 2147483649 := by rw [Nat.div_lt_iff_lt_mul hp0]; omega
                omega
              have hqg : 2147483648 * P < M → 2147483648 < M / P ∨ (M / P = 2147483648 ∧ 0 < M % P) := fun h => by
                have h5 : 2147483648 ≤ M / P := by rw [Nat.le_div_iff_mul_le hp0]; omega
                by_cases h6 : M / P = 2147483648
                · rw [h6] at hd
                  right
                  refine ⟨h6, by omega⟩
                · left; omega
              have hqz : ¬ 2147483648 * P < M → M / P < 2147483648 ∨ (M / P = 2147483648 ∧ ¬ 0 < M % P) := fun h => by
                have h5 := hql h
                by_cases h6 : M / P = 2147483648
                · rw [h6] at hd
                  right
                  refine ⟨h6, by omega⟩
                · left; omega
              have tq : (M : Int).tdiv P = ((M / P : Nat) : Int) := by rw [Int.tdiv_eq_ediv_of_nonneg (by omega)]; simp
              have tr : (M : Int).tmod P = ((M % P : Nat) : Int) := by rw [Int.tmod_eq_emod_of_nonneg (by omega)]; simp
              have eq : (M : Int) / P = ((M / P : Nat) : Int) := by simp
              have er : (M : Int) % P = ((M % P : Nat) : Int) := by simp
              have z1 : ((P : Int) == 0) = false := by rw [beq_eq_false_iff_ne]; omega
              have z2 : (P : Int) ≠ 0 := by omega
              have z3 : (0 : Int) < P := by omega
              have z4 : P ≠ 0 := by omega
              have ml := Nat.div_le_self M P
              obtain ⟨Q, hQ⟩ : ∃ Q, M / P = Q := ⟨_, rfl⟩
              obtain ⟨R, hR⟩ : ∃ Q, M % P = Q := ⟨_, rfl⟩
              rw [hQ] at tq eq hql hqg hqz ml
              rw [hR] at tr er hqg hqz hml
              have HQR := Lib.hid (And.intro hQ hR)
              clear hP hlt hk hd hQ hR HSC
              by_cases hbig : 2147483648 * P < M
              · rw [if_pos hbig] at hv
                have HV := Lib.hid hv
                have hqq := hqg hbig
                obtain ⟨Qi, hQi⟩ : ∃ Qi : Int, (Q : Int) = Qi := ⟨_, rfl⟩
                have hqq' : (2147483648 < Qi) ∨ (¬ 2147483648 < Qi ∧ Qi = 2147483648 ∧ (0 : Int) < R) := by omega
                rw [hQi] at tq eq
                have hwq : wrap64 Qi = Qi := IntWalk.wrap64_in _ ⟨by omega, by omega⟩
                clear hql hqg hqz hbig hv hqq hQi
                rcases hex with hx3 | ⟨hx3, hx4⟩ <;> rcases hqq' with g1 | ⟨g1, g2, g3⟩
                all_goals
                  go_wp2_with fail
                  go_quiet (fail)
                  go_wp2
                  all_goals
                    go_ret2
                    exact sca_no HV.out (bel_drewN bel_refl).below
              · rw [if_neg hbig] at hv
                have HV := Lib.hid hv
                have hqq := hqz hbig
                have hq31 := hql hbig
                obtain ⟨Qi, hQi⟩ : ∃ Qi : Int, (Q : Int) = Qi := ⟨_, rfl⟩
                have hqq' : (Qi < 2147483648) ∨ (Qi = 2147483648 ∧ ¬ (0 : Int) < R) := by omega
                have hwq : wrap64 Qi = Qi := IntWalk.wrap64_in _ ⟨by omega, by omega⟩
                have hqb : 0 ≤ Qi ∧ Qi ≤ 2147483648 := by omega
                obtain ⟨hq0, hq1⟩ := hqb
                have h31 : ¬ 2147483648 < Qi := by omega
                have HQI := Lib.hid hQi
                have HP1 := Lib.hid (And.intro hp0 hbig)
                rw [hQi] at tq eq
                clear hql hqg hqz hbig hv hqq hQi ml hml hp0
                rcases hex with hx3 | ⟨hx3, hx4⟩ <;> rcases hqq' with g1 | ⟨g1, g2⟩
                all_goals
                  go_wp2_with fail
                  go_quiet (fail)
                  go_wp2_with fail
                  all_goals
                    go_loop [9, 10, 11] (fun q r i => ∃ t : Nat, t ≤ 16 ∧ i = .int .i64 t ∧ q = .int .i64 ((M * 2 ^ t / P : Nat) : Int) ∧ r = .int .i64 ((M * 2 ^ t % P : Nat) : Int)) (fun _ _ i => 16 - (intOf i).toNat)
                    case atStart => exact ⟨0, Nat.zero_le _, rfl, by rw [Nat.pow_zero, Nat.mul_one, HQR.out.1, HQI.out]; try (rw [g1]), by rw [Nat.pow_zero, Nat.mul_one, HQR.out.2]⟩
                    case round =>
                      obtain ⟨t, ht, rfl, rfl, rfl⟩ := hrel
                      obtain ⟨hP0, hbig⟩ := HP1.out
                      have hrl := Nat.mod_lt (M * 2 ^ t) hP0
                      have hql : M * 2 ^ t / P ≤ 140737488355328 := by
                        have h5 : M * 2 ^ t / P ≤ 2147483648 * 2 ^ t := by
                          rw [← Nat.lt_add_one_iff, Nat.div_lt_iff_lt_mul hP0]
                          have h6 : M * 2 ^ t ≤ 2147483648 * P * 2 ^ t := Nat.mul_le_mul_right _ (by omega)
                          rw [Nat.add_mul, Nat.one_mul, Nat.mul_right_comm 2147483648 (2 ^ t) P]
                          omega
                        have h7 : 2 ^ t ≤ 2 ^ 16 := Nat.pow_le_pow_right (by omega) ht
                        have h8 : 2147483648 * 2 ^ t ≤ 2147483648 * 2 ^ 16 := Nat.mul_le_mul_left _ h7
                        omega
                      by_cases hlt : t < 16
                      · have hlt' : (t : Int) < 16 := by omega
                        have hd := dbl (X := M * 2 ^ t) hP0
                        have hX : M * 2 ^ (t + 1) = 2 * (M * 2 ^ t) := by rw [Nat.pow_succ, ← Nat.mul_assoc, Nat.mul_comm]
                        rw [← hX] at hd
                        obtain ⟨q, hq⟩ : ∃ q, M * 2 ^ t / P = q := ⟨_, rfl⟩
                        obtain ⟨r, hr⟩ : ∃ q, M * 2 ^ t % P = q := ⟨_, rfl⟩
                        rw [hq, hr] at hd
                        rw [hq] at hql
                        rw [hr] at hrl
                        rw [hq, hr]
                        clear hq hr hX hbig
                        rcases hd with ⟨d1, d2, d3⟩ | ⟨d1, d2, d3⟩
                        · have HD := Lib.hid (And.intro d2 d3)
                          have d1' : (P : Int) ≤ 2 * r := by omega
                          clear d2 d3
                          go_wp2_with fail
                          go_round
                          case rel => exact ⟨t + 1, by omega, by go_num, by rw [HD.out.1]; simp, by rw [HD.out.2]; exact int_eq2 (by omega)⟩
                          case measure => simp [intOf]; omega
                        · have HD := Lib.hid (And.intro d2 d3)
                          have d1' : ¬ (P : Int) ≤ 2 * r := by omega
                          clear d2 d3
                          go_wp2_with fail
                          go_round
                          case rel => exact ⟨t + 1, by omega, by go_num, by rw [HD.out.1]; simp, by rw [HD.out.2]; exact int_eq2 (by omega)⟩
                          case measure => simp [intOf]; omega
                      · obtain rfl : t = 16 := by omega
                        have hv := HV.out
                        rw [show M * 65536 = M * 2 ^ 16 from rfl] at hv
                        obtain ⟨q, hq⟩ : ∃ q, M * 2 ^ 16 / P = q := ⟨_, rfl⟩
                        obtain ⟨r, hr⟩ : ∃ q, M * 2 ^ 16 % P = q := ⟨_, rfl⟩
                        rw [hq, hr] at hv
                        rw [hq] at hql
                        rw [hr] at hrl
                        rw [hq, hr]
                        clear hq hr hbig
                        by_cases hc : P - r ≤ r
                        · rw [if_pos hc] at hv
                          have HV2 := Lib.hid hv
                          have hc' : (P : Int) ≤ 2 * r := by omega
                          clear hv hc
                          go_wp2_with fail
                          go_ret2
                          exact sca_yes HV2.out (by simp) (bel_drewN bel_refl).below
                        · rw [if_neg hc] at hv
                          have HV2 := Lib.hid hv
                          have hc' : ¬ (P : Int) ≤ 2 * r := by omega
                          clear hv hc
                          go_wp2_with fail
                          go_ret2
                          exact sca_yes HV2.out rfl (bel_drewN bel_refl).below
theorem scaled_any (m : Nat) (hm : m < 10000000000000000) (e : Int) (h0 : -2000 ≤ e) (h1 : e ≤ 2000) (w : World) : Calls Try.prog 35 #[.int .i64 m, .int .i64 e] w (ScaR (valS m e) w) := by
  rcases Int.lt_or_le e 0 with h | h
  · exact scaled_down m hm e h h0 w
  · obtain ⟨n, rfl⟩ : ∃ n : Nat, e = n := ⟨e.toNat, by omega⟩
    exact scaled_up m hm n (by omega) w
end Go.Proofs.Ytoofjkhigonppaa

namespace Go.Proofs.Ytoofjkhigonppaa
open Go.RowKit

def finF (f : Fl) : Option Int := if badFl f = true then none else (valS f.m.toNat (expF f)).map (sgnF f)
theorem realF_fin (l : List Int) : realF l = finF (l.foldl takeF fl0) := rfl
theorem take_wrong {f : Fl} (h : f.wrong = true) (x : Int) : (takeF f x).wrong = true := by unfold takeF; rw [if_pos h]; exact h
theorem fold_wrong : ∀ (t : List Int) (f : Fl), f.wrong = true → (t.foldl takeF f).wrong = true
  | [], _, h => h
  | x :: t, f, h => fold_wrong t _ (take_wrong h x)
theorem fin_wrong {f : Fl} (h : f.wrong = true) : finF f = none := by unfold finF badFl; rw [h]; rfl
/-- The half bytes up to i are taken. -/
structure RS (l : List Int) (i : Nat) (f : Fl) : Prop where
  eq : l.foldl takeF fl0 = (l.drop i).foldl takeF f
  ok : FlOk f
section
variable {l : List Int} {i : Nat} {f : Fl} {x : Int}
theorem RS.next (h : RS l i f) (hx : l[i]? = some x) (x0 : 0 ≤ x) : RS l (i + 1) (takeF f x) := by
  obtain ⟨h1, h2⟩ := List.getElem?_eq_some_iff.1 hx
  refine ⟨?_, takeF_ok h.ok x0⟩
  rw [h.eq, List.drop_eq_getElem_cons h1, h2, List.foldl_cons]
theorem RS.nothing (h : RS l i f) (hw : f.wrong = true) : realF l = none := by
  rw [realF_fin, h.eq]
  exact fin_wrong (fold_wrong _ _ hw)
theorem RS.bad (h : RS l i f) (hx : l[i]? = some x) (x0 : 0 ≤ x) (hw : (takeF f x).wrong = true) : realF l = none := (h.next hx x0).nothing hw
theorem RS.fin (h : RS l i f) (hi : l.length ≤ i) : realF l = finF f := by
  rw [realF_fin, h.eq, List.drop_eq_nil_of_le hi]
  rfl
end
theorem take_dig {mi p an : Bool} {m d b x : Int} (hx : x ≤ 9) : takeF ⟨mi, m, d, b, 0, 0, 0, p, false, an⟩ x = ⟨mi, 10 * m + x, d + 1, if p = true then b + 1 else b, 0, 0, 0, p, decide (15 < d + 1), true⟩ := by
  unfold takeF
  rw [if_neg (by simp), if_pos hx]
  unfold digitF
  rw [if_neg (by simp)]
theorem take_pt {mi an : Bool} {m d b : Int} : takeF ⟨mi, m, d, b, 0, 0, 0, false, false, an⟩ 10 = ⟨mi, m, d, b, 0, 0, 0, true, false, true⟩ := by
  unfold takeF
  rw [if_neg (by simp), if_neg (by omega), if_neg (by omega), if_pos rfl]
  rfl
theorem take_sg {mi p an : Bool} {m d b x : Int} (hx : x = 11 ∨ x = 12) (hd : d ≠ 0) : takeF ⟨mi, m, d, b, 0, 0, 0, p, false, an⟩ x = ⟨mi, m, d, b, 0, if x = 12 then -1 else 1, 0, p, false, true⟩ := by
  unfold takeF
  rw [if_neg (by simp), if_neg (by omega), if_neg (by omega), if_neg (by omega), if_pos hx]
  simp [hd]
/-- What ends the digits, and is no exponent. -/
theorem take_no {mi p an : Bool} {m d b x : Int} (h9 : ¬ x ≤ 9) (h10 : x = 10 → p = true) (h14 : x = 14 → an = true) (hs : (x = 11 ∨ x = 12) → d = 0) : (takeF ⟨mi, m, d, b, 0, 0, 0, p, false, an⟩ x).wrong = true := by
  unfold takeF
  rw [if_neg (by simp), if_neg h9]
  split
  · rename_i h; exact h14 h
  split
  · rename_i h; simp [h10 h]
  split
  · rename_i h; simp [hs h]
  · rfl
theorem take_ex {mi p : Bool} {m d b e sg k x : Int} (hs : sg ≠ 0) (hx : x ≤ 9) : takeF ⟨mi, m, d, b, e, sg, k, p, false, true⟩ x = ⟨mi, m, d, b, 10 * e + x, sg, k + 1, p, decide (2 < k + 1), true⟩ := by
  unfold takeF
  rw [if_neg (by simp), if_pos hx]
  unfold digitF
  rw [if_pos (by simpa using hs)]
theorem take_ex_no {mi p : Bool} {m d b e sg k x : Int} (hs : sg ≠ 0) (hx : ¬ x ≤ 9) : (takeF ⟨mi, m, d, b, e, sg, k, p, false, true⟩ x).wrong = true := by
  unfold takeF
  rw [if_neg (by simp), if_neg hx]
  split
  · rfl
  split
  · simp [hs]
  split
  · simp [hs]
  · rfl
/-- Three digits of an exponent are too many. -/
theorem ex_many : ∀ (t : List Int) (f : Fl), f.sign ≠ 0 → f.any = true → f.exps + t.length > 2 → 0 ≤ f.exps → f.exps ≤ 2 → (t.foldl takeF f).wrong = true
  | [], f, _, _, h, _, h3 => by simp at h; omega
  | x :: t, f, hs, ha, h, h0, h2 => by
    rw [List.foldl_cons]
    cases hw : f.wrong with
    | true => exact fold_wrong t _ (take_wrong hw x)
    | false =>
      obtain ⟨mi, m, d, b, e, sg, k, p, w, an⟩ := f
      dsimp only at hs ha h h0 h2 hw
      subst ha hw
      rw [List.length_cons] at h
      by_cases hx : x ≤ 9
      · rw [take_ex hs hx]
        by_cases h3 : 2 < k + 1
        · exact fold_wrong t _ (by simp [h3])
        · exact ex_many t _ hs rfl (by simp only; omega) (by simp only; omega) (by simp only; omega)
      · exact fold_wrong t _ (take_ex_no hs hx)
theorem RS.many {l : List Int} {i : Nat} {f : Fl} (h : RS l i f) (hs : f.sign ≠ 0) (ha : f.any = true) (he : f.exps = 0) (hl : i + 2 < l.length) : realF l = none := by
  rw [realF_fin, h.eq]
  refine fin_wrong (ex_many _ _ hs ha ?_ (by omega) (by omega))
  rw [List.length_drop]
  omega
theorem rs_start (l : List Int) : RS l 0 fl0 := ⟨rfl, fl0_ok⟩
theorem fin_zero {mi p an : Bool} {m b e sg k : Int} : finF ⟨mi, m, 0, b, e, sg, k, p, false, an⟩ = none := by
  unfold finF badFl
  rw [if_pos (by simp)]
theorem fin_noex {mi p an : Bool} {m d b e sg : Int} (hs : sg ≠ 0) : finF ⟨mi, m, d, b, e, sg, 0, p, false, an⟩ = none := by
  unfold finF badFl
  rw [if_pos (by simp [hs])]
theorem fin_val {mi p an : Bool} {m d b e sg k : Int} (hd : d ≠ 0) (hk : sg = 0 ∨ k ≠ 0) : finF ⟨mi, m, d, b, e, sg, k, p, false, an⟩ = (valS m.toNat (sg * e - b)).map (fun x => if mi = true then -x else x) := by
  unfold finF badFl
  rw [if_neg (by simp [hd]; omega)]
  rfl
end Go.Proofs.Ytoofjkhigonppaa

namespace Go.Proofs.Ytoofjkhigonppaa
open Go.RowKit

theorem slat_get {w : World} {A : Option Addr} {n : Nat} {l : List Int} {i : Nat} {x : Int} (h : SlAt w A n (l.map (Value.int .i64))) (hx : l[i]? = some x) : ∃ b o, A = some ⟨b, o, none⟩ ∧ b < w.heap.size ∧ w.cell? ⟨b, o + i, none⟩ = some (.int .i64 x) := by
  have hl := (List.getElem?_eq_some_iff.1 hx).1
  have hn := h.1
  rw [List.length_map] at hn
  obtain ⟨b, o, hA, hb, hc⟩ := h.2 i (by omega)
  rw [List.getElem?_map, hx] at hc
  exact ⟨b, o, hA, hb, hc⟩
/-- What the digits came to: d digits, no sign of an exponent so far. -/
def DigF (mi : Bool) (m d b : Int) (p : Bool) (i : Nat) : Fl := ⟨mi, m, d, b, 0, 0, 0, p, false, decide (0 < i)⟩
theorem dig_bd {l : List Int} {i : Nat} {mi : Bool} {m d b : Int} {p : Bool} {j : Nat} (h : RS l i (DigF mi m d b p j)) : 0 ≤ m ∧ m < 1000000000000000 ∧ 0 ≤ d ∧ d ≤ 15 ∧ 0 ≤ b ∧ b ≤ d := by
  obtain ⟨m0, m1, d0, d1, b0, b1, -, -, -, -, -, ok⟩ := h.ok
  obtain ⟨o1, -⟩ := ok rfl
  have h2 := p10 (show (DigF mi m d b p j).digits.toNat ≤ 15 by omega)
  have h3 : (10 : Int) ^ 15 = 1000000000000000 := by decide
  unfold DigF at *
  dsimp only at *
  omega
def SgF (mi : Bool) (m d b : Int) (p : Bool) (e sg k : Int) : Fl := ⟨mi, m, d, b, e, sg, k, p, false, true⟩
theorem sg_bd {l : List Int} {i : Nat} {mi : Bool} {m d b : Int} {p : Bool} {e sg k : Int} (h : RS l i (SgF mi m d b p e sg k)) : 0 ≤ m ∧ m < 1000000000000000 ∧ 0 ≤ b ∧ b ≤ 15 ∧ 0 ≤ e ∧ e < 100 ∧ (sg = 0 ∨ sg = 1 ∨ sg = -1) := by
  obtain ⟨m0, m1, d0, d1, b0, b1, e0, e1, x0, x1, hs, ok⟩ := h.ok
  obtain ⟨o1, o2, -⟩ := ok rfl
  have h2 := p10 (show (SgF mi m d b p e sg k).digits.toNat ≤ 15 by omega)
  have h3 : (10 : Int) ^ 15 = 1000000000000000 := by decide
  unfold SgF at *
  dsimp only at *
  omega
theorem scaled_int (m : Int) (m0 : 0 ≤ m) (m1 : m ≤ 999999999999999) (e : Int) (h0 : -2000 ≤ e) (h1 : e ≤ 2000) (w : World) : Calls Try.prog 35 #[.int .i64 m, .int .i64 e] w (ScaR (valS m.toNat e) w) := by
  obtain ⟨k, rfl⟩ : ∃ k : Nat, m = k := ⟨m.toNat, by omega⟩
  exact scaled_any k (by omega) e h0 h1 w
theorem dig_dig {mi p : Bool} {m d b x : Int} {i j : Nat} (hx : x ≤ 9) (hd : d ≤ 14) : takeF (DigF mi m d b p i) x = DigF mi (m * 10 + x) (d + 1) (if p = true then b + 1 else b) p (j + 1) := by
  unfold DigF
  rw [take_dig hx, show decide (15 < d + 1) = false by simp; omega, show 10 * m + x = m * 10 + x by omega, show decide (0 < j + 1) = true by simp]
theorem dig_many {mi p : Bool} {m d b x : Int} {i : Nat} (hx : x ≤ 9) (hd : ¬ d ≤ 14) : (takeF (DigF mi m d b p i) x).wrong = true := by
  unfold DigF
  rw [take_dig hx]
  simp
  omega
theorem dig_pt {mi : Bool} {m d b : Int} {i j : Nat} : takeF (DigF mi m d b false i) 10 = DigF mi m d b true (j + 1) := by
  unfold DigF
  rw [take_pt, show decide (0 < j + 1) = true by simp]
theorem dig_sg {mi p : Bool} {m d b x : Int} {i : Nat} (hx : x = 11 ∨ x = 12) (hd : d ≠ 0) : takeF (DigF mi m d b p i) x = SgF mi m d b p 0 (if x = 12 then -1 else 1) 0 := by
  unfold DigF
  rw [take_sg hx hd]
  rfl
theorem sg_dig {mi p : Bool} {m d b e sg k x : Int} (hs : sg ≠ 0) (hx : x ≤ 9) (hk : k ≤ 1) : takeF (SgF mi m d b p e sg k) x = SgF mi m d b p (e * 10 + x) sg (k + 1) := by
  unfold SgF
  rw [take_ex hs hx, show decide (2 < k + 1) = false by simp; omega, show 10 * e + x = e * 10 + x by omega]
theorem real_end {mi : Bool} {v : Option Int} {x : Int} {w w' : World} (h : v = some x) (hb : Below w.heap.size w w') : ScaR (v.map (fun x => if mi = true then -x else x)) w (.returned (.tuple #[.int .i64 (if mi = true then -x else x), .bool true])) w' := by
  subst h; exact ⟨rfl, hb⟩
set_option maxRecDepth 20000 in
set_option maxHeartbeats 8000000 in
theorem Real_any {w : World} {A : Option Addr} {n c : Nat} {l : List Int} (hn : l.length = n) (h : SlAt w A n (l.map (Value.int .i64))) (hi : ∀ x ∈ l, 0 ≤ x ∧ x ≤ 14) (hs : n ≤ 1000000000) :
    Calls Try.prog 17 #[.slice A n c] w (ScaR (realF l) w) := by
  subst hn
  have H := Lib.hid h
  have HI := Lib.hid hi
  clear h hi
  have hst : ∃ (i0 : Nat) (mi : Bool), RS l i0 (DigF mi 0 0 0 false i0) ∧ i0 ≤ 1 ∧ i0 ≤ l.length ∧ (i0 = 0 → l[0]? ≠ some 14) ∧ ((mi = false ∧ i0 = 0 ∧ l = []) ∨ (mi = false ∧ i0 = 0 ∧ ∃ x, l[0]? = some x ∧ x ≠ 14) ∨ (mi = true ∧ i0 = 1 ∧ l[0]? = some 14)) := by
    match l with
    | [] => exact ⟨0, false, rs_start _, by omega, by simp, by simp, .inl ⟨rfl, rfl, rfl⟩⟩
    | x :: t =>
      by_cases hx : x = 14
      · subst hx
        exact ⟨1, true, (rs_start _).next (x := 14) rfl (by omega), by omega, by simp, by simp, .inr (.inr ⟨rfl, rfl, rfl⟩)⟩
      · exact ⟨0, false, rs_start _, by omega, by simp, by simpa using hx, .inr (.inl ⟨rfl, rfl, x, rfl, hx⟩)⟩
  obtain ⟨i0, mi, hrs, hi1, hil, h14, hcase⟩ := hst
  have HRS := Lib.hid hrs
  have H14 := Lib.hid h14
  clear hrs h14
  have start : ∀ Q : Prop, ((mi = false ∧ i0 = 0 ∧ ((l.length : Int) = 0)) → Q) → ((mi = false ∧ i0 = 0 ∧ (0 : Int) < l.length ∧ ∃ x b o, (x == 14) = false ∧ A = some ⟨b, o, none⟩ ∧ b < w.heap.size ∧ w.cell? ⟨b, o, none⟩ = some (.int .i64 x)) → Q) → ((mi = true ∧ i0 = 1 ∧ (0 : Int) < l.length ∧ ∃ b o, A = some ⟨b, o, none⟩ ∧ b < w.heap.size ∧ w.cell? ⟨b, o, none⟩ = some (.int .i64 14)) → Q) → Q := by
    intro Q q1 q2 q3
    rcases hcase with ⟨e1, e2, e3⟩ | ⟨e1, e2, x, hx, h14⟩ | ⟨e1, e2, hx⟩
    · exact q1 ⟨e1, e2, by rw [e3]; rfl⟩
    · obtain ⟨b, o, hA, hb, hc⟩ := slat_get H.out hx
      have := (List.getElem?_eq_some_iff.1 hx).1
      exact q2 ⟨e1, e2, by omega, x, b, o, by simpa using h14, hA, hb, hc⟩
    · obtain ⟨b, o, hA, hb, hc⟩ := slat_get H.out hx
      have := (List.getElem?_eq_some_iff.1 hx).1
      exact q3 ⟨e1, e2, by omega, b, o, hA, hb, hc⟩
  clear hcase
  have hmi : (mi = false ∧ i0 = 0) ∨ (mi = true ∧ i0 = 1) := start _ (fun h => .inl ⟨h.1, h.2.1⟩) (fun h => .inl ⟨h.1, h.2.1⟩) (fun h => .inr ⟨h.1, h.2.1⟩)
  have START := Lib.hid start
  clear start
  go_enter Try.func17, Try.ntmps17
  go_upto_region 2 with fail
  go_cut [24] (fun s wx => s = .bool mi ∧ w = wx)
  case first =>
    refine START.out _ ?_ ?_ ?_
    · rintro ⟨rfl, rfl, hl0⟩
      clear START hmi
      go_wp2_with fail
      go_meet
      exact ⟨rfl, rfl⟩
    · rintro ⟨rfl, rfl, hl0, x, b, o, hx, rfl, hb, hc⟩
      clear START hmi
      go_wp2_with fail
      go_meet
      exact ⟨rfl, rfl⟩
    · rintro ⟨rfl, rfl, hl0, b, o, rfl, hb, hc⟩
      clear START hmi
      go_wp2_with fail
      go_meet
      exact ⟨rfl, rfl⟩
  case rest =>
    obtain ⟨rfl, rfl⟩ := hcut
    clear START
    go_upto_if 24 with fail
    go_cut [4, 5] (fun s4 s5 wx => s4 = .int .i64 i0 ∧ s5 = .bool mi ∧ w = wx)
    case first =>
      rcases hmi with ⟨rfl, rfl⟩ | ⟨rfl, rfl⟩
      all_goals
        go_wp2_with fail
        go_meet
        exact ⟨rfl, rfl, rfl⟩
    case rest =>
      obtain ⟨rfl, rfl, rfl⟩ := hcut
      go_wp2_with fail
      go_loop [4, 6, 7, 8, 9] (fun i m d b p => ∃ (i' : Nat) (m' d' b' : Int) (p' : Bool), i0 ≤ i' ∧ i' ≤ l.length ∧ i = .int .i64 i' ∧ m = .int .i64 m' ∧ d = .int .i64 d' ∧ b = .int .i64 b' ∧ p = .bool p' ∧ Hid (RS l i' (DigF mi m' d' b' p' i'))) (fun i _ _ _ _ => l.length - (intOf i).toNat)
      case atStart => exact ⟨i0, 0, 0, 0, false, Nat.le_refl _, hil, rfl, rfl, rfl, rfl, rfl, HRS⟩
      case round =>
        obtain ⟨i, m, d, b, p, hi0, hil2, rfl, rfl, rfl, rfl, rfl, HR⟩ := hrel
        obtain ⟨m0, m1', d0, d1, b0, b1⟩ := dig_bd HR.out
        have m1 : m ≤ 999999999999999 := by omega
        clear m1'
        by_cases hlt : i < l.length
        · obtain ⟨x, hx⟩ := get_some' hlt
          obtain ⟨bb, oo, rfl, hb, hc⟩ := slat_get H.out hx
          obtain ⟨x0, x14⟩ := HI.out x (List.mem_of_getElem? hx)
          by_cases h9 : x ≤ 9
          · have h10 : (x == 10) = false := by rw [beq_eq_false_iff_ne]; omega
            by_cases h15 : d ≤ 14
            · have hn := HR.out.next hx x0
              rw [dig_dig (j := i) h9 h15] at hn
              have HNX := Lib.hid hn
              clear hn hx
              cases p
              all_goals
                go_wp2_with fail
                go_round
                case rel => exact ⟨i + 1, m * 10 + x, d + 1, _, _, by omega, by omega, by go_num, rfl, rfl, rfl, rfl, HNX⟩
                case measure => simp [intOf]; omega
            · have hno := HR.out.bad hx x0 (dig_many h9 h15)
              have HNO := Lib.hid hno
              have hd15 : d = 15 := by omega
              clear hno hx
              go_wp2_with fail
              go_ret2
              exact sca_no HNO.out (Below.refl _ _)
          · by_cases hpt : x = 10 ∧ p = false
            · obtain ⟨rfl, rfl⟩ := hpt
              have hn := HR.out.next hx x0
              rw [dig_pt (j := i)] at hn
              have HNX := Lib.hid hn
              clear hn hx
              go_wp2_with fail
              go_round
              case rel => exact ⟨i + 1, m, d, b, true, by omega, by omega, by go_num, rfl, rfl, rfl, rfl, HNX⟩
              case measure => simp [intOf]; omega
            · have hp : (x == 10) = false ∨ ((x == 10) = true ∧ p = true) := by
                rw [beq_eq_false_iff_ne, beq_iff_eq]
                by_cases h10 : x = 10
                · exact .inr ⟨h10, by cases p; exact absurd ⟨h10, rfl⟩ hpt; rfl⟩
                · exact .inl h10
              have han : x = 14 → decide (0 < i) = true := fun h => by
                rcases Nat.eq_zero_or_pos i with h0 | h0
                · subst h0
                  exact absurd (hx.trans (by rw [h])) (H14.out (by omega))
                · simpa using h0
              have h10p : x = 10 → p = true := fun h => by cases p; exact absurd ⟨h, rfl⟩ hpt; rfl
              by_cases hd0 : d = 0
              · subst hd0
                have hno := HR.out.bad hx x0 (take_no h9 h10p han (fun _ => rfl))
                have HNO := Lib.hid hno
                clear hno hx han h10p hpt
                rcases hp with hp | ⟨hp, rfl⟩
                all_goals
                  go_wp2_with fail
                  go_ret2
                  exact sca_no HNO.out (Below.refl _ _)
              · have hd0' : (d == 0) = false := by rw [beq_eq_false_iff_ne]; exact hd0
                by_cases hsg : x = 11 ∨ x = 12
                · have hn := HR.out.next hx x0
                  rw [dig_sg hsg hd0] at hn
                  obtain ⟨sg, hsge⟩ : ∃ sg : Int, (if x = 12 then (-1 : Int) else 1) = sg := ⟨_, rfl⟩
                  rw [hsge] at hn
                  have hsg0 : sg ≠ 0 := by rw [← hsge]; split <;> omega
                  have hcase : (x = 12 ∧ sg = -1) ∨ (x = 11 ∧ sg = 1) := by
                    rcases hsg with h | h
                    · exact .inr ⟨h, by rw [← hsge, if_neg (by omega)]⟩
                    · exact .inl ⟨h, by rw [← hsge, if_pos h]⟩
                  have HNX := Lib.hid hn
                  clear han h10p hpt hp hsge hx hsg
                  by_cases hn1 : i + 1 = l.length
                  · have hno := HNX.out.fin (by omega)
                    unfold SgF at hno
                    rw [fin_noex hsg0] at hno
                    have HNO := Lib.hid hno
                    have hln : (l.length : Int) = i + 1 := by omega
                    clear hno hn
                    rcases hcase with ⟨rfl, rfl⟩ | ⟨rfl, rfl⟩
                    all_goals
                      go_wp2_with fail
                      go_ret2
                      exact sca_no HNO.out (Below.refl _ _)
                  by_cases hn3 : i + 3 < l.length
                  · have hno := HNX.out.many hsg0 rfl rfl (by omega)
                    have HNO := Lib.hid hno
                    have hl1 : ¬ (l.length : Int) - i - 1 < 1 := by omega
                    have hl2 : (2 : Int) < (l.length : Int) - i - 1 := by omega
                    clear hno hn
                    rcases hcase with ⟨rfl, rfl⟩ | ⟨rfl, rfl⟩
                    all_goals
                      go_wp2_with fail
                      go_ret2
                      exact sca_no HNO.out (Below.refl _ _)
                  · have hl1 : ¬ (l.length : Int) - i - 1 < 1 := by omega
                    have hl2 : ¬ (2 : Int) < (l.length : Int) - i - 1 := by omega
                    have HSG : Hid (RS l (i + 1) (SgF mi m d b p 0 sg (((i + 1 : Nat) : Int) - i - 1))) := Lib.hid (by rw [show ((i + 1 : Nat) : Int) - i - 1 = 0 by omega]; exact HNX.out)
                    clear hn HNX
                    rcases hcase with ⟨rfl, rfl⟩ | ⟨rfl, rfl⟩
                    · skip
                      go_wp2_with fail
                      go_loop [10, 13] (fun e k => ∃ (k' : Nat) (e' : Int), i + 1 ≤ k' ∧ k' ≤ l.length ∧ k = .int .i64 k' ∧ e = .int .i64 e' ∧ Hid (RS l k' (SgF mi m d b p e' (-1) ((k' : Int) - i - 1)))) (fun _ k => l.length - (intOf k).toNat)
                      case atStart => exact ⟨i + 1, 0, Nat.le_refl _, by omega, by go_num, rfl, HSG⟩
                      case round =>
                        obtain ⟨k, ex, hk1, hk2, rfl, rfl, HK⟩ := hrel
                        obtain ⟨m0, m1', b0, b1, e0, e1', -⟩ := sg_bd HK.out
                        have e1 : ex ≤ 99 := by omega
                        have m1 : m ≤ 999999999999999 := by omega
                        clear m1' e1'
                        by_cases hlt2 : k < l.length
                        · obtain ⟨y, hy⟩ := get_some' hlt2
                          obtain ⟨bq, oq, hAq, hbq, hcq⟩ := slat_get H.out hy
                          injection hAq with hAq
                          injection hAq with hq1 hq2
                          subst hq1 hq2
                          obtain ⟨y0, y14⟩ := HI.out y (List.mem_of_getElem? hy)
                          by_cases hy9 : y ≤ 9
                          · have hn := HK.out.next hy y0
                            rw [sg_dig (k := (k : Int) - i - 1) hsg0 hy9 (by omega)] at hn
                            have HNX := Lib.hid hn
                            have hy9' : ¬ 9 < y := by omega
                            clear hn hy
                            go_wp2_with fail
                            go_round
                            case rel => exact ⟨k + 1, ex * 10 + y, by omega, by omega, by go_num, rfl, Lib.hid (by rw [show ((k + 1 : Nat) : Int) - i - 1 = (k : Int) - i - 1 + 1 by omega]; exact HNX.out)⟩
                            case measure => simp [intOf]; omega
                          · have hno := HK.out.bad hy y0 (take_ex_no hsg0 hy9)
                            have HNO := Lib.hid hno
                            have hy9' : 9 < y := by omega
                            clear hno hy
                            go_wp2_with fail
                            go_ret2
                            exact sca_no HNO.out (Below.refl _ _)
                        · obtain rfl : k = l.length := by omega
                          have hval := HK.out.fin (Nat.le_refl _)
                          unfold SgF at hval
                          rw [fin_val hd0 (.inr (by omega))] at hval
                          clear hlt2
                          have HVV := Lib.hid hval
                          have KS := fun (w : World) (E' : Int) (hE : E' = (-1 : Int) * ex - b) => scaled_int m m0 m1 E' (by omega) (by omega) w
                          cases hE : valS m.toNat ((-1 : Int) * ex - b) with
                          | none =>
                            have hno : realF l = none := by rw [hval, hE]; rfl
                            have HNO := Lib.hid hno
                            have KN : ∀ (w : World) (E' : Int), E' = (-1 : Int) * ex - b → Calls Try.prog 35 #[.int .i64 m, .int .i64 E'] w fun e w' => ∃ d, e = .returned (.tuple #[.int .i64 d, .bool false]) ∧ Below w.heap.size w w' := fun w E' h => (KS w E' h).mono fun e w' hr => by
                              subst h
                              unfold ScaR at hr
                              rw [hE] at hr
                              obtain ⟨⟨d, rfl⟩, hb⟩ := hr
                              exact ⟨d, rfl, hb⟩
                            have HKN := Lib.hid KN
                            clear KS KN hno hval hE HVV
                            cases mi
                            all_goals
                              go_wp2_with (first | (go_at_call 35; (with_reducible refine (HKN.out _ _ ?_).mono ?_); (· omega); rintro e w5 ⟨dd, rfl, hb5⟩) | fail)
                              go_ret2
                              exact sca_no HNO.out hb5
                          | some v =>
                            obtain ⟨v0, v1⟩ := valS_bd hE
                            have hyes : realF l = some (if mi = true then -v else v) := by rw [hval, hE]; rfl
                            have HYES := Lib.hid hyes
                            have KN : ∀ (w : World) (E' : Int), E' = (-1 : Int) * ex - b → Calls Try.prog 35 #[.int .i64 m, .int .i64 E'] w fun e w' => e = .returned (.tuple #[.int .i64 v, .bool true]) ∧ Below w.heap.size w w' := fun w E' h => (KS w E' h).mono fun e w' hr => by
                              subst h
                              unfold ScaR at hr
                              rw [hE] at hr
                              exact hr
                            have HKN := Lib.hid KN
                            clear KS KN hyes hval hE HVV
                            cases mi
                            all_goals
                              go_wp2_with (first | (go_at_call 35; (with_reducible refine (HKN.out _ _ ?_).mono ?_); (· omega); rintro e w5 ⟨rfl, hb5⟩) | fail)
                              go_ret2
                              exact sca_yes HYES.out (by first | rfl | simp | omega) hb5
                    · skip
                      go_wp2_with fail
                      go_loop [10, 13] (fun e k => ∃ (k' : Nat) (e' : Int), i + 1 ≤ k' ∧ k' ≤ l.length ∧ k = .int .i64 k' ∧ e = .int .i64 e' ∧ Hid (RS l k' (SgF mi m d b p e' 1 ((k' : Int) - i - 1)))) (fun _ k => l.length - (intOf k).toNat)
                      case atStart => exact ⟨i + 1, 0, Nat.le_refl _, by omega, by go_num, rfl, HSG⟩
                      case round =>
                        obtain ⟨k, ex, hk1, hk2, rfl, rfl, HK⟩ := hrel
                        obtain ⟨m0, m1', b0, b1, e0, e1', -⟩ := sg_bd HK.out
                        have e1 : ex ≤ 99 := by omega
                        have m1 : m ≤ 999999999999999 := by omega
                        clear m1' e1'
                        by_cases hlt2 : k < l.length
                        · obtain ⟨y, hy⟩ := get_some' hlt2
                          obtain ⟨bq, oq, hAq, hbq, hcq⟩ := slat_get H.out hy
                          injection hAq with hAq
                          injection hAq with hq1 hq2
                          subst hq1 hq2
                          obtain ⟨y0, y14⟩ := HI.out y (List.mem_of_getElem? hy)
                          by_cases hy9 : y ≤ 9
                          · have hn := HK.out.next hy y0
                            rw [sg_dig (k := (k : Int) - i - 1) hsg0 hy9 (by omega)] at hn
                            have HNX := Lib.hid hn
                            have hy9' : ¬ 9 < y := by omega
                            clear hn hy
                            go_wp2_with fail
                            go_round
                            case rel => exact ⟨k + 1, ex * 10 + y, by omega, by omega, by go_num, rfl, Lib.hid (by rw [show ((k + 1 : Nat) : Int) - i - 1 = (k : Int) - i - 1 + 1 by omega]; exact HNX.out)⟩
                            case measure => simp [intOf]; omega
                          · have hno := HK.out.bad hy y0 (take_ex_no hsg0 hy9)
                            have HNO := Lib.hid hno
                            have hy9' : 9 < y := by omega
                            clear hno hy
                            go_wp2_with fail
                            go_ret2
                            exact sca_no HNO.out (Below.refl _ _)
                        · obtain rfl : k = l.length := by omega
                          have hval := HK.out.fin (Nat.le_refl _)
                          unfold SgF at hval
                          rw [fin_val hd0 (.inr (by omega))] at hval
                          clear hlt2
                          have HVV := Lib.hid hval
                          have KS := fun (w : World) (E' : Int) (hE : E' = (1 : Int) * ex - b) => scaled_int m m0 m1 E' (by omega) (by omega) w
                          cases hE : valS m.toNat ((1 : Int) * ex - b) with
                          | none =>
                            have hno : realF l = none := by rw [hval, hE]; rfl
                            have HNO := Lib.hid hno
                            have KN : ∀ (w : World) (E' : Int), E' = (1 : Int) * ex - b → Calls Try.prog 35 #[.int .i64 m, .int .i64 E'] w fun e w' => ∃ d, e = .returned (.tuple #[.int .i64 d, .bool false]) ∧ Below w.heap.size w w' := fun w E' h => (KS w E' h).mono fun e w' hr => by
                              subst h
                              unfold ScaR at hr
                              rw [hE] at hr
                              obtain ⟨⟨d, rfl⟩, hb⟩ := hr
                              exact ⟨d, rfl, hb⟩
                            have HKN := Lib.hid KN
                            clear KS KN hno hval hE HVV
                            cases mi
                            all_goals
                              go_wp2_with (first | (go_at_call 35; (with_reducible refine (HKN.out _ _ ?_).mono ?_); (· omega); rintro e w5 ⟨dd, rfl, hb5⟩) | fail)
                              go_ret2
                              exact sca_no HNO.out hb5
                          | some v =>
                            obtain ⟨v0, v1⟩ := valS_bd hE
                            have hyes : realF l = some (if mi = true then -v else v) := by rw [hval, hE]; rfl
                            have HYES := Lib.hid hyes
                            have KN : ∀ (w : World) (E' : Int), E' = (1 : Int) * ex - b → Calls Try.prog 35 #[.int .i64 m, .int .i64 E'] w fun e w' => e = .returned (.tuple #[.int .i64 v, .bool true]) ∧ Below w.heap.size w w' := fun w E' h => (KS w E' h).mono fun e w' hr => by
                              subst h
                              unfold ScaR at hr
                              rw [hE] at hr
                              exact hr
                            have HKN := Lib.hid KN
                            clear KS KN hyes hval hE HVV
                            cases mi
                            all_goals
                              go_wp2_with (first | (go_at_call 35; (with_reducible refine (HKN.out _ _ ?_).mono ?_); (· omega); rintro e w5 ⟨rfl, hb5⟩) | fail)
                              go_ret2
                              exact sca_yes HYES.out (by first | rfl | simp | omega) hb5
                · have hno := HR.out.bad hx x0 (take_no h9 h10p han (fun h => absurd h hsg))
                  have HNO := Lib.hid hno
                  have h11 : (x != 11) = true := by rw [bne_iff_ne]; omega
                  have h12 : (x == 12) = false := by rw [beq_eq_false_iff_ne]; omega
                  clear hno hx han h10p hpt hsg
                  rcases hp with hp | ⟨hp, rfl⟩
                  all_goals
                    go_wp2_with fail
                    go_ret2
                    exact sca_no HNO.out (Below.refl _ _)
        · obtain rfl : i = l.length := by omega
          by_cases hd0 : d = 0
          · subst hd0
            have hno := HR.out.fin (Nat.le_refl _)
            unfold DigF at hno
            rw [fin_zero] at hno
            have HNO := Lib.hid hno
            clear hno
            go_wp2_with fail
            go_ret2
            exact sca_no HNO.out (Below.refl _ _)
          · have hd0' : (d == 0) = false := by rw [beq_eq_false_iff_ne]; exact hd0
            have hval := HR.out.fin (Nat.le_refl _)
            unfold DigF at hval
            rw [fin_val hd0 (.inl rfl), show (0 : Int) * 0 - b = -b by omega] at hval
            clear hlt
            have HVV := Lib.hid hval
            have KS := fun (w : World) (E' : Int) (hE : E' = -b) => scaled_int m m0 m1 E' (by omega) (by omega) w
            cases hE : valS m.toNat (-b) with
            | none =>
              have hno : realF l = none := by rw [hval, hE]; rfl
              have HNO := Lib.hid hno
              have KN : ∀ (w : World) (E' : Int), E' = -b → Calls Try.prog 35 #[.int .i64 m, .int .i64 E'] w fun e w' => ∃ d, e = .returned (.tuple #[.int .i64 d, .bool false]) ∧ Below w.heap.size w w' := fun w E' h => (KS w E' h).mono fun e w' hr => by
                subst h
                unfold ScaR at hr
                rw [hE] at hr
                obtain ⟨⟨d, rfl⟩, hb⟩ := hr
                exact ⟨d, rfl, hb⟩
              have HKN := Lib.hid KN
              clear KS KN hno hval hE HVV
              cases mi
              all_goals
                go_wp2_with (first | (go_at_call 35; (with_reducible refine (HKN.out _ _ ?_).mono ?_); (· omega); rintro e w5 ⟨dd, rfl, hb5⟩) | fail)
                go_ret2
                exact sca_no HNO.out hb5
            | some v =>
              obtain ⟨v0, v1⟩ := valS_bd hE
              have hyes : realF l = some (if mi = true then -v else v) := by rw [hval, hE]; rfl
              have HYES := Lib.hid hyes
              have KN : ∀ (w : World) (E' : Int), E' = -b → Calls Try.prog 35 #[.int .i64 m, .int .i64 E'] w fun e w' => e = .returned (.tuple #[.int .i64 v, .bool true]) ∧ Below w.heap.size w w' := fun w E' h => (KS w E' h).mono fun e w' hr => by
                subst h
                unfold ScaR at hr
                rw [hE] at hr
                exact hr
              have HKN := Lib.hid KN
              clear KS KN hyes hval hE HVV
              cases mi
              all_goals
                go_wp2_with (first | (go_at_call 35; (with_reducible refine (HKN.out _ _ ?_).mono ?_); (· omega); rintro e w5 ⟨rfl, hb5⟩) | fail)
                go_ret2
                exact sca_yes HYES.out (by first | rfl | simp | omega) hb5
end Go.Proofs.Ytoofjkhigonppaa

namespace Go.Proofs.Ytoofjkhigonppaa
open Go.ChangeShapes Go.WideShapes Go.ChangeAt Go.RowKit

theorem bounds_in {n : Int} (h : (Lit.int .i64 n).wf = true) : -9223372036854775808 ≤ n ∧ n ≤ 9223372036854775807 := by
  have := bounds_i64 h
  omega
theorem ints_in {w : World} {v : Value} (h : CellOk w (.sl 8 [.int .i64]) v) : ∃ (A : Option Addr) (xs : List Int) (c : Nat), v = .slice A xs.length c ∧ SlAt w A xs.length (xs.map (Value.int .i64)) ∧ InI xs ∧ xs.length ≤ 17592186044416 := by
  simp only [CellOk] at h
  obtain ⟨A, n, c, rfl, h1, h2, h3, h4⟩ := h
  have key : ∀ i, i < n → ∃ u : Int, (-9223372036854775808 ≤ u ∧ u ≤ 9223372036854775807) ∧ ∃ (b : Nat) (o : Nat), A = some ⟨b, o, none⟩ ∧ b < w.heap.size ∧ w.cell? ⟨b, o + i, none⟩ = some (.int .i64 u) := by
    intro i hi
    obtain ⟨b, o, hA, hb, hc⟩ := h4 i hi
    simp only [CellsOk, CellOk, List.length_cons, List.length_nil, Nat.zero_add, Nat.mul_one, Nat.add_zero, and_true] at hc
    obtain ⟨v, hv, n, rfl, hw⟩ := hc
    exact ⟨n, bounds_in hw, b, o, hA, hb, hv⟩
  obtain ⟨xs, hl, hp⟩ := list_of n key
  subst hl
  refine ⟨A, xs, c, rfl, ⟨by simp, fun k hk => ?_⟩, fun x hx => ?_, by omega⟩
  · obtain ⟨-, b, o, hA, hb, hc⟩ := hp k _ (List.getElem?_eq_getElem hk)
    exact ⟨b, o, hA, hb, by rw [hc, List.getElem?_map, List.getElem?_eq_getElem hk]; rfl⟩
  · obtain ⟨k, hk⟩ := List.getElem?_of_mem hx
    exact (hp k x hk).1
theorem ents_of {w : World} {A : Option Addr} {n : Nat} (h : ∀ i, i < n → ∃ b o, A = some ⟨b, o, none⟩ ∧ b < w.heap.size ∧ CellsOk w [.int .i64, .sl 8 [.int .i64]] (fun j => w.cell? ⟨b, o + (i * [CK.int .i64, .sl 8 [.int .i64]].length + j), none⟩)) :
    ∃ es : List En, EnL w A n es ∧ EnIn es := by
  have key : ∀ i, i < n → ∃ v : En, ((-9223372036854775808 ≤ v.op ∧ v.op ≤ 9223372036854775807) ∧ InI v.xs ∧ v.xs.length ≤ 17592186044416 ∧ SlAt w v.A v.xs.length (v.xs.map (Value.int .i64))) ∧ ∃ (b : Nat) (o : Nat), A = some ⟨b, o, none⟩ ∧ b < w.heap.size ∧ w.cell? ⟨b, o + i * 2, none⟩ = some (.int .i64 v.op) ∧ w.cell? ⟨b, o + i * 2 + 1, none⟩ = some (.slice v.A v.xs.length v.c) := by
    intro i hi
    obtain ⟨b, o, hA, hb, hc⟩ := h i hi
    simp only [CellsOk, and_true] at hc
    obtain ⟨⟨v, hv, hk⟩, v2, hv2, hk2⟩ := hc
    simp only [CellOk] at hk
    obtain ⟨op, rfl, hop⟩ := hk
    obtain ⟨A2, xs, c2, rfl, hs, hin, hlen⟩ := ints_in hk2
    exact ⟨⟨op, A2, c2, xs⟩, ⟨bounds_in hop, hin, hlen, hs⟩, b, o, hA, hb, hv, hv2⟩
  obtain ⟨es, hl, hp⟩ := list_of n key
  refine ⟨es, ⟨?_, fun v hv => ?_, fun v hv => ?_⟩, fun v hv => ?_⟩
  · refine ⟨by simp [hl], fun i r hr => ?_⟩
    rw [List.getElem?_map] at hr
    obtain ⟨v, hv, rfl⟩ := Option.map_eq_some_iff.1 hr
    obtain ⟨-, b, o, hA, hb, h0, h1⟩ := hp i v hv
    refine ⟨rfl, b, o, hA, hb, fun j u hu => ?_⟩
    match j, hu with
    | 0, hu => simp only [enC, List.getElem?_cons_zero, Option.some.injEq] at hu; subst hu; exact h0
    | 1, hu => simp only [enC, List.getElem?_cons_succ, List.getElem?_cons_zero, Option.some.injEq] at hu; subst hu; exact h1
    | k + 2, hu => simp [enC] at hu
  · obtain ⟨k, hk⟩ := List.getElem?_of_mem hv
    exact (hp k v hk).1.2.2.2
  · obtain ⟨k, hk⟩ := List.getElem?_of_mem hv
    exact (hp k v hk).1.2.2.1
  · obtain ⟨k, hk⟩ := List.getElem?_of_mem hv
    exact ⟨(hp k v hk).1.1, (hp k v hk).1.2.1⟩
end Go.Proofs.Ytoofjkhigonppaa

namespace Go.Proofs.Ytoofjkhigonppaa
open Go.RowKit

theorem div_any {N y : Nat} (h0 : 0 < y) (hy : y < 18446744073709551616) (hN : N < y * 18446744073709551616) : DivOk N y := by
  rcases Nat.lt_or_ge N 18446744073709551616 with h | h
  · exact div_small h hy h0
  · exact div64_big hN h hy
theorem divL_any (f : Fl) : DivL f := fun _ k hk hc => by
  have hp := pow17 hk
  have hp0 : 0 < 10 ^ k := Nat.pow_pos (by omega)
  exact div_any hp0 (by omega) (by omega)
theorem divP_any (bs : List UInt8) : DivP bs := fun _ _ _ _ _ => divL_any _
theorem parse_reals {w : World} {l : List Int} {A : Option Addr} {n c : Nat} (h : ∀ d ∈ l, 0 ≤ d ∧ d ≤ 14) (hl : l.length ≤ 60) (hn : (halvesS l ++ [5]).length = n) (hs : Bs w A (halvesS l ++ [5]) c) :
    Calls Try.prog 9 #[.slice A n c] w fun e w' => (match realF l with
      | none => e = .returned (.tuple #[.slice none 0 0, .int .i64 150])
      | some x => ∃ A1 c1 A2 c2, e = .returned (.tuple #[.slice A1 1 c1, .int .i64 0]) ∧ EnL w' A1 1 [⟨5, A2, c2, [x]⟩]) ∧ Below w.heap.size w w' := by
  subst hn
  refine (parse_any hs.sl hs.cap (by rw [List.length_append, halves_len, List.length_singleton]; omega) hs.row (divP_any _)).mono fun e w' hr => ?_
  unfold ParseR at hr
  rw [parse_real h] at hr
  obtain ⟨hr, hb⟩ := hr
  refine ⟨?_, hb⟩
  cases hf : realF l with
  | none => rw [hf] at hr; exact hr
  | some x =>
    rw [hf] at hr
    obtain ⟨A1, k, c1, es, rfl, he, hL⟩ := hr
    have hk : es.length = k := by have := hL.rows.len; simpa using this
    have he2 : es.map enV = [((5 : Int), [x])] := he
    obtain ⟨v, rfl⟩ := List.length_eq_one_iff.1 (show es.length = 1 by have := congrArg List.length he2; simpa using this)
    simp only [List.map_cons, List.map_nil, List.cons.injEq, and_true] at he2
    obtain ⟨vo, vA, vc, vx⟩ := v
    unfold enV at he2
    injection he2 with h1 h2
    dsimp only at h1 h2
    subst h1 h2
    simp only [List.length_cons, List.length_nil, Nat.zero_add] at hk
    subst hk
    exact ⟨_, _, _, _, rfl, hL⟩
theorem ent_cells2 {w : World} {A1 A2 : Option Addr} {c2 : Nat} {op x : Int} (h : EnL w A1 1 [⟨op, A2, c2, [x]⟩]) : ∃ b o b2 o2, A1 = some ⟨b, o, none⟩ ∧ A2 = some ⟨b2, o2, none⟩ ∧ b < w.heap.size ∧ b2 < w.heap.size ∧ w.cell? ⟨b, o, none⟩ = some (.int .i64 op) ∧ w.cell? ⟨b, o + 1, none⟩ = some (.slice (some ⟨b2, o2, none⟩) 1 c2) ∧ w.cell? ⟨b2, o2, none⟩ = some (.int .i64 x) := by
  obtain ⟨b, o, rfl, hb, q0, q1⟩ := h.at_ (k := 0) rfl
  obtain ⟨b2, o2, h2, hb2, q2⟩ := (h.args _ (List.mem_singleton.2 rfl)).2 0 (by simp)
  dsimp only at h2
  subst h2
  refine ⟨b, o, b2, o2, rfl, rfl, hb, hb2, ?_, ?_, ?_⟩
  · simpa using q0
  · simpa using q1
  · simpa using q2
theorem halvesG {w : World} {A : Option Addr} {n c : Nat} {l : List Int} (hn : l.length = n) (h : SlAt w A n (l.map (Value.int .i64))) (hi : ∀ x ∈ l, 0 ≤ x ∧ x ≤ 14) (hl : n ≤ 60) :
    Calls Try.prog 18 #[.slice A n c] w fun e w' => ∃ A c m, e = .returned (.slice A m c) ∧ (halvesS l).length = m ∧ m ≤ 40 ∧ OwB w.heap.size w w' A m c (halvesS l) := by
  subst hn
  exact (halvesL_any h (fun x hx => by have := hi x hx; omega) (by omega)).mono fun e w' ⟨A, c, he, ho⟩ => ⟨A, c, _, he, rfl, by rw [halves_len]; omega, ho⟩
set_option maxRecDepth 20000 in
set_option maxHeartbeats 8000000 in
theorem dictReals_any {w : World} {A : Option Addr} {n c : Nat} {l : List Int} (hn : l.length = n) (h : SlAt w A n (l.map (Value.int .i64))) (hs : n ≤ 17592186044416) :
    Calls Try.prog 6 #[.slice A n c] w fun e w' => e = .returned (.bool true) ∧ Below w.heap.size w w' := by
  subst hn
  by_cases h60 : l.length ≤ 60
  · have h60' : ¬ (60 : Int) < l.length := by omega
    have H := Lib.hid h
    clear h
    go_enter Try.func6, Try.ntmps6
    go_wp2_with fail
    go_loop [3] (fun i => ∃ k : Nat, k ≤ l.length ∧ i = .int .i64 k ∧ Hid (∀ x ∈ l.take k, 0 ≤ x ∧ x ≤ 14)) (fun i => l.length - (intOf i).toNat)
    case atStart => exact ⟨0, Nat.zero_le _, rfl, Lib.hid (fun x hx => by simp at hx)⟩
    case round =>
      obtain ⟨k, hk, rfl, HT⟩ := hrel
      by_cases hlt : k < l.length
      · obtain ⟨x, hx⟩ := get_some' hlt
        obtain ⟨b, o, rfl, hb, hc⟩ := slat_get H.out hx
        by_cases hin : 0 ≤ x ∧ x ≤ 14
        · have hnx : ∀ y ∈ l.take (k + 1), 0 ≤ y ∧ y ≤ 14 := fun y hy => by
            rw [take_snoc' hx, List.mem_append, List.mem_singleton] at hy
            rcases hy with hy | rfl
            · exact HT.out y hy
            · exact hin
          have HNX := Lib.hid hnx
          obtain ⟨i0, i1⟩ := hin
          clear hnx hx
          go_wp2_with fail
          go_round
          case rel => exact ⟨k + 1, by omega, by go_num, HNX⟩
          case measure => simp [intOf]; omega
        · have hout : x < 0 ∨ (0 ≤ x ∧ 14 < x) := by omega
          clear hin hx
          rcases hout with hout | ⟨hout, hout2⟩
          all_goals
            go_wp2_with (first | (go_at_call 8; (with_reducible refine (lives15_any _).mono ?_); rintro e w3 ⟨rfl, hb3⟩) | fail)
            go_ret
            exact ⟨rfl, hb3⟩
      · obtain rfl : k = l.length := by omega
        have ht := HT.out
        rw [List.take_length] at ht
        have HIN := Lib.hid ht
        have KR := Real_any (c := c) rfl H.out ht (by omega)
        have KP := fun (w' : World) (A : Option Addr) (n c : Nat) (hn : (halvesS l ++ [5]).length = n) (hb : Bs w' A (halvesS l ++ [5]) c) => parse_reals ht (by omega) hn hb
        unfold ScaR at KR
        clear ht
        cases hf : realF l with
        | none =>
          rw [hf] at KR
          simp only [hf] at KP
          dsimp only at KR
          have HKR := Lib.hid KR
          have HKP := Lib.hid KP
          clear KR KP hf
          go_wp2_with (first
            | (go_at_call 17; (with_reducible refine HKR.out.mono ?_); rintro e w1 ⟨⟨d, rfl⟩, hb1⟩; have HB1 := Lib.hid hb1; clear hb1)
            | (go_at_call 18; (with_reducible refine (halvesG rfl (H.out.keep HB1.out) HIN.out h60).mono ?_); rintro e w2 ⟨A2, c2, m2, rfl, hm2, hm40, ho2⟩
               have HM2 := Lib.hid (show (halvesS l ++ [5]).length = m2 + 1 by rw [List.length_append, hm2]; rfl)
               have HO2 := Lib.hid (ho2.alloc (.cells #[.int .u8 5] 5))
               have HSA2 := Lib.hid (slat_u8 w2 5 5 rfl)
               clear ho2 hm2)
            | (at_builtin; refine wpList_append_ow (by rfl) (.tmp 38) (.tmp 39) (by rfl) (by rfl) HO2.out _ 1 _ (by rfl) [5] HSA2.out (by omega) ?_; intro A3 c3 w3 ho3; have HO3 := Lib.hid ho3; clear ho3)
            | (go_at_call 9; (with_reducible refine (HKP.out _ _ _ _ HM2.out (HO3.out.toBs (by omega))).mono ?_); rintro e w4 ⟨rfl, hb4⟩
               have HB4 := Lib.hid (HB1.out.trans ((HO3.out.bel.trans (hb4.mono HO3.out.bel.size)).mono HB1.out.size))
               clear hb4)
            | (go_at_call 8; (with_reducible refine (lives15_any _).mono ?_); rintro e w5 ⟨rfl, hb5⟩)
            | fail)
          go_ret
          exact ⟨rfl, HB4.out.trans (hb5.mono HB4.out.size)⟩
        | some x =>
          rw [hf] at KR
          simp only [hf] at KP
          dsimp only at KR
          have HKR := Lib.hid KR
          have HKP := Lib.hid KP
          clear KR KP hf
          go_wp2_with (first
            | (go_at_call 17; (with_reducible refine HKR.out.mono ?_); rintro e w1 ⟨rfl, hb1⟩; have HB1 := Lib.hid hb1; clear hb1)
            | (go_at_call 18; (with_reducible refine (halvesG rfl (H.out.keep HB1.out) HIN.out h60).mono ?_); rintro e w2 ⟨A2, c2, m2, rfl, hm2, hm40, ho2⟩
               have HM2 := Lib.hid (show (halvesS l ++ [5]).length = m2 + 1 by rw [List.length_append, hm2]; rfl)
               have HO2 := Lib.hid (ho2.alloc (.cells #[.int .u8 5] 5))
               have HSA2 := Lib.hid (slat_u8 w2 5 5 rfl)
               clear ho2 hm2)
            | (at_builtin; refine wpList_append_ow (by rfl) (.tmp 38) (.tmp 39) (by rfl) (by rfl) HO2.out _ 1 _ (by rfl) [5] HSA2.out (by omega) ?_; intro A3 c3 w3 ho3; have HO3 := Lib.hid ho3; clear ho3)
            | (go_at_call 9; (with_reducible refine (HKP.out _ _ _ _ HM2.out (HO3.out.toBs (by omega))).mono ?_); rintro e w4 ⟨⟨A4, c4, A5, c5, rfl, hl4⟩, hb4⟩
               have HL4 := Lib.hid hl4
               have HB4 := Lib.hid (HB1.out.trans ((HO3.out.bel.trans (hb4.mono HO3.out.bel.size)).mono HB1.out.size))
               clear hb4 hl4)
            | (go_at_call 8; (with_reducible refine (lives15_any _).mono ?_); rintro e w5 ⟨rfl, hb5⟩
               obtain ⟨b, o, b2, o2, rfl, rfl, hbl, hbl2, q0, q1, q2⟩ := ent_cells2 (HL4.out.keep hb5))
            | fail)
          go_ret
          exact ⟨rfl, HB4.out.trans (hb5.mono HB4.out.size)⟩
  · have h60' : (60 : Int) < l.length := by omega
    clear h h60
    go_enter Try.func6, Try.ntmps6
    go_wp2_with (first | (go_at_call 8; (with_reducible refine (lives15_any _).mono ?_); rintro e w3 ⟨rfl, hb3⟩) | fail)
    go_ret
    exact ⟨rfl, hb3⟩
end Go.Proofs.Ytoofjkhigonppaa

namespace Go.Proofs.Ytoofjkhigonppaa
open Go.ChangeShapes Go.WideShapes Go.ChangeAt Go.RowKit

set_option maxRecDepth 100000 in
theorem dictReals_lifted (os : Os) (started : os.Started) (H : Type) (enc : TypeId × Value → H) :
    ReturnsInHanded {} Try.checked os 6 .any (Rows.dictRealsSpec.pre6 enc Try.prog Try.f6 Rows.dictRealsRow.domain false) (Rows.dictRealsSpec.post enc Try.prog Try.f6 false true false false) := by
  refine returnsInHanded_of_change_sized (C := Try.checked) own_none started (by kernel_rfl) Try.func6
    (ChangeSpec.witness6 (enc := enc) (C := Try.checked) false ⟨#[], #[.slice none 0 0], []⟩ 8 (by kernel_rfl) (by kernel_rfl) (by kernel_rfl) (by kernel_rfl)) ?_
  intro W base args ds gs before hval0 hW _ hwt _
  have hval : ∀ (j : Nat) t v, Try.f6.params[j]? = some t → args[j]? = some v → Value.okWide Try.prog W .any base t v := hval0
  have hW' := hW
  obtain ⟨p, q, hA0, _, _, _, _⟩ := hW
  have hA : DataW.TrodAll enc Try.prog W 0 (fun _ => true) true Try.f6.params.toList args.toList ds p := hA0
  rw [Try.params6] at hA hval
  obtain ⟨v0, d0, rfl, rfl, h0⟩ := trodAll_one hA
  obtain ⟨A, n, c, rfl, k0, m0, r0, s0⟩ := open_sl (eb := 8) (ks := [.int .i64]) Try.underlying37 (by kernel_rfl) (hval 0 _ _ rfl rfl) h0 (reach_all (ts := [37]) (by kernel_rfl) hwt (j := 0) rfl rfl)
  clear hA0 hval0
  obtain ⟨A', xs, c', e, hS, hI, hL⟩ := ints_in (w := W) (v := .slice A n c) (by simp only [CellOk]; exact ⟨A, n, c, rfl, k0, m0, r0, s0⟩)
  injection e with e1 e2 e3
  subst e1 e2 e3
  refine (dictReals_any rfl hS hL).mono fun e W' ⟨he, hb⟩ => ?_
  subst he
  exact ⟨_, rfl, law_post_any laid_out Try.underlying4 hW' (by kernel_rfl) rfl rfl rfl hb⟩

theorem dictReals_holds : Rows.DictRealsSaid :=
  OpenClaim.holds_of_wide 6 Try.f6 rfl rfl rfl rfl rfl rfl rfl ⟨rfl, rfl, rfl, rfl, rfl⟩ rfl rfl rfl rfl rfl (by kernel_rfl) Try.func6 (by kernel_rfl)
    (of_decide_eq_true (by kernel_rfl)) (by unfold Func.isWrapper; first | (rw [if_pos (by decide +kernel)]; kernel_rfl) | (rw [if_neg (by decide +kernel)]; exact ⟨rfl, rfl⟩))
    (fun os started H enc _ => dictReals_lifted os started H enc)

end Go.Proofs.Ytoofjkhigonppaa
