/-
  Layer 15: a real number of digits, plainly.
-/
import Derived.Test.YtoofjkhigonppaaDcT
namespace Go.Proofs.Ytoofjkhigonppaa
open Go.RowKit

def tailS (l : List Int) : List UInt8 := if l.length % 2 = 0 then [255] else []
theorem by8_nat {x : Int} (h0 : 0 ≤ x) (h1 : x < 256) : ((by8 x).toNat : Int) = x := by
  unfold by8
  rw [UInt8.toNat_ofNat_of_lt' (by show (x % 256).toNat < 256; omega)]
  omega
theorem by8_hi {a b : Int} (a0 : 0 ≤ a) (a1 : a ≤ 15) (b0 : 0 ≤ b) (b1 : b ≤ 15) : hi4 (by8 (16 * a + b)) = a := by
  have := by8_nat (x := 16 * a + b) (by omega) (by omega)
  unfold hi4
  omega
theorem by8_lo {a b : Int} (a0 : 0 ≤ a) (a1 : a ≤ 15) (b0 : 0 ≤ b) (b1 : b ≤ 15) : lo4 (by8 (16 * a + b)) = b := by
  have := by8_nat (x := 16 * a + b) (by omega) (by omega)
  unfold lo4
  omega
theorem realS_pair : ∀ (l : List Int) (rest : List UInt8), (∀ x ∈ l, 0 ≤ x ∧ x ≤ 14) → realS (pairS l ++ (tailS l ++ rest)) = some (l, l.length / 2 + 1)
  | [], rest, _ => by
    show realS (255 :: rest) = _
    rw [realS, if_pos (by decide)]
    rfl
  | [a], rest, h => by
    obtain ⟨h0, h1⟩ := h a (by simp)
    show realS (by8 (16 * a + 15) :: rest) = _
    rw [realS, by8_hi h0 (by omega) (by omega) (by omega), by8_lo h0 (by omega) (by omega) (by omega), if_neg (by omega), if_pos rfl]
    simp
  | a :: b :: t, rest, h => by
    obtain ⟨h0, h1⟩ := h a (by simp)
    obtain ⟨h2, h3⟩ := h b (by simp)
    have ih := realS_pair t rest (fun x hx => h x (by simp [hx]))
    have ht : tailS (a :: b :: t) = tailS t := by
      unfold tailS
      rw [show (a :: b :: t).length % 2 = t.length % 2 by simp; omega]
    rw [ht]
    show realS (by8 (16 * a + b) :: (pairS t ++ (tailS t ++ rest))) = _
    rw [realS, by8_hi h0 (by omega) (by omega) (by omega), by8_lo h0 (by omega) (by omega) (by omega), if_neg (by omega), if_neg (by omega), ih]
    simp
    omega
theorem pair_tail_len : ∀ l : List Int, (pairS l).length + (tailS l).length = l.length / 2 + 1
  | [] => rfl
  | [a] => by simp [pairS, tailS]
  | a :: b :: t => by
    have ih := pair_tail_len t
    have ht : tailS (a :: b :: t) = tailS t := by
      unfold tailS
      rw [show (a :: b :: t).length % 2 = t.length % 2 by simp; omega]
    rw [ht]
    simp [pairS]
    omega
theorem halves_len (l : List Int) : (halvesS l).length = l.length / 2 + 2 := by
  have h := pair_tail_len l
  have he : halvesS l = 30 :: (pairS l ++ tailS l) := rfl
  rw [he, List.length_cons, List.length_append]
  omega
/-- What Parse makes of half bytes and an operator. -/
theorem parse_real {l : List Int} (h : ∀ x ∈ l, 0 ≤ x ∧ x ≤ 14) : parseS (halvesS l ++ [5]) = (realF l).map fun x => [(5, [x])] := by
  have hl := halves_len l
  have hp := pair_tail_len l
  have he : halvesS l ++ [5] = 30 :: (pairS l ++ (tailS l ++ [5])) := by
    show 30 :: (pairS l ++ tailS l) ++ [5] = _
    simp
  unfold parseS
  rw [List.length_append, hl, List.length_singleton]
  rw [he]
  rw [parse_arg (b := 30) (n := l.length / 2 + 2) rfl (by decide)]
  have ho : opS (30 :: (pairS l ++ (tailS l ++ [5]))) (0 + 1) (30 : UInt8).toNat = (realF l).map fun x => (x, 1 + (l.length / 2 + 1)) := by
    unfold opS
    rw [if_pos (by decide), show (30 :: (pairS l ++ (tailS l ++ [5]))).drop (0 + 1) = pairS l ++ (tailS l ++ [5]) from rfl, realS_pair l [5] h]
  rw [ho]
  cases realF l with
  | none => rfl
  | some x =>
    have hget : (30 :: (pairS l ++ (tailS l ++ [5])))[1 + (l.length / 2 + 1)]? = some 5 := by
      rw [Nat.add_comm 1, List.getElem?_cons_succ, ← List.append_assoc, List.getElem?_append_right (by rw [List.length_append]; omega), List.length_append, hp]
      simp
    show (if [].length = 48 then none else parseA _ (l.length / 2 + 2) (1 + (l.length / 2 + 1)) ([] ++ [x]) []) = _
    rw [if_neg (by decide), show l.length / 2 + 2 = (l.length / 2 + 1) + 1 from rfl, parse_op hget (by decide) (by decide), parse_end (by simp; omega), if_pos rfl]
    rfl
/-- The number of digits. -/
def valP : List Int → Int
  | [] => 0
  | d :: t => d * 10 ^ t.length + valP t
theorem fold_dig : ∀ (l : List Int) (mi : Bool) (m k : Int) (an : Bool), (∀ x ∈ l, 0 ≤ x ∧ x ≤ 9) → k + l.length ≤ 15 →
    ∃ an', l.foldl takeF ⟨mi, m, k, 0, 0, 0, 0, false, false, an⟩ = ⟨mi, m * 10 ^ l.length + valP l, k + l.length, 0, 0, 0, 0, false, false, an'⟩
  | [], mi, m, k, an, _, _ => ⟨an, by simp [valP]⟩
  | d :: t, mi, m, k, an, h, hk => by
    obtain ⟨h0, h9⟩ := h d (by simp)
    rw [List.length_cons] at hk
    have hs : takeF ⟨mi, m, k, 0, 0, 0, 0, false, false, an⟩ d = ⟨mi, 10 * m + d, k + 1, 0, 0, 0, 0, false, false, true⟩ := by
      unfold takeF
      rw [if_neg (by simp), if_pos h9]
      unfold digitF
      simp
      omega
    obtain ⟨an', ih⟩ := fold_dig t mi (10 * m + d) (k + 1) true (fun x hx => h x (by simp [hx])) (by omega)
    refine ⟨an', ?_⟩
    rw [List.foldl_cons, hs, ih]
    have e1 : (10 * m + d) * 10 ^ t.length + valP t = m * 10 ^ (d :: t).length + valP (d :: t) := by
      show _ = m * 10 ^ (t.length + 1) + (d * 10 ^ t.length + valP t)
      rw [Int.pow_succ, Int.add_mul, Int.mul_comm 10 m, Int.mul_assoc, Int.mul_comm 10 (10 ^ t.length), Int.add_assoc]
    have e2 : k + 1 + (t.length : Int) = k + ((d :: t).length : Int) := by simp; omega
    rw [e1, e2]
theorem realF_dig {l : List Int} {n : Int} (h : ∀ x ∈ l, 0 ≤ x ∧ x ≤ 9) (h0 : l ≠ []) (h1 : l.length ≤ 15) (hv : valP l = n) (n0 : 0 ≤ n) (n1 : n ≤ 2147483648) : realF l = some (65536 * n) ∧ realF (14 :: l) = some (-65536 * n) := by
  have hlen : 0 < l.length := List.length_pos_iff.2 h0
  have hval : valS n.toNat 0 = some (65536 * n) := by
    unfold valS
    rw [if_pos (by omega)]
    simp
    omega
  constructor
  · obtain ⟨an, hf⟩ := fold_dig l false 0 0 false h (by omega)
    have hff : fldF l = ⟨false, n, l.length, 0, 0, 0, 0, false, false, an⟩ := by
      show l.foldl takeF ⟨false, 0, 0, 0, 0, 0, 0, false, false, false⟩ = _
      rw [hf, hv]; simp
    unfold realF
    rw [hff, if_neg (by unfold badFl; simp; omega)]
    show (valS n.toNat (0 * 0 - 0)).map _ = _
    rw [show (0 : Int) * 0 - 0 = 0 from rfl, hval]
    rfl
  · obtain ⟨an, hf⟩ := fold_dig l true 0 0 true h (by omega)
    have hff : fldF (14 :: l) = ⟨true, n, l.length, 0, 0, 0, 0, false, false, an⟩ := by
      show (14 :: l).foldl takeF fl0 = _
      rw [List.foldl_cons, show takeF fl0 14 = ⟨true, 0, 0, 0, 0, 0, 0, false, false, true⟩ from rfl, hf, hv]; simp
    unfold realF
    rw [hff, if_neg (by unfold badFl; simp; omega)]
    show (valS n.toNat (0 * 0 - 0)).map _ = _
    rw [show (0 : Int) * 0 - 0 = 0 from rfl, hval]
    show some (-(65536 * n)) = _
    rw [Int.neg_mul]
end Go.Proofs.Ytoofjkhigonppaa
