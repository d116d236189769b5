/-
  The plain law of IndexBack: what was put is an INDEX of the same lists, whatever follows.
-/
import Derived.Test.YtbmflgcahbkdeaaIdxL
import Derived.Test.YtbmflgcahbkdeaaBytes
namespace Go.Proofs.Ytbmflgcahbkdeaa
open Go.RowKit

/-- Pieces of one length, one behind the other. -/
theorem flat_len {α : Type} (f : Nat → List α) (z k : Nat) (hf : ∀ i, (f i).length = z) : (((List.range k).map f).flatten).length = k * z := by
  induction k with
  | zero => simp
  | succ k ih => rw [List.range_succ, List.map_append, List.flatten_append, List.length_append, ih]; simp [hf, Nat.succ_mul]
theorem flat_at {α : Type} (f : Nat → List α) (z k i : Nat) (hf : ∀ i, (f i).length = z) (hi : i < k) : ((((List.range k).map f).flatten).drop (i * z)).take z = f i := by
  induction k with
  | zero => omega
  | succ k ih =>
    have hl := flat_len f z k hf
    rw [List.range_succ, List.map_append, List.flatten_append]
    simp only [List.map_cons, List.map_nil, List.flatten_cons, List.flatten_nil, List.append_nil]
    rcases Nat.lt_or_ge i k with h | h
    · have h1 : (i + 1) * z ≤ k * z := Nat.mul_le_mul_right z h
      rw [Nat.succ_mul] at h1
      rw [List.drop_append_of_le_length (by omega), List.take_append_of_le_length (by rw [List.length_drop]; omega)]
      exact ih h
    · obtain rfl : i = k := by omega
      rw [← hl, List.drop_left, List.take_of_length_le (by rw [hf]; exact Nat.le_refl _)]
theorem flat_lists {ls : List (List UInt8)} {i : Nat} {l : List UInt8} (h : ls[i]? = some l) (b : List UInt8) : ((ls.flatten ++ b).drop (lsSum (ls.take i))).take l.length = l := by
  have h1 : ls = ls.take i ++ (l :: ls.drop (i + 1)) := by
    have hi := (List.getElem?_eq_some_iff.1 h)
    obtain ⟨hlt, rfl⟩ := hi
    rw [List.getElem_cons_drop, List.take_append_drop]
  have h2 : ls.flatten = (ls.take i).flatten ++ (l ++ (ls.drop (i + 1)).flatten) := by
    conv => lhs; rw [h1]
    simp
  rw [h2, ← lsSum_flatten, List.append_assoc, List.drop_left, List.append_assoc, List.take_left]

theorem numB_beB (z x : Nat) (h1 : 1 ≤ z) (h4 : z ≤ 4) (hx : x < 256 ^ z) : numB (beB z x) = x := by
  have hc : z = 1 ∨ z = 2 ∨ z = 3 ∨ z = 4 := by omega
  rcases hc with rfl | rfl | rfl | rfl
  · have := numB_be1 x; omega
  · have := numB_be2 x; omega
  · have := numB_be3 x; omega
  · have := numB_be4 x; omega
theorem ixW_fits (x : Nat) (h : x < 4294967296) : x < 256 ^ ixW x := by
  unfold ixW
  split
  · omega
  · split
    · omega
    · split
      · omega
      · omega

section
variable {ls : List (List UInt8)} {b : List UInt8}
def offC (z : Nat) (ls : List (List UInt8)) (k : Nat) : List UInt8 := ((List.range k).map fun i => beB z ((1 + lsSum (ls.take i) : Nat) : Int)).flatten
theorem offC_eq (z : Nat) (ls : List (List UInt8)) (k : Nat) : offC z ls (k + 1) = beB z 1 ++ offB z ls k := by
  unfold offC offB
  rw [List.range_succ_eq_map, List.map_cons, List.flatten_cons, List.map_map]
  congr 1
theorem ixB_form (ls : List (List UInt8)) (b : List UInt8) : ixB ls ++ b = beB 2 ls.length ++ (beB 1 (ixZ ls) ++ (offC (ixZ ls) ls (ls.length + 1) ++ (ls.flatten ++ b))) := by
  rw [offC_eq]
  simp [ixB, ixHd]
theorem offC_len (z : Nat) (ls : List (List UInt8)) (k : Nat) : (offC z ls k).length = k * z := flat_len _ z k (fun _ => beB_length _ _)

theorem back_ok (h1 : ls.length ≤ 65535) (h0 : 0 < ls.length) (hs : lsSum ls ≤ 4294967294) :
    ixOk (ixB ls ++ b) = true ∧ ixLists (ixB ls ++ b) = ls ∧ ixBytes (ixB ls ++ b) = (ixB ls).length := by
  obtain ⟨z, hz⟩ : ∃ z, ixZ ls = z := ⟨_, rfl⟩
  have hzb : 1 ≤ z ∧ z ≤ 4 := by rw [← hz]; exact ixW_bd _
  have hzf : lsSum ls + 1 < 256 ^ z := by rw [← hz]; exact ixW_fits _ (by omega)
  obtain ⟨n, hn⟩ : ∃ n, ls.length = n := ⟨_, rfl⟩
  have hform := ixB_form ls b
  have hlen := ixB_len ls
  rw [hz, hn] at hform hlen
  have hC := offC_len z ls (n + 1)
  obtain ⟨bs, hbs⟩ : ∃ bs, ixB ls ++ b = bs := ⟨_, rfl⟩
  rw [hbs] at hform ⊢
  have hbl : bs.length = 3 + (n + 1) * z + lsSum ls + b.length := by rw [← hbs, List.length_append, hlen]
  have e2 : nAt bs 0 2 = n := by
    have : (bs.drop 0).take 2 = beB 2 n := by
      rw [List.drop_zero, hform, List.take_append_of_le_length (by rw [beB_length]; omega), List.take_of_length_le (by rw [beB_length]; omega)]
    rw [nAt, this]
    exact numB_beB 2 n (by decide) (by decide) (by omega)
  have e1 : nAt bs 2 1 = z := by
    have : (bs.drop 2).take 1 = beB 1 z := by
      rw [hform, List.drop_left' (beB_length 2 (n : Int)), List.take_append_of_le_length (by rw [beB_length]; omega), List.take_of_length_le (by rw [beB_length]; omega)]
    rw [nAt, this]
    exact numB_beB 1 z (by decide) (by decide) (by omega)
  have d3 : ∀ k, bs.drop (3 + k) = (offC z ls (n + 1) ++ (ls.flatten ++ b)).drop k := by
    intro k
    rw [← List.drop_drop, hform, ← List.append_assoc, List.drop_left' (show (beB 2 (n : Int) ++ beB 1 (z : Int)).length = 3 by rw [List.length_append, beB_length, beB_length])]
  have eO : ∀ i, i ≤ n → offAt bs 3 z i = 1 + lsSum (ls.take i) := by
    intro i hi
    have hm : (i + 1) * z ≤ (n + 1) * z := Nat.mul_le_mul_right z (by omega)
    rw [Nat.succ_mul] at hm
    have : (bs.drop (3 + i * z)).take z = beB z ((1 + lsSum (ls.take i) : Nat) : Int) := by
      rw [d3, List.drop_append_of_le_length (by omega), List.take_append_of_le_length (by rw [List.length_drop]; omega)]
      exact flat_at (fun i => beB z ((1 + lsSum (ls.take i) : Nat) : Int)) z (n + 1) i (fun _ => beB_length _ _) (by omega)
    rw [offAt, nAt, this]
    have := lsSum_take ls i
    exact numB_beB z _ hzb.1 hzb.2 (by omega)
  have eN : ixN bs = n := e2
  have eS : ixS bs = z := e1
  have eB : ixBase bs = 3 + (n + 1) * z := by rw [ixBase, eN, eS]
  have eOn : ∀ i, i ≤ n → ixO bs i = 1 + lsSum (ls.take i) := fun i hi => by rw [ixO, eS]; exact eO i hi
  have hall : lsSum (ls.take n) = lsSum ls := by rw [← hn, List.take_length]
  refine ⟨?_, ?_, ?_⟩
  · have hd : ixHeadOk bs = true := by
      simp only [ixHeadOk, eB, eS, Bool.and_eq_true, decide_eq_true_eq]
      omega
    have hg : offGood bs 3 z n = true := (offGood_iff _ _ _ _).2 ⟨by rw [eO 0 (by omega)]; simp [lsSum], fun i hi => by
      rw [eO i (by omega), eO (i + 1) (by omega)]
      obtain ⟨l, hl⟩ := ls_get (ls := ls) (k := i) (by omega)
      rw [lsSum_snoc hl]
      omega⟩
    simp only [ixOk, ixGood, hd, eN, eS, hg, eB, eOn n (Nat.le_refl _), hall, Bool.true_and, Bool.and_eq_true, Bool.or_eq_true, decide_eq_true_eq]
    omega
  · refine List.ext_getElem? fun i => ?_
    rw [ixLists, eN, List.getElem?_map]
    rcases Nat.lt_or_ge i n with h | h
    · obtain ⟨l, hl⟩ := ls_get (ls := ls) (k := i) (by omega)
      rw [List.getElem?_range h, hl, Option.map_some, eB, eOn i (by omega), eOn (i + 1) (by omega), lsSum_snoc hl]
      congr 1
      rw [show 3 + (n + 1) * z + (1 + lsSum (ls.take i) - 1) = 3 + ((n + 1) * z + lsSum (ls.take i)) by omega, d3, ← List.drop_drop, ← hC, List.drop_left, show 1 + (lsSum (ls.take i) + l.length) - (1 + lsSum (ls.take i)) = l.length by omega]
      exact flat_lists hl b
    · rw [List.getElem?_eq_none (by simpa using h), List.getElem?_eq_none (by omega)]
      rfl
  · rw [ixBytes, eN, if_neg (by omega), eB, eOn n (Nat.le_refl _), hall, hlen]
    omega
theorem back_nil : ixOk ([0, 0] ++ b) = true ∧ ixLists ([0, 0] ++ b) = [] ∧ ixBytes ([0, 0] ++ b) = 2 := by
  obtain ⟨bs, hbs⟩ : ∃ bs, ([0, 0] : List UInt8) ++ b = bs := ⟨_, rfl⟩
  have e : ixN bs = 0 := by rw [← hbs]; rfl
  have e2 : 2 ≤ bs.length := by rw [← hbs]; simp
  rw [hbs]
  refine ⟨by simp [ixOk, e, e2], by simp [ixLists, e], by simp [ixBytes, e]⟩
theorem back_any (hf : ixFit ls = true) : ixOk (ixOut ls ++ b) = true ∧ ixLists (ixOut ls ++ b) = ls ∧ ixBytes (ixOut ls ++ b) = (ixOut ls).length ∧ (ixOut ls).length ≤ 1048576 := by
  rcases Nat.eq_zero_or_pos ls.length with h0 | h0
  · obtain rfl := List.eq_nil_of_length_eq_zero h0
    obtain ⟨h1, h2, h3⟩ := back_nil (b := b)
    exact ⟨h1, h2, h3, by decide⟩
  · have h1 : ls.length ≤ 65535 := by
      rcases Nat.lt_or_ge 65535 ls.length with h | h
      · rw [ixFit_long h] at hf; cases hf
      · exact h
    obtain ⟨e1, e2⟩ := ixFit_cons h1 h0
    rw [e1] at hf
    simp only [decide_eq_true_eq] at hf
    have hl := ixB_len ls
    rw [e2]
    obtain ⟨g1, g2, g3⟩ := back_ok (b := b) h1 h0 (by omega)
    exact ⟨g1, g2, g3, hf⟩
end
end Go.Proofs.Ytbmflgcahbkdeaa
