/-
  How often a sign changes, going round: both ways of counting agree.
-/
import Derived.Test.YtnmnehgcliiofaaExX
namespace Go.Proofs.Ytnmnehgcliiofaa
open Go.RowKit

def dif (a b : Int) : Bool := decide (0 < a) != decide (0 < b)
theorem dif_comm (a b : Int) : dif a b = dif b a := by unfold dif; cases decide (0 < a) <;> cases decide (0 < b) <;> rfl
theorem chF_nz (l : List Int) : ∀ p, chF p l = chF p (nzL l) := by
  induction l with
  | nil => intro p; rfl
  | cons x l ih =>
    intro p
    have h1 : chF p (x :: l) = chF (chS p x) l := rfl
    rw [h1, ih]
    by_cases hx : x = 0
    · subst hx
      have h2 : chS p 0 = p := by unfold chS chN chL; simp
      rw [h2]
      unfold nzL
      rw [List.filter_cons_of_neg (by simp)]
    · unfold nzL
      rw [List.filter_cons_of_pos (by simpa using hx)]
      rfl
def adj : Int → List Int → Int
  | _, [] => 0
  | b, x :: r => (if dif b x = true then 1 else 0) + adj x r
theorem chF_adj : ∀ (s : List Int) (n b : Int), b ≠ 0 → (∀ x ∈ s, x ≠ 0) → (chF (n, b) s).1 = n + adj b s
  | [], n, b, _, _ => by simp [chF, adj]
  | x :: r, n, b, hb, h => by
    have hx := h x (List.mem_cons_self ..)
    have h1 : chF (n, b) (x :: r) = chF (chN n b x, chL b x) r := rfl
    have h2 : chL b x = x := if_pos hx
    rw [h1, h2, chF_adj r _ x hx (fun y hy => h y (List.mem_cons_of_mem _ hy))]
    rw [show adj b (x :: r) = (if dif b x = true then 1 else 0) + adj x r from rfl, dif_comm b x]
    unfold chN
    by_cases hd : dif x b = true
    · rw [if_pos ⟨hx, hb, hd⟩, if_pos hd]; omega
    · rw [if_neg (fun hh => hd hh.2.2), if_neg hd]; omega
theorem chF_last : ∀ (s : List Int) (n b : Int), (∀ x ∈ s, x ≠ 0) → (chF (n, b) s).2 = s.getLastD b
  | [], n, b, _ => rfl
  | x :: r, n, b, h => by
    have h1 : chF (n, b) (x :: r) = chF (chN n b x, chL b x) r := rfl
    have h2 : chL b x = x := if_pos (h x (List.mem_cons_self ..))
    rw [h1, h2, chF_last r _ x (fun y hy => h y (List.mem_cons_of_mem _ hy))]
    cases r <;> rfl
def adjN (s : List Int) (k : Nat) : Nat := ((List.range k).filter fun i => dif (s.getD i 0) (s.getD (i + 1) 0)).length
theorem adjN_adj : ∀ (r : List Int) (x : Int), (adjN (x :: r) r.length : Int) = adj x r
  | [], x => rfl
  | y :: r, x => by
    have ih := adjN_adj r y
    rw [show adj x (y :: r) = (if dif x y = true then 1 else 0) + adj y r from rfl]
    unfold adjN at *
    rw [List.length_cons, List.range_succ_eq_map, List.filter_cons, List.filter_map, ← ih]
    have e : ((fun i => dif ((x :: y :: r).getD i 0) ((x :: y :: r).getD (i + 1) 0)) ∘ Nat.succ) = fun i => dif ((y :: r).getD i 0) ((y :: r).getD (i + 1) 0) := by funext i; rfl
    rw [e]
    have e0 : dif ((x :: y :: r).getD 0 0) ((x :: y :: r).getD (0 + 1) 0) = dif x y := rfl
    rw [e0]
    cases dif x y
    · simp
    · simp; omega
theorem cyc_adj (x : Int) (r : List Int) : (cycN (x :: r) (r.length + 1) : Int) = adj x r + (if dif ((x :: r).getLastD 0) x = true then 1 else 0) := by
  rw [cyc_snoc]
  have h1 : cycN (x :: r) r.length = adjN (x :: r) r.length := by
    unfold cycN adjN
    rw [List.filter_congr (fun i hi => ?_)]
    have hi' := List.mem_range.1 hi
    unfold parts dif
    rw [Nat.mod_eq_of_lt (by simp; omega)]
  have h2 : parts (x :: r) r.length = dif ((x :: r).getLastD 0) x := by
    unfold parts dif
    rw [show (x :: r).length = r.length + 1 from rfl, Nat.mod_self]
    have h3 : (x :: r).getD r.length 0 = (x :: r).getLastD 0 := by
      rw [List.getLastD_eq_getLast?, List.getLast?_eq_getElem?]
      simp
    rw [h3]
    rfl
  rw [h1, h2, ← adjN_adj]
  push_cast
  split <;> simp
theorem nz_ne (l : List Int) : ∀ x ∈ nzL l, x ≠ 0 := fun x hx => by
  have := (List.mem_filter.1 hx).2
  simpa using this
theorem chg_eq (l : List Int) : chgE l = chgR l := by
  have hnz := nz_ne l
  unfold chgE chgR
  rw [chF_nz l (0, 0), chF_nz l]
  generalize nzL l = s at *
  rw [chF_last s 0 0 hnz]
  cases s with
  | nil => rfl
  | cons x r =>
    have hlast : (x :: r).getLastD 0 ≠ 0 := by
      have h : (x :: r).getLastD 0 ∈ x :: r := by
        rw [List.getLastD_eq_getLast?, List.getLast?_eq_some_getLast (by simp)]
        exact List.getLast_mem _
      exact hnz _ h
    rw [chF_adj (x :: r) 0 _ hlast hnz, List.length_cons, cyc_adj]
    rw [show adj ((x :: r).getLastD 0) (x :: r) = (if dif ((x :: r).getLastD 0) x = true then 1 else 0) + adj x r from rfl]
    omega
end Go.Proofs.Ytnmnehgcliiofaa
