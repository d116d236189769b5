/-
  For all closed lines and every place ExactConvex answers true and leaves its arguments as they were. No conditions.
  Layer 24: the law ExactConvex, walked.
  A closed line whose heights turn at most twice winds at most once about any place.
-/
import Derived.Test.YtnmnehgcliiofaaExZ
import Derived.Test.YtnmnehgcliiofaaExJ
import Derived.Test.YtnmnehgcliiofaaEyD
import Derived.Test.YtnmnehgcliiofaaFrame
import Derived.Test.YtnmnehgcliiofaaFlat
namespace Go.Proofs.Ytnmnehgcliiofaa
open Go.RowKit

def segC : Dt → List Dt → List Sg
  | _, [] => []
  | p, q :: r => (p, q) :: segC q r
theorem segC_len : ∀ (l : List Dt) (p : Dt), (segC p l).length = l.length
  | [], _ => rfl
  | q :: r, p => by rw [segC, List.length_cons, List.length_cons, segC_len r q]
theorem segC_at : ∀ (l : List Dt) (p : Dt) (k : Nat), k < l.length → (segC p l)[k]? = some ((p :: l).getD k (0, 0), l.getD k (0, 0))
  | [], _, k, h => by simp at h
  | q :: r, p, 0, _ => rfl
  | q :: r, p, k + 1, h => by
    rw [segC, List.getElem?_cons_succ, segC_at r q k (by simpa using h)]
    rfl
theorem segsOf_cons (a : Dt) (r : List Dt) : segsOf (a :: r) = segC a (r ++ [a]) := by
  apply List.ext_getElem?
  intro k
  by_cases hk : k < (a :: r).length
  · have hk' : k < (r ++ [a]).length := by simp at hk ⊢; omega
    rw [segC_at _ _ _ hk']
    obtain ⟨u, hu⟩ := get_some hk
    obtain ⟨v, hv⟩ := get_some (next_lt hk)
    rw [segsOf_at hu hv]
    congr 2
    · rw [List.getD_eq_getElem?_getD, ← List.cons_append, List.getElem?_append_left hk, hu]; rfl
    · rw [List.getD_eq_getElem?_getD]
      by_cases hl : k + 1 < (a :: r).length
      · rw [Nat.mod_eq_of_lt hl, List.getElem?_cons_succ] at hv
        rw [List.getElem?_append_left (by simp at hl; omega), hv]; rfl
      · have he : k + 1 = (a :: r).length := by omega
        rw [he, Nat.mod_self] at hv
        simp at hv he
        rw [he, List.getElem?_append_right (Nat.le_refl _), Nat.sub_self]
        simp [hv]
  · rw [List.getElem?_eq_none (by rw [segsOf_len]; omega), List.getElem?_eq_none (by rw [segC_len]; simp at hk ⊢; omega)]
def dyS (s : Sg) : Int := s.2.2 - s.1.2
def upS (y : Int) (s : Sg) : Int := if s.1.2 ≤ y ∧ y < s.2.2 then 1 else 0
def dnS (y : Int) (s : Sg) : Int := if s.2.2 ≤ y ∧ y < s.1.2 then 1 else 0
def sumF (f : Sg → Int) (l : List Sg) : Int := (l.map f).sum
theorem sumF_cons (f : Sg → Int) (s : Sg) (l : List Sg) : sumF f (s :: l) = f s + sumF f l := by simp [sumF]
def need (y : Int) (p : Dt) (b : Int) : Int := if (p.2 ≤ y ∧ 0 < b) ∨ (y < p.2 ∧ b < 0) then 1 else 0
def hiI (y : Int) (p : Dt) : Int := if y < p.2 then 1 else 0
theorem chN_ne {n b x : Int} (_hb : b ≠ 0) : chN n b x = if (0 < x ∧ b < 0) ∨ (x < 0 ∧ 0 < b) then n + 1 else n := by
  unfold chN
  by_cases h1 : 0 < x <;> by_cases h2 : 0 < b <;> simp [h1, h2] <;> repeat' split
  all_goals omega
theorem pot_step {y n b : Int} {p q : Dt} (hb : b ≠ 0) : n - need y p b ≤ chN n b (dyS (p, q)) - upS y (p, q) - dnS y (p, q) - need y q (chL b (dyS (p, q))) ∧ chL b (dyS (p, q)) ≠ 0 := by
  rw [chN_ne hb]
  obtain ⟨p1, p2⟩ := p
  obtain ⟨q1, q2⟩ := q
  have e1 : dyS ((p1, p2), (q1, q2)) = q2 - p2 := rfl
  have e2 : upS y ((p1, p2), (q1, q2)) = if p2 ≤ y ∧ y < q2 then 1 else 0 := rfl
  have e3 : dnS y ((p1, p2), (q1, q2)) = if q2 ≤ y ∧ y < p2 then 1 else 0 := rfl
  have e4 : ∀ c, need y (p1, p2) c = if (p2 ≤ y ∧ 0 < c) ∨ (y < p2 ∧ c < 0) then 1 else 0 := fun _ => rfl
  have e5 : ∀ c, need y (q1, q2) c = if (q2 ≤ y ∧ 0 < c) ∨ (y < q2 ∧ c < 0) then 1 else 0 := fun _ => rfl
  rw [e1, e2, e3, e4, e5]
  unfold chL
  constructor
  · by_cases h : q2 - p2 = 0
    · rw [if_neg (c := q2 - p2 ≠ 0) (fun h' => h' h)]
      repeat' split
      all_goals omega
    · rw [if_pos (c := q2 - p2 ≠ 0) h]
      repeat' split
      all_goals omega
  · split <;> omega
theorem pot (y : Int) : ∀ (l : List Dt) (p : Dt) (n b : Int), b ≠ 0 →
    n - need y p b ≤ (chF (n, b) ((segC p l).map dyS)).1 - sumF (upS y) (segC p l) - sumF (dnS y) (segC p l) - need y (l.getLastD p) (chF (n, b) ((segC p l).map dyS)).2
  | [], p, n, b, _ => by simp [segC, chF, sumF]
  | q :: r, p, n, b, hb => by
    have h1 := pot_step (y := y) (n := n) (p := p) (q := q) hb
    have h2 := pot y r q (chN n b (dyS (p, q))) (chL b (dyS (p, q))) h1.2
    have h3 : (chF (n, b) ((segC p (q :: r)).map dyS)) = chF (chN n b (dyS (p, q)), chL b (dyS (p, q))) ((segC q r).map dyS) := rfl
    have h4 : (q :: r).getLastD p = r.getLastD q := by cases r <;> rfl
    rw [h3, h4, segC, sumF_cons, sumF_cons]
    omega
theorem alt (y : Int) : ∀ (l : List Dt) (p : Dt), sumF (upS y) (segC p l) - sumF (dnS y) (segC p l) = hiI y (l.getLastD p) - hiI y p
  | [], p => by simp [segC, sumF]
  | q :: r, p => by
    have h2 := alt y r q
    have h4 : (q :: r).getLastD p = r.getLastD q := by cases r <;> rfl
    rw [h4, segC, sumF_cons, sumF_cons]
    have h1 : upS y (p, q) - dnS y (p, q) = hiI y q - hiI y p := by
      have e2 : upS y (p, q) = if p.2 ≤ y ∧ y < q.2 then 1 else 0 := rfl
      have e3 : dnS y (p, q) = if q.2 ≤ y ∧ y < p.2 then 1 else 0 := rfl
      rw [e2, e3]
      unfold hiI
      repeat' split
      all_goals omega
    omega
theorem ups_pos (y : Int) (l : List Sg) : 0 ≤ sumF (upS y) l ∧ 0 ≤ sumF (dnS y) l := by
  induction l with
  | nil => exact ⟨Int.le_refl _, Int.le_refl _⟩
  | cons s l ih =>
    rw [sumF_cons, sumF_cons]
    have h1 : 0 ≤ upS y s := by unfold upS; split <;> omega
    have h2 : 0 ≤ dnS y s := by unfold dnS; split <;> omega
    omega
theorem sumS_ud (x y : Int) (l : List Sg) : -sumF (dnS y) l ≤ sumS x y l ∧ sumS x y l ≤ sumF (upS y) l := by
  induction l with
  | nil => exact ⟨Int.le_refl _, Int.le_refl _⟩
  | cons s l ih =>
    rw [sumF_cons, sumF_cons]
    have h0 : sumS x y (s :: l) = stepS x y s + sumS x y l := by simp [sumS]
    rw [h0]
    have h1 : -dnS y s ≤ stepS x y s ∧ stepS x y s ≤ upS y s := by
      unfold stepS stepN dnS upS
      repeat' split
      all_goals omega
    omega
theorem chF_2 (p : Int × Int) (l : List Int) : (chF p l).2 = (nzL l).getLastD p.2 := by
  rw [chF_nz l p]
  exact chF_last _ p.1 p.2 (nz_ne l)
theorem nz_nil {l : List Int} (h : nzL l = []) : ∀ x ∈ l, x = 0 := fun x hx => by
  unfold nzL at h
  have := List.filter_eq_nil_iff.1 h x hx
  simpa using this
theorem still {y : Int} {l : List Sg} (h : ∀ s ∈ l, dyS s = 0) : sumF (upS y) l = 0 ∧ sumF (dnS y) l = 0 := by
  induction l with
  | nil => exact ⟨rfl, rfl⟩
  | cons s l ih =>
    rw [sumF_cons, sumF_cons]
    have h1 := h s (List.mem_cons_self ..)
    have h2 := ih fun t ht => h t (List.mem_cons_of_mem _ ht)
    unfold dyS at h1
    rw [h2.1, h2.2]
    unfold upS dnS
    constructor
    · rw [if_neg (by omega)]; rfl
    · rw [if_neg (by omega)]; rfl
theorem ysT_segs (c : List Dt) : ysT (tris c) = (segsOf c).map dyS := by
  unfold ysT tris segsOf
  rw [List.map_map, List.map_map]
  rfl
theorem once {c : List Dt} (h : chgR (ysT (tris c)) ≤ 2) (x y : Int) : -1 ≤ sumS x y (segsOf c) ∧ sumS x y (segsOf c) ≤ 1 := by
  cases c with
  | nil => show -1 ≤ (0 : Int) ∧ (0 : Int) ≤ 1; omega
  | cons a r =>
    rw [ysT_segs, segsOf_cons] at h
    rw [segsOf_cons]
    have hud := sumS_ud x y (segC a (r ++ [a]))
    have hpos := ups_pos y (segC a (r ++ [a]))
    have halt := alt y (r ++ [a]) a
    have hl : (r ++ [a]).getLastD a = a := by simp [List.getLastD_eq_getLast?]
    rw [hl] at halt
    by_cases hn : nzL ((segC a (r ++ [a])).map dyS) = []
    · have hs := still (y := y) (l := segC a (r ++ [a])) fun s hs => nz_nil hn _ (List.mem_map_of_mem hs)
      omega
    · obtain ⟨b, hb⟩ : ∃ b, (chF (0, 0) ((segC a (r ++ [a])).map dyS)).2 = b := ⟨_, rfl⟩
      have hb2 := hb
      rw [chF_2] at hb2
      have hb0 : b ≠ 0 := by
        rw [← hb2]
        have hm : (nzL ((segC a (r ++ [a])).map dyS)).getLastD 0 ∈ nzL ((segC a (r ++ [a])).map dyS) := by
          rw [List.getLastD_eq_getLast?, List.getLast?_eq_some_getLast hn]
          exact List.getLast_mem _
        exact nz_ne _ _ hm
      have hp := pot y (r ++ [a]) a 0 b hb0
      have he : (chF (0, b) ((segC a (r ++ [a])).map dyS)).2 = b := by
        rw [chF_2, ← hb2, List.getLastD_eq_getLast?, List.getLastD_eq_getLast?, List.getLast?_eq_some_getLast hn]
        rfl
      have hc : (chF (0, b) ((segC a (r ++ [a])).map dyS)).1 = chgR ((segC a (r ++ [a])).map dyS) := by
        rw [← chg_eq]
        unfold chgE
        rw [hb]
      rw [he, hl, hc] at hp
      omega
end Go.Proofs.Ytnmnehgcliiofaa

namespace Go.Proofs.Ytnmnehgcliiofaa
open Go.RowKit

section
variable {w : World} {A : Option Addr} {c : Nat} {ls : List (List Dt)} {x y : Int}
set_option maxRecDepth 20000 in
set_option maxHeartbeats 2000000 in
theorem rConvex_any (h : Dl w A ls) (hm : mayL ls = true) (_hn : ls.length ≤ 1000) (hc : cnt ls ≤ 1000) :
    Calls Try.prog 39 #[.slice A ls.length c] w fun e w' => e = .returned (.bool (cvB ls)) ∧ Below w.heap.size w w' := by
  by_cases h1 : ls.length = 1
  · obtain ⟨cl, rfl⟩ := List.length_eq_one_iff.1 h1
    by_cases h3 : 3 ≤ cl.length
    · have K := rConvex_one (cc := c) h hm h3 (by simpa [cnt] using hc)
      rw [show cvB [cl] = cvC cl by simp [cvB, h3]]
      exact K
    · obtain ⟨b, o, A1, c1, rfl, hb, hcell, hds, hsm⟩ := h 0 cl rfl
      simp at hcell
      have hcv : cvB [cl] = false := by simp [cvB, h3]
      have h3' : (cl.length : Int) < 3 := by omega
      rw [hcv]
      change Calls Try.prog 39 #[.slice _ 1 c] _ _
      go_enter Try.func39, Try.ntmps39
      go_wp2_with fail
      go_ret
      exact ⟨rfl, Below.refl _ _⟩
  · have hcv : cvB ls = false := by
      unfold cvB
      split
      · simp at h1
      · rfl
    rw [hcv]
    have h1' : (ls.length : Int) ≠ 1 := by omega
    go_enter Try.func39, Try.ntmps39
    go_wp2_with fail
    go_ret
    exact ⟨rfl, Below.refl _ _⟩
theorem cvB_sum (h : cvB ls = true) (x y : Int) : -1 ≤ sumS x y (segs ls) ∧ sumS x y (segs ls) ≤ 1 := by
  unfold cvB at h
  split at h
  · next cl =>
    have hs : segs [cl] = segsOf cl := by simp [segs]
    rw [hs]
    simp only [cvC, Bool.and_eq_true, decide_eq_true_eq] at h
    exact once h.2.2 x y
  · cases h
set_option maxRecDepth 20000 in
set_option maxHeartbeats 2000000 in
theorem ExactConvex_may (hd : Dl w A ls) (hn : (ls.length : Int) ≤ 30) (hc : (cnt ls : Int) ≤ 300) (hm : mayL ls = false) :
    Calls Try.prog 11 #[.slice A ls.length c, .int .i64 x, .int .i64 y] w fun e w' => e = .returned (.bool true) ∧ Below w.heap.size w w' := by
  have KC := Lib.hid (Count_any (c := c) hd (by omega))
  have KM := fun (W : World) (h : Dl W A ls) => rMay21_any (w := W) (c := c) h (by omega) (by omega)
  have KV := Convex_any (cc := c) hd (by omega) (by omega)
  have KX := fun (W : World) => efar_any x W
  have KY := fun (W : World) => efar_any y W
  rw [farD_fitD] at KX KY
  have HD := Lib.hid hd
  rw [show (mayL ls && cvB ls) = false by rw [hm]; rfl] at KV
  have e3 : mayE ls = 10 := by unfold mayE; rw [hm]; rfl
  simp only [e3] at KM
  clear e3
  replace KV := Lib.hid KV
  replace KX := Lib.hid KX
  replace KY := Lib.hid KY
  replace KM := Lib.hid KM
  clear hd
  go_enter Try.func11, Try.ntmps11
  go_wp2_with (first
    | (go_at_call 28; (with_reducible refine (KC.out).mono ?_); rintro e w1 ⟨rfl, rfl⟩)
    | (go_at_call 38; (with_reducible refine KV.out.mono ?_); rintro e w1 ⟨rfl, hb1⟩
       have HD1 := Lib.hid (HD.out.keep hb1)
       have HB1 : Hid (Below w.heap.size w w1) := Lib.hid hb1
       clear hb1)
    | (go_at_call 29; (with_reducible refine (lives24 _).mono ?_); rintro e w2 ⟨rfl, hb1⟩
       have HD2 := Lib.hid (HD1.out.keep hb1)
       have HB2 : Hid (Below w.heap.size w w2) := Lib.hid (Aft.call HB1.out hb1)
       clear hb1)
    | (go_at_call 31; (with_reducible refine (KM.out _ HD2.out).mono ?_); rintro e w1 ⟨rfl, rfl⟩)
    | (go_at_call 32; (with_reducible refine (KX.out _).mono ?_); rintro e w1 ⟨rfl, rfl⟩)
    | (go_at_call 32; (with_reducible refine (KY.out _).mono ?_); rintro e w1 ⟨rfl, rfl⟩))
  go_ret
  exact ⟨rfl, HB2.out⟩
set_option maxRecDepth 20000 in
set_option maxHeartbeats 2000000 in
theorem ExactConvex_no (hd : Dl w A ls) (hn : (ls.length : Int) ≤ 30) (hc : (cnt ls : Int) ≤ 300) (hm : mayL ls = true) (hv : cvB ls = false) :
    Calls Try.prog 11 #[.slice A ls.length c, .int .i64 x, .int .i64 y] w fun e w' => e = .returned (.bool true) ∧ Below w.heap.size w w' := by
  have KC := Lib.hid (Count_any (c := c) hd (by omega))
  have KM := fun (W : World) (h : Dl W A ls) => rMay21_any (w := W) (c := c) h (by omega) (by omega)
  have KV := Convex_any (cc := c) hd (by omega) (by omega)
  have KX := fun (W : World) => efar_any x W
  have KY := fun (W : World) => efar_any y W
  rw [farD_fitD] at KX KY
  have HD := Lib.hid hd
  rw [show (mayL ls && cvB ls) = false by rw [hm, hv]; rfl] at KV
  have e3 : mayE ls = 0 := by unfold mayE; rw [hm]; rfl
  simp only [e3] at KM
  clear e3
  have KR := fun (W : World) (h : Dl W A ls) => rConvex_any (w := W) (c := c) h hm (by omega) (by omega)
  simp only [hv] at KR
  replace KR := Lib.hid KR
  replace KV := Lib.hid KV
  replace KX := Lib.hid KX
  replace KY := Lib.hid KY
  replace KM := Lib.hid KM
  clear hd
  go_enter Try.func11, Try.ntmps11
  go_wp2_with (first
    | (go_at_call 28; (with_reducible refine (KC.out).mono ?_); rintro e w1 ⟨rfl, rfl⟩)
    | (go_at_call 38; (with_reducible refine KV.out.mono ?_); rintro e w1 ⟨rfl, hb1⟩
       have HD1 := Lib.hid (HD.out.keep hb1)
       have HB1 : Hid (Below w.heap.size w w1) := Lib.hid hb1
       clear hb1)
    | (go_at_call 29; (with_reducible refine (lives24 _).mono ?_); rintro e w2 ⟨rfl, hb1⟩
       have HD2 := Lib.hid (HD1.out.keep hb1)
       have HB2 : Hid (Below w.heap.size w w2) := Lib.hid (Aft.call HB1.out hb1)
       clear hb1)
    | (go_at_call 31; (with_reducible refine (KM.out _ HD2.out).mono ?_); rintro e w1 ⟨rfl, rfl⟩)
    | (go_at_call 32; (with_reducible refine (KX.out _).mono ?_); rintro e w1 ⟨rfl, rfl⟩)
    | (go_at_call 32; (with_reducible refine (KY.out _).mono ?_); rintro e w1 ⟨rfl, rfl⟩)
    | (go_at_call 39; (with_reducible refine (KR.out _ HD2.out).mono ?_); rintro e w3 ⟨rfl, hb1⟩
       have HD3 := Lib.hid (HD2.out.keep hb1)
       have HB3 : Hid (Below w.heap.size w w3) := Lib.hid (Aft.call HB2.out hb1)
       clear hb1))
  go_ret
  exact ⟨rfl, HB3.out⟩
set_option maxRecDepth 20000 in
set_option maxHeartbeats 2000000 in
theorem ExactConvex_far1 (hd : Dl w A ls) (hn : (ls.length : Int) ≤ 30) (hc : (cnt ls : Int) ≤ 300) (hm : mayL ls = true) (hv : cvB ls = true) (hf : fitD x = false) :
    Calls Try.prog 11 #[.slice A ls.length c, .int .i64 x, .int .i64 y] w fun e w' => e = .returned (.bool true) ∧ Below w.heap.size w w' := by
  have KC := Lib.hid (Count_any (c := c) hd (by omega))
  have KM := fun (W : World) (h : Dl W A ls) => rMay21_any (w := W) (c := c) h (by omega) (by omega)
  have KV := Convex_any (cc := c) hd (by omega) (by omega)
  have KX := fun (W : World) => efar_any x W
  have KY := fun (W : World) => efar_any y W
  rw [farD_fitD] at KX KY
  have HD := Lib.hid hd
  rw [show (mayL ls && cvB ls) = true by rw [hm, hv]; rfl] at KV
  have e3 : mayE ls = 0 := by unfold mayE; rw [hm]; rfl
  simp only [e3] at KM
  clear e3
  have KR := fun (W : World) (h : Dl W A ls) => rConvex_any (w := W) (c := c) h hm (by omega) (by omega)
  simp only [hv] at KR
  replace KR := Lib.hid KR
  replace KV := Lib.hid KV
  rw [hf] at KX
  replace KX := Lib.hid KX
  replace KY := Lib.hid KY
  replace KM := Lib.hid KM
  clear hd
  go_enter Try.func11, Try.ntmps11
  go_wp2_with (first
    | (go_at_call 28; (with_reducible refine (KC.out).mono ?_); rintro e w1 ⟨rfl, rfl⟩)
    | (go_at_call 38; (with_reducible refine KV.out.mono ?_); rintro e w1 ⟨rfl, hb1⟩
       have HD1 := Lib.hid (HD.out.keep hb1)
       have HB1 : Hid (Below w.heap.size w w1) := Lib.hid hb1
       clear hb1)
    | (go_at_call 29; (with_reducible refine (lives24 _).mono ?_); rintro e w2 ⟨rfl, hb1⟩
       have HD2 := Lib.hid (HD1.out.keep hb1)
       have HB2 : Hid (Below w.heap.size w w2) := Lib.hid (Aft.call HB1.out hb1)
       clear hb1)
    | (go_at_call 31; (with_reducible refine (KM.out _ HD2.out).mono ?_); rintro e w1 ⟨rfl, rfl⟩)
    | (go_at_call 32; (with_reducible refine (KX.out _).mono ?_); rintro e w1 ⟨rfl, rfl⟩)
    | (go_at_call 32; (with_reducible refine (KY.out _).mono ?_); rintro e w1 ⟨rfl, rfl⟩)
    | (go_at_call 39; (with_reducible refine (KR.out _ HD2.out).mono ?_); rintro e w3 ⟨rfl, hb1⟩
       have HD3 := Lib.hid (HD2.out.keep hb1)
       have HB3 : Hid (Below w.heap.size w w3) := Lib.hid (Aft.call HB2.out hb1)
       clear hb1))
  go_ret
  exact ⟨rfl, HB3.out⟩
set_option maxRecDepth 20000 in
set_option maxHeartbeats 2000000 in
theorem ExactConvex_far2 (hd : Dl w A ls) (hn : (ls.length : Int) ≤ 30) (hc : (cnt ls : Int) ≤ 300) (hm : mayL ls = true) (hv : cvB ls = true) (hf : fitD x = true) (hf' : fitD y = false) :
    Calls Try.prog 11 #[.slice A ls.length c, .int .i64 x, .int .i64 y] w fun e w' => e = .returned (.bool true) ∧ Below w.heap.size w w' := by
  have KC := Lib.hid (Count_any (c := c) hd (by omega))
  have KM := fun (W : World) (h : Dl W A ls) => rMay21_any (w := W) (c := c) h (by omega) (by omega)
  have KV := Convex_any (cc := c) hd (by omega) (by omega)
  have KX := fun (W : World) => efar_any x W
  have KY := fun (W : World) => efar_any y W
  rw [farD_fitD] at KX KY
  have HD := Lib.hid hd
  rw [show (mayL ls && cvB ls) = true by rw [hm, hv]; rfl] at KV
  have e3 : mayE ls = 0 := by unfold mayE; rw [hm]; rfl
  simp only [e3] at KM
  clear e3
  have KR := fun (W : World) (h : Dl W A ls) => rConvex_any (w := W) (c := c) h hm (by omega) (by omega)
  simp only [hv] at KR
  replace KR := Lib.hid KR
  replace KV := Lib.hid KV
  rw [hf] at KX
  rw [hf'] at KY
  replace KX := Lib.hid KX
  replace KY := Lib.hid KY
  replace KM := Lib.hid KM
  clear hd
  go_enter Try.func11, Try.ntmps11
  go_wp2_with (first
    | (go_at_call 28; (with_reducible refine (KC.out).mono ?_); rintro e w1 ⟨rfl, rfl⟩)
    | (go_at_call 38; (with_reducible refine KV.out.mono ?_); rintro e w1 ⟨rfl, hb1⟩
       have HD1 := Lib.hid (HD.out.keep hb1)
       have HB1 : Hid (Below w.heap.size w w1) := Lib.hid hb1
       clear hb1)
    | (go_at_call 29; (with_reducible refine (lives24 _).mono ?_); rintro e w2 ⟨rfl, hb1⟩
       have HD2 := Lib.hid (HD1.out.keep hb1)
       have HB2 : Hid (Below w.heap.size w w2) := Lib.hid (Aft.call HB1.out hb1)
       clear hb1)
    | (go_at_call 31; (with_reducible refine (KM.out _ HD2.out).mono ?_); rintro e w1 ⟨rfl, rfl⟩)
    | (go_at_call 32; (with_reducible refine (KX.out _).mono ?_); rintro e w1 ⟨rfl, rfl⟩)
    | (go_at_call 32; (with_reducible refine (KY.out _).mono ?_); rintro e w1 ⟨rfl, rfl⟩)
    | (go_at_call 39; (with_reducible refine (KR.out _ HD2.out).mono ?_); rintro e w3 ⟨rfl, hb1⟩
       have HD3 := Lib.hid (HD2.out.keep hb1)
       have HB3 : Hid (Below w.heap.size w w3) := Lib.hid (Aft.call HB2.out hb1)
       clear hb1))
  go_ret
  exact ⟨rfl, HB3.out⟩
set_option maxRecDepth 20000 in
set_option maxHeartbeats 2000000 in
theorem ExactConvex_on (hd : Dl w A ls) (hn : (ls.length : Int) ≤ 30) (hc : (cnt ls : Int) ≤ 300) (hm : mayL ls = true) (hv : cvB ls = true) (hf : fitD x = true) (hf' : fitD y = true) (ho : offS x y (segs ls) = false) :
    Calls Try.prog 11 #[.slice A ls.length c, .int .i64 x, .int .i64 y] w fun e w' => e = .returned (.bool true) ∧ Below w.heap.size w w' := by
  have KC := Lib.hid (Count_any (c := c) hd (by omega))
  have KM := fun (W : World) (h : Dl W A ls) => rMay21_any (w := W) (c := c) h (by omega) (by omega)
  have KV := Convex_any (cc := c) hd (by omega) (by omega)
  have KX := fun (W : World) => efar_any x W
  have KY := fun (W : World) => efar_any y W
  rw [farD_fitD] at KX KY
  have HD := Lib.hid hd
  rw [show (mayL ls && cvB ls) = true by rw [hm, hv]; rfl] at KV
  have e3 : mayE ls = 0 := by unfold mayE; rw [hm]; rfl
  simp only [e3] at KM
  clear e3
  have KR := fun (W : World) (h : Dl W A ls) => rConvex_any (w := W) (c := c) h hm (by omega) (by omega)
  simp only [hv] at KR
  replace KR := Lib.hid KR
  replace KV := Lib.hid KV
  have KW := fun (W : World) (h : Dl W A ls) => Winding_any (w := W) (c := c) (x := x) (y := y) h (by omega) (by omega)
  have e1 : WindE ls x y = 4 := by unfold WindE; rw [if_neg (by rw [hm]; decide), if_neg (by rw [hf, hf']; decide), if_pos ho]
  have e2 : WindV ls x y = 0 := by unfold WindV; rw [e1]; rfl
  simp only [e1, e2] at KW
  clear e1 e2
  rw [hf] at KX
  rw [hf'] at KY
  replace KW := Lib.hid KW
  replace KX := Lib.hid KX
  replace KY := Lib.hid KY
  replace KM := Lib.hid KM
  clear hd
  go_enter Try.func11, Try.ntmps11
  go_wp2_with (first
    | (go_at_call 28; (with_reducible refine (KC.out).mono ?_); rintro e w1 ⟨rfl, rfl⟩)
    | (go_at_call 38; (with_reducible refine KV.out.mono ?_); rintro e w1 ⟨rfl, hb1⟩
       have HD1 := Lib.hid (HD.out.keep hb1)
       have HB1 : Hid (Below w.heap.size w w1) := Lib.hid hb1
       clear hb1)
    | (go_at_call 29; (with_reducible refine (lives24 _).mono ?_); rintro e w2 ⟨rfl, hb1⟩
       have HD2 := Lib.hid (HD1.out.keep hb1)
       have HB2 : Hid (Below w.heap.size w w2) := Lib.hid (Aft.call HB1.out hb1)
       clear hb1)
    | (go_at_call 31; (with_reducible refine (KM.out _ HD2.out).mono ?_); rintro e w1 ⟨rfl, rfl⟩)
    | (go_at_call 32; (with_reducible refine (KX.out _).mono ?_); rintro e w1 ⟨rfl, rfl⟩)
    | (go_at_call 32; (with_reducible refine (KY.out _).mono ?_); rintro e w1 ⟨rfl, rfl⟩)
    | (go_at_call 39; (with_reducible refine (KR.out _ HD2.out).mono ?_); rintro e w3 ⟨rfl, hb1⟩
       have HD3 := Lib.hid (HD2.out.keep hb1)
       have HB3 : Hid (Below w.heap.size w w3) := Lib.hid (Aft.call HB2.out hb1)
       clear hb1)
    | (go_at_call 30; (with_reducible refine (KW.out _ HD3.out).mono ?_); rintro e w4 ⟨rfl, hb1⟩
       have HB4 : Hid (Below w.heap.size w w4) := Lib.hid (Aft.call HB3.out hb1)
       clear hb1))
  go_ret
  exact ⟨rfl, HB4.out⟩
set_option maxRecDepth 20000 in
set_option maxHeartbeats 2000000 in
theorem ExactConvex_off (hd : Dl w A ls) (hn : (ls.length : Int) ≤ 30) (hc : (cnt ls : Int) ≤ 300) (hm : mayL ls = true) (hv : cvB ls = true) (hf : fitD x = true) (hf' : fitD y = true) (ho : offS x y (segs ls) = true) :
    Calls Try.prog 11 #[.slice A ls.length c, .int .i64 x, .int .i64 y] w fun e w' => e = .returned (.bool true) ∧ Below w.heap.size w w' := by
  have KC := Lib.hid (Count_any (c := c) hd (by omega))
  have KM := fun (W : World) (h : Dl W A ls) => rMay21_any (w := W) (c := c) h (by omega) (by omega)
  have KV := Convex_any (cc := c) hd (by omega) (by omega)
  have KX := fun (W : World) => efar_any x W
  have KY := fun (W : World) => efar_any y W
  rw [farD_fitD] at KX KY
  have HD := Lib.hid hd
  rw [show (mayL ls && cvB ls) = true by rw [hm, hv]; rfl] at KV
  have e3 : mayE ls = 0 := by unfold mayE; rw [hm]; rfl
  simp only [e3] at KM
  clear e3
  have KR := fun (W : World) (h : Dl W A ls) => rConvex_any (w := W) (c := c) h hm (by omega) (by omega)
  simp only [hv] at KR
  replace KR := Lib.hid KR
  replace KV := Lib.hid KV
  have KW := fun (W : World) (h : Dl W A ls) => Winding_any (w := W) (c := c) (x := x) (y := y) h (by omega) (by omega)
  have e1 : WindE ls x y = 0 := by unfold WindE; rw [if_neg (by rw [hm]; decide), if_neg (by rw [hf, hf']; decide), if_neg (by rw [ho]; decide)]
  have e2 : WindV ls x y = sumS x y (segs ls) := by unfold WindV; rw [e1]; rfl
  simp only [e1, e2] at KW
  clear e1 e2
  rw [hf] at KX
  rw [hf'] at KY
  obtain ⟨g1, g2⟩ := cvB_sum hv x y
  generalize sumS x y (segs ls) = sm at *
  replace KW := Lib.hid KW
  replace KX := Lib.hid KX
  replace KY := Lib.hid KY
  replace KM := Lib.hid KM
  clear hd
  go_enter Try.func11, Try.ntmps11
  go_wp2_with (first
    | (go_at_call 28; (with_reducible refine (KC.out).mono ?_); rintro e w1 ⟨rfl, rfl⟩)
    | (go_at_call 38; (with_reducible refine KV.out.mono ?_); rintro e w1 ⟨rfl, hb1⟩
       have HD1 := Lib.hid (HD.out.keep hb1)
       have HB1 : Hid (Below w.heap.size w w1) := Lib.hid hb1
       clear hb1)
    | (go_at_call 29; (with_reducible refine (lives24 _).mono ?_); rintro e w2 ⟨rfl, hb1⟩
       have HD2 := Lib.hid (HD1.out.keep hb1)
       have HB2 : Hid (Below w.heap.size w w2) := Lib.hid (Aft.call HB1.out hb1)
       clear hb1)
    | (go_at_call 31; (with_reducible refine (KM.out _ HD2.out).mono ?_); rintro e w1 ⟨rfl, rfl⟩)
    | (go_at_call 32; (with_reducible refine (KX.out _).mono ?_); rintro e w1 ⟨rfl, rfl⟩)
    | (go_at_call 32; (with_reducible refine (KY.out _).mono ?_); rintro e w1 ⟨rfl, rfl⟩)
    | (go_at_call 39; (with_reducible refine (KR.out _ HD2.out).mono ?_); rintro e w3 ⟨rfl, hb1⟩
       have HD3 := Lib.hid (HD2.out.keep hb1)
       have HB3 : Hid (Below w.heap.size w w3) := Lib.hid (Aft.call HB2.out hb1)
       clear hb1)
    | (go_at_call 30; (with_reducible refine (KW.out _ HD3.out).mono ?_); rintro e w4 ⟨rfl, hb1⟩
       have HB4 : Hid (Below w.heap.size w w4) := Lib.hid (Aft.call HB3.out hb1)
       clear hb1))
  go_ret
  exact ⟨rfl, HB4.out⟩
theorem ExactConvex_any (hd : Dl w A ls) :
    Calls Try.prog 11 #[.slice A ls.length c, .int .i64 x, .int .i64 y] w fun e w' => e = .returned (.bool true) ∧ Below w.heap.size w w' := by
  rcases Int.lt_or_le 30 (ls.length : Int) with hn | hn
  · exact ExactConvex_big hn
  rcases Int.lt_or_le 300 (cnt ls : Int) with hc | hc
  · exact ExactConvex_many hd hn hc
  cases hm : mayL ls
  · exact ExactConvex_may hd hn hc hm
  cases hv : cvB ls
  · exact ExactConvex_no hd hn hc hm hv
  cases hf : fitD x
  · exact ExactConvex_far1 hd hn hc hm hv hf
  cases hf' : fitD y
  · exact ExactConvex_far2 hd hn hc hm hv hf hf'
  cases ho : offS x y (segs ls)
  · exact ExactConvex_on hd hn hc hm hv hf hf' ho
  · exact ExactConvex_off hd hn hc hm hv hf hf' ho
end
end Go.Proofs.Ytnmnehgcliiofaa

namespace Go.Proofs.Ytnmnehgcliiofaa
open Go.ChangeShapes Go.WideShapes Go.ChangeAt Go.RowKit

set_option maxRecDepth 100000 in
theorem exactConvex_lifted (os : Os) (started : os.Started) (H : Type) (enc : TypeId × Value → H) :
    ReturnsInHanded {} Try.checked os 11 .any (Rows.exactConvexSpec.pre6 enc Try.prog Try.f11 Rows.exactConvexRow.domain false) (Rows.exactConvexSpec.post enc Try.prog Try.f11 false true false false) := by
  refine returnsInHanded_of_change_sized (C := Try.checked) own_none started (by kernel_rfl) Try.func11
    (ChangeSpec.witness6 (enc := enc) (C := Try.checked) false ⟨#[], #[.slice none 0 0, .int .i64 0, .int .i64 0], []⟩ 8 (by kernel_rfl) (by kernel_rfl) (by kernel_rfl) (by kernel_rfl)) ?_
  intro W base args ds gs before hval0 hW _ hwt _
  have hval : ∀ (j : Nat) t v, Try.f11.params[j]? = some t → args[j]? = some v → Value.okWide Try.prog W .any base t v := hval0
  have hW' := hW
  obtain ⟨p, q, hA0, _, _, _, _⟩ := hW
  have hA : DataW.TrodAll enc Try.prog W 0 (fun _ => true) true Try.f11.params.toList args.toList ds p := hA0
  rw [Try.params11] at hA hval
  obtain ⟨v0, v1, v2, d0, d1, d2, p0, p1, p2, rfl, rfl, rfl, h0, h1, h2⟩ := trodAll_three hA
  obtain ⟨A, n, c, rfl, k0, m0, r0, s0⟩ := open_sl (eb := 24) (ks := [.sl 16 [.int .i64, .int .i64]]) Try.underlying63 (by kernel_rfl) (hval 0 _ _ rfl rfl) h0 (reach_all (ts := [63, 3, 3]) (by kernel_rfl) hwt (j := 0) rfl rfl)
  obtain ⟨px, rfl, wpx⟩ := open_num Try.underlying3 (hval 1 _ _ rfl rfl) h1
  have bpx := bounds_i64 wpx
  obtain ⟨py, rfl, wpy⟩ := open_num Try.underlying3 (hval 2 _ _ rfl rfl) h2
  have bpy := bounds_i64 wpy
  clear hA0 hval0
  obtain ⟨ls, rfl, hls⟩ := lines_of s0
  refine (ExactConvex_any (w := W) (x := px) (y := py) hls).mono fun e W' ⟨he, hb⟩ => ?_
  subst he
  exact ⟨_, rfl, law_post_any laid_out Try.underlying4 hW' (by kernel_rfl) rfl rfl rfl hb⟩

theorem exactConvex_holds : Rows.ExactConvexSaid :=
  OpenClaim.holds_of_wide 11 Try.f11 rfl rfl rfl rfl rfl rfl rfl ⟨rfl, rfl, rfl, rfl, rfl⟩ rfl rfl rfl rfl rfl (by kernel_rfl) Try.func11 (by kernel_rfl)
    (of_decide_eq_true (by kernel_rfl)) (by unfold Func.isWrapper; first | (rw [if_pos (by decide +kernel)]; kernel_rfl) | (rw [if_neg (by decide +kernel)]; exact ⟨rfl, rfl⟩))
    (fun os started H enc _ => exactConvex_lifted os started H enc)

end Go.Proofs.Ytnmnehgcliiofaa
