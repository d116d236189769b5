/-
  A tally, plain: the lines nearby are enough.
-/
import Derived.Test.YtnmnehgcliiofaaExS
import Derived.Test.YtnmnehgcliiofaaExL
namespace Go.Proofs.Ytnmnehgcliiofaa
open Go.RowKit Go.Shelf

theorem lin_le {P Y Y' k : Int} (h : (0 ≤ P ∧ Y' ≤ Y) ∨ (P ≤ 0 ∧ Y ≤ Y')) : P * (Y' - k) ≤ P * (Y - k) := by
  rcases h with ⟨h1, h2⟩ | ⟨h1, h2⟩
  · exact Int.mul_le_mul_of_nonneg_left (by omega) h1
  · exact Int.mul_le_mul_of_nonpos_left h1 (by omega)
theorem cross_le {ax ay dx dy X Y X' Y' : Int} (h1 : (0 ≤ dx - ax ∧ Y' ≤ Y) ∨ (dx - ax ≤ 0 ∧ Y ≤ Y')) (h2 : (0 ≤ dy - ay ∧ X ≤ X') ∨ (dy - ay ≤ 0 ∧ X' ≤ X)) : crossI ax ay dx dy X' Y' ≤ crossI ax ay dx dy X Y := by
  unfold crossI
  have a := lin_le (k := ay) h1
  have b := lin_le (P := dy - ay) (Y := X') (Y' := X) (k := ax) (by omega)
  omega
theorem corner_low {ax ay dx dy X Y c0 c1 c2 c3 : Int} (h0 : c0 ≤ X) (h1 : c1 ≤ Y) (h2 : X ≤ c2) (h3 : Y ≤ c3) :
    min (min (min (crossI ax ay dx dy c0 c1) (crossI ax ay dx dy c2 c1)) (crossI ax ay dx dy c0 c3)) (crossI ax ay dx dy c2 c3) ≤ crossI ax ay dx dy X Y := by
  rcases Int.le_total 0 (dx - ax) with p | p
  · rcases Int.le_total 0 (dy - ay) with q | q
    · have := cross_le (ax := ax) (ay := ay) (dx := dx) (dy := dy) (X := X) (Y := Y) (X' := c2) (Y' := c1) (.inl ⟨p, h1⟩) (.inl ⟨q, h2⟩); omega
    · have := cross_le (ax := ax) (ay := ay) (dx := dx) (dy := dy) (X := X) (Y := Y) (X' := c0) (Y' := c1) (.inl ⟨p, h1⟩) (.inr ⟨q, h0⟩); omega
  · rcases Int.le_total 0 (dy - ay) with q | q
    · have := cross_le (ax := ax) (ay := ay) (dx := dx) (dy := dy) (X := X) (Y := Y) (X' := c2) (Y' := c3) (.inr ⟨p, h3⟩) (.inl ⟨q, h2⟩); omega
    · have := cross_le (ax := ax) (ay := ay) (dx := dx) (dy := dy) (X := X) (Y := Y) (X' := c0) (Y' := c3) (.inr ⟨p, h3⟩) (.inr ⟨q, h0⟩); omega
theorem corner_high {ax ay dx dy X Y c0 c1 c2 c3 : Int} (h0 : c0 ≤ X) (h1 : c1 ≤ Y) (h2 : X ≤ c2) (h3 : Y ≤ c3) :
    crossI ax ay dx dy X Y ≤ max (max (max (crossI ax ay dx dy c0 c1) (crossI ax ay dx dy c2 c1)) (crossI ax ay dx dy c0 c3)) (crossI ax ay dx dy c2 c3) := by
  rcases Int.le_total 0 (dx - ax) with p | p
  · rcases Int.le_total 0 (dy - ay) with q | q
    · have := cross_le (ax := ax) (ay := ay) (dx := dx) (dy := dy) (X := c0) (Y := c3) (X' := X) (Y' := Y) (.inl ⟨p, h3⟩) (.inl ⟨q, h0⟩); omega
    · have := cross_le (ax := ax) (ay := ay) (dx := dx) (dy := dy) (X := c2) (Y := c3) (X' := X) (Y' := Y) (.inl ⟨p, h3⟩) (.inr ⟨q, h2⟩); omega
  · rcases Int.le_total 0 (dy - ay) with q | q
    · have := cross_le (ax := ax) (ay := ay) (dx := dx) (dy := dy) (X := c0) (Y := c1) (X' := X) (Y' := Y) (.inr ⟨p, h1⟩) (.inl ⟨q, h0⟩); omega
    · have := cross_le (ax := ax) (ay := ay) (dx := dx) (dy := dy) (X := c2) (Y := c1) (X' := X) (Y' := Y) (.inr ⟨p, h1⟩) (.inr ⟨q, h2⟩); omega
/-- What touches a box touches a greater one. -/
theorem touchB_mono {ax ay dx dy b0 b1 b2 b3 c0 c1 c2 c3 : Int} (h0 : c0 ≤ b0) (h1 : c1 ≤ b1) (h2 : b2 ≤ c2) (h3 : b3 ≤ c3) (hb : b0 ≤ b2) (hb' : b1 ≤ b3) (h : touchB ax ay dx dy b0 b1 b2 b3 = true) : touchB ax ay dx dy c0 c1 c2 c3 = true := by
  unfold touchB at h ⊢
  by_cases ha : apart ax ay dx dy b0 b1 b2 b3
  · rw [if_pos ha] at h; cases h
  · rw [if_neg ha] at h
    have hc : ¬ apart ax ay dx dy c0 c1 c2 c3 := by unfold apart at *; omega
    rw [if_neg hc]
    unfold sidesB at h ⊢
    simp only [Bool.and_eq_true, decide_eq_true_eq] at h ⊢
    have l1 := corner_low (ax := ax) (ay := ay) (dx := dx) (dy := dy) (X := b0) (Y := b1) (c0 := c0) (c1 := c1) (c2 := c2) (c3 := c3) (by omega) (by omega) (by omega) (by omega)
    have l2 := corner_low (ax := ax) (ay := ay) (dx := dx) (dy := dy) (X := b2) (Y := b1) (c0 := c0) (c1 := c1) (c2 := c2) (c3 := c3) (by omega) (by omega) (by omega) (by omega)
    have l3 := corner_low (ax := ax) (ay := ay) (dx := dx) (dy := dy) (X := b0) (Y := b3) (c0 := c0) (c1 := c1) (c2 := c2) (c3 := c3) (by omega) (by omega) (by omega) (by omega)
    have l4 := corner_low (ax := ax) (ay := ay) (dx := dx) (dy := dy) (X := b2) (Y := b3) (c0 := c0) (c1 := c1) (c2 := c2) (c3 := c3) (by omega) (by omega) (by omega) (by omega)
    have m1 := corner_high (ax := ax) (ay := ay) (dx := dx) (dy := dy) (X := b0) (Y := b1) (c0 := c0) (c1 := c1) (c2 := c2) (c3 := c3) (by omega) (by omega) (by omega) (by omega)
    have m2 := corner_high (ax := ax) (ay := ay) (dx := dx) (dy := dy) (X := b2) (Y := b1) (c0 := c0) (c1 := c1) (c2 := c2) (c3 := c3) (by omega) (by omega) (by omega) (by omega)
    have m3 := corner_high (ax := ax) (ay := ay) (dx := dx) (dy := dy) (X := b0) (Y := b3) (c0 := c0) (c1 := c1) (c2 := c2) (c3 := c3) (by omega) (by omega) (by omega) (by omega)
    have m4 := corner_high (ax := ax) (ay := ay) (dx := dx) (dy := dy) (X := b2) (Y := b3) (c0 := c0) (c1 := c1) (c2 := c2) (c3 := c3) (by omega) (by omega) (by omega) (by omega)
    generalize crossI ax ay dx dy b0 b1 = p1 at *
    generalize crossI ax ay dx dy b2 b1 = p2 at *
    generalize crossI ax ay dx dy b0 b3 = p3 at *
    generalize crossI ax ay dx dy b2 b3 = p4 at *
    generalize min (min (min (crossI ax ay dx dy c0 c1) (crossI ax ay dx dy c2 c1)) (crossI ax ay dx dy c0 c3)) (crossI ax ay dx dy c2 c3) = lo at *
    generalize max (max (max (crossI ax ay dx dy c0 c1) (crossI ax ay dx dy c2 c1)) (crossI ax ay dx dy c0 c3)) (crossI ax ay dx dy c2 c3) = hi at *
    omega

theorem num8_near {ax ay dx dy b0 b1 b2 b3 : Int} (h : Num8 ax ay dx dy b0 b1 b2 b3) : nearB ax ay dx dy b0 b1 b2 b3 = true := by
  obtain ⟨⟨h1, h2, h3, h4, h5, h6⟩, h7, h8⟩ := h
  simp only [nearB, List.all_cons, List.all_nil, Bool.and_true, Bool.and_eq_true, fit2_true]
  exact ⟨h1, h2, h3, h4, h5, h6, h7, h8⟩
theorem TouchS_eq {b0 b1 b2 b3 : Int} {s : Sg} (h : Num8 s.1.1 s.1.2 s.2.1 s.2.2 b0 b1 b2 b3) (h1 : b0 ≤ b2) (h2 : b1 ≤ b3) : TouchS b0 b1 b2 b3 s = touchS b0 b1 b2 b3 s := by
  unfold TouchS TouchB touchS
  rw [num8_near h, decide_eq_true h1, decide_eq_true h2]
  rfl
theorem cntT_eq {ls : List (List Dt)} (hm : mayL ls = true) {b0 b1 b2 b3 : Int} (h0 : -2097152 ≤ b0) (h1 : -2097152 ≤ b1) (h2 : b2 ≤ 2097152) (h3 : b3 ≤ 2097152) (h4 : b0 ≤ b2) (h5 : b1 ≤ b3) :
    cntT b0 b1 b2 b3 (segs ls) = (touchL b0 b1 b2 b3 (segs ls)).length := by
  unfold cntT touchL
  rw [List.filter_congr (fun s hs => TouchS_eq (segs_num8 hm (by omega) (by omega) (by omega) (by omega) s hs) h4 h5)]

end Go.Proofs.Ytnmnehgcliiofaa
