/-
  wire's reader, whether it is bad or not: what each call gives, and where the reader stands behind it.
-/
import Derived.Test.YtejombofjakllaaReadB
import Derived.Test.YtejombofjakllaaWireD
namespace Go.Proofs.Ytejombofjakllaa
open Go.RowKit

/-- Is a reader of state s = (place, bad) bad behind a call that takes n bytes? -/
def badF (bs : List UInt8) (s : Nat × Bool) (n : Nat) : Bool := s.2 || decide (bs.length < s.1 + n)
def advF (bs : List UInt8) (s : Nat × Bool) (n : Nat) : Nat × Bool := if badF bs s n then (s.1, true) else (s.1 + n, false)
def takF (bs : List UInt8) (s : Nat × Bool) (n : Nat) : List UInt8 := if badF bs s n then [] else (bs.drop s.1).take n
def numF (bs : List UInt8) (s : Nat × Bool) (n : Nat) : Nat := numB (takF bs s n)
theorem takF_ok {bs : List UInt8} {p n : Nat} (h : p + n ≤ bs.length) : takF bs (p, false) n = (bs.drop p).take n := by
  have : badF bs (p, false) n = false := by simp [badF]; omega
  simp [takF, this]
theorem advF_ok {bs : List UInt8} {p n : Nat} (h : p + n ≤ bs.length) : advF bs (p, false) n = (p + n, false) := by
  have : badF bs (p, false) n = false := by simp [badF]; omega
  simp [advF, this]
theorem numF_ok {bs : List UInt8} {p n : Nat} (h : p + n ≤ bs.length) : numF bs (p, false) n = numB ((bs.drop p).take n) := by rw [numF, takF_ok h]
theorem numF_lt (bs : List UInt8) (s : Nat × Bool) (n : Nat) : numF bs s n < 256 ^ n := by
  refine Nat.lt_of_lt_of_le (numB_lt _) (Nat.pow_le_pow_right (by omega) ?_)
  unfold takF
  split
  · simp
  · simp; omega
theorem takF_len (bs : List UInt8) (s : Nat × Bool) (n : Nat) : (takF bs s n).length ≤ n := by
  unfold takF
  split
  · simp
  · simp; omega
/-- Call behind call: bad in the end just where all of it does not fit. -/
def advs (bs : List UInt8) (s : Nat × Bool) (l : List Nat) : Nat × Bool := l.foldl (advF bs) s
theorem advs_bad (bs : List UInt8) (l : List Nat) : ∀ s : Nat × Bool, s.1 ≤ bs.length → (advs bs s l).2 = (s.2 || decide (bs.length < s.1 + l.sum)) := by
  induction l with
  | nil =>
    intro s h
    have : ¬ bs.length < s.1 := by omega
    simp [advs, this]
  | cons n l ih =>
    intro s h
    have hs : advs bs s (n :: l) = advs bs (advF bs s n) l := rfl
    rw [hs]
    obtain ⟨p, b⟩ := s
    simp only at h
    by_cases hb : badF bs (p, b) n = true
    · rw [show advF bs (p, b) n = (p, true) by simp [advF, hb], ih _ h]
      simp only [badF, Bool.or_eq_true, decide_eq_true_eq] at hb
      rcases hb with rfl | hb
      · simp
      · have : bs.length < p + (n :: l).sum := by rw [List.sum_cons]; omega
        rw [decide_eq_true this, Bool.or_true]
        simp
    · simp only [Bool.not_eq_true] at hb
      rw [show advF bs (p, b) n = (p + n, false) by simp [advF, hb]]
      simp only [badF, Bool.or_eq_false_iff, decide_eq_false_iff_not] at hb
      obtain ⟨rfl, hb⟩ := hb
      rw [ih _ (by simp only; omega), List.sum_cons, Nat.add_assoc]
theorem advF_le {bs : List UInt8} {s : Nat × Bool} {n : Nat} (h : s.1 ≤ bs.length) : (advF bs s n).1 ≤ bs.length := by
  unfold advF
  split
  · exact h
  · rename_i hb; simp [badF] at hb; exact hb.2

theorem rnumber_any (w : World) (r : Nat) (bs : List UInt8) (s : Nat × Bool) (A : Option Addr) (c : Nat) (n : Nat) (h : Rd w r bs s.1 s.2 A c) (hn4 : n ≤ 4) :
    Calls Try.prog 56 #[.pointer (some ⟨r, 0, none⟩), .int .i64 n] w fun e w' => e = .returned (.int .i64 (numF bs s n)) ∧ Rd w' r bs (advF bs s n).1 (advF bs s n).2 A c ∧ Turn w w' r none := by
  obtain ⟨p, b⟩ := s
  simp only at h
  by_cases hb : badF bs (p, b) n = true
  · rw [show numF bs (p, b) n = 0 by simp [numF, takF, hb, numB], show advF bs (p, b) n = (p, true) by simp [advF, hb]]
    exact rnumber_bad w r bs p b A c n h (by simpa [badF] using hb)
  · simp only [Bool.not_eq_true] at hb
    have h2 := hb
    simp [badF] at h2
    obtain ⟨rfl, h2⟩ := h2
    rw [numF_ok h2, advF_ok h2]
    exact rnumber_ok w r bs p A c n h h2 hn4

set_option maxHeartbeats 1000000 in
theorem rU16_any (w : World) (r : Nat) (bs : List UInt8) (s : Nat × Bool) (A : Option Addr) (c : Nat) (h : Rd w r bs s.1 s.2 A c) :
    Calls Try.prog 36 #[.pointer (some ⟨r, 0, none⟩)] w fun e w' => e = .returned (.int .i64 (numF bs s 2)) ∧ Rd w' r bs (advF bs s 2).1 (advF bs s 2).2 A c ∧ Turn w w' r none := by
  go_enter Try.func36, Try.ntmps36
  go_wp2_with (go_at_call 56; refine (rnumber_any _ _ _ _ _ _ 2 h (by omega)).mono ?_; rintro e w1 ⟨rfl, hr, ht⟩)
  go_ret
  exact ⟨rfl, hr, ht⟩

set_option maxHeartbeats 1000000 in
theorem rU32_any (w : World) (r : Nat) (bs : List UInt8) (s : Nat × Bool) (A : Option Addr) (c : Nat) (h : Rd w r bs s.1 s.2 A c) :
    Calls Try.prog 35 #[.pointer (some ⟨r, 0, none⟩)] w fun e w' => e = .returned (.int .i64 (numF bs s 4)) ∧ Rd w' r bs (advF bs s 4).1 (advF bs s 4).2 A c ∧ Turn w w' r none := by
  go_enter Try.func35, Try.ntmps35
  go_wp2_with (go_at_call 56; refine (rnumber_any _ _ _ _ _ _ 4 h (by omega)).mono ?_; rintro e w1 ⟨rfl, hr, ht⟩)
  go_ret
  exact ⟨rfl, hr, ht⟩

/-- Two bytes with a sign. -/
def sgn16 (x : Int) : Int := if 32768 ≤ x then x - 65536 else x
theorem sgn16_bd {x : Int} (h0 : 0 ≤ x) (h1 : x < 65536) : -32768 ≤ sgn16 x ∧ sgn16 x ≤ 32767 := by unfold sgn16; split <;> omega
theorem wrap16 {x : Int} (h0 : 0 ≤ x) (h1 : x < 65536) : IntKind.i16.wrap x = sgn16 x := by
  unfold sgn16
  simp [IntKind.wrap, IntKind.bits, IntKind.signed]
  split <;> split <;> omega
theorem wrap_sgn {x : Int} (h0 : 0 ≤ x) (h1 : x < 65536) : wrap64 (IntKind.i16.wrap x) = sgn16 x := by
  have := sgn16_bd h0 h1
  rw [wrap16 h0 h1]
  exact IntWalk.wrap64_in _ ⟨by omega, by omega⟩
set_option maxHeartbeats 1000000 in
theorem rTake_any (w : World) (r : Nat) (bs : List UInt8) (s : Nat × Bool) (A : Option Addr) (c : Nat) (n : Nat) (h : Rd w r bs s.1 s.2 A c) (hn : n ≤ 140737488355328) :
    Calls Try.prog 37 #[.pointer (some ⟨r, 0, none⟩), .int .i64 n] w fun e w' => ∃ A' c', e = .returned (.slice A' (takF bs s n).length c') ∧ SlAt w' A' (takF bs s n).length ((takF bs s n).map byteV) ∧
      Rd w' r bs (advF bs s n).1 (advF bs s n).2 A c ∧ Turn w w' r none ∧ (∀ k, rowOf A' = some k → w.heap.size ≤ k) := by
  obtain ⟨p, b⟩ := s
  simp only at h
  by_cases hb : badF bs (p, b) n = true
  · rw [show takF bs (p, b) n = [] by simp [takF, hb], show advF bs (p, b) n = (p, true) by simp [advF, hb]]
    have hN := next_bad w r bs p b A c n h (by simpa [badF] using hb)
    have HC := fun W : World => clone_any W none 0 0 [] (SlAt.nil _ _) (by omega)
    go_enter Try.func37, Try.ntmps37
    go_wp2_with (first | (go_at_call 57; refine hN.mono ?_; rintro e w1 ⟨rfl, hr, ht⟩; have HR := Lib.hid hr; have HT := Lib.hid ht; clear hr ht) | (go_at_call 42; refine (HC _).mono ?_; rintro e w2 ⟨A2, c2, rfl, hs, hb2, hg⟩))
    go_ret
    exact ⟨A2, c2, rfl, hs, HR.out.keep hb2, HT.out.trans (Turn.of_below hb2) (.inl rfl), fun k hk => Nat.le_trans HT.out.size (hg k hk)⟩
  · simp only [Bool.not_eq_true] at hb
    have h2 := hb
    simp [badF] at h2
    obtain ⟨rfl, h2⟩ := h2
    rw [takF_ok h2, advF_ok h2]
    have hN := next_ok w r bs p A c n h h2
    have hl : ((bs.drop p).take n).length = n := by simp; omega
    rw [hl]
    go_enter Try.func37, Try.ntmps37
    go_wp2_with (first | (go_at_call 57; refine hN.mono ?_; rintro e w1 ⟨A1, c1, rfl, hs1, hc1, hro, hr, ht⟩; have HS := Lib.hid hs1; have HR := Lib.hid hr; have HT := Lib.hid ht; clear hr ht hs1) | (go_at_call 42; refine (clone_any _ _ _ _ _ HS.out hn).mono ?_; rintro e w2 ⟨A2, c2, rfl, hs, hb2, hg⟩))
    go_ret
    exact ⟨A2, c2, rfl, hs, HR.out.keep hb2, HT.out.trans (Turn.of_below hb2) (.inl rfl), fun k hk => Nat.le_trans HT.out.size (hg k hk)⟩

end Go.Proofs.Ytejombofjakllaa
