/-
  Layer 15: a whole number, an operand.
-/
import Derived.Test.YtoofjkhigonppaaDcE
namespace Go.Proofs.Ytoofjkhigonppaa
open Go.RowKit

def sgn32 (x : Int) : Int := if 2147483648 ≤ x then x - 4294967296 else x
theorem wrap_sgn32 {x : Int} (h0 : 0 ≤ x) (h1 : x < 4294967296) : wrap64 (wrap32 x) = sgn32 x := by
  have : wrap32 x = sgn32 x := by
    unfold sgn32
    simp only [wrap32]
    split <;> omega
  rw [this]
  exact IntWalk.wrap64_in _ (by unfold sgn32; split <;> omega)
/-- A whole number whose first byte c lay ahead of p: its value and the reader behind it. -/
def wholeV (bs : List UInt8) (p c : Nat) : Option (Int × (Nat × Bool)) :=
  if c = 28 then some (sgn16 (numF bs (p, false) 2), advF bs (p, false) 2)
  else if c = 29 then some (sgn32 (numF bs (p, false) 4), advF bs (p, false) 4)
  else if 251 ≤ c ∧ c < 255 then some ((251 - (c : Int)) * 256 - numF bs (p, false) 1 - 108, advF bs (p, false) 1)
  else if 247 ≤ c ∧ c < 251 then some (((c : Int) - 247) * 256 + numF bs (p, false) 1 + 108, advF bs (p, false) 1)
  else if 32 ≤ c ∧ c < 247 then some ((c : Int) - 139, (p, false)) else none
theorem wholeV_bd {bs : List UInt8} {p c : Nat} {x : Int} {s : Nat × Bool} (h : wholeV bs p c = some (x, s)) : -2147483648 ≤ x ∧ x ≤ 2147483647 := by
  have h2 := numF_lt bs (p, false) 2
  have h4 := numF_lt bs (p, false) 4
  have h1 := numF_lt bs (p, false) 1
  unfold wholeV at h
  split at h
  · injection h with h; injection h with h _; subst h; unfold sgn16; split <;> omega
  split at h
  · injection h with h; injection h with h _; subst h; unfold sgn32; split <;> omega
  split at h
  · injection h with h; injection h with h _; omega
  split at h
  · injection h with h; injection h with h _; omega
  split at h
  · injection h with h; injection h with h _; omega
  · cases h
def WholeR (bs : List UInt8) (p c r : Nat) (A : Option Addr) (c0 : Nat) (w : World) (e : Ending) (w' : World) : Prop :=
  match wholeV bs p c with
  | none => e = .returned (.tuple #[.int .i64 0, .bool false]) ∧ w = w'
  | some (x, s) => e = .returned (.tuple #[.int .i64 x, .bool true]) ∧ Rd w' r bs s.1 s.2 A c0 ∧ Tn (fun i => i = r) w w'
theorem whole_no {bs : List UInt8} {p c r : Nat} {A : Option Addr} {c0 : Nat} {w : World} (h : wholeV bs p c = none) : WholeR bs p c r A c0 w (.returned (.tuple #[.int .i64 0, .bool false])) w := by
  unfold WholeR; rw [h]; exact ⟨rfl, rfl⟩
theorem whole_yes {bs : List UInt8} {p c r : Nat} {A : Option Addr} {c0 : Nat} {w w' : World} {x y : Int} {s : Nat × Bool} (h : wholeV bs p c = some (x, s)) (hy : y = x) (hr : Rd w' r bs s.1 s.2 A c0) (ht : Tn (fun i => i = r) w w') : WholeR bs p c r A c0 w (.returned (.tuple #[.int .i64 y, .bool true])) w' := by
  subst hy; unfold WholeR; rw [h]; exact ⟨rfl, hr, ht⟩
theorem Tn.turn1 {w w' : World} {r : Nat} (h : Turn w w' r none) : Tn (fun i => i = r) w w' := ⟨h.os, h.tape, h.output, h.size, fun i hi hn => h.block i hi hn (fun e => by cases e)⟩
set_option maxRecDepth 20000 in
set_option maxHeartbeats 4000000 in
theorem whole_any {w : World} {r : Nat} {bs : List UInt8} {p : Nat} {A : Option Addr} {c0 : Nat} (c : Nat) (h : Rd w r bs p false A c0) :
    Calls Try.prog 41 #[.pointer (some ⟨r, 0, none⟩), .int .i64 c] w (WholeR bs p c r A c0 w) := by
  have b2 := numF_lt bs (p, false) 2
  have b4 := numF_lt bs (p, false) 4
  have b1 := numF_lt bs (p, false) 1
  have HI := Lib.hid (rI16_any w r bs (p, false) A c0 h)
  have HU := Lib.hid (rU32_any w r bs (p, false) A c0 h)
  have H8 := Lib.hid (rU8_any w r bs (p, false) A c0 h)
  have H := Lib.hid h
  clear h
  have key : c = 28 ∨ c = 29 ∨ (251 ≤ c ∧ c < 255) ∨ (247 ≤ c ∧ c < 251) ∨ (32 ≤ c ∧ c < 247) ∨ (c ≠ 28 ∧ c ≠ 29 ∧ ¬ 32 ≤ c) ∨ 255 ≤ c := by omega
  rcases key with rfl | rfl | ⟨h1, h2⟩ | ⟨h1, h2⟩ | ⟨h1, h2⟩ | ⟨h1, h2, h3⟩ | h1
  · go_enter Try.func41, Try.ntmps41
    go_wp2_with (first | (go_at_call 56; (with_reducible refine HI.out.mono ?_); rintro e w1 ⟨rfl, hr, ht⟩) | fail)
    go_ret2
    exact whole_yes rfl rfl hr (Tn.turn1 ht)
  · have hv := wrap_sgn32 (x := numF bs (p, false) 4) (by omega) (by omega)
    have HV := Lib.hid hv
    clear hv
    go_enter Try.func41, Try.ntmps41
    go_wp2_with (first | (go_at_call 57; (with_reducible refine HU.out.mono ?_); rintro e w1 ⟨rfl, hr, ht⟩) | fail)
    go_ret2
    exact whole_yes rfl HV.out hr (Tn.turn1 ht)
  · obtain rfl | rfl | rfl | rfl : c = 251 ∨ c = 252 ∨ c = 253 ∨ c = 254 := by omega
    all_goals
      go_enter Try.func41, Try.ntmps41
      go_wp2_with (first | (go_at_call 23; (with_reducible refine H8.out.mono ?_); rintro e w1 ⟨rfl, hr, ht⟩) | fail)
      go_ret2
      exact whole_yes rfl (by omega) hr (Tn.turn1 ht)
  · obtain rfl | rfl | rfl | rfl : c = 247 ∨ c = 248 ∨ c = 249 ∨ c = 250 := by omega
    all_goals
      go_enter Try.func41, Try.ntmps41
      go_wp2_with (first | (go_at_call 23; (with_reducible refine H8.out.mono ?_); rintro e w1 ⟨rfl, hr, ht⟩) | fail)
      go_ret2
      exact whole_yes rfl (by omega) hr (Tn.turn1 ht)
  · have hv : wholeV bs p c = some ((c : Int) - 139, (p, false)) := by
      unfold wholeV
      rw [if_neg (by omega), if_neg (by omega), if_neg (by omega), if_neg (by omega), if_pos ⟨h1, h2⟩]
    have HV := Lib.hid hv
    clear hv
    have c1 : ((c : Int) == 28) = false := by rw [beq_eq_false_iff_ne]; omega
    have c2 : ((c : Int) == 29) = false := by rw [beq_eq_false_iff_ne]; omega
    have c3 : ¬ (251 : Int) ≤ c := by omega
    have c4 : ¬ (247 : Int) ≤ c := by omega
    go_enter Try.func41, Try.ntmps41
    go_wp2_with fail
    go_ret2
    exact whole_yes HV.out rfl H.out (Tn.refl _)
  · have hv : wholeV bs p c = none := by
      unfold wholeV
      rw [if_neg (by omega), if_neg (by omega), if_neg (by omega), if_neg (by omega), if_neg (by omega)]
    have HV := Lib.hid hv
    clear hv
    have c1 : ((c : Int) == 28) = false := by rw [beq_eq_false_iff_ne]; omega
    have c2 : ((c : Int) == 29) = false := by rw [beq_eq_false_iff_ne]; omega
    have c3 : ¬ (251 : Int) ≤ c := by omega
    have c4 : ¬ (247 : Int) ≤ c := by omega
    have c5 : ¬ (32 : Int) ≤ c := by omega
    go_enter Try.func41, Try.ntmps41
    go_wp2_with fail
    go_ret2
    exact whole_no HV.out
  · have hv : wholeV bs p c = none := by
      unfold wholeV
      rw [if_neg (by omega), if_neg (by omega), if_neg (by omega), if_neg (by omega), if_neg (by omega)]
    have HV := Lib.hid hv
    clear hv
    have c1 : ((c : Int) == 28) = false := by rw [beq_eq_false_iff_ne]; omega
    have c2 : ((c : Int) == 29) = false := by rw [beq_eq_false_iff_ne]; omega
    have c3 : ¬ (c : Int) < 255 := by omega
    have c4 : ¬ (c : Int) < 251 := by omega
    have c5 : ¬ (c : Int) < 247 := by omega
    go_enter Try.func41, Try.ntmps41
    go_wp2_with fail
    go_ret2
    exact whole_no HV.out
end Go.Proofs.Ytoofjkhigonppaa
