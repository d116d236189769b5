/-
  Layer 15: what may be put.
-/
import Derived.Test.YtoofjkhigonppaaDcJ
namespace Go.Proofs.Ytoofjkhigonppaa
open Go.RowKit

def isOpB (op : Int) : Bool := decide ((0 ≤ op ∧ op ≤ 21 ∧ op ≠ 12) ∨ (3072 ≤ op ∧ op ≤ 3327))
def wholeB (x : Int) : Bool := decide (x % 65536 = 0 ∧ -2147483648 ≤ x / 65536 ∧ x / 65536 < 2147483648)
def mayB (v : Int × List Int) : Bool := isOpB v.1 && decide (v.2.length ≤ 48) && v.2.all wholeB
theorem isOp_any (op : Int) (w : World) : Calls Try.prog 46 #[.int .i64 op] w fun e w' => e = .returned (.bool (isOpB op)) ∧ w = w' := by
  have key : (op < 0 ∧ isOpB op = false) ∨ ((0 ≤ op ∧ op ≤ 21 ∧ (op != 12) = true) ∧ isOpB op = true) ∨ (op = 12 ∧ isOpB op = false) ∨ ((21 < op ∧ op < 3072) ∧ isOpB op = false) ∨ ((3072 ≤ op ∧ op ≤ 3327) ∧ isOpB op = true) ∨ (¬ op ≤ 3327 ∧ isOpB op = false) := by
    unfold isOpB
    simp only [bne_iff_ne, decide_eq_false_iff_not, decide_eq_true_eq]
    omega
  rcases key with ⟨h1, hv⟩ | ⟨⟨h1, h2, h3⟩, hv⟩ | ⟨rfl, hv⟩ | ⟨⟨h1, h2⟩, hv⟩ | ⟨⟨h1, h2⟩, hv⟩ | ⟨h1, hv⟩
  all_goals
    have HV := Lib.hid hv
    clear hv
    go_enter Try.func46, Try.ntmps46
    go_wp2_with fail
    go_ret
    exact ⟨by rw [HV.out]; rfl, rfl⟩
theorem tdm (x : Int) : (0 ≤ x ∧ x.tdiv 65536 = x / 65536 ∧ x.tmod 65536 = x % 65536) ∨ (x < 0 ∧ x.tdiv 65536 = -((-x) / 65536) ∧ x.tmod 65536 = -((-x) % 65536)) := by
  rcases Int.lt_or_le x 0 with h | h
  · right
    obtain ⟨y, rfl⟩ : ∃ y, x = -y := ⟨-x, by omega⟩
    rw [Int.neg_tdiv, Int.neg_tmod, Int.neg_neg, Int.tdiv_eq_ediv_of_nonneg (by omega), Int.tmod_eq_emod_of_nonneg (by omega)]
    exact ⟨h, rfl, rfl⟩
  · left
    rw [Int.tdiv_eq_ediv_of_nonneg h, Int.tmod_eq_emod_of_nonneg h]
    exact ⟨h, rfl, rfl⟩
theorem isWhole_any (x : Int) (h0 : -9223372036854775808 ≤ x) (h1 : x ≤ 9223372036854775807) (w : World) : Calls Try.prog 49 #[.int .i64 x] w fun e w' => e = .returned (.bool (wholeB x)) ∧ w = w' := by
  have htd := tdm x
  have key : ((x.tmod 65536 == 0) = false ∧ wholeB x = false) ∨ ((x.tmod 65536 == 0) = true ∧ x.tdiv 65536 < -2147483648 ∧ wholeB x = false) ∨ ((x.tmod 65536 == 0) = true ∧ (-2147483648 ≤ x.tdiv 65536 ∧ x.tdiv 65536 < 2147483648) ∧ wholeB x = true) ∨ ((x.tmod 65536 == 0) = true ∧ ¬ x.tdiv 65536 < 2147483648 ∧ wholeB x = false) := by
    unfold wholeB
    simp only [beq_eq_false_iff_ne, beq_iff_eq, decide_eq_false_iff_not, decide_eq_true_eq, ne_eq]
    omega
  obtain ⟨q, hq⟩ : ∃ q, x.tdiv 65536 = q := ⟨_, rfl⟩
  obtain ⟨m, hm⟩ : ∃ m, x.tmod 65536 = m := ⟨_, rfl⟩
  have hqb : -140737488355328 ≤ q ∧ q ≤ 140737488355328 := by omega
  rw [hq, hm] at key
  have hw : wrap64 q = q := IntWalk.wrap64_in _ ⟨by omega, by omega⟩
  clear htd
  rcases key with ⟨h1, hv⟩ | ⟨h1, h2, hv⟩ | ⟨h1, ⟨h2, h3⟩, hv⟩ | ⟨h1, h2, hv⟩
  all_goals
    have HV := Lib.hid hv
    clear hv
    go_enter Try.func49, Try.ntmps49
    go_wp2_with fail
    go_ret
    exact ⟨by rw [HV.out]; rfl, rfl⟩
theorem notWhole_any (x : Int) (h0 : -9223372036854775808 ≤ x) (h1 : x ≤ 9223372036854775807) (w : World) : Calls Try.prog 48 #[.int .i64 x] w fun e w' => e = .returned (.bool (!wholeB x)) ∧ w = w' := by
  have H := fun w => isWhole_any x h0 h1 w
  generalize wholeB x = b at *
  have HH := Lib.hid H
  clear H
  go_enter Try.func48, Try.ntmps48
  go_wp2_with (first | (go_at_call 49; (with_reducible refine (HH.out _).mono ?_); rintro e w1 ⟨rfl, rfl⟩) | fail)
  go_ret
  exact ⟨rfl, rfl⟩
end Go.Proofs.Ytoofjkhigonppaa
