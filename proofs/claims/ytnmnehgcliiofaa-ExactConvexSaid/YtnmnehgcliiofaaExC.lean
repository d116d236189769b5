/-
  Layer 24: whether a line touches a box.
-/
import Derived.Test.YtnmnehgcliiofaaExB
namespace Go.Proofs.Ytnmnehgcliiofaa
open Go.RowKit

section
variable {P : Program} {w : World}
@[go_sem ↓] theorem run_max_two (ts : Array TypeId) (t : TypeId) (x y : Int) : (Builtin.max_ ts t #[.int .i64 x, .int .i64 y]).run P w = .ok (.int .i64 (max x y)) w := by
  rw [run_max_int2, show (if y > x then y else x) = max x y by split <;> omega]
@[go_sem ↓] theorem run_min_two (ts : Array TypeId) (t : TypeId) (x y : Int) : (Builtin.min_ ts t #[.int .i64 x, .int .i64 y]).run P w = .ok (.int .i64 (min x y)) w := by
  rw [run_min_int2, show (if y < x then y else x) = min x y by split <;> omega]
@[go_sem ↓] theorem run_max_four (ts : Array TypeId) (t : TypeId) (x y z u : Int) : (Builtin.max_ ts t #[.int .i64 x, .int .i64 y, .int .i64 z, .int .i64 u]).run P w = .ok (.int .i64 (max (max (max x y) z) u)) w := by
  have e : ∀ x y : Int, (if x < y then y else x) = max x y := fun x y => by split <;> omega
  simp [Builtin.max_, Builtin.max2, e]
@[go_sem ↓] theorem run_min_four (ts : Array TypeId) (t : TypeId) (x y z u : Int) : (Builtin.min_ ts t #[.int .i64 x, .int .i64 y, .int .i64 z, .int .i64 u]).run P w = .ok (.int .i64 (min (min (min x y) z) u)) w := by
  have e : ∀ x y : Int, (if y < x then y else x) = min x y := fun x y => by split <;> omega
  simp [Builtin.min_, Builtin.min2, e]
end

def apart (ax ay dx dy b0 b1 b2 b3 : Int) : Prop := max ax dx < b0 ∨ b2 < min ax dx ∨ max ay dy < b1 ∨ b3 < min ay dy
instance (ax ay dx dy b0 b1 b2 b3 : Int) : Decidable (apart ax ay dx dy b0 b1 b2 b3) := by unfold apart; infer_instance
def sidesB (p q r s : Int) : Bool := decide (min (min (min p q) r) s ≤ 0) && decide (0 ≤ max (max (max p q) r) s)
def touchB (ax ay dx dy b0 b1 b2 b3 : Int) : Bool := if apart ax ay dx dy b0 b1 b2 b3 then false else sidesB (crossI ax ay dx dy b0 b1) (crossI ax ay dx dy b2 b1) (crossI ax ay dx dy b0 b3) (crossI ax ay dx dy b2 b3)

section
variable {ax ay dx dy b0 b1 b2 b3 : Int} (w : World)
set_option maxRecDepth 20000 in
set_option maxHeartbeats 1000000 in
theorem touches_apart (h : apart ax ay dx dy b0 b1 b2 b3) : Calls Try.prog 63 #[.agg #[.int .i64 ax, .int .i64 ay], .agg #[.int .i64 dx, .int .i64 dy], .agg #[.int .i64 b0, .int .i64 b1, .int .i64 b2, .int .i64 b3]] w fun e w' => e = .returned (.bool false) ∧ Below w.heap.size w w' := by
  have key : max ax dx < b0 ∨ (b0 ≤ max ax dx ∧ b2 < min ax dx) ∨ (b0 ≤ max ax dx ∧ min ax dx ≤ b2 ∧ max ay dy < b1) ∨ (b0 ≤ max ax dx ∧ min ax dx ≤ b2 ∧ b1 ≤ max ay dy ∧ b3 < min ay dy) := by unfold apart at h; omega
  clear h
  have HB := Lib.hid (bel_alloc (o := .cells #[.int .i64 b0, .int .i64 b1, .int .i64 b2, .int .i64 b3] 32) (bel_alloc (o := .cells #[.int .i64 dx, .int .i64 dy] 72) (bel_alloc (o := .cells #[.int .i64 ax, .int .i64 ay] 72) (bel_refl (a := w)))))
  rcases key with h1 | ⟨h1, h2⟩ | ⟨h1, h2, h3⟩ | ⟨h1, h2, h3, h4⟩
  all_goals
    go_enter Try.func63, Try.ntmps63
    go_wp2_with fail
    go_ret
    exact ⟨rfl, HB.out.below⟩

def Num8 (ax ay dx dy b0 b1 b2 b3 : Int) : Prop := Num6 ax ay dx dy b0 b1 ∧ (-2097152 ≤ b2 ∧ b2 ≤ 2097152) ∧ (-2097152 ≤ b3 ∧ b3 ≤ 2097152)
theorem Num8.p (h : Num8 ax ay dx dy b0 b1 b2 b3) : Num6 ax ay dx dy b0 b1 ∧ Num6 ax ay dx dy b2 b1 ∧ Num6 ax ay dx dy b0 b3 ∧ Num6 ax ay dx dy b2 b3 := by
  obtain ⟨⟨h1, h2, h3, h4, h5, h6⟩, h7, h8⟩ := h
  exact ⟨⟨h1, h2, h3, h4, h5, h6⟩, ⟨h1, h2, h3, h4, h7, h6⟩, ⟨h1, h2, h3, h4, h5, h8⟩, ⟨h1, h2, h3, h4, h7, h8⟩⟩

set_option maxRecDepth 20000 in
set_option maxHeartbeats 4000000 in
theorem touches_near (h : ¬ apart ax ay dx dy b0 b1 b2 b3) (hN : Num8 ax ay dx dy b0 b1 b2 b3) : Calls Try.prog 63 #[.agg #[.int .i64 ax, .int .i64 ay], .agg #[.int .i64 dx, .int .i64 dy], .agg #[.int .i64 b0, .int .i64 b1, .int .i64 b2, .int .i64 b3]] w fun e w' =>
      e = .returned (.bool (sidesB (crossI ax ay dx dy b0 b1) (crossI ax ay dx dy b2 b1) (crossI ax ay dx dy b0 b3) (crossI ax ay dx dy b2 b3))) ∧ Below w.heap.size w w' := by
  have key : b0 ≤ max ax dx ∧ min ax dx ≤ b2 ∧ b1 ≤ max ay dy ∧ min ay dy ≤ b3 := by unfold apart at h; omega
  obtain ⟨n1, n2, n3, n4⟩ := hN.p
  obtain ⟨h1, h2, h3, h4⟩ := key
  have K1 := fun w => cross_any w n1
  have K2 := fun w => cross_any w n2
  have K3 := fun w => cross_any w n3
  have K4 := fun w => cross_any w n4
  generalize crossI ax ay dx dy b0 b1 = p at *
  generalize crossI ax ay dx dy b2 b1 = q at *
  generalize crossI ax ay dx dy b0 b3 = r at *
  generalize crossI ax ay dx dy b2 b3 = s at *
  have e : sidesB p q r s = (decide (min (min (min p q) r) s ≤ 0) && decide (0 ≤ max (max (max p q) r) s)) := rfl
  have E := Lib.hid e
  replace K1 := Lib.hid K1
  replace K2 := Lib.hid K2
  replace K3 := Lib.hid K3
  replace K4 := Lib.hid K4
  clear h hN n1 n2 n3 n4 e
  have HB := Lib.hid (bel_alloc (o := .cells #[.int .i64 b0, .int .i64 b1, .int .i64 b2, .int .i64 b3] 32) (bel_alloc (o := .cells #[.int .i64 dx, .int .i64 dy] 72) (bel_alloc (o := .cells #[.int .i64 ax, .int .i64 ay] 72) (bel_refl (a := w)))))
  have key2 : (0 < min (min (min p q) r) s) ∨ min (min (min p q) r) s ≤ 0 := by omega
  rcases key2 with k | k
  all_goals
    go_enter Try.func63, Try.ntmps63
    go_wp2_with fail
    refine wp_region_bw_lit (by kernel_rfl) (by kernel_rfl) ?_
    repeat (go_big_quiet_step (first | (go_at_call 84; with_reducible exact Calls.bw_of (K1.out _)) | (go_at_call 84; with_reducible exact Calls.bw_of (K2.out _)) | (go_at_call 84; with_reducible exact Calls.bw_of (K3.out _)) | (go_at_call 84; with_reducible exact Calls.bw_of (K4.out _))))
    refine wpQuiet_nil ?_
    rintro _ ⟨u, rfl⟩
    have hbu := u.prop
    have hzu := u.prop.size
    try simp at hzu
    go_wp2_with fail
    refine wp_region_bw_lit (by kernel_rfl) (by kernel_rfl) ?_
    repeat (go_big_quiet_step (first | (go_at_call 84; with_reducible exact Calls.bw_of (K1.out _)) | (go_at_call 84; with_reducible exact Calls.bw_of (K2.out _)) | (go_at_call 84; with_reducible exact Calls.bw_of (K3.out _)) | (go_at_call 84; with_reducible exact Calls.bw_of (K4.out _))))
    refine wpQuiet_nil ?_
    rintro _ ⟨u, rfl⟩
    have hbu := u.prop
    have hzu := u.prop.size
    try simp at hzu
    go_wp2_with fail
    go_ret
    refine ⟨ret_bool' ?_, ?_⟩
    · rw [E.out]; first | rfl | (simp; done) | (simp; omega)
    · exact (bel_call hbu (bel_call (by assumption) HB.out)).below

theorem touches_any (hN : Num8 ax ay dx dy b0 b1 b2 b3) : Calls Try.prog 63 #[.agg #[.int .i64 ax, .int .i64 ay], .agg #[.int .i64 dx, .int .i64 dy], .agg #[.int .i64 b0, .int .i64 b1, .int .i64 b2, .int .i64 b3]] w fun e w' =>
      e = .returned (.bool (touchB ax ay dx dy b0 b1 b2 b3)) ∧ Below w.heap.size w w' := by
  unfold touchB
  by_cases h : apart ax ay dx dy b0 b1 b2 b3
  · rw [if_pos h]; exact touches_apart w h
  · rw [if_neg h]; exact touches_near w h hN
end
end Go.Proofs.Ytnmnehgcliiofaa
