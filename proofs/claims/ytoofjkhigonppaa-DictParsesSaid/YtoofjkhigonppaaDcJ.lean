/-
  Layer 15: a whole number as an operand.
-/
import Derived.Test.YtoofjkhigonppaaDcI
import Derived.Test.YtoofjkhigonppaaOw
namespace Go.Proofs.Ytoofjkhigonppaa
open Go.RowKit

def by8 (x : Int) : UInt8 := UInt8.ofNat (x % 256).toNat
theorem by8_V (x : Int) : byteV (by8 x) = .int .u8 (x % 256) := by
  unfold byteV by8
  rw [UInt8.toNat_ofNat_of_lt' (by show (x % 256).toNat < 256; omega)]
  congr 1
  omega
/-- A whole number as an operand. -/
def numS (x : Int) : List UInt8 :=
  if -107 ≤ x ∧ x ≤ 107 then [by8 (x + 139)]
  else if -1131 ≤ x ∧ x < 0 then [by8 ((-x - 108) / 256 + 251), by8 (-x - 108)]
  else if 0 < x ∧ x ≤ 1131 then [by8 ((x - 108) / 256 + 247), by8 (x - 108)]
  else if -32768 ≤ x ∧ x < 32768 then [28, by8 (x / 256), by8 x]
  else [29, by8 (x / 16777216), by8 (x / 65536), by8 (x / 256), by8 x]
def BsR (bs : List UInt8) (w : World) (e : Ending) (w' : World) : Prop :=
  ∃ A c, e = .returned (.slice A bs.length c) ∧ SlAt w' A bs.length (bs.map byteV) ∧ Below w.heap.size w w'
theorem bs_new {bs : List UInt8} {w : World} {cs : Array Value} {n c : Nat} (h : cs.toList = bs.map byteV) (hn : n = bs.length) : BsR bs w (.returned (.slice (some ⟨w.heap.size, 0, none⟩) n c)) (w.alloc (.cells cs 5)) := by
  subst hn
  refine ⟨_, _, rfl, ?_, (bel_alloc bel_refl).below⟩
  have hcs : cs = (bs.map byteV).toArray := by rw [← h]
  rw [hcs]
  exact slat_blk (Blk.newAt w _ _ rfl) (by simp)
theorem number_any (x : Int) (h0 : -2147483648 ≤ x) (h1 : x < 2147483648) (w : World) : Calls Try.prog 32 #[.int .i64 x] w (BsR (numS x) w) := by
  have hx1 : ∀ w, (Op.shift .shr .i64 x .u64 8).run Try.prog w = .ok (.int .i64 (x / 256)) w := fun w => shr_run (P := Try.prog) x 8 8 rfl (by omega) w
  by_cases c1 : -107 ≤ x ∧ x ≤ 107
  · have hv : numS x = [by8 (x + 139)] := by unfold numS; rw [if_pos c1]
    obtain ⟨a1, a2⟩ := c1
    have HV := Lib.hid hv
    clear hv hx1
    rcases (show (x < 0 ∧ max x (-x) = -x) ∨ (0 ≤ x ∧ max x (-x) = x) by omega) with ⟨d1, hm⟩ | ⟨d1, hm⟩
    all_goals
      go_enter Try.func32, Try.ntmps32
      go_wp2_with fail
      go_ret
      rw [HV.out]
      exact bs_new (by simp [by8_V]; omega) rfl
  by_cases c2 : -1131 ≤ x ∧ x < 0
  · have hv : numS x = [by8 ((-x - 108) / 256 + 251), by8 (-x - 108)] := by unfold numS; rw [if_neg c1, if_pos c2]
    obtain ⟨a1, a2⟩ := c2
    have a3 : ¬ (-107 ≤ x) := by omega
    have hm : max x (-x) = -x := by omega
    have hsh : ∀ w, (Op.shift .shr .i64 (-x - 108) .u64 8).run Try.prog w = .ok (.int .i64 ((-x - 108) / 256)) w := fun w => shr_run (P := Try.prog) (-x - 108) 8 8 rfl (by omega) w
    have HV := Lib.hid hv
    clear hv c1 hx1
    go_enter Try.func32, Try.ntmps32
    go_wp2_with fail
    go_ret
    rw [HV.out]
    exact bs_new (by simp [by8_V]; omega) rfl
  by_cases c3 : 0 < x ∧ x ≤ 1131
  · have hv : numS x = [by8 ((x - 108) / 256 + 247), by8 (x - 108)] := by unfold numS; rw [if_neg c1, if_neg c2, if_pos c3]
    obtain ⟨a1, a2⟩ := c3
    have a3 : ¬ (x ≤ 107) := by omega
    have a4 : -107 ≤ x := by omega
    have a5 : -1131 ≤ x := by omega
    have a6 : ¬ x < 0 := by omega
    have hm : max x (-x) = x := by omega
    have hsh : ∀ w, (Op.shift .shr .i64 (x - 108) .u64 8).run Try.prog w = .ok (.int .i64 ((x - 108) / 256)) w := fun w => shr_run (P := Try.prog) (x - 108) 8 8 rfl (by omega) w
    have HV := Lib.hid hv
    clear hv c1 c2 hx1
    go_enter Try.func32, Try.ntmps32
    go_wp2_with fail
    go_ret
    rw [HV.out]
    exact bs_new (by simp [by8_V]; omega) rfl
  have hx2 : ∀ w, (Op.shift .shr .i64 x .u64 16).run Try.prog w = .ok (.int .i64 (x / 65536)) w := fun w => shr_run (P := Try.prog) x 16 16 rfl (by omega) w
  have hx3 : ∀ w, (Op.shift .shr .i64 x .u64 24).run Try.prog w = .ok (.int .i64 (x / 16777216)) w := fun w => shr_run (P := Try.prog) x 24 24 rfl (by omega) w
  have hn : (x < -1131 ∧ max x (-x) = -x) ∨ (1131 < x ∧ max x (-x) = x) := by omega
  by_cases c4 : -32768 ≤ x ∧ x < 32768
  · have hv : numS x = [28, by8 (x / 256), by8 x] := by unfold numS; rw [if_neg c1, if_neg c2, if_neg c3, if_pos c4]
    obtain ⟨a1, a2⟩ := c4
    have hw : IntKind.i16.wrap x = x := by simp [IntKind.wrap, IntKind.bits, IntKind.signed]; split <;> omega
    have HV := Lib.hid hv
    clear hv c1 c2 c3
    rcases hn with ⟨d1, hm⟩ | ⟨d1, hm⟩
    · have d2 : ¬ -107 ≤ x := by omega
      have d3 : ¬ -1131 ≤ x := by omega
      have d4 : ¬ 0 < x := by omega
      go_enter Try.func32, Try.ntmps32
      go_wp2_with fail
      go_ret
      rw [HV.out]
      refine bs_new ?_ rfl
      simp only [List.map_cons, List.map_nil, by8_V]
      first | rfl | (rw [show x / 256 % 256 = x / 256 by omega]; rfl)
    · have d2 : ¬ x ≤ 107 := by omega
      have d3 : ¬ x < 0 := by omega
      have d4 : ¬ x ≤ 1131 := by omega
      have d5 : -107 ≤ x := by omega
      have d6 : -1131 ≤ x := by omega
      have d7 : 0 < x := by omega
      go_enter Try.func32, Try.ntmps32
      go_wp2_with fail
      go_ret
      rw [HV.out]
      refine bs_new ?_ rfl
      simp only [List.map_cons, List.map_nil, by8_V]
      first | rfl | (rw [show x / 256 % 256 = x / 256 by omega]; rfl)
  · have hv : numS x = [29, by8 (x / 16777216), by8 (x / 65536), by8 (x / 256), by8 x] := by unfold numS; rw [if_neg c1, if_neg c2, if_neg c3, if_neg c4]
    have hw0 : -32768 ≤ IntKind.i16.wrap x ∧ IntKind.i16.wrap x < 32768 := by simp [IntKind.wrap, IntKind.bits, IntKind.signed]; split <;> omega
    have hw2 : wrap64 (IntKind.i16.wrap x) = IntKind.i16.wrap x := IntWalk.wrap64_in _ ⟨by omega, by omega⟩
    obtain ⟨wx, hwx⟩ : ∃ wx, IntKind.i16.wrap x = wx := ⟨_, rfl⟩
    rw [hwx] at hw0 hw2
    have hw : (x == wx) = false := by rw [beq_eq_false_iff_ne]; omega
    clear hw0
    have HV := Lib.hid hv
    clear hv c1 c2 c3
    rcases hn with ⟨d1, hm⟩ | ⟨d1, hm⟩
    · have d2 : ¬ -107 ≤ x := by omega
      have d3 : ¬ -1131 ≤ x := by omega
      have d4 : ¬ 0 < x := by omega
      go_enter Try.func32, Try.ntmps32
      go_wp2_with fail
      go_ret
      rw [HV.out]
      refine bs_new ?_ rfl
      simp only [List.map_cons, List.map_nil, by8_V]
      first | rfl | (rw [show x / 16777216 % 256 = x / 16777216 by omega]; rfl)
    · have d2 : ¬ x ≤ 107 := by omega
      have d3 : ¬ x < 0 := by omega
      have d4 : ¬ x ≤ 1131 := by omega
      have d5 : -107 ≤ x := by omega
      have d6 : -1131 ≤ x := by omega
      have d7 : 0 < x := by omega
      go_enter Try.func32, Try.ntmps32
      go_wp2_with fail
      go_ret
      rw [HV.out]
      refine bs_new ?_ rfl
      simp only [List.map_cons, List.map_nil, by8_V]
      first | rfl | (rw [show x / 16777216 % 256 = x / 16777216 by omega]; rfl)
end Go.Proofs.Ytoofjkhigonppaa
