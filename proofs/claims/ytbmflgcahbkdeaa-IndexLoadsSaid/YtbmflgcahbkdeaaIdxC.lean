/-
  index.width; index.Put.
-/
import Derived.Test.YtbmflgcahbkdeaaIdxB
namespace Go.Proofs.Ytbmflgcahbkdeaa
open Go.RowKit

/-- How many bytes a number takes. -/
def ixW (x : Nat) : Nat := if x < 256 then 1 else if x < 65536 then 2 else if x < 16777216 then 3 else 4
theorem ixW_bd (x : Nat) : 1 ≤ ixW x ∧ ixW x ≤ 4 := by unfold ixW; split <;> (try split) <;> (try split) <;> omega
theorem ixW_lt (x k : Nat) (h0 : 1 ≤ k) (h : k < ixW x) : 0 < (x : Int) / 2 ^ (8 * k) := by
  have hb := ixW_bd x
  have : k = 1 ∨ k = 2 ∨ k = 3 := by omega
  unfold ixW at h
  rcases this with rfl | rfl | rfl <;> simp only [Nat.reduceMul, Int.reducePow] <;> split at h <;> (try split at h) <;> (try split at h) <;> omega
theorem ixW_ge (x k : Nat) (h0 : 1 ≤ k) (h1 : k < 4) (h : ixW x ≤ k) : ¬ 0 < (x : Int) / 2 ^ (8 * k) := by
  have : k = 1 ∨ k = 2 ∨ k = 3 := by omega
  unfold ixW at h
  rcases this with rfl | rfl | rfl <;> simp only [Nat.reduceMul, Int.reducePow] <;> split at h <;> (try split at h) <;> (try split at h) <;> omega

set_option maxHeartbeats 1000000 in
theorem width_any (w : World) (x : Nat) : Calls Try.prog 48 #[.int .i64 x] w fun e w' => e = .returned (.int .i64 (ixW x)) ∧ w = w' := by
  have hb := ixW_bd x
  obtain ⟨z, hz⟩ : ∃ z, ixW x = z := ⟨_, rfl⟩
  have hlt := fun k h0 (h : k < z) => ixW_lt x k h0 (hz ▸ h)
  have hge := fun k h0 h1 (h : z ≤ k) => ixW_ge x k h0 h1 (hz ▸ h)
  rw [hz] at hb ⊢
  have HLT := Lib.hid hlt
  have HGE := Lib.hid hge
  clear hz hlt hge
  go_enter Try.func48, Try.ntmps48
  go_wp2
  go_loop [3] (fun i => ∃ k : Nat, 1 ≤ k ∧ k ≤ z ∧ i = .int .i64 k) (fun i => z - (intOf i).toNat)
  case atStart => exact ⟨1, by omega, by omega, rfl⟩
  case round =>
    obtain ⟨k, hk1, hk2, rfl⟩ := hrel
    by_cases h : k < z
    · have h1 := HLT.out k hk1 h
      have h3 : k < 4 := by omega
      go_wp2
      exact ⟨⟨k + 1, by omega, by omega, by go_num⟩, by simp [intOf]; omega⟩
    · obtain rfl : z = k := by omega
      by_cases h4 : z < 4
      · have h1 := HGE.out z hk1 h4 (Nat.le_refl _)
        go_wp2
        go_ret
        exact ⟨rfl, rfl⟩
      · go_wp2
        go_ret
        exact ⟨rfl, rfl⟩

end Go.Proofs.Ytbmflgcahbkdeaa
