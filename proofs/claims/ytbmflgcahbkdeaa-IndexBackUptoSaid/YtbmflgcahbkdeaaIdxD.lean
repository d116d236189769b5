/-
  index.Put.
-/
import Derived.Test.YtbmflgcahbkdeaaIdxC
import Derived.Test.YtbmflgcahbkdeaaLs
import Derived.Deep.DeepCutAuto
import Derived.Deep.RegionHeld3
namespace Go.Proofs.Ytbmflgcahbkdeaa
open Go.RowKit

/-- The offsets behind the first one, of the first k lists. -/
def offB (z : Nat) (ls : List (List UInt8)) (k : Nat) : List UInt8 := ((List.range k).map fun i => beB z (1 + (lsSum (ls.take (i + 1)) : Int))).flatten
theorem offB_next (z : Nat) (ls : List (List UInt8)) (k : Nat) : offB z ls (k + 1) = offB z ls k ++ beB z (1 + (lsSum (ls.take (k + 1)) : Int)) := by
  simp [offB, List.range_succ]
def ixHd (z : Nat) (ls : List (List UInt8)) : List UInt8 := beB 2 ls.length ++ beB 1 z ++ beB z 1
def ixZ (ls : List (List UInt8)) : Nat := ixW (lsSum ls + 1)
def ixB (ls : List (List UInt8)) : List UInt8 := ixHd (ixZ ls) ls ++ offB (ixZ ls) ls ls.length ++ ls.flatten

theorem Put_long (w : World) (A : Option Addr) (n c : Nat) (h : (65535 : Int) < n) :
    Calls Try.prog 17 #[.slice A n c] w fun e w' => e = .returned (.tuple #[.slice none 0 0, .int .i64 3]) ∧ Below w.heap.size w w' := by
  go_enter Try.func17, Try.ntmps17
  go_wp2
  go_ret2
  exact ⟨rfl, bel_refl.below⟩
theorem Put_nil (w : World) (A : Option Addr) (c : Nat) :
    Calls Try.prog 17 #[.slice A 0 c] w fun e w' => ∃ A' c', e = .returned (.tuple #[.slice A' 2 c', .int .i64 0]) ∧ SlAt w' A' 2 (([0, 0] : List UInt8).map byteV) ∧ 2 ≤ c' ∧ Below w.heap.size w w' := by
  go_enter Try.func17, Try.ntmps17
  go_wp2
  go_ret2
  refine ⟨_, _, rfl, ?_, Nat.le_refl _, (bel_alloc bel_refl).below⟩
  exact slat_new w ([0, 0].map byteV) 5 _ rfl

set_option maxHeartbeats 1000000 in
theorem Put_big (w : World) (A : Option Addr) (c : Nat) (ls : List (List UInt8)) (h : Ls w A ls) (hn : ls.length ≤ 65535) (h0 : 0 < ls.length) (hb : (1048576 : Int) < lsSum ls + 1) :
    Calls Try.prog 17 #[.slice A ls.length c] w fun e w' => e = .returned (.tuple #[.slice none 0 0, .int .i64 3]) ∧ Below w.heap.size w w' := by
  obtain ⟨n, hn'⟩ : ∃ n, ls.length = n := ⟨_, rfl⟩
  rw [hn'] at hn h0 ⊢
  have HN := Lib.hid hn'
  clear hn'
  go_enter Try.func17, Try.ntmps17
  go_wp2
  go_loop [4, 28] (fun e i => ∃ k : Nat, k ≤ n ∧ i = .int .i64 k ∧ ∃ s : Nat, Hid (lsSum (ls.take k) + 1 = s) ∧ e = .int .i64 s ∧ (s : Int) ≤ 1048576) (fun _ i => n - (intOf i).toNat)
  case atStart => exact ⟨0, Nat.zero_le _, rfl, 1, Lib.hid (by simp [lsSum]), rfl, by decide⟩
  case round =>
    obtain ⟨k, hk, rfl, s, HS, rfl, hs⟩ := hrel
    by_cases hlt : k < n
    · obtain ⟨l, hl⟩ := ls_get (ls := ls) (k := k) (by rw [HN.out]; exact hlt)
      obtain ⟨b, o, Ai, ci, rfl, hb, hc, hB⟩ := h k l hl
      have hsm := hB.small
      have HT := Lib.hid (lsSum_snoc hl)
      obtain ⟨m, hm⟩ : ∃ m, l.length = m := ⟨_, rfl⟩
      rw [hm] at hc hsm HT
      clear hl hB hm
      go_wp2
      · go_ret2
        exact ⟨rfl, bel_refl.below⟩
      · exact ⟨⟨k + 1, by omega, by go_num, s + m, Lib.hid (by rw [HT.out]; have := HS.out; omega), by go_num, by omega⟩, by simp [intOf]; omega⟩
    · obtain rfl : n = k := by omega
      have := HS.out
      have h2 := HN.out
      rw [List.take_of_length_le (by omega)] at this
      omega

end Go.Proofs.Ytbmflgcahbkdeaa
