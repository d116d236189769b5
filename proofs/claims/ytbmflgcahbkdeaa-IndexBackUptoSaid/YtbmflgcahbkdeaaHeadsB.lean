/-
  heads: all, the constructors of places.
-/
import Derived.Test.YtbmflgcahbkdeaaHeadsA
import Derived.Test.YtbmflgcahbkdeaaRefRd
namespace Go.Proofs.Ytbmflgcahbkdeaa
open Go.RowKit

def allF (lo hi : Int) (xs : List Int) : Bool := xs.all fun x => decide (lo ≤ x) && decide (x ≤ hi)
theorem allF_bad {lo hi : Int} {xs : List Int} {k : Nat} {x : Int} (h : xs[k]? = some x) (hx : x < lo ∨ hi < x) : allF lo hi xs = false := by
  unfold allF
  rw [List.all_eq_false]
  exact ⟨x, List.mem_of_getElem? h, by simp; omega⟩
theorem allF_snoc {lo hi : Int} {xs : List Int} {k : Nat} {x : Int} (h : xs[k]? = some x) (h0 : allF lo hi (xs.take k) = true) (h1 : lo ≤ x) (h2 : x ≤ hi) : allF lo hi (xs.take (k + 1)) = true := by
  rw [List.take_add_one, h]
  unfold allF at h0 ⊢
  simp [List.all_append, h0, h1, h2]

set_option maxHeartbeats 1000000 in
theorem all_any (w : World) (lo hi : Int) (A : Option Addr) (n c : Nat) (xs : List Int) (h : SlAt w A n (xs.map (Value.int .i64))) (hn : (n : Int) ≤ 1000000) :
    Calls Try.prog 79 #[.int .i64 lo, .int .i64 hi, .slice A n c] w fun e w' => e = .returned (.bool (allF lo hi xs)) ∧ w = w' := by
  have hl : xs.length = n := by simpa using h.1
  have HL := Lib.hid hl
  have HS := Lib.hid h
  clear h hl
  go_enter Try.func79, Try.ntmps79
  go_wp2
  go_loop [11] (fun i => ∃ k : Nat, k ≤ n ∧ i = .int .i64 k ∧ Hid (allF lo hi (xs.take k) = true)) (fun i => n - (intOf i).toNat)
  case atStart => exact ⟨0, Nat.zero_le _, rfl, Lib.hid rfl⟩
  case round =>
    obtain ⟨k, hk, rfl, HK⟩ := hrel
    by_cases hlt : k < n
    · obtain ⟨b, o, rfl, hbl, hcell⟩ := HS.out.2 k hlt
      obtain ⟨x, hx⟩ : ∃ x, xs[k]? = some x := ⟨xs[k]'(by rw [HL.out]; exact hlt), List.getElem?_eq_getElem _⟩
      rw [List.getElem?_map, hx] at hcell
      have hcell' : w.cell? ⟨b, o + k, none⟩ = some (.int .i64 x) := hcell
      have HX := Lib.hid hx
      clear hcell hx
      by_cases h1 : x < lo
      · have HE : Hid (allF lo hi xs = false) := Lib.hid (allF_bad HX.out (.inl h1))
        go_wp2
        go_ret
        exact ⟨ret_bool HE.out.symm, rfl⟩
      · by_cases h2 : hi < x
        · have HE : Hid (allF lo hi xs = false) := Lib.hid (allF_bad HX.out (.inr h2))
          have h1' : lo ≤ x := by omega
          clear h1
          go_wp2
          go_ret
          exact ⟨ret_bool HE.out.symm, rfl⟩
        · have h1' : lo ≤ x := by omega
          have h2' : x ≤ hi := by omega
          have HE := Lib.hid (allF_snoc HX.out HK.out h1' h2')
          clear h1 h2
          go_wp2
          go_round
          case rel => exact ⟨k + 1, by omega, by go_num, HE⟩
          case measure => simp [intOf]; omega
    · obtain rfl : n = k := by omega
      have HE := Lib.hid (show allF lo hi xs = true by have := HK.out; rwa [List.take_of_length_le (by rw [HL.out]; exact Nat.le_refl _)] at this)
      go_wp2
      go_ret
      exact ⟨ret_bool HE.out.symm, rfl⟩

set_option maxHeartbeats 400000 in
theorem must_any (x : Int) (w : World) : Calls Try.prog 81 #[.int .i64 x] w fun e w' => e = .returned (.agg (plCells ⟨none, false, false, 0, true, x⟩).toArray) ∧ Below w.heap.size w w' := by
  go_enter Try.func81, Try.ntmps81
  go_wp2
  exact bodyPost_ret (v := .agg (plCells ⟨none, false, false, 0, true, x⟩).toArray) (by simp [results, Try.results81, go_sem, plCells, ptrV]) rfl ⟨rfl, (bel_alloc bel_refl).below⟩

set_option maxHeartbeats 400000 in
theorem magical_any (x : Int) (w : World) : Calls Try.prog 83 #[.int .i64 x] w fun e w' => e = .returned (.agg (plCells ⟨none, false, true, 0, true, x⟩).toArray) ∧ Below w.heap.size w w' := by
  go_enter Try.func83, Try.ntmps83
  go_wp2
  exact bodyPost_ret (v := .agg (plCells ⟨none, false, true, 0, true, x⟩).toArray) (by simp [results, Try.results83, go_sem, plCells, ptrV]) rfl ⟨rfl, (bel_alloc bel_refl).below⟩

set_option maxHeartbeats 400000 in
theorem anything_any (n : Nat) (w : World) : Calls Try.prog 82 #[.int .i64 n] w fun e w' => e = .returned (.agg (plCells ⟨none, false, false, n, false, 0⟩).toArray) ∧ Below w.heap.size w w' := by
  go_enter Try.func82, Try.ntmps82
  go_wp2
  exact bodyPost_ret (v := .agg (plCells ⟨none, false, false, n, false, 0⟩).toArray) (by simp [results, Try.results82, go_sem, plCells, ptrV]) rfl ⟨rfl, (bel_alloc bel_refl).below⟩

set_option maxHeartbeats 400000 in
theorem word_any (b o : Nat) (w : World) : Calls Try.prog 84 #[.pointer (some ⟨b, o, none⟩)] w fun e w' => e = .returned (.agg (plCells ⟨some (b, o), false, false, 0, false, 0⟩).toArray) ∧ Below w.heap.size w w' := by
  go_enter Try.func84, Try.ntmps84
  go_wp2
  exact bodyPost_ret (v := .agg (plCells ⟨some (b, o), false, false, 0, false, 0⟩).toArray) (by simp [results, Try.results84, go_sem, plCells, ptrV]) rfl ⟨rfl, (bel_alloc bel_refl).below⟩

set_option maxHeartbeats 400000 in
theorem short_any (b o : Nat) (w : World) : Calls Try.prog 85 #[.pointer (some ⟨b, o, none⟩)] w fun e w' => e = .returned (.agg (plCells ⟨some (b, o), true, false, 0, false, 0⟩).toArray) ∧ Below w.heap.size w w' := by
  go_enter Try.func85, Try.ntmps85
  go_wp2
  exact bodyPost_ret (v := .agg (plCells ⟨some (b, o), true, false, 0, false, 0⟩).toArray) (by simp [results, Try.results85, go_sem, plCells, ptrV]) rfl ⟨rfl, (bel_alloc bel_refl).below⟩

set_option maxHeartbeats 400000 in
theorem wideNumber_any (b o : Nat) (w : World) : Calls Try.prog 87 #[.pointer (some ⟨b, o, none⟩)] w fun e w' => e = .returned (.agg (plCells ⟨some (b, o), false, true, 0, false, 0⟩).toArray) ∧ Below w.heap.size w w' := by
  go_enter Try.func87, Try.ntmps87
  go_wp2
  exact bodyPost_ret (v := .agg (plCells ⟨some (b, o), false, true, 0, false, 0⟩).toArray) (by simp [results, Try.results87, go_sem, plCells, ptrV]) rfl ⟨rfl, (bel_alloc bel_refl).below⟩

end Go.Proofs.Ytbmflgcahbkdeaa
