/-
  Layer 15: what may be put: entries.
-/
import Derived.Test.YtoofjkhigonppaaDcK
namespace Go.Proofs.Ytoofjkhigonppaa
open Go.RowKit

theorem get_some' {α : Type} {l : List α} {k : Nat} (h : k < l.length) : ∃ x, l[k]? = some x := ⟨l[k], List.getElem?_eq_getElem h⟩
theorem take_snoc' {α : Type} {l : List α} {k : Nat} {x : α} (h : l[k]? = some x) : l.take (k + 1) = l.take k ++ [x] := by rw [List.take_add_one, h]; rfl
/-- Whole ones in range. -/
def InI (xs : List Int) : Prop := ∀ x ∈ xs, -9223372036854775808 ≤ x ∧ x ≤ 9223372036854775807
theorem all_take {α : Type} {p : α → Bool} {l : List α} {k : Nat} {x : α} (h : l[k]? = some x) (ht : (l.take k).all p = true) (hx : p x = true) : (l.take (k + 1)).all p = true := by
  rw [take_snoc' h, List.all_append, ht]
  simpa using hx
theorem all_not {α : Type} {p : α → Bool} {l : List α} {k : Nat} {x : α} (h : l[k]? = some x) (hx : p x = false) : l.all p = false := by
  rw [List.all_eq_false]
  exact ⟨x, List.mem_of_getElem? h, by simpa using hx⟩
def IxR (b : Bool) (e : Ending) : Prop := ∃ i : Int, e = .returned (.int .i64 i) ∧ (b = true → i = -1) ∧ (b = false → 0 ≤ i)
theorem ix_no {b : Bool} (h : b = true) : IxR b (.returned (.int .i64 (-1))) := ⟨_, rfl, fun _ => rfl, fun h2 => by rw [h] at h2; cases h2⟩
theorem ix_yes {b : Bool} {k : Nat} (h : b = false) : IxR b (.returned (.int .i64 k)) := ⟨_, rfl, (fun h2 => by rw [h] at h2; cases h2), fun _ => by omega⟩
theorem index_ints {w : World} {A : Option Addr} {c : Nat} {xs : List Int} (h : SlAt w A xs.length (xs.map (Value.int .i64))) (hi : InI xs) (hn : xs.length ≤ 17592186044416) :
    Calls Try.prog 59 #[.slice A xs.length c, .func (.func 48) #[] #[]] w fun e w' => IxR (xs.all wholeB) e ∧ w = w' := by
  have H := Lib.hid h
  have HI := Lib.hid hi
  clear h hi
  go_enter Try.func59, Try.ntmps59
  go_wp2_with fail
  go_loop [5, 8] (fun _ i => ∃ k : Nat, k ≤ xs.length ∧ i = .int .i64 k ∧ Hid ((xs.take k).all wholeB = true)) (fun _ i => xs.length - (intOf i).toNat)
  case atStart => exact ⟨0, Nat.zero_le _, rfl, Lib.hid rfl⟩
  case round =>
    obtain ⟨k, hk, rfl, HT⟩ := hrel
    by_cases hlt : k < xs.length
    · obtain ⟨x, hx⟩ := get_some' hlt
      obtain ⟨b, o, rfl, hb, hc⟩ := H.out.2 k hlt
      rw [List.getElem?_map, hx] at hc
      simp only [Option.map_some] at hc
      obtain ⟨x0, x1⟩ := HI.out x (List.mem_of_getElem? hx)
      have KN := fun w => notWhole_any x x0 x1 w
      have hnx := fun h => all_take (p := wholeB) hx HT.out h
      have hno := fun h => all_not (p := wholeB) hx h
      have HNX := Lib.hid hnx
      have HNO := Lib.hid hno
      obtain ⟨wx, hwx⟩ : ∃ wx, wholeB x = wx := ⟨_, rfl⟩
      rw [hwx] at KN
      have HW := Lib.hid hwx
      have HKN := Lib.hid KN
      clear KN hnx hno hwx hx
      cases wx
      · go_wp2_with (first | (go_at_call 48; (with_reducible refine (HKN.out _).mono ?_); rintro e w1 ⟨rfl, rfl⟩) | fail)
        go_ret
        exact ⟨ix_yes (HNO.out HW.out), rfl⟩
      · go_wp2_with (first | (go_at_call 48; (with_reducible refine (HKN.out _).mono ?_); rintro e w1 ⟨rfl, rfl⟩) | fail)
        go_round
        case rel => exact ⟨k + 1, by omega, by go_num, Lib.hid (HNX.out HW.out)⟩
        case measure => simp [intOf]; omega
    · obtain rfl : k = xs.length := by omega
      go_wp2_with fail
      go_ret
      have ht := HT.out
      rw [List.take_length] at ht
      exact ⟨ix_no ht, rfl⟩
theorem contains_ints {w : World} {A : Option Addr} {c : Nat} {xs : List Int} (h : SlAt w A xs.length (xs.map (Value.int .i64))) (hi : InI xs) (hn : xs.length ≤ 17592186044416) :
    Calls Try.prog 47 #[.slice A xs.length c, .func (.func 48) #[] #[]] w fun e w' => e = .returned (.bool (!xs.all wholeB)) ∧ w = w' := by
  have H := index_ints (c := c) h hi hn
  clear h hi
  generalize xs.all wholeB = b at *
  have HH := Lib.hid H
  clear H
  cases b
  all_goals
    go_enter Try.func47, Try.ntmps47
    go_wp2_with (first | (go_at_call 59; (with_reducible refine HH.out.mono ?_); rintro e w1 ⟨⟨i, rfl, hi1, hi2⟩, rfl⟩; simp at hi1 hi2) | fail)
    go_ret
    first
      | exact ⟨rfl, rfl⟩
      | (subst hi1; exact ⟨rfl, rfl⟩)
end Go.Proofs.Ytoofjkhigonppaa
