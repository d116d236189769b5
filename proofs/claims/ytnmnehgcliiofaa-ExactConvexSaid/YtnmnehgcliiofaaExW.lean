/-
  How often a sign changes: the program's.
-/
import Derived.Test.YtnmnehgcliiofaaExF
import Derived.Test.YtnmnehgcliiofaaSlice
import Derived.Test.YtnmnehgcliiofaaExG
namespace Go.Proofs.Ytnmnehgcliiofaa
open Go.RowKit

def chN (n last x : Int) : Int := if x ≠ 0 ∧ last ≠ 0 ∧ (decide (0 < x) != decide (0 < last)) = true then n + 1 else n
def chL (last x : Int) : Int := if x ≠ 0 then x else last
def chS (p : Int × Int) (x : Int) : Int × Int := (chN p.1 p.2 x, chL p.2 x)
def chF (p : Int × Int) (l : List Int) : Int × Int := l.foldl chS p
def chgE (l : List Int) : Int := (chF (0, (chF (0, 0) l).2) l).1
theorem chF_snoc {p : Int × Int} {l : List Int} {k : Nat} {x : Int} (h : l[k]? = some x) : chF p (l.take (k + 1)) = chS (chF p (l.take k)) x := by
  rw [take_snoc h]
  simp [chF]
theorem chF_bd (p : Int × Int) (l : List Int) : p.1 ≤ (chF p l).1 ∧ (chF p l).1 ≤ p.1 + l.length := by
  induction l generalizing p with
  | nil => simp [chF]
  | cons x l ih =>
    have h := ih (chS p x)
    have h2 : p.1 ≤ (chS p x).1 ∧ (chS p x).1 ≤ p.1 + 1 := by unfold chS chN; dsimp only; split <;> omega
    unfold chF at *
    rw [List.foldl_cons, List.length_cons]
    omega

set_option maxRecDepth 20000 in
set_option maxHeartbeats 2000000 in
theorem changes_any {w : World} {A : Option Addr} {c : Nat} {l : List Int} (h : SlAt w A l.length (l.map (Value.int .i64))) (hl : l.length ≤ 1000) :
    Calls Try.prog 72 #[.slice A l.length c] w fun e w' => e = .returned (.int .i64 (chgE l)) ∧ w = w' := by
  have HH := Lib.hid h
  clear h
  go_enter Try.func72, Try.ntmps72
  go_wp2
  go_loop [3, 4, 7] (fun n last i => ∃ k : Nat, k ≤ 2 ∧ i = .int .i64 k ∧ ∃ a b : Int, n = .int .i64 a ∧ last = .int .i64 b ∧ (k = 0 ∧ b = 0 ∨ k = 1 ∧ b = (chF (0, 0) l).2 ∨ k = 2 ∧ a = chgE l)) (fun _ _ i => 2 - (intOf i).toNat)
  case atStart => exact ⟨0, by omega, rfl, 0, 0, rfl, rfl, .inl ⟨rfl, rfl⟩⟩
  case round =>
    obtain ⟨k, hk, rfl, a, b, rfl, rfl, hab⟩ := hrel
    have HAB := Lib.hid hab
    clear hab
    by_cases hlt : k < 2
    · have hk2 : (k : Int) < 2 := by omega
      go_wp2
      go_loop [3, 4, 11] (fun n last i => ∃ j : Nat, j ≤ l.length ∧ i = .int .i64 j ∧ n = .int .i64 (chF (0, b) (l.take j)).1 ∧ last = .int .i64 (chF (0, b) (l.take j)).2) (fun _ _ i => l.length - (intOf i).toNat)
      case atStart => exact ⟨0, Nat.zero_le _, rfl, rfl, rfl⟩
      case round =>
        obtain ⟨j, hj, rfl, rfl, rfl⟩ := hrel
        by_cases hlt2 : j < l.length
        · obtain ⟨x, hx⟩ := get_some hlt2
          obtain ⟨bb, o, rfl, hb, hc⟩ := HH.out.2 j hlt2
          rw [List.getElem?_map, hx] at hc
          simp at hc
          have hsn := chF_snoc (p := (0, b)) hx
          have hbd := chF_bd (0, b) (l.take j)
          have hlj : (l.take j).length ≤ 1000 := by rw [List.length_take]; omega
          obtain ⟨m, hm⟩ : ∃ m, (chF (0, b) (l.take j)).1 = m := ⟨_, rfl⟩
          obtain ⟨q, hq⟩ : ∃ q, (chF (0, b) (l.take j)).2 = q := ⟨_, rfl⟩
          have hmm : 0 ≤ m ∧ m ≤ 1000 := by rw [hm] at hbd; dsimp only at hbd; omega
          have e1 : (chF (0, b) (l.take (j + 1))).1 = chN m q x := by rw [hsn, chS, hm, hq]
          have e2 : (chF (0, b) (l.take (j + 1))).2 = chL q x := by rw [hsn, chS, hq]
          obtain ⟨n', hn'⟩ : ∃ n', chN m q x = n' := ⟨_, rfl⟩
          obtain ⟨q', hq'⟩ : ∃ q', chL q x = q' := ⟨_, rfl⟩
          have key : (x = 0 ∧ n' = m ∧ q' = q) ∨ (x ≠ 0 ∧ q = 0 ∧ n' = m ∧ q' = x) ∨ (0 < x ∧ 0 < q ∧ n' = m ∧ q' = x) ∨ (0 < x ∧ q < 0 ∧ n' = m + 1 ∧ q' = x) ∨ (x < 0 ∧ 0 < q ∧ n' = m + 1 ∧ q' = x) ∨ (x < 0 ∧ q < 0 ∧ n' = m ∧ q' = x) := by
            rw [← hn', ← hq']
            unfold chN chL
            by_cases h0 : x = 0
            · simp [h0]
            · by_cases h1 : q = 0
              · simp [h0, h1]
              · have hd : (decide (0 < x) != decide (0 < q)) = true ↔ ¬ (0 < x ↔ 0 < q) := by simp
                rw [if_pos h0]
                by_cases h2 : (0 < x ↔ 0 < q)
                · rw [if_neg (by rw [hd]; exact fun h => h.2.2 h2)]
                  omega
                · rw [if_pos ⟨h0, h1, hd.2 h2⟩]
                  omega
          rw [hn'] at e1
          rw [hq'] at e2
          rw [hm, hq]
          have E1 := Lib.hid e1
          have E2 := Lib.hid e2
          clear hsn hbd hlj hm hq e1 e2 hx hn' hq'
          rcases key with ⟨rfl, rfl, rfl⟩ | ⟨h1, rfl, rfl, rfl⟩ | ⟨h1, h2, rfl, rfl⟩ | ⟨h1, h2, rfl, rfl⟩ | ⟨h1, h2, rfl, rfl⟩ | ⟨h1, h2, rfl, rfl⟩
          all_goals
            try (have g1 : (q' != 0) = true := by (rw [bne_iff_ne]; omega))
            try (have g2 : (q != 0) = true := by (rw [bne_iff_ne]; omega))
            try (have g3 : decide (0 < q') = true := by (apply decide_eq_true; omega))
            try (have g3 : decide (0 < q') = false := by (apply decide_eq_false; omega))
            try (have g4 : decide (0 < q) = true := by (apply decide_eq_true; omega))
            try (have g4 : decide (0 < q) = false := by (apply decide_eq_false; omega))
            go_wp2
            go_round
            case rel => exact ⟨j + 1, by omega, by go_num, by rw [E1.out], by rw [E2.out]⟩
            case measure => simp [intOf]; omega
        · obtain rfl : j = l.length := by omega
          have hT : l.take l.length = l := List.take_of_length_le (Nat.le_refl _)
          have hab : (k + 1 = 1 ∧ (chF (0, b) l).2 = (chF (0, 0) l).2) ∨ (k + 1 = 2 ∧ (chF (0, b) l).1 = chgE l) := by
            rcases HAB.out with ⟨h1, h2⟩ | ⟨h1, h2⟩ | ⟨h1, h2⟩
            · left; rw [h2]; exact ⟨by omega, rfl⟩
            · right; rw [h2]; exact ⟨by omega, rfl⟩
            · omega
          rw [hT]
          have HAB2 := Lib.hid hab
          clear hT hab
          go_wp2
          go_round
          case rel => exact ⟨k + 1, by omega, by go_num, _, _, rfl, rfl, .inr HAB2.out⟩
          case measure => simp [intOf]; omega
    · obtain rfl : k = 2 := by omega
      have ha : a = chgE l := by
        rcases HAB.out with ⟨h1, _⟩ | ⟨h1, _⟩ | ⟨_, h2⟩
        · omega
        · omega
        · exact h2
      have HA := Lib.hid ha
      clear ha
      go_wp2
      go_ret
      exact ⟨ret_int' HA.out, rfl⟩
end Go.Proofs.Ytnmnehgcliiofaa
