/-
  Layer 22: closed lines in memory; how many dots they have; whether they may be.
-/
import Derived.Test.YtbflncfhbmlibaaCoD
import Derived.Test.YtbflncfhbmlibaaFlatB
import Derived.Test.YtbflncfhbmlibaaLists

namespace Go.Proofs.Ytbflncfhbmlibaa

open Go.RowKit

theorem ret_bool' {a b : Bool} (h : a = b) : Ending.returned (.bool a) = Ending.returned (.bool b) := by rw [h]

theorem ret_int' {a b : Int} (h : a = b) : Ending.returned (.int .i64 a) = Ending.returned (.int .i64 b) := by rw [h]

def fitD (x : Int) : Bool := decide (-1048576 ≤ x) && decide (x ≤ 1048576)

theorem fitD_true {x : Int} : fitD x = true ↔ -1048576 ≤ x ∧ x ≤ 1048576 := by simp [fitD]

section

variable (x : Int) (w : World)

theorem fits21_any : Calls Try.prog 42 #[.int .i64 x] w fun e w' => e = .returned (.bool (fitD x)) ∧ w = w' := by
  have e : fitD x = (decide (-1048576 ≤ x) && decide (x ≤ 1048576)) := rfl
  rcases Int.lt_or_le x (-1048576) with h | h
  · rw [e, decide_eq_false (by omega)]
    go_enter Try.func42, Try.ntmps42
    go_wp2
    go_ret
    exact ⟨rfl, rfl⟩
  · rw [e, decide_eq_true h]
    go_enter Try.func42, Try.ntmps42
    go_wp2
    go_ret
    first | exact ⟨rfl, rfl⟩ | (refine ⟨ret_bool' ?_, rfl⟩; simp; done) | (refine ⟨ret_bool' ?_, rfl⟩; simp; omega)

theorem flatWithin_any : Calls Try.prog 89 #[.int .i64 x] w fun e w' => e = .returned (.bool (fitD x)) ∧ w = w' := by
  have e : fitD x = (decide (-1048576 ≤ x) && decide (x ≤ 1048576)) := rfl
  rcases Int.lt_or_le x (-1048576) with h | h
  · rw [e, decide_eq_false (by omega)]
    go_enter Try.func89, Try.ntmps89
    go_wp2
    go_ret
    exact ⟨rfl, rfl⟩
  · rw [e, decide_eq_true h]
    go_enter Try.func89, Try.ntmps89
    go_wp2
    go_ret
    first | exact ⟨rfl, rfl⟩ | (refine ⟨ret_bool' ?_, rfl⟩; simp; done) | (refine ⟨ret_bool' ?_, rfl⟩; simp; omega)

end

theorem fmayDot_any (x y : Int) (w : World) : Calls Try.prog 75 #[.agg #[.int .i64 x, .int .i64 y]] w fun e w' => e = .returned (.bool (fitD x && fitD y)) ∧ Below w.heap.size w w' := by
  have K := Lib.hid flatWithin_any
  have HB0 := Lib.hid (bel_alloc (o := .cells #[.int .i64 x, .int .i64 y] 37) (bel_refl (a := w)))
  rcases Bool.eq_false_or_eq_true (fitD x) with h | h
  · have KX := Lib.hid (flatWithin_any x)
    rw [h] at KX
    go_enter Try.func75, Try.ntmps75
    go_wp2_with (first | (go_at_call 89; (with_reducible refine (KX.out _).mono ?_); rintro e w1 ⟨rfl, rfl⟩) | (go_at_call 89; (with_reducible refine (K.out y _).mono ?_); rintro e w1 ⟨rfl, rfl⟩))
    go_ret
    exact ⟨ret_bool' (by simp [h]), HB0.out.below⟩
  · have KX := Lib.hid (flatWithin_any x)
    rw [h] at KX
    go_enter Try.func75, Try.ntmps75
    go_wp2_with (first | (go_at_call 89; (with_reducible refine (KX.out _).mono ?_); rintro e w1 ⟨rfl, rfl⟩) | (go_at_call 89; (with_reducible refine (K.out y _).mono ?_); rintro e w1 ⟨rfl, rfl⟩))
    go_ret
    exact ⟨ret_bool' (by simp [h]), HB0.out.below⟩

/-- Dots in memory. -/
def Ds (w : World) (A : Option Addr) (l : List Dt) : Prop :=
  ∀ k d, l[k]? = some d → ∃ b o, A = some ⟨b, o, none⟩ ∧ b < w.heap.size ∧ w.cell? ⟨b, o + k * 2, none⟩ = some (.int .i64 d.1) ∧ w.cell? ⟨b, o + k * 2 + 1, none⟩ = some (.int .i64 d.2)

theorem Ds.keep {w w' : World} {A : Option Addr} {l : List Dt} (h : Ds w A l) (hb : Below w.heap.size w w') : Ds w' A l := fun k d hd => by
  obtain ⟨b, o, hA, hlt, h1, h2⟩ := h k d hd
  exact ⟨b, o, hA, Nat.lt_of_lt_of_le hlt hb.size, (hb.cell (p := ⟨b, _, none⟩) hlt).trans h1, (hb.cell (p := ⟨b, _, none⟩) hlt).trans h2⟩

/-- Closed lines in memory. -/
def Dl (w : World) (A : Option Addr) (ls : List (List Dt)) : Prop :=
  ∀ i l, ls[i]? = some l → ∃ b o Ai ci, A = some ⟨b, o, none⟩ ∧ b < w.heap.size ∧ w.cell? ⟨b, o + i, none⟩ = some (.slice Ai l.length ci) ∧ Ds w Ai l ∧ l.length ≤ 8796093022208

theorem Dl.keep {w w' : World} {A : Option Addr} {ls : List (List Dt)} (h : Dl w A ls) (hb : Below w.heap.size w w') : Dl w' A ls := fun i l hl => by
  obtain ⟨b, o, Ai, ci, hA, hlt, h1, h2, h3⟩ := h i l hl
  exact ⟨b, o, Ai, ci, hA, Nat.lt_of_lt_of_le hlt hb.size, (hb.cell (p := ⟨b, _, none⟩) hlt).trans h1, h2.keep hb, h3⟩

/-- The closed lines of an argument. -/
theorem lines_of {w : World} {A : Option Addr} {n : Nat} (h : ∀ i, i < n → ∃ b o, A = some ⟨b, o, none⟩ ∧ b < w.heap.size ∧ CellsOk w [.sl 16 [.int .i64, .int .i64]] (fun j => w.cell? ⟨b, o + (i * [CK.sl 16 [.int .i64, .int .i64]].length + j), none⟩)) :
    ∃ ls : List (List Dt), ls.length = n ∧ Dl w A ls := by
  obtain ⟨ls, hl, hp⟩ := list_of (p := fun i (l : List Dt) => ∃ b o Ai ci, A = some ⟨b, o, none⟩ ∧ b < w.heap.size ∧ w.cell? ⟨b, o + i, none⟩ = some (.slice Ai l.length ci) ∧ Ds w Ai l ∧ l.length ≤ 8796093022208) n (fun i hi => by
    obtain ⟨b, o, hA, hb, hc⟩ := h i hi
    simp only [CellsOk, and_true, Nat.add_zero, List.length_cons, List.length_nil, Nat.zero_add, Nat.mul_one] at hc
    obtain ⟨v, hv, hk⟩ := hc
    rw [CellOk] at hk
    obtain ⟨A', m, c', rfl, h1, h2, h3, h4⟩ := hk
    obtain ⟨l, hl, hq⟩ := list_of (p := fun k (d : Dt) => ∃ b o, A' = some ⟨b, o, none⟩ ∧ b < w.heap.size ∧ w.cell? ⟨b, o + k * 2, none⟩ = some (.int .i64 d.1) ∧ w.cell? ⟨b, o + k * 2 + 1, none⟩ = some (.int .i64 d.2)) m (fun k hk => by
      obtain ⟨b', o', hA', hb', hc'⟩ := h4 k hk
      simp only [CellsOk, and_true, Nat.add_zero, List.length_cons, List.length_nil, Nat.zero_add] at hc'
      obtain ⟨⟨u, hu, ku⟩, v, hv', kv⟩ := hc'
      simp only [CellOk] at ku kv
      obtain ⟨x, rfl, -⟩ := ku
      obtain ⟨y, rfl, -⟩ := kv
      exact ⟨(x, y), b', o', hA', hb', hu, by rw [Nat.add_assoc]; exact hv'⟩)
    subst hl
    exact ⟨l, b, o, A', c', hA, hb, hv, hq, by omega⟩)
  exact ⟨ls, hl, hp⟩

/-- How many dots. -/
def cnt (ls : List (List Dt)) : Nat := (ls.map List.length).sum

theorem cnt_snoc {ls : List (List Dt)} {k : Nat} {l : List Dt} (h : ls[k]? = some l) : cnt (ls.take (k + 1)) = cnt (ls.take k) + l.length := by
  rw [List.take_add_one, h]
  simp [cnt]

theorem cnt_take (ls : List (List Dt)) (k : Nat) : cnt (ls.take k) ≤ cnt ls := by
  have h : cnt ls = cnt (ls.take k) + cnt (ls.drop k) := by
    have : cnt (ls.take k ++ ls.drop k) = cnt (ls.take k) + cnt (ls.drop k) := by unfold cnt; rw [List.map_append, List.sum_append]
    rwa [List.take_append_drop] at this
  omega

theorem cnt_le (ls : List (List Dt)) (M : Nat) (h : ∀ l ∈ ls, l.length ≤ M) : ∀ k, cnt (ls.take k) ≤ k * M
  | 0 => by simp [cnt]
  | k + 1 => by
    have ih := cnt_le ls M h k
    rw [Nat.succ_mul]
    rcases Nat.lt_or_ge k ls.length with hk | hk
    · have hg : ls[k]? = some ls[k] := List.getElem?_eq_getElem hk
      rw [cnt_snoc hg]
      have := h _ (List.getElem_mem hk)
      omega
    · rw [List.take_of_length_le (by omega)] at ih ⊢
      omega

theorem Dl.small {w : World} {A : Option Addr} {ls : List (List Dt)} (h : Dl w A ls) : ∀ l ∈ ls, l.length ≤ 8796093022208 := fun l hl => by
  obtain ⟨i, hi⟩ := List.getElem?_of_mem hl
  obtain ⟨_, _, _, _, _, _, _, _, h3⟩ := h i l hi
  exact h3

theorem cnt_mem {ls : List (List Dt)} {k : Nat} {l : List Dt} (h : ls[k]? = some l) : l.length ≤ cnt ls := by
  have h1 := cnt_snoc h
  have h2 := cnt_take ls (k + 1)
  omega

def fitDt (d : Dt) : Bool := fitD d.1 && fitD d.2

def mayL (ls : List (List Dt)) : Bool := ls.all fun c => c.all fitDt

def mayE (ls : List (List Dt)) : Int := if mayL ls = true then 0 else 10

theorem get_some {α : Type} {l : List α} {k : Nat} (h : k < l.length) : ∃ x, l[k]? = some x := ⟨l[k], List.getElem?_eq_getElem h⟩

theorem all_snoc {α : Type} {p : α → Bool} {l : List α} {k : Nat} {x : α} (h : l[k]? = some x) : (l.take (k + 1)).all p = ((l.take k).all p && p x) := by
  rw [List.take_add_one, h]; simp

theorem all_no {α : Type} {p : α → Bool} {l : List α} {k : Nat} {x : α} (h : l[k]? = some x) (hp : p x = false) : l.all p = false := by
  rw [List.all_eq_false]
  exact ⟨x, List.mem_of_getElem? h, by rw [hp]; decide⟩

section

variable {w : World} {A : Option Addr} {c : Nat} {ls : List (List Dt)}

set_option maxRecDepth 20000 in
theorem Count_any (h : Dl w A ls) (hn : ls.length ≤ 1000) : Calls Try.prog 29 #[.slice A ls.length c] w fun e w' => e = .returned (.int .i64 (cnt ls)) ∧ w = w' := by
  have HL := Lib.hid h
  have HM := Lib.hid (cnt_le ls _ h.small)
  clear h
  go_enter Try.func29, Try.ntmps29
  go_wp2
  go_loop [3, 4] (fun n i => ∃ k : Nat, k ≤ ls.length ∧ i = .int .i64 k ∧ n = .int .i64 (cnt (ls.take k))) (fun _ i => ls.length - (intOf i).toNat)
  case atStart => exact ⟨0, Nat.zero_le _, rfl, rfl⟩
  case round =>
    obtain ⟨k, hk, rfl, rfl⟩ := hrel
    by_cases hlt : k < ls.length
    · obtain ⟨l, hl⟩ := get_some hlt
      obtain ⟨b, o, Ai, ci, rfl, hb, hc, hd, hs⟩ := HL.out k l hl
      have hsn := cnt_snoc hl
      have hm := HM.out (k + 1)
      have HS := Lib.hid hsn
      have hm' : cnt (ls.take k) + l.length ≤ 1000 * 8796093022208 := by
        rw [hsn] at hm
        exact Nat.le_trans hm (Nat.mul_le_mul_right _ (by omega))
      have HD := Lib.hid hd
      clear hl hsn hm hd
      go_wp2
      go_round
      case rel => exact ⟨k + 1, by omega, by go_num, by rw [HS.out]; go_num⟩
      case measure => simp [intOf]; omega
    · obtain rfl : k = ls.length := by omega
      have HT : Hid (ls.take ls.length = ls) := Lib.hid (List.take_of_length_le (Nat.le_refl _))
      go_wp2
      go_ret
      exact ⟨ret_int' (by first | rfl | rw [HT.out]), rfl⟩

set_option maxRecDepth 20000 in
set_option maxHeartbeats 2000000 in
theorem rMay21_any (h : Dl w A ls) (hn : ls.length ≤ 1000) (hc : cnt ls ≤ 1000) : Calls Try.prog 28 #[.slice A ls.length c] w fun e w' => e = .returned (.int .i64 (mayE ls)) ∧ w = w' := by
  have K := Lib.hid (Count_any (c := c) h hn)
  have KF := Lib.hid fits21_any
  have HL := Lib.hid h
  have HC := Lib.hid hc
  have hc' : ((cnt ls : Nat) : Int) ≤ 1000 := by omega
  clear h hc
  go_enter Try.func28, Try.ntmps28
  go_wp2_with (first | (go_at_call 29; (with_reducible refine (K.out).mono ?_); rintro e w1 ⟨rfl, rfl⟩))
  clear hc'
  go_loop [3] (fun i => ∃ k : Nat, k ≤ ls.length ∧ i = .int .i64 k ∧ mayL (ls.take k) = true) (fun i => ls.length - (intOf i).toNat)
  case atStart => exact ⟨0, Nat.zero_le _, rfl, rfl⟩
  case round =>
    obtain ⟨k, hk, rfl, hm⟩ := hrel
    have HM := Lib.hid hm
    clear hm
    by_cases hlt : k < ls.length
    · obtain ⟨l, hl⟩ := get_some hlt
      obtain ⟨b, o, Ai, ci, hA, hb, hcl, hd, hs⟩ := HL.out k l hl
      have HLL := Lib.hid hl
      have HD := Lib.hid hd
      subst hA
      clear hl hd
      go_wp2
      go_loop [4] (fun i => ∃ j : Nat, j ≤ l.length ∧ i = .int .i64 j ∧ (l.take j).all fitDt = true) (fun i => l.length - (intOf i).toNat)
      case atStart => exact ⟨0, Nat.zero_le _, rfl, rfl⟩
      case round =>
        obtain ⟨j, hj, rfl, hm⟩ := hrel
        have HJ := Lib.hid hm
        clear hm
        by_cases hlt2 : j < l.length
        · obtain ⟨⟨x, y⟩, hx⟩ := get_some hlt2
          obtain ⟨b', o', hA', hb', hx1, hy1⟩ := HD.out j _ hx
          have HX := Lib.hid hx
          subst hA'
          dsimp only at hx1 hy1
          clear hx
          have KX := Lib.hid (KF.out x)
          have KY := Lib.hid (KF.out y)
          have E : Hid (fitDt (x, y) = (fitD x && fitD y)) := Lib.hid rfl
          rcases Bool.eq_false_or_eq_true (fitD x) with h1 | h1
          · rcases Bool.eq_false_or_eq_true (fitD y) with h2 | h2
            · rw [h1] at KX
              rw [h2] at KY
              rw [h1, h2] at E
              clear h1 h2
              go_wp2_with (first | (go_at_call 42; (with_reducible refine (KX.out _).mono ?_); rintro e w1 ⟨rfl, rfl⟩) | (go_at_call 42; (with_reducible refine (KY.out _).mono ?_); rintro e w1 ⟨rfl, rfl⟩))
              go_round
              case rel => exact ⟨j + 1, by omega, by go_num, by rw [all_snoc HX.out, HJ.out, E.out]; rfl⟩
              case measure => simp [intOf]; omega
            · rw [h1] at KX
              rw [h2] at KY
              rw [h1, h2] at E
              have HF : Hid (mayE ls = 10) := Lib.hid (by unfold mayE mayL; rw [all_no HLL.out (all_no HX.out E.out)]; rfl)
              clear h1 h2
              go_wp2_with (first | (go_at_call 42; (with_reducible refine (KX.out _).mono ?_); rintro e w1 ⟨rfl, rfl⟩) | (go_at_call 42; (with_reducible refine (KY.out _).mono ?_); rintro e w1 ⟨rfl, rfl⟩))
              go_ret
              exact ⟨ret_int' HF.out.symm, rfl⟩
          · rw [h1] at KX
            rw [h1] at E
            have HF : Hid (mayE ls = 10) := Lib.hid (by unfold mayE mayL; rw [all_no HLL.out (all_no HX.out E.out)]; rfl)
            clear h1
            go_wp2_with (first | (go_at_call 42; (with_reducible refine (KX.out _).mono ?_); rintro e w1 ⟨rfl, rfl⟩))
            go_ret
            exact ⟨ret_int' HF.out.symm, rfl⟩
        · obtain rfl : j = l.length := by omega
          have HT : Hid (l.all fitDt = true) := Lib.hid (by rw [← HJ.out, List.take_of_length_le (Nat.le_refl _)])
          go_wp2
          go_round
          case rel => exact ⟨k + 1, by omega, by go_num, by
            have h1 := HM.out
            unfold mayL at h1 ⊢
            rw [all_snoc HLL.out, h1, HT.out]; rfl⟩
          case measure => simp [intOf]; omega
    · obtain rfl : k = ls.length := by omega
      have HF : Hid (mayE ls = 0) := Lib.hid (by
        have h1 := HM.out
        rw [List.take_of_length_le (Nat.le_refl _)] at h1
        unfold mayE
        rw [h1]; rfl)
      go_wp2
      go_ret
      exact ⟨ret_int' HF.out.symm, rfl⟩

end

end Go.Proofs.Ytbflncfhbmlibaa
