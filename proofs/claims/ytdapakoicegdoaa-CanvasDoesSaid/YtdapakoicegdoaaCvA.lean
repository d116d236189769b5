/-
  Layer 26: numbers, bytes, sides; a row of bytes that is written.
-/
import Derived.Test.YtdapakoicegdoaaBs
import Derived.Test.YtdapakoicegdoaaAffF
namespace Go.Proofs.Ytdapakoicegdoaa
open Go.RowKit

def byteB (x : Int) : Bool := decide (0 ≤ x) && decide (x ≤ 255)
def sideB (x : Int) : Bool := decide (1 ≤ x) && decide (x ≤ 4096)
def farB (x : Int) : Bool := decide (x < -1048576) || decide (1048576 < x)
theorem byteB_true {x : Int} : byteB x = true ↔ 0 ≤ x ∧ x ≤ 255 := by simp [byteB]
theorem sideB_true {x : Int} : sideB x = true ↔ 1 ≤ x ∧ x ≤ 4096 := by simp [sideB]
theorem farB_false {x : Int} : farB x = false ↔ -1048576 ≤ x ∧ x ≤ 1048576 := by simp [farB]
def mixI (d c m : Int) : Int := (d * (255 - m) + c * m + 127) / 255

theorem side_any (x : Int) (w : World) : Calls Try.prog 54 #[.int .i64 x] w fun e w' => e = .returned (.bool (sideB x)) ∧ w = w' := by
  have e : sideB x = (decide (1 ≤ x) && decide (x ≤ 4096)) := rfl
  rcases Int.lt_or_le x 1 with h | h
  · rw [e, decide_eq_false (by omega)]
    go_enter Try.func54, Try.ntmps54
    go_wp2
    go_ret
    exact ⟨rfl, rfl⟩
  · rw [e, decide_eq_true h]
    rcases Int.lt_or_le 4096 x with h2 | h2
    · rw [decide_eq_false (by omega)]
      go_enter Try.func54, Try.ntmps54
      go_wp2
      go_ret
      first | exact ⟨rfl, rfl⟩ | (refine ⟨ret_bool ?_, rfl⟩; simp; done) | (refine ⟨ret_bool ?_, rfl⟩; simp; omega)
    · rw [decide_eq_true h2]
      go_enter Try.func54, Try.ntmps54
      go_wp2
      go_ret
      first | exact ⟨rfl, rfl⟩ | (refine ⟨ret_bool ?_, rfl⟩; simp; done) | (refine ⟨ret_bool ?_, rfl⟩; simp; omega)

theorem cfar_any (x : Int) (w : World) : Calls Try.prog 58 #[.int .i64 x] w fun e w' => e = .returned (.bool (farB x)) ∧ w = w' := by
  have e : farB x = (decide (x < -1048576) || decide (1048576 < x)) := rfl
  rcases Int.lt_or_le x (-1048576) with h | h
  · rw [e, decide_eq_true h]
    go_enter Try.func58, Try.ntmps58
    go_wp2
    go_ret
    exact ⟨rfl, rfl⟩
  · rw [e, decide_eq_false (by omega)]
    go_enter Try.func58, Try.ntmps58
    go_wp2
    go_ret
    first | exact ⟨rfl, rfl⟩ | (refine ⟨ret_bool ?_, rfl⟩; simp; done) | (refine ⟨ret_bool ?_, rfl⟩; simp; omega)

theorem rIs_any (x : Int) (w : World) : Calls Try.prog 20 #[.int .i64 x] w fun e w' => e = .returned (.bool (byteB x)) ∧ w = w' := by
  have e : byteB x = (decide (0 ≤ x) && decide (x ≤ 255)) := rfl
  rcases Int.lt_or_le x 0 with h | h
  · rw [e, decide_eq_false (by omega)]
    go_enter Try.func20, Try.ntmps20
    go_wp2
    go_ret
    exact ⟨rfl, rfl⟩
  · rw [e, decide_eq_true h]
    go_enter Try.func20, Try.ntmps20
    go_wp2
    go_ret
    first | exact ⟨rfl, rfl⟩ | (refine ⟨ret_bool ?_, rfl⟩; simp; done) | (refine ⟨ret_bool ?_, rfl⟩; simp; omega)

theorem lfar_any (x : Int) (w : World) : Calls Try.prog 71 #[.int .i64 x] w fun e w' => e = .returned (.bool (farB x)) ∧ w = w' := by
  have e : farB x = (decide (x < -1048576) || decide (1048576 < x)) := rfl
  rcases Int.lt_or_le x (-1048576) with h | h
  · rw [e, decide_eq_true h]
    go_enter Try.func71, Try.ntmps71
    go_wp2
    go_ret
    exact ⟨rfl, rfl⟩
  · rw [e, decide_eq_false (by omega)]
    go_enter Try.func71, Try.ntmps71
    go_wp2
    go_ret
    first | exact ⟨rfl, rfl⟩ | (refine ⟨ret_bool ?_, rfl⟩; simp; done) | (refine ⟨ret_bool ?_, rfl⟩; simp; omega)

/-- isByte over any numbers. -/
theorem isByte_any (w : World) (b c n : Nat) (xs : List Int) (hn : xs.length = n) (hs : n ≤ 1000) (h : ∀ i, i < n → w.cell? ⟨b, i, none⟩ = some (.int .i64 (xs[i]?.getD 0))) :
    Calls Try.prog 55 #[.slice (some ⟨b, 0, none⟩) n c] w fun e w' => e = .returned (.bool (xs.all byteB)) ∧ w = w' := by
  have HH := Lib.hid h
  have HN := Lib.hid hn
  clear h hn
  go_enter Try.func55, Try.ntmps55
  go_wp2
  go_loop [4, 7] (fun _ i => ∃ k : Nat, k ≤ n ∧ i = .int .i64 k ∧ (xs.take k).all byteB = true) (fun _ i => n - (intOf i).toNat)
  case atStart => exact ⟨0, Nat.zero_le _, rfl, rfl⟩
  case round =>
    obtain ⟨k, hk, rfl, hall⟩ := hrel
    have HA := Lib.hid hall
    clear hall
    by_cases hlt : k < n
    · have hc := HH.out k hlt
      obtain ⟨x, hx⟩ : ∃ x, xs[k]?.getD 0 = x := ⟨_, rfl⟩
      rw [hx] at hc
      have hxs : xs[k]? = some x := by
        have h1 : k < xs.length := by have := HN.out; omega
        rw [List.getElem?_eq_getElem h1] at hx ⊢
        simpa using hx
      have HX := Lib.hid hxs
      clear hx hxs
      rcases Bool.eq_false_or_eq_true (byteB x) with hb | hb
      · have hb' := byteB_true.1 hb
        have HB := Lib.hid hb
        clear hb
        go_wp2
        go_round
        case rel => exact ⟨k + 1, by omega, by go_num, by rw [List.take_add_one, HX.out]; simp [HA.out, HB.out]⟩
        case measure => simp [intOf]; omega
      · have hb' : x < 0 ∨ 255 < x := by
          have : ¬ (0 ≤ x ∧ x ≤ 255) := fun h => by rw [byteB_true.2 h] at hb; cases hb
          omega
        have HB := Lib.hid hb
        have HF : Hid (xs.all byteB = false) := Lib.hid (by
          rw [List.all_eq_false]
          exact ⟨x, List.mem_of_getElem? HX.out, by rw [HB.out]; decide⟩)
        clear hb
        rcases hb' with h1 | h1
        · go_wp2
          go_ret
          exact ⟨ret_bool HF.out.symm, rfl⟩
        · have h2 : 0 ≤ x := by omega
          go_wp2
          go_ret
          exact ⟨ret_bool HF.out.symm, rfl⟩
    · obtain rfl : k = n := by omega
      go_wp2
      go_ret
      exact ⟨ret_bool (by have h := HA.out; rw [← HN.out, List.take_length] at h; exact h.symm), rfl⟩

theorem mul_le255 {a b : Int} (h1 : 0 ≤ a) (h2 : a ≤ 255) (h3 : 0 ≤ b) (h4 : b ≤ 255) : 0 ≤ a * b ∧ a * b ≤ 65025 := by
  have h5 : a * b ≤ a * 255 := Int.mul_le_mul_of_nonneg_left h4 h1
  exact ⟨Int.mul_nonneg h1 h3, by omega⟩

theorem mix_any (d c m : Int) (w : World) (hd : 0 ≤ d ∧ d ≤ 255) (hc : 0 ≤ c ∧ c ≤ 255) (hm : 0 ≤ m ∧ m ≤ 255) :
    Calls Try.prog 62 #[.int .i64 d, .int .i64 c, .int .i64 m] w fun e w' => e = .returned (.int .i64 (mixI d c m)) ∧ w = w' := by
  have h1 := mul_le255 (a := d) (b := 255 - m) hd.1 hd.2 (by omega) (by omega)
  have h2 := mul_le255 (a := c) (b := m) hc.1 hc.2 hm.1 hm.2
  have E : Hid (mixI d c m = (d * (255 - m) + c * m + 127) / 255) := Lib.hid rfl
  obtain ⟨p, hp⟩ : ∃ p, d * (255 - m) = p := ⟨_, rfl⟩
  obtain ⟨q, hq⟩ : ∃ q, c * m = q := ⟨_, rfl⟩
  rw [hp] at h1
  rw [hq] at h2
  have hpp : wrap64 (d * (255 - m)) = p := by rw [hp]; exact IntWalk.wrap64_in _ (by omega)
  have hqq : wrap64 (c * m) = q := by rw [hq]; exact IntWalk.wrap64_in _ (by omega)
  have EP := Lib.hid hp
  have EQ := Lib.hid hq
  clear hp hq
  go_enter Try.func62, Try.ntmps62
  go_wp2
  go_ret
  exact ⟨ret_int (by rw [E.out, EP.out, EQ.out]), rfl⟩

end Go.Proofs.Ytdapakoicegdoaa
