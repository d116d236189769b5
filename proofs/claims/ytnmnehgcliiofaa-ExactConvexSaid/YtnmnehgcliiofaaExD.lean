/-
  Layer 24: Touches, and the document's.
-/
import Derived.Test.YtnmnehgcliiofaaExC
namespace Go.Proofs.Ytnmnehgcliiofaa
open Go.RowKit

theorem near_any (w : World) (b c n : Nat) (xs : List Int) (hn : xs.length = n) (hs : n ≤ 1000) (h : ∀ i, i < n → w.cell? ⟨b, i, none⟩ = some (.int .i64 (xs[i]?.getD 0))) :
    Calls Try.prog 62 #[.slice (some ⟨b, 0, none⟩) n c] w fun e w' => e = .returned (.bool (xs.all fit2)) ∧ w = w' := by
  have HH := Lib.hid h
  have HN := Lib.hid hn
  have KW : ∀ x w, Calls Try.prog 57 #[.int .i64 x, .int .i64 (-2097152), .int .i64 2097152] w fun e w' => e = .returned (.bool (fit2 x)) ∧ w = w' := fun x w => by
    have := within_any x (-2097152) 2097152 w
    rwa [show withB x (-2097152) 2097152 = fit2 x by rw [Bool.eq_iff_iff, withB_true, fit2_true]; omega] at this
  replace KW := Lib.hid KW
  clear h hn
  go_enter Try.func62, Try.ntmps62
  go_wp2
  go_loop [4, 7] (fun _ i => ∃ k : Nat, k ≤ n ∧ i = .int .i64 k ∧ (xs.take k).all fit2 = true) (fun _ i => n - (intOf i).toNat)
  case atStart => exact ⟨0, Nat.zero_le _, rfl, rfl⟩
  case round =>
    obtain ⟨k, hk, rfl, hall⟩ := hrel
    have HA := Lib.hid hall
    clear hall
    by_cases hlt : k < n
    · have hc := HH.out k hlt
      obtain ⟨x, hx⟩ : ∃ x, xs[k]?.getD 0 = x := ⟨_, rfl⟩
      rw [hx] at hc
      have hxs : xs[k]? = some x := by
        have h1 : k < xs.length := by have := HN.out; omega
        rw [List.getElem?_eq_getElem h1] at hx ⊢
        simpa using hx
      have HX := Lib.hid hxs
      have KX := Lib.hid (KW.out x)
      clear hx hxs
      rcases Bool.eq_false_or_eq_true (fit2 x) with hb | hb
      · rw [hb] at KX
        have HB := Lib.hid hb
        clear hb
        go_wp2_with (first | (go_at_call 57; (with_reducible refine (KX.out _).mono ?_); rintro e w1 ⟨rfl, rfl⟩))
        go_round
        case rel => exact ⟨k + 1, by omega, by go_num, by rw [List.take_add_one, HX.out]; simp [HA.out, HB.out]⟩
        case measure => simp [intOf]; omega
      · rw [hb] at KX
        have HF : Hid (xs.all fit2 = false) := Lib.hid (by
          rw [List.all_eq_false]
          exact ⟨x, List.mem_of_getElem? HX.out, by rw [hb]; decide⟩)
        clear hb
        go_wp2_with (first | (go_at_call 57; (with_reducible refine (KX.out _).mono ?_); rintro e w1 ⟨rfl, rfl⟩))
        go_ret
        exact ⟨ret_bool' HF.out.symm, rfl⟩
    · obtain rfl : k = n := by omega
      go_wp2
      go_ret
      exact ⟨ret_bool' (by rw [← HA.out, List.take_of_length_le (by have := HN.out; omega)]), rfl⟩

def nearB (ax ay dx dy b0 b1 b2 b3 : Int) : Bool := [ax, ay, dx, dy, b0, b1, b2, b3].all fit2
theorem nearB_num {ax ay dx dy b0 b1 b2 b3 : Int} (h : nearB ax ay dx dy b0 b1 b2 b3 = true) : Num8 ax ay dx dy b0 b1 b2 b3 := by
  simp only [nearB, List.all_cons, List.all_nil, Bool.and_true, Bool.and_eq_true, fit2_true] at h
  obtain ⟨h1, h2, h3, h4, h5, h6, h7, h8⟩ := h
  exact ⟨⟨h1, h2, h3, h4, h5, h6⟩, h7, h8⟩
def TouchB (ax ay dx dy b0 b1 b2 b3 : Int) : Bool := nearB ax ay dx dy b0 b1 b2 b3 && decide (b0 ≤ b2) && decide (b1 ≤ b3) && touchB ax ay dx dy b0 b1 b2 b3

section
variable {ax ay dx dy b0 b1 b2 b3 : Int} (w : World)
theorem near_new (W : World) (n : Nat) (hn : W.heap.size = n) : Calls Try.prog 62 #[.slice (some ⟨n, 0, none⟩) 8 8] (W.alloc (.cells #[.int .i64 ax, .int .i64 ay, .int .i64 dx, .int .i64 dy, .int .i64 b0, .int .i64 b1, .int .i64 b2, .int .i64 b3] 3)) fun e w' => e = .returned (.bool (nearB ax ay dx dy b0 b1 b2 b3)) ∧ W.alloc (.cells #[.int .i64 ax, .int .i64 ay, .int .i64 dx, .int .i64 dy, .int .i64 b0, .int .i64 b1, .int .i64 b2, .int .i64 b3] 3) = w' := by
  subst hn
  have hB := Blk.new W 3 [.int .i64 ax, .int .i64 ay, .int .i64 dx, .int .i64 dy, .int .i64 b0, .int .i64 b1, .int .i64 b2, .int .i64 b3]
  refine near_any _ _ _ 8 [ax, ay, dx, dy, b0, b1, b2, b3] rfl (by decide) fun i hi => ?_
  rw [hB.cell i]
  match i, hi with
  | 0, _ => rfl
  | 1, _ => rfl
  | 2, _ => rfl
  | 3, _ => rfl
  | 4, _ => rfl
  | 5, _ => rfl
  | 6, _ => rfl
  | 7, _ => rfl

set_option maxRecDepth 20000 in
set_option maxHeartbeats 2000000 in
theorem Touches_any : Calls Try.prog 34 #[.agg #[.int .i64 ax, .int .i64 ay], .agg #[.int .i64 dx, .int .i64 dy], .agg #[.int .i64 b0, .int .i64 b1, .int .i64 b2, .int .i64 b3]] w fun e w' =>
      e = .returned (.bool (TouchB ax ay dx dy b0 b1 b2 b3)) ∧ Below w.heap.size w w' := by
  have KN := fun W n hn => near_new (ax := ax) (ay := ay) (dx := dx) (dy := dy) (b0 := b0) (b1 := b1) (b2 := b2) (b3 := b3) W n hn
  have KT := fun (hN : Num8 ax ay dx dy b0 b1 b2 b3) W => touches_any W hN
  have hN0 := nearB_num (ax := ax) (ay := ay) (dx := dx) (dy := dy) (b0 := b0) (b1 := b1) (b2 := b2) (b3 := b3)
  have he : TouchB ax ay dx dy b0 b1 b2 b3 = (nearB ax ay dx dy b0 b1 b2 b3 && decide (b0 ≤ b2) && decide (b1 ≤ b3) && touchB ax ay dx dy b0 b1 b2 b3) := rfl
  generalize nearB ax ay dx dy b0 b1 b2 b3 = nb at *
  generalize touchB ax ay dx dy b0 b1 b2 b3 = tb at *
  have E := Lib.hid he
  clear he
  have HB := Lib.hid (bel_alloc (o := .cells #[.int .i64 ax, .int .i64 ay, .int .i64 dx, .int .i64 dy, .int .i64 b0, .int .i64 b1, .int .i64 b2, .int .i64 b3] 3) (bel_alloc (o := .cells #[.int .i64 b0, .int .i64 b1, .int .i64 b2, .int .i64 b3] 32) (bel_alloc (o := .cells #[.int .i64 dx, .int .i64 dy] 72) (bel_alloc (o := .cells #[.int .i64 ax, .int .i64 ay] 72) (bel_refl (a := w))))))
  have key : nb = false ∨ (nb = true ∧ b2 < b0) ∨ (nb = true ∧ b0 ≤ b2 ∧ b3 < b1) ∨ (nb = true ∧ b0 ≤ b2 ∧ b1 ≤ b3) := by
    cases nb
    · exact .inl rfl
    · simp; omega
  replace KN := Lib.hid KN
  rcases key with rfl | ⟨rfl, h1⟩ | ⟨rfl, h1, h2⟩ | ⟨rfl, h1, h2⟩
  case' inr.inr.inr =>
    replace KT := Lib.hid (KT (hN0 rfl))
    clear hN0
    go_enter Try.func34, Try.ntmps34
    go_wp2_with (first
      | (go_at_call 62; ((with_reducible refine (KN.out _ _ ?_).mono ?_); (· simp)); rintro e w1 ⟨rfl, rfl⟩)
      | (go_at_call 63; (with_reducible refine (KT.out _).mono ?_); rintro e w1 ⟨rfl, hb1⟩; replace HB := Lib.hid (bel_call hb1 HB.out); clear hb1))
  case' inr.inr.inl =>
    clear hN0 KT
    go_enter Try.func34, Try.ntmps34
    go_wp2_with (first | (go_at_call 62; ((with_reducible refine (KN.out _ _ ?_).mono ?_); (· simp)); rintro e w1 ⟨rfl, rfl⟩))
  case' inr.inl =>
    clear hN0 KT
    go_enter Try.func34, Try.ntmps34
    go_wp2_with (first | (go_at_call 62; ((with_reducible refine (KN.out _ _ ?_).mono ?_); (· simp)); rintro e w1 ⟨rfl, rfl⟩))
  case' inl =>
    clear hN0 KT
    go_enter Try.func34, Try.ntmps34
    go_wp2_with (first | (go_at_call 62; ((with_reducible refine (KN.out _ _ ?_).mono ?_); (· simp)); rintro e w1 ⟨rfl, rfl⟩))
  all_goals
    go_ret
    refine ⟨ret_bool' ?_, HB.out.below⟩
    rw [E.out]
    first | (simp; done) | (simp [*]; done) | (simp; omega)
end
end Go.Proofs.Ytnmnehgcliiofaa
