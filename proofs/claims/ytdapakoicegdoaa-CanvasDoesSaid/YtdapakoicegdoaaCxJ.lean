/-
  Law CanvasDoes: joined.
-/
import Derived.Test.YtdapakoicegdoaaCxI
namespace Go.Proofs.Ytdapakoicegdoaa
open Go.RowKit

theorem newB_col {a b c : Int} (h : newB a b c = true) : newB a b 0 = true := by
  obtain ⟨h1, h2, _⟩ := new_parts h
  simp only [newB, h1, h2, Bool.true_and]
  decide

set_option maxRecDepth 20000 in
set_option maxHeartbeats 2000000 in
theorem does_big {w : World} {a b col m : Int} {A : Option Addr} {n c : Nat} (hm : IntKind.i64.wrap (a * b) = m) (hb : 10000 < m) (hnew : newB a b 0 = true) :
    Calls Try.prog 6 #[.int .i64 a, .int .i64 b, .int .i64 col, .slice A n c] w fun e w' => e = .returned (.bool true) ∧ Below w.heap.size w w' := by
  have K3 := fun w => ret26_May a b 0 w
  rw [hnew] at K3
  replace K3 := Lib.hid K3
  clear hnew
  go_enter Try.func6, Try.ntmps6
  go_wp2_with (first
    | (go_at_call 14; (with_reducible refine (lives_any _).mono ?_); rintro e w2 ⟨rfl, hb2⟩; have HB2 := Lib.hid hb2; clear hb2)
    | (go_at_call 25; (with_reducible refine (K3.out _).mono ?_); rintro e w3 ⟨rfl, rfl⟩))
  go_ret
  exact ⟨rfl, HB2.out⟩

set_option maxRecDepth 20000 in
set_option maxHeartbeats 2000000 in
theorem does_no {w : World} {a b col m : Int} {A : Option Addr} {n c : Nat} (hm : IntKind.i64.wrap (a * b) = m) (hb : m ≤ 10000 ∨ 10000 < m ∧ newB a b 0 = false) (hnew : newB a b col = false) :
    Calls Try.prog 6 #[.int .i64 a, .int .i64 b, .int .i64 col, .slice A n c] w fun e w' => e = .returned (.bool true) ∧ Below w.heap.size w w' := by
  have K1 := Lib.hid (fun w => New_no w a b col hnew)
  have K2 := fun w => ret26_May a b 0 w
  have K3 := fun w => ret26_May a b col w
  rw [hnew] at K3
  replace K3 := Lib.hid K3
  clear hnew
  rcases hb with hb | ⟨hb, hz⟩
  · clear K2
    go_enter Try.func6, Try.ntmps6
    go_wp2_with (first
      | (go_at_call 15; (with_reducible refine (K1.out _).mono ?_); rintro e w1 ⟨rfl, hb1⟩; have HB1 := Lib.hid (Bel.mk hb1 hb1.size); clear hb1)
      | (go_at_call 14; (with_reducible refine (lives_any _).mono ?_); rintro e w2 ⟨rfl, hb2⟩; have HB2 := Lib.hid (bel_call hb2 HB1.out); clear hb2)
      | (go_at_call 25; (with_reducible refine (K3.out _).mono ?_); rintro e w3 ⟨rfl, rfl⟩))
    go_ret
    exact ⟨rfl, HB2.out.below⟩
  · rw [hz] at K2
    replace K2 := Lib.hid K2
    clear hz
    go_enter Try.func6, Try.ntmps6
    go_wp2_with (first
      | (go_at_call 15; (with_reducible refine (K1.out _).mono ?_); rintro e w1 ⟨rfl, hb1⟩; have HB1 := Lib.hid (Bel.mk hb1 hb1.size); clear hb1)
      | (go_at_call 14; (with_reducible refine (lives_any _).mono ?_); rintro e w2 ⟨rfl, hb2⟩; have HB2 := Lib.hid (bel_call hb2 HB1.out); clear hb2)
      | (go_at_call 25; (with_reducible refine (K2.out _).mono ?_); rintro e w3 ⟨rfl, rfl⟩)
      | (go_at_call 25; (with_reducible refine (K3.out _).mono ?_); rintro e w3 ⟨rfl, rfl⟩))
    go_ret
    exact ⟨rfl, HB2.out.below⟩

theorem canvasDoes_any {w : World} {a b col : Int} {A : Option Addr} {n c : Nat} {os : List Cl} (hl : os.length = n) (hA : CallsAt w A os) :
    Calls Try.prog 6 #[.int .i64 a, .int .i64 b, .int .i64 col, .slice A n c] w fun e w' => e = .returned (.bool true) ∧ Below w.heap.size w w' := by
  obtain ⟨m, hm⟩ : ∃ m, IntKind.i64.wrap (a * b) = m := ⟨_, rfl⟩
  rcases Bool.eq_false_or_eq_true (newB a b col) with h | h
  · obtain ⟨nn, hnn, -, h16, -, ha1, ha2, hb1, hb2, -, -⟩ := new_nums h
    have hmm : a * b = m := by rw [← hm]; exact (IntWalk.i64_in _ (by rw [hnn]; omega)).symm
    rcases Int.lt_or_le 10000 m with hb | hb
    · exact does_big hm hb (newB_col h)
    · subst hl
      obtain ⟨W, rfl⟩ := Int.eq_ofNat_of_zero_le (show 0 ≤ a by omega)
      obtain ⟨H, rfl⟩ := Int.eq_ofNat_of_zero_le (show 0 ≤ b by omega)
      exact does_ok hA h (by rw [hmm]; exact hb)
  · rcases Int.lt_or_le 10000 m with hb | hb
    · rcases Bool.eq_false_or_eq_true (newB a b 0) with h0 | h0
      · exact does_big hm hb h0
      · exact does_no hm (.inr ⟨hb, h0⟩) h
    · exact does_no hm (.inl hb) h

end Go.Proofs.Ytdapakoicegdoaa
