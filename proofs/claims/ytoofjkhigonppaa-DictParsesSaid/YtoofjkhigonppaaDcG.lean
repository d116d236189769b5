/-
  Layer 15: an operand.
-/
import Derived.Test.YtoofjkhigonppaaDcF
namespace Go.Proofs.Ytoofjkhigonppaa
open Go.RowKit

/-- An operand whose first byte c lay ahead of p: its value and the place behind it. -/
def opS (bs : List UInt8) (p c : Nat) : Option (Int × Nat) :=
  if c = 30 then match realS (bs.drop p) with
    | none => none
    | some (l, n) => (realF l).map fun x => (x, p + n)
  else match wholeV bs p c with
    | some (x, (q, false)) => some (x * 65536, q)
    | _ => none
/-- What is asked for of real numbers on the way. -/
def DivP (bs : List UInt8) : Prop := ∀ p l n, 1 ≤ p → realS (bs.drop p) = some (l, n) → DivL (fldF l)
def OpR (bs : List UInt8) (p c r : Nat) (A : Option Addr) (c0 : Nat) (w : World) (e : Ending) (w' : World) : Prop :=
  (match opS bs p c with
    | none => ∃ x, e = .returned (.tuple #[.int .i64 x, .bool false])
    | some (x, q) => e = .returned (.tuple #[.int .i64 x, .bool true]) ∧ Rd w' r bs q false A c0) ∧ Tn (fun i => i = r) w w'
theorem op_no {bs : List UInt8} {p c r : Nat} {A : Option Addr} {c0 : Nat} {w w' : World} {x : Int} (h : opS bs p c = none) (ht : Tn (fun i => i = r) w w') : OpR bs p c r A c0 w (.returned (.tuple #[.int .i64 x, .bool false])) w' := by
  unfold OpR; rw [h]; exact ⟨⟨_, rfl⟩, ht⟩
theorem op_yes {bs : List UInt8} {p c r : Nat} {A : Option Addr} {c0 : Nat} {w w' : World} {x : Int} {q : Nat} (h : opS bs p c = some (x, q)) (hr : Rd w' r bs q false A c0) (ht : Tn (fun i => i = r) w w') : OpR bs p c r A c0 w (.returned (.tuple #[.int .i64 x, .bool true])) w' := by
  unfold OpR; rw [h]; exact ⟨⟨rfl, hr⟩, ht⟩
theorem realS_len : ∀ {l : List UInt8} {x : List Int} {n : Nat}, realS l = some (x, n) → n ≤ l.length
  | [], _, _, h => by cases h
  | c :: t, x, n, h => by
    unfold realS at h
    split at h
    · injection h with h; injection h with _ h; simp; omega
    split at h
    · injection h with h; injection h with _ h; simp; omega
    · cases hr : realS t with
      | none => rw [hr] at h; cases h
      | some y =>
        rw [hr] at h
        have := realS_len hr
        injection h with h; injection h with _ h
        simp; omega
theorem opS_pos {bs : List UInt8} {p c : Nat} {x : Int} {q : Nat} (hp : p ≤ bs.length) (h : opS bs p c = some (x, q)) : p ≤ q ∧ q ≤ bs.length := by
  unfold opS at h
  split at h
  · cases hr : realS (bs.drop p) with
    | none => rw [hr] at h; cases h
    | some y =>
      obtain ⟨l, n⟩ := y
      rw [hr] at h
      have h1 := realS_len hr
      rw [List.length_drop] at h1
      dsimp only at h
      cases hf : realF l with
      | none => rw [hf] at h; cases h
      | some z =>
        rw [hf] at h
        injection h with h; injection h with _ h
        omega
  · split at h
    · rename_i x' q' hw
      injection h with h; injection h with _ h
      subst h
      have adv : ∀ n, advF bs (p, false) n = (q', false) → p ≤ q' ∧ q' ≤ bs.length := fun n hn => by
        have hle := advF_le (bs := bs) (s := (p, false)) (n := n) hp
        rw [hn] at hle
        unfold advF at hn
        split at hn
        · cases hn
        · injection hn with hn _; dsimp only at hn hle; omega
      unfold wholeV at hw
      split at hw
      · injection hw with hw; injection hw with _ hw; exact adv _ hw
      split at hw
      · injection hw with hw; injection hw with _ hw; exact adv _ hw
      split at hw
      · injection hw with hw; injection hw with _ hw; exact adv _ hw
      split at hw
      · injection hw with hw; injection hw with _ hw; exact adv _ hw
      split at hw
      · injection hw with hw; injection hw with _ hw; injection hw with hw _; omega
      · cases hw
    · cases h
set_option maxRecDepth 20000 in
set_option maxHeartbeats 4000000 in
theorem operand_any {w : World} {r : Nat} {bs : List UInt8} {p : Nat} {A : Option Addr} {c0 : Nat} (c : Nat) (h : Rd w r bs p false A c0) (hA : ∀ k, rowOf A = some k → k < w.heap.size) (hdiv : ∀ l n, realS (bs.drop p) = some (l, n) → DivL (fldF l)) :
    Calls Try.prog 24 #[.pointer (some ⟨r, 0, none⟩), .int .i64 c] w (OpR bs p c r A c0 w) := by
  by_cases h30 : c = 30
  · subst h30
    have HR := Lib.hid (real1_any h hA hdiv)
    clear h hA hdiv
    have hop : opS bs p 30 = match realS (bs.drop p) with
      | none => none
      | some (l, n) => (realF l).map fun x => (x, p + n) := rfl
    have hpost : ∀ {e w'}, Real1R bs p r A c0 w e w' → OpR bs p 30 r A c0 w e w' := fun {e w'} h => by
      unfold Real1R at h
      obtain ⟨h, ht⟩ := h
      cases hr : realS (bs.drop p) with
      | none =>
        rw [hr] at h hop
        obtain ⟨x, rfl⟩ := h
        exact op_no hop ht
      | some y =>
        obtain ⟨l, n⟩ := y
        rw [hr] at h hop
        dsimp only at h hop
        cases hf : realF l with
        | none =>
          rw [hf] at h hop
          obtain ⟨x, rfl⟩ := h
          exact op_no hop ht
        | some z =>
          rw [hf] at h hop
          obtain ⟨rfl, hrd⟩ := h
          exact op_yes hop hrd ht
    have HP := Lib.hid (HR.out.mono fun e w' h => (show ∃ x b, e = .returned (.tuple #[.int .i64 x, .bool b]) ∧ OpR bs p 30 r A c0 w e w' by
      have h2 := hpost h
      unfold Real1R at h
      obtain ⟨h, ht⟩ := h
      split at h
      · obtain ⟨x, rfl⟩ := h; exact ⟨_, _, rfl, h2⟩
      · split at h
        · obtain ⟨x, rfl⟩ := h; exact ⟨_, _, rfl, h2⟩
        · obtain ⟨rfl, -⟩ := h; exact ⟨_, _, rfl, h2⟩))
    clear HR hop hpost
    go_enter Try.func24, Try.ntmps24
    go_wp2_with (first | (go_at_call 40; (with_reducible refine HP.out.mono ?_); rintro e w1 ⟨x, b, rfl, hop⟩) | fail)
    go_ret2
    exact hop
  · have hop : opS bs p c = match wholeV bs p c with
      | some (x, (q, false)) => some (x * 65536, q)
      | _ => none := by unfold opS; rw [if_neg h30]
    have hc : ((c : Int) == 30) = false := by rw [beq_eq_false_iff_ne]; omega
    have HW := Lib.hid (whole_any c h)
    have HB := fun x s (h : wholeV bs p c = some (x, s)) => wholeV_bd h
    clear hA hdiv h30
    have hw : (wholeV bs p c = none ∧ opS bs p c = none) ∨ (∃ x q, wholeV bs p c = some (x, (q, true)) ∧ opS bs p c = none) ∨ ∃ x q, wholeV bs p c = some (x, (q, false)) ∧ opS bs p c = some (x * 65536, q) := by
      cases hv : wholeV bs p c with
      | none => rw [hv] at hop; exact .inl ⟨rfl, hop⟩
      | some y =>
        obtain ⟨x, q, b⟩ := y
        rw [hv] at hop
        cases b
        · exact .inr (.inr ⟨_, _, rfl, hop⟩)
        · exact .inr (.inl ⟨_, _, rfl, hop⟩)
    clear hop
    rcases hw with ⟨hw, ho⟩ | ⟨x, q, hw, ho⟩ | ⟨x, q, hw, ho⟩
    · have HP := Lib.hid (HW.out.mono fun e w' h => (show e = .returned (.tuple #[.int .i64 0, .bool false]) ∧ w = w' by unfold WholeR at h; rw [hw] at h; exact h))
      have HO := Lib.hid ho
      clear hw ho HW HB h
      go_enter Try.func24, Try.ntmps24
      go_wp2_with (first | (go_at_call 41; (with_reducible refine HP.out.mono ?_); rintro e w1 ⟨rfl, rfl⟩) | fail)
      go_ret2
      exact op_no HO.out (Tn.refl _)
    · obtain ⟨b1, b2⟩ := HB _ _ hw
      have HP := Lib.hid (HW.out.mono fun e w' h => (show e = .returned (.tuple #[.int .i64 x, .bool true]) ∧ Rd w' r bs q true A c0 ∧ Tn (fun i => i = r) w w' by unfold WholeR at h; rw [hw] at h; exact h))
      have HO := Lib.hid ho
      clear hw ho HW HB h
      go_enter Try.func24, Try.ntmps24
      go_wp2_with (first | (go_at_call 41; (with_reducible refine HP.out.mono ?_); rintro e w1 ⟨rfl, hr, ht⟩) | (go_at_call 25; (with_reducible refine (rdone_W _ _ _ _ _ _ _ hr).mono ?_); rintro e w1 ⟨rfl, rfl⟩) | fail)
      go_ret2
      exact op_no HO.out ht
    · obtain ⟨b1, b2⟩ := HB _ _ hw
      have HP := Lib.hid (HW.out.mono fun e w' h => (show e = .returned (.tuple #[.int .i64 x, .bool true]) ∧ Rd w' r bs q false A c0 ∧ Tn (fun i => i = r) w w' by unfold WholeR at h; rw [hw] at h; exact h))
      have HO := Lib.hid ho
      clear hw ho HW HB h
      go_enter Try.func24, Try.ntmps24
      go_wp2_with (first | (go_at_call 41; (with_reducible refine HP.out.mono ?_); rintro e w1 ⟨rfl, hr, ht⟩) | (go_at_call 25; (with_reducible refine (rdone_W _ _ _ _ _ _ _ hr).mono ?_); rintro e w1 ⟨rfl, rfl⟩) | fail)
      go_ret2
      exact op_yes HO.out hr ht
end Go.Proofs.Ytoofjkhigonppaa
