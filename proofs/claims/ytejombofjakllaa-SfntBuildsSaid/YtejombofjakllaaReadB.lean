/-
  Contracts of wire's reader: number.
-/
import Derived.Test.YtejombofjakllaaRead
namespace Go.Proofs.Ytejombofjakllaa
open Go.RowKit

/-- Bytes as a number, the highest first. -/
def numB (l : List UInt8) : Nat := l.foldl (fun x c => x * 256 + c.toNat) 0
theorem numB_snoc (l : List UInt8) (c : UInt8) : numB (l ++ [c]) = numB l * 256 + c.toNat := by simp [numB]
theorem numB_go (l : List UInt8) (x : Nat) : l.foldl (fun x c => x * 256 + c.toNat) x < (x + 1) * 256 ^ l.length := by
  induction l generalizing x with
  | nil => simp
  | cons c l ih =>
    have h := ih (x * 256 + c.toNat)
    have := c.toNat_lt
    simp only [List.foldl_cons, List.length_cons, Nat.pow_succ]
    refine Nat.lt_of_lt_of_le h ?_
    rw [Nat.mul_comm (256 ^ l.length) 256, ← Nat.mul_assoc]
    exact Nat.mul_le_mul_right _ (by omega)
theorem numB_lt (l : List UInt8) : numB l < 256 ^ l.length := by simpa [numB] using numB_go l 0
theorem or_next (x u : Nat) (hx : x < 16777216) (hu : u < 256) : bits .or .i64 ((x : Int) * 256) (u : Int) = ((x * 256 + u : Nat) : Int) := by
  have e : x * 256 ||| u = x * 256 + u := by
    have := Nat.shiftLeft_add_eq_or_of_lt (a := x) (b := u) (i := 8) (by omega)
    rw [Nat.shiftLeft_eq] at this
    exact this.symm
  have h1 : (BitVec.ofInt 64 ((x : Int) * 256)).toNat = x * 256 := by
    rw [show (x : Int) * 256 = ((x * 256 : Nat) : Int) by omega, BitVec.ofInt_natCast, BitVec.toNat_ofNat]; exact Nat.mod_eq_of_lt (by omega)
  have h2 : (BitVec.ofInt 64 (u : Int)).toNat = u := by
    rw [BitVec.ofInt_natCast, BitVec.toNat_ofNat]; exact Nat.mod_eq_of_lt (by omega)
  show IntKind.i64.wrap ((BitVec.ofInt 64 ((x : Int) * 256) ||| BitVec.ofInt 64 (u : Int)).toNat : Int) = _
  rw [BitVec.toNat_or, h1, h2, e]
  exact IntWalk.i64_in _ (by omega)

set_option maxHeartbeats 1000000 in
theorem rnumber_ok (w : World) (r : Nat) (bs : List UInt8) (pos : Nat) (A : Option Addr) (c : Nat) (n : Nat) (h : Rd w r bs pos false A c) (hn : pos + n ≤ bs.length) (hn4 : n ≤ 4) :
    Calls Try.prog 56 #[.pointer (some ⟨r, 0, none⟩), .int .i64 n] w fun e w' => e = .returned (.int .i64 (numB ((bs.drop pos).take n))) ∧ Rd w' r bs (pos + n) false A c ∧ Turn w w' r none := by
  obtain ⟨l, hl⟩ : ∃ l, (bs.drop pos).take n = l := ⟨_, rfl⟩
  have hll : l.length = n := by rw [← hl]; simp; omega
  have hN := next_ok w r bs pos A c n h hn
  rw [hl] at hN ⊢
  go_enter Try.func56, Try.ntmps56
  go_wp2_with (go_at_call 57; refine hN.mono ?_; rintro e w1 ⟨A1, c1, rfl, hs, hc1, hrow, hr, ht⟩)
  go_loop [5, 12] (fun x i => ∃ k : Nat, k ≤ n ∧ i = .int .i64 k ∧ x = .int .i64 (numB (l.take k))) (fun _ i => n - (intOf i).toNat)
  case atStart => exact ⟨0, Nat.zero_le _, rfl, rfl⟩
  case round =>
    obtain ⟨k, hk, rfl, rfl⟩ := hrel
    by_cases hlt : k < n
    · obtain ⟨b, o, rfl, hblt, hcell⟩ := hs.2 k hlt
      obtain ⟨u, hu⟩ : ∃ u, l[k]? = some u := ⟨l[k]'(by omega), List.getElem?_eq_getElem (by omega)⟩
      rw [List.getElem?_map, hu] at hcell
      have hcell' : w1.cell? ⟨b, o + k, none⟩ = some (.int .u8 u.toNat) := hcell
      have hx : (numB (l.take k)) < 256 ^ 3 := by
        have := numB_lt (l.take k)
        refine Nat.lt_of_lt_of_le this (Nat.pow_le_pow_right (by omega) ?_)
        simp; omega
      have hnext : numB (l.take (k + 1)) = numB (l.take k) * 256 + u.toNat := by
        rw [List.take_add_one, hu]; exact numB_snoc _ _
      generalize numB (l.take k) = x at hx hnext
      clear hcell
      have hu8 := u.toNat_lt
      have hor := or_next x u.toNat (by omega) (by omega)
      have hwu : IntKind.i64.wrap (u.toNat : Int) = (u.toNat : Int) := IntWalk.i64_in _ (by omega)
      go_wp2
      exact ⟨⟨k + 1, by omega, by go_num, by rw [hnext]; exact congrArg (Value.int .i64) (by omega)⟩, by simp [intOf]; omega⟩
    · obtain rfl : n = k := by omega
      rw [List.take_of_length_le (by omega)]
      go_wp2
      go_ret
      exact ⟨rfl, hr, ht⟩

set_option maxHeartbeats 1000000 in
theorem rnumber_bad (w : World) (r : Nat) (bs : List UInt8) (pos : Nat) (bad : Bool) (A : Option Addr) (c : Nat) (n : Nat) (h : Rd w r bs pos bad A c) (hbad : bad = true ∨ bs.length < pos + n) :
    Calls Try.prog 56 #[.pointer (some ⟨r, 0, none⟩), .int .i64 n] w fun e w' => e = .returned (.int .i64 0) ∧ Rd w' r bs pos true A c ∧ Turn w w' r none := by
  have hN := next_bad w r bs pos bad A c n h hbad
  go_enter Try.func56, Try.ntmps56
  go_wp2_with (go_at_call 57; refine hN.mono ?_; rintro e w1 ⟨rfl, hr, ht⟩)
  go_loop [5, 12] (fun x i => x = .int .i64 0 ∧ i = .int .i64 0) (fun _ _ => 0)
  case atStart => exact ⟨rfl, rfl⟩
  case round =>
    obtain ⟨rfl, rfl⟩ := hrel
    go_wp2
    go_ret
    exact ⟨rfl, hr, ht⟩

set_option maxHeartbeats 1000000 in
theorem rU16_ok (w : World) (r : Nat) (bs : List UInt8) (pos : Nat) (A : Option Addr) (c : Nat) (h : Rd w r bs pos false A c) (hn : pos + 2 ≤ bs.length) :
    Calls Try.prog 36 #[.pointer (some ⟨r, 0, none⟩)] w fun e w' => e = .returned (.int .i64 (numB ((bs.drop pos).take 2))) ∧ Rd w' r bs (pos + 2) false A c ∧ Turn w w' r none := by
  go_enter Try.func36, Try.ntmps36
  go_wp2_with (go_at_call 56; refine (rnumber_ok _ _ _ _ _ _ 2 h hn (by omega)).mono ?_; rintro e w1 ⟨rfl, hr, ht⟩)
  go_ret
  exact ⟨rfl, hr, ht⟩

set_option maxHeartbeats 1000000 in
theorem rU16_bad (w : World) (r : Nat) (bs : List UInt8) (pos : Nat) (bad : Bool) (A : Option Addr) (c : Nat) (h : Rd w r bs pos bad A c) (hbad : bad = true ∨ bs.length < pos + 2) :
    Calls Try.prog 36 #[.pointer (some ⟨r, 0, none⟩)] w fun e w' => e = .returned (.int .i64 0) ∧ Rd w' r bs pos true A c ∧ Turn w w' r none := by
  go_enter Try.func36, Try.ntmps36
  go_wp2_with (go_at_call 56; refine (rnumber_bad _ _ _ _ _ _ _ 2 h hbad).mono ?_; rintro e w1 ⟨rfl, hr, ht⟩)
  go_ret
  exact ⟨rfl, hr, ht⟩

set_option maxHeartbeats 1000000 in
theorem new_W (w : World) (bs : List UInt8) (A : Option Addr) (c : Nat) (h : SlAt w A bs.length (bs.map byteV)) (hc : bs.length ≤ c) (hs : bs.length ≤ 140737488355328) (hA : ∀ k, rowOf A = some k → k < w.heap.size) :
    Calls Try.prog 34 #[.slice A bs.length c] w fun e w' => e = .returned (.pointer (some ⟨w.heap.size, 0, none⟩)) ∧ Rd w' w.heap.size bs 0 false A c ∧ Below w.heap.size w w' := by
  have H := Lib.hid h
  clear h
  go_enter Try.func34, Try.ntmps34
  go_wp2
  go_ret
  refine ⟨rfl, ⟨heap_alloc_new w _, H.out.keep (bel_alloc bel_refl).below, fun e => ?_, hc, Nat.zero_le _, hs⟩, (bel_alloc bel_refl).below⟩
  have := hA _ e
  omega

end Go.Proofs.Ytejombofjakllaa
