/-
  index.number, index.offsets.
-/
import Derived.Test.YtbmflgcahbkdeaaRdU
import Derived.Test.YtbmflgcahbkdeaaBs
import Derived.Test.YtbmflgcahbkdeaaRowsAt
import Derived.Test.YtbmflgcahbkdeaaIdxA
namespace Go.Proofs.Ytbmflgcahbkdeaa
open Go.RowKit

/-- The number at a place. -/
def nAt (bs : List UInt8) (pos size : Nat) : Nat := numB ((bs.drop pos).take size)

theorem number_1 (w : World) (r : Nat) : Calls Try.prog 75 #[.pointer (some ⟨r, 0, none⟩), .int .i64 1] w fun e w' => e = .returned (.func (.func 43) #[.pointer (some ⟨r, 0, none⟩)] #[]) ∧ w.alloc (.cells #[.pointer (some ⟨r, 0, none⟩)] 78) = w' := by
  go_enter Try.func75, Try.ntmps75
  go_wp2
  go_ret
  exact ⟨rfl, rfl⟩
theorem number_2 (w : World) (r : Nat) : Calls Try.prog 75 #[.pointer (some ⟨r, 0, none⟩), .int .i64 2] w fun e w' => e = .returned (.func (.func 40) #[.pointer (some ⟨r, 0, none⟩)] #[]) ∧ w.alloc (.cells #[.pointer (some ⟨r, 0, none⟩)] 78) = w' := by
  go_enter Try.func75, Try.ntmps75
  go_wp2
  go_ret
  exact ⟨rfl, rfl⟩
theorem number_4 (w : World) (r : Nat) : Calls Try.prog 75 #[.pointer (some ⟨r, 0, none⟩), .int .i64 4] w fun e w' => e = .returned (.func (.func 88) #[.pointer (some ⟨r, 0, none⟩)] #[]) ∧ w.alloc (.cells #[.pointer (some ⟨r, 0, none⟩)] 78) = w' := by
  go_enter Try.func75, Try.ntmps75
  go_wp2
  go_ret
  exact ⟨rfl, rfl⟩
theorem number_3 (w : World) (r : Nat) : Calls Try.prog 75 #[.pointer (some ⟨r, 0, none⟩), .int .i64 3] w fun e w' => e = .returned (.func (.func 89) #[] #[.pointer (some ⟨w.heap.size, 0, none⟩)]) ∧ w.alloc (.cells #[.pointer (some ⟨r, 0, none⟩)] 78) = w' := by
  go_enter Try.func75, Try.ntmps75
  go_wp2
  go_ret
  exact ⟨rfl, rfl⟩

/-- A function that reads the next number, of so many bytes. -/
def Next (r b size : Nat) (F : FuncId) (args : Array Value) : Prop :=
  ∀ (w : World) (bs : List UInt8) (pos : Nat) (A : Option Addr) (c : Nat), Rd w r bs pos false A c → Blk w b 78 [.pointer (some ⟨r, 0, none⟩)] → b ≠ r → pos + size ≤ bs.length →
    Calls Try.prog F args w fun e w' => e = .returned (.int .i64 (nAt bs pos size)) ∧ Rd w' r bs (pos + size) false A c ∧ Turn w w' r none
theorem next_1 (r b : Nat) : Next r b 1 43 #[.pointer (some ⟨r, 0, none⟩)] := fun w bs pos A c h _ _ hp => by
  have := rU8_any w r bs (pos, false) A c h
  rwa [numF_ok hp, advF_ok hp] at this
theorem next_2 (r b : Nat) : Next r b 2 40 #[.pointer (some ⟨r, 0, none⟩)] := fun w bs pos A c h _ _ hp => by
  have := rU16_any w r bs (pos, false) A c h
  rwa [numF_ok hp, advF_ok hp] at this
theorem next_4 (r b : Nat) : Next r b 4 88 #[.pointer (some ⟨r, 0, none⟩)] := fun w bs pos A c h _ _ hp => by
  have := rU32_any w r bs (pos, false) A c h
  rwa [numF_ok hp, advF_ok hp] at this
theorem nAt_3 (bs : List UInt8) (pos : Nat) (h : pos + 3 ≤ bs.length) : nAt bs pos 3 = nAt bs pos 1 * 65536 + nAt bs (pos + 1) 2 := by
  unfold nAt
  obtain ⟨a, ha⟩ : ∃ a, bs[pos]? = some a := ⟨bs[pos], List.getElem?_eq_getElem (by omega)⟩
  obtain ⟨b, hb⟩ : ∃ b, bs[pos + 1]? = some b := ⟨bs[pos + 1], List.getElem?_eq_getElem (by omega)⟩
  obtain ⟨c, hc⟩ : ∃ c, bs[pos + 2]? = some c := ⟨bs[pos + 2], List.getElem?_eq_getElem (by omega)⟩
  have e3 : (bs.drop pos).take 3 = [a, b, c] := by
    rw [List.take_add_one, List.take_add_one, List.take_add_one]
    simp [List.getElem?_drop, ha, hb, hc]
  have e1 : (bs.drop pos).take 1 = [a] := by
    rw [List.take_add_one]
    simp [List.getElem?_drop, ha]
  have e2 : (bs.drop (pos + 1)).take 2 = [b, c] := by
    rw [List.take_add_one, List.take_add_one]
    simp [List.getElem?_drop, hb, show pos + 1 + 1 = pos + 2 by omega, hc]
  rw [e1, e2, e3]
  simp [numB]
  omega
theorem or_16 (x u : Nat) (hx : x < 256) (hu : u < 65536) : bits .or .i64 ((x : Int) * 65536) (u : Int) = ((x * 65536 + u : Nat) : Int) := by
  have e : x * 65536 ||| u = x * 65536 + u := by
    have := Nat.shiftLeft_add_eq_or_of_lt (a := x) (b := u) (i := 16) (by omega)
    rw [Nat.shiftLeft_eq] at this
    exact this.symm
  have h1 : (BitVec.ofInt 64 ((x : Int) * 65536)).toNat = x * 65536 := by
    rw [show (x : Int) * 65536 = ((x * 65536 : Nat) : Int) by omega, BitVec.ofInt_natCast, BitVec.toNat_ofNat]; exact Nat.mod_eq_of_lt (by omega)
  have h2 : (BitVec.ofInt 64 (u : Int)).toNat = u := by
    rw [BitVec.ofInt_natCast, BitVec.toNat_ofNat]; exact Nat.mod_eq_of_lt (by omega)
  show IntKind.i64.wrap ((BitVec.ofInt 64 ((x : Int) * 65536) ||| BitVec.ofInt 64 (u : Int)).toNat : Int) = _
  rw [BitVec.toNat_or, h1, h2, e]
  exact IntWalk.i64_in _ (by omega)
theorem nAt_lt (bs : List UInt8) (pos size : Nat) : nAt bs pos size < 256 ^ size := by
  have h := numB_lt ((bs.drop pos).take size)
  refine Nat.lt_of_lt_of_le h (Nat.pow_le_pow_right (by omega) (by simp; omega))

set_option maxHeartbeats 1000000 in
theorem next_3 (r b : Nat) : Next r b 3 89 #[.pointer (some ⟨b, 0, none⟩)] := fun w bs pos A c h hb hbr hp => by
  have k0 := hb.cell 0
  simp at k0
  have H := Lib.hid h
  have HBK := Lib.hid hb
  have e3 := nAt_3 bs pos hp
  have l1 := nAt_lt bs pos 1
  have l2 := nAt_lt bs (pos + 1) 2
  have g1 := next_1 r b w bs pos A c h hb hbr (by omega)
  obtain ⟨x, hx⟩ : ∃ x, nAt bs pos 1 = x := ⟨_, rfl⟩
  obtain ⟨y, hy⟩ : ∃ y, nAt bs (pos + 1) 2 = y := ⟨_, rfl⟩
  rw [hx] at e3 l1 g1
  rw [hy] at e3 l2
  have hor := or_16 x y (by omega) (by omega)
  rw [e3]
  have HY := Lib.hid hy
  have G1 := Lib.hid g1
  have hxb : (x : Int) ≤ 255 := by omega
  clear e3 hx hy h hb g1 l1 l2
  go_enter Try.func89, Try.ntmps89
  go_wp2_with (first
    | (go_at_call 43; (with_reducible refine G1.out.mono ?_); rintro e w1 ⟨rfl, hr1, ht1⟩
       have hb1 := ht1.blk HBK.out hbr (by intro e; cases e)
       have k1 := hb1.cell 0
       simp at k1
       have G2 := Lib.hid (next_2 r b w1 bs (pos + 1) A c hr1 hb1 hbr (by omega))
       have HT1 := Lib.hid ht1
       clear hr1 ht1 hb1)
    | (go_at_call 40; (with_reducible refine G2.out.mono ?_); rintro e w2 ⟨rfl, hr2, ht2⟩
       rw [HY.out]
       have HR2 := Lib.hid hr2
       have HT2 := Lib.hid (HT1.out.trans ht2 (.inl rfl))
       clear hr2 ht2))
  go_ret
  refine ⟨ret_int ?_, HR2.out, HT2.out⟩
  omega

end Go.Proofs.Ytbmflgcahbkdeaa
