/-
  Contracts of wire's writer: fits, number.
-/
import Derived.Test.YtoofjkhigonppaaWire
import Derived.Test.YtoofjkhigonppaaTail
import Derived.BigRegion
import Derived.Deep.RegionLaw
namespace Go.Proofs.Ytoofjkhigonppaa
open Go.RowKit

theorem Wr.appendedL {T : TypeId} {w w' : World} {g : Nat} {bs news : List UInt8} {room : Int} {full : Bool} {A A' : Option Addr} {c c' : Nat} (h : Wr T w g bs room full A c) (L m : Nat) (hL : bs.length = L) (hm : news.length = m)
    (hown : w'.ownsRow 0 5 1 (.slice A' (L + m) c') (L + m) ((bs ++ news).map byteV)) (hgrow : w.grownBy w' (rowOf A)) (hat : rowOf A' = rowOf A ∨ rowOf A' = some w.heap.size) :
    Wr T (w'.setCell ⟨g, 0, none⟩ (.slice A' (L + m) c')) g (bs ++ news) room full A' c' ∧ Turn w (w'.setCell ⟨g, 0, none⟩ (.slice A' (L + m) c')) g (rowOf A) ∧ (rowOf A' = rowOf A ∨ ∀ k, rowOf A' = some k → w.heap.size ≤ k) := by
  subst hL hm
  exact h.appended hown hgrow hat
theorem Turn.drew {w w' : World} {g : Nat} {row : Option Nat} (h : Turn w w' g row) : Turn w w'.drew g row := ⟨h.os, h.tape, h.output, h.size, h.block⟩
theorem Turn.drewL {w w' : World} {g : Nat} {row : Option Nat} (h : Turn w.drew w' g row) : Turn w w' g row := ⟨h.os, h.tape, h.output, h.size, h.block⟩
/-- Row after row: each is the one before, or new. -/
theorem row_trans {w w' : World} {g : Nat} {row a b : Option Nat} (h : Turn w w' g row) (h1 : a = row ∨ ∀ k, a = some k → w.heap.size ≤ k) (h2 : b = a ∨ ∀ k, b = some k → w'.heap.size ≤ k) : b = row ∨ ∀ k, b = some k → w.heap.size ≤ k := by
  rcases h2 with rfl | h2
  · exact h1
  · exact .inr fun k hk => Nat.le_trans h.size (h2 k hk)

def fullF (bs : List UInt8) (room : Int) (full : Bool) (n : Int) : Bool := full || decide (room - bs.length < n)

/-- byte number i of n, the highest first. -/
def byteAt (n i : Nat) (x : Int) : UInt8 := UInt8.ofNat (x / 2 ^ (8 * (n - 1 - i)) % 256).toNat
def beB (n : Nat) (x : Int) : List UInt8 := (List.range n).map fun i => byteAt n i x
theorem beB_length (n : Nat) (x : Int) : (beB n x).length = n := by simp [beB]
theorem beB_take (n k : Nat) (x : Int) (h : k < n) : (beB n x).take (k + 1) = (beB n x).take k ++ [byteAt n k x] := by
  rw [List.take_succ_eq_append_getElem (by simpa [beB] using h)]
  simp [beB]

theorem shr_run {P : Program} (x : Int) (y : Int) (k : Nat) (hy : y = k) (hk : k ≤ 64) (w : World) : (Op.shift .shr .i64 x .i64 y).run P w = .ok (.int .i64 (x / 2 ^ k)) w := by
  subst hy
  unfold Op.shift
  rw [if_neg (by omega)]
  simp only [Int.toNat_natCast, IntKind.bits, Nat.min_eq_left hk]
  rw [Int.fdiv_eq_ediv_of_nonneg x (Int.pow_nonneg (by decide))]
  rfl
theorem byteV_of (y : Int) : Value.int .u8 (y % 256) = byteV (UInt8.ofNat (y % 256).toNat) := by
  unfold byteV
  congr 1
  simp
  omega

/-- What a writer is behind 'news'. -/
def putF (room : Int) (s : List UInt8 × Bool) (news : List UInt8) : List UInt8 × Bool := if fullF s.1 room s.2 news.length then (s.1, true) else (s.1 ++ news, false)

/-- A writer of state s in memory, with what a call may have turned. -/
structure WrS (T : TypeId) (w0 w : World) (g : Nat) (s : List UInt8 × Bool) (room : Int) (row0 : Option Nat) (A : Option Addr) (c : Nat) : Prop where
  wr : Wr T w g s.1 room s.2 A c
  turn : Turn w0 w g row0
  row : rowOf A = row0 ∨ ∀ k, rowOf A = some k → w0.heap.size ≤ k
  fit : (s.1.length : Int) ≤ room

end Go.Proofs.Ytoofjkhigonppaa
