/-
  A slice of slices of bytes.
-/
import Derived.Test.YtakgeeopfclmoaaBs
import Derived.Test.YtakgeeopfclmoaaFlatB
namespace Go.Proofs.Ytakgeeopfclmoaa
open Go.RowKit

/-- Bytes that lie in memory; of an empty slice's address nothing is known. -/
structure Bw (w : World) (A : Option Addr) (bs : List UInt8) (c : Nat) : Prop where
  sl : SlAt w A bs.length (bs.map byteV)
  cap : bs.length ≤ c
  small : bs.length ≤ 140737488355328
  row : 0 < bs.length → ∀ k, rowOf A = some k → k < w.heap.size
theorem Bw.keep {w w' : World} {A : Option Addr} {bs : List UInt8} {c : Nat} (h : Bw w A bs c) (hb : Below w.heap.size w w') : Bw w' A bs c :=
  ⟨h.sl.keep hb, h.cap, h.small, fun h0 k hk => Nat.lt_of_lt_of_le (h.row h0 k hk) hb.size⟩
theorem Bs.bw {w : World} {A : Option Addr} {bs : List UInt8} {c : Nat} (h : Bs w A bs c) : Bw w A bs c := ⟨h.sl, h.cap, h.small, fun _ => h.row⟩
def Ls (w : World) (A : Option Addr) (ls : List (List UInt8)) : Prop :=
  ∀ i l, ls[i]? = some l → ∃ b o Ai ci, A = some ⟨b, o, none⟩ ∧ b < w.heap.size ∧ w.cell? ⟨b, o + i, none⟩ = some (.slice Ai l.length ci) ∧ Bw w Ai l ci
theorem Ls.keep {w w' : World} {A : Option Addr} {ls : List (List UInt8)} (h : Ls w A ls) (hb : Below w.heap.size w w') : Ls w' A ls := by
  intro i l hl
  obtain ⟨b, o, Ai, ci, hA, hlt, hc, hs⟩ := h i l hl
  exact ⟨b, o, Ai, ci, hA, Nat.lt_of_lt_of_le hlt hb.size, by rw [hb.cell (p := ⟨b, o + i, none⟩) hlt]; exact hc, hs.keep hb⟩
/-- How many bytes lists have. -/
def lsSum (ls : List (List UInt8)) : Nat := (ls.map List.length).sum
theorem lsSum_snoc {ls : List (List UInt8)} {k : Nat} {l : List UInt8} (h : ls[k]? = some l) : lsSum (ls.take (k + 1)) = lsSum (ls.take k) + l.length := by
  rw [List.take_add_one, h]
  simp [lsSum]
theorem lsSum_take (ls : List (List UInt8)) (k : Nat) : lsSum (ls.take k) ≤ lsSum ls := by
  have h : lsSum ls = lsSum (ls.take k) + lsSum (ls.drop k) := by
    have : lsSum (ls.take k ++ ls.drop k) = lsSum (ls.take k) + lsSum (ls.drop k) := by unfold lsSum; rw [List.map_append, List.sum_append]
    rwa [List.take_append_drop] at this
  omega
theorem lsSum_mem {ls : List (List UInt8)} {k : Nat} {l : List UInt8} (h : ls[k]? = some l) : l.length ≤ lsSum ls := by
  have h1 := lsSum_snoc h
  have h2 := lsSum_take ls (k + 1)
  omega
theorem lsSum_flatten (ls : List (List UInt8)) : ls.flatten.length = lsSum ls := by simp [lsSum, List.length_flatten]
theorem flatten_snoc {ls : List (List UInt8)} {k : Nat} {l : List UInt8} (h : ls[k]? = some l) : (ls.take (k + 1)).flatten = (ls.take k).flatten ++ l := by
  rw [List.take_add_one, h]
  simp
theorem ls_get {ls : List (List UInt8)} {k : Nat} (h : k < ls.length) : ∃ l, ls[k]? = some l := ⟨ls[k], List.getElem?_eq_getElem h⟩

/-- An argument's slice of slices of bytes. -/
theorem arg_lists {w : World} {A : Option Addr} {n : Nat} (h : ∀ i, i < n → ∃ b o, A = some ⟨b, o, none⟩ ∧ b < w.heap.size ∧ CellsOk w [.sl 1 [.int .u8]] (fun j => w.cell? ⟨b, o + (i * [CK.sl 1 [.int .u8]].length + j), none⟩)) :
    ∃ ls : List (List UInt8), ls.length = n ∧ Ls w A ls := by
  obtain ⟨ls, hl, hp⟩ := list_of (p := fun i l => ∃ b o Ai ci, A = some ⟨b, o, none⟩ ∧ b < w.heap.size ∧ w.cell? ⟨b, o + i, none⟩ = some (.slice Ai (l : List UInt8).length ci) ∧ Bw w Ai l ci) n (fun i hi => by
    obtain ⟨b, o, hA, hb, hc⟩ := h i hi
    simp only [CellsOk, and_true, Nat.add_zero, List.length_cons, List.length_nil, Nat.zero_add, Nat.mul_one] at hc
    obtain ⟨v, hv, hk⟩ := hc
    obtain ⟨A', bs, c', rfl, hs, h1, _, h3, h4⟩ := bytes_of hk
    exact ⟨bs, b, o, A', c', hA, hb, hv, ⟨hs, h1, by omega, h4⟩⟩)
  exact ⟨ls, hl, hp⟩

end Go.Proofs.Ytakgeeopfclmoaa
