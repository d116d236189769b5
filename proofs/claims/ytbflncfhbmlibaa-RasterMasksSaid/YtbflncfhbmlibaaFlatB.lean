/-
  An argument's slice of bytes.
-/
import Derived.Test.YtbflncfhbmlibaaFlat
import Derived.Test.YtbflncfhbmlibaaWire
namespace Go.Proofs.Ytbflncfhbmlibaa
open Go.RowKit

theorem byteV_int {n : Int} (h0 : 0 ≤ n) (h1 : n < 256) : Value.int .u8 n = byteV (UInt8.ofNat n.toNat) := by
  unfold byteV
  congr 1
  simp
  omega
theorem bytes_of {w : World} {v : Value} (h : CellOk w (.sl 1 [.int .u8]) v) :
    ∃ (A : Option Addr) (bs : List UInt8) (c : Nat), v = .slice A bs.length c ∧ SlAt w A bs.length (bs.map byteV) ∧ bs.length ≤ c ∧ c ≤ maxLen ∧ bs.length ≤ 140737488351232 ∧ (0 < bs.length → ∀ k, rowOf A = some k → k < w.heap.size) := by
  simp only [CellOk] at h
  obtain ⟨A, n, c, rfl, h1, h2, h3, h4⟩ := h
  have key : ∀ i, i < n → ∃ u : UInt8, ∃ (b : Nat) (o : Nat), A = some ⟨b, o, none⟩ ∧ b < w.heap.size ∧ w.cell? ⟨b, o + i, none⟩ = some (byteV u) := by
    intro i hi
    obtain ⟨b, o, hA, hb, hc⟩ := h4 i hi
    simp only [CellsOk, CellOk, List.length_cons, List.length_nil, Nat.zero_add, Nat.mul_one, Nat.add_zero, and_true] at hc
    obtain ⟨v, hv, n, rfl, hw⟩ := hc
    obtain ⟨g0, g1⟩ := bounds_u8 hw
    exact ⟨_, b, o, hA, hb, by rw [hv, byteV_int g0 (by omega)]⟩
  obtain ⟨bs, hl, hp⟩ := list_of n key
  subst hl
  refine ⟨A, bs, c, rfl, ⟨by simp, fun k hk => ?_⟩, h1, h2, by omega, fun h0 k hk => ?_⟩
  · obtain ⟨b, o, hA, hb, hc⟩ := hp k _ (List.getElem?_eq_getElem hk)
    exact ⟨b, o, hA, hb, by rw [hc, List.getElem?_map, List.getElem?_eq_getElem hk]; rfl⟩
  · obtain ⟨b, o, hA, hb, _⟩ := hp 0 _ (List.getElem?_eq_getElem h0)
    subst hA
    simp only [rowOf, Option.map_some, Option.some.injEq] at hk
    omega

end Go.Proofs.Ytbflncfhbmlibaa
