/-
  Layer 15: entries that came in.
-/
import Derived.Test.YtoofjkhigonppaaDcM
import Derived.Test.YtoofjkhigonppaaFlat
namespace Go.Proofs.Ytoofjkhigonppaa
open Go.ChangeShapes Go.WideShapes Go.ChangeAt Go.RowKit

theorem bounds_in {n : Int} (h : (Lit.int .i64 n).wf = true) : -9223372036854775808 ≤ n ∧ n ≤ 9223372036854775807 := by
  have := bounds_i64 h
  omega
theorem ints_in {w : World} {v : Value} (h : CellOk w (.sl 8 [.int .i64]) v) : ∃ (A : Option Addr) (xs : List Int) (c : Nat), v = .slice A xs.length c ∧ SlAt w A xs.length (xs.map (Value.int .i64)) ∧ InI xs ∧ xs.length ≤ 17592186044416 := by
  simp only [CellOk] at h
  obtain ⟨A, n, c, rfl, h1, h2, h3, h4⟩ := h
  have key : ∀ i, i < n → ∃ u : Int, (-9223372036854775808 ≤ u ∧ u ≤ 9223372036854775807) ∧ ∃ (b : Nat) (o : Nat), A = some ⟨b, o, none⟩ ∧ b < w.heap.size ∧ w.cell? ⟨b, o + i, none⟩ = some (.int .i64 u) := by
    intro i hi
    obtain ⟨b, o, hA, hb, hc⟩ := h4 i hi
    simp only [CellsOk, CellOk, List.length_cons, List.length_nil, Nat.zero_add, Nat.mul_one, Nat.add_zero, and_true] at hc
    obtain ⟨v, hv, n, rfl, hw⟩ := hc
    exact ⟨n, bounds_in hw, b, o, hA, hb, hv⟩
  obtain ⟨xs, hl, hp⟩ := list_of n key
  subst hl
  refine ⟨A, xs, c, rfl, ⟨by simp, fun k hk => ?_⟩, fun x hx => ?_, by omega⟩
  · obtain ⟨-, b, o, hA, hb, hc⟩ := hp k _ (List.getElem?_eq_getElem hk)
    exact ⟨b, o, hA, hb, by rw [hc, List.getElem?_map, List.getElem?_eq_getElem hk]; rfl⟩
  · obtain ⟨k, hk⟩ := List.getElem?_of_mem hx
    exact (hp k x hk).1
theorem ents_of {w : World} {A : Option Addr} {n : Nat} (h : ∀ i, i < n → ∃ b o, A = some ⟨b, o, none⟩ ∧ b < w.heap.size ∧ CellsOk w [.int .i64, .sl 8 [.int .i64]] (fun j => w.cell? ⟨b, o + (i * [CK.int .i64, .sl 8 [.int .i64]].length + j), none⟩)) :
    ∃ es : List En, EnL w A n es ∧ EnIn es := by
  have key : ∀ i, i < n → ∃ v : En, ((-9223372036854775808 ≤ v.op ∧ v.op ≤ 9223372036854775807) ∧ InI v.xs ∧ v.xs.length ≤ 17592186044416 ∧ SlAt w v.A v.xs.length (v.xs.map (Value.int .i64))) ∧ ∃ (b : Nat) (o : Nat), A = some ⟨b, o, none⟩ ∧ b < w.heap.size ∧ w.cell? ⟨b, o + i * 2, none⟩ = some (.int .i64 v.op) ∧ w.cell? ⟨b, o + i * 2 + 1, none⟩ = some (.slice v.A v.xs.length v.c) := by
    intro i hi
    obtain ⟨b, o, hA, hb, hc⟩ := h i hi
    simp only [CellsOk, and_true] at hc
    obtain ⟨⟨v, hv, hk⟩, v2, hv2, hk2⟩ := hc
    simp only [CellOk] at hk
    obtain ⟨op, rfl, hop⟩ := hk
    obtain ⟨A2, xs, c2, rfl, hs, hin, hlen⟩ := ints_in hk2
    exact ⟨⟨op, A2, c2, xs⟩, ⟨bounds_in hop, hin, hlen, hs⟩, b, o, hA, hb, hv, hv2⟩
  obtain ⟨es, hl, hp⟩ := list_of n key
  refine ⟨es, ⟨?_, fun v hv => ?_, fun v hv => ?_⟩, fun v hv => ?_⟩
  · refine ⟨by simp [hl], fun i r hr => ?_⟩
    rw [List.getElem?_map] at hr
    obtain ⟨v, hv, rfl⟩ := Option.map_eq_some_iff.1 hr
    obtain ⟨-, b, o, hA, hb, h0, h1⟩ := hp i v hv
    refine ⟨rfl, b, o, hA, hb, fun j u hu => ?_⟩
    match j, hu with
    | 0, hu => simp only [enC, List.getElem?_cons_zero, Option.some.injEq] at hu; subst hu; exact h0
    | 1, hu => simp only [enC, List.getElem?_cons_succ, List.getElem?_cons_zero, Option.some.injEq] at hu; subst hu; exact h1
    | k + 2, hu => simp [enC] at hu
  · obtain ⟨k, hk⟩ := List.getElem?_of_mem hv
    exact (hp k v hk).1.2.2.2
  · obtain ⟨k, hk⟩ := List.getElem?_of_mem hv
    exact (hp k v hk).1.2.2.1
  · obtain ⟨k, hk⟩ := List.getElem?_of_mem hv
    exact ⟨(hp k v hk).1.1, (hp k v hk).1.2.1⟩
end Go.Proofs.Ytoofjkhigonppaa
