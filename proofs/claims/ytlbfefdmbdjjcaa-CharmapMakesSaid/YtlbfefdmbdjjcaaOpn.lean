/-
  Dots and boxes handed to a law, opened.
-/
import Derived.Test.YtlbfefdmbdjjcaaFlat
namespace Go.Proofs.Ytlbfefdmbdjjcaa
open Go.RowKit

theorem dot_of {W : World} {cs : List Value} (hl : cs.length = 2) (h : CellsOk W [.int .i64, .int .i64] (fun j => cs[j]?)) : ∃ a b, cs = [.int .i64 a, .int .i64 b] := by
  simp only [CellsOk, and_true] at h
  obtain ⟨⟨u, hu, ku⟩, v, hv, kv⟩ := h
  simp only [CellOk] at ku kv
  obtain ⟨x, rfl, -⟩ := ku
  obtain ⟨y, rfl, -⟩ := kv
  match cs, hl with
  | [p, q], _ =>
    simp at hu hv
    exact ⟨x, y, by rw [hu, hv]⟩
theorem box_of {W : World} {cs : List Value} (hl : cs.length = 4) (h : CellsOk W [.int .i64, .int .i64, .int .i64, .int .i64] (fun j => cs[j]?)) : ∃ a b c d, cs = [.int .i64 a, .int .i64 b, .int .i64 c, .int .i64 d] := by
  simp only [CellsOk, and_true] at h
  obtain ⟨⟨u, hu, ku⟩, ⟨v, hv, kv⟩, ⟨s, hs, ks⟩, t, ht, kt⟩ := h
  simp only [CellOk] at ku kv ks kt
  obtain ⟨x, rfl, -⟩ := ku
  obtain ⟨y, rfl, -⟩ := kv
  obtain ⟨z, rfl, -⟩ := ks
  obtain ⟨o, rfl, -⟩ := kt
  match cs, hl with
  | [p, q, r, m], _ =>
    simp at hu hv hs ht
    exact ⟨x, y, z, o, by rw [hu, hv, hs, ht]⟩
end Go.Proofs.Ytlbfefdmbdjjcaa
