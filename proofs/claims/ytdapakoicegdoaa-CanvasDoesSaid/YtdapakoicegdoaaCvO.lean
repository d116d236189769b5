/-
  A Call, opened.
-/
import Derived.Test.YtdapakoicegdoaaLs
import Derived.Test.YtdapakoicegdoaaFlatB
import Derived.Test.YtdapakoicegdoaaLists
namespace Go.Proofs.Ytdapakoicegdoaa
open Go.ChangeShapes Go.WideShapes Go.ChangeAt Go.RowKit

/-- A call's numbers and its mask's bytes. -/
structure Cl where
  k : Int
  m0 : Int
  m1 : Int
  m2 : Int
  m3 : Int
  A : Option Addr
  ms : List UInt8
  cm : Nat
  b0 : Int
  b1 : Int
  b2 : Int
  b3 : Int
  x : Int
  y : Int
  c : Int
def Cl.cells (o : Cl) : List Value := [.int .i64 o.k, .int .i64 o.m0, .int .i64 o.m1, .int .i64 o.m2, .int .i64 o.m3, .slice o.A o.ms.length o.cm, .int .i64 o.b0, .int .i64 o.b1, .int .i64 o.b2, .int .i64 o.b3, .int .i64 o.x, .int .i64 o.y, .int .i64 o.c]
theorem call_of {w : World} {cs : List Value} (hl : cs.length = 13)
    (h : CellsOk w [.int .i64, .int .i64, .int .i64, .int .i64, .int .i64, .sl 1 [.int .u8], .int .i64, .int .i64, .int .i64, .int .i64, .int .i64, .int .i64, .int .i64] (fun j => cs[j]?)) : ∃ o : Cl, cs = o.cells ∧ Bw w o.A o.ms o.cm := by
  rw [CellsOk] at h; obtain ⟨⟨v0, q0, h0⟩, h⟩ := h
  rw [CellsOk] at h; obtain ⟨⟨v1, q1, h1⟩, h⟩ := h
  rw [CellsOk] at h; obtain ⟨⟨v2, q2, h2⟩, h⟩ := h
  rw [CellsOk] at h; obtain ⟨⟨v3, q3, h3⟩, h⟩ := h
  rw [CellsOk] at h; obtain ⟨⟨v4, q4, h4⟩, h⟩ := h
  rw [CellsOk] at h; obtain ⟨⟨v5, q5, h5⟩, h⟩ := h
  rw [CellsOk] at h; obtain ⟨⟨v6, q6, h6⟩, h⟩ := h
  rw [CellsOk] at h; obtain ⟨⟨v7, q7, h7⟩, h⟩ := h
  rw [CellsOk] at h; obtain ⟨⟨v8, q8, h8⟩, h⟩ := h
  rw [CellsOk] at h; obtain ⟨⟨v9, q9, h9⟩, h⟩ := h
  rw [CellsOk] at h; obtain ⟨⟨v10, q10, h10⟩, h⟩ := h
  rw [CellsOk] at h; obtain ⟨⟨v11, q11, h11⟩, h⟩ := h
  rw [CellsOk] at h; obtain ⟨⟨v12, q12, h12⟩, h⟩ := h
  simp only [CellOk] at h0 h1 h2 h3 h4 h6 h7 h8 h9 h10 h11 h12
  obtain ⟨n0, rfl, -⟩ := h0
  obtain ⟨n1, rfl, -⟩ := h1
  obtain ⟨n2, rfl, -⟩ := h2
  obtain ⟨n3, rfl, -⟩ := h3
  obtain ⟨n4, rfl, -⟩ := h4
  obtain ⟨A, bs, c, rfl, hs, hc, -, hb, hr⟩ := bytes_of h5
  obtain ⟨n6, rfl, -⟩ := h6
  obtain ⟨n7, rfl, -⟩ := h7
  obtain ⟨n8, rfl, -⟩ := h8
  obtain ⟨n9, rfl, -⟩ := h9
  obtain ⟨n10, rfl, -⟩ := h10
  obtain ⟨n11, rfl, -⟩ := h11
  obtain ⟨n12, rfl, -⟩ := h12
  exact ⟨⟨n0, n1, n2, n3, n4, A, bs, c, n6, n7, n8, n9, n10, n11, n12⟩, list_13 hl ⟨q0, q1, q2, q3, q4, q5, q6, q7, q8, q9, q10, q11, q12⟩, ⟨hs, hc, Nat.le_trans hb (by omega), hr⟩⟩

end Go.Proofs.Ytdapakoicegdoaa
