/-
  do of layer 26, any call; a slice of calls.
-/
import Derived.Test.YtdapakoicegdoaaCxF
import Derived.Test.YtdapakoicegdoaaCxG
import Derived.Test.YtdapakoicegdoaaCvO
namespace Go.Proofs.Ytdapakoicegdoaa
open Go.RowKit

def Cl.val (o : Cl) : Value := .agg #[.int .i64 o.k, .int .i64 o.m0, .int .i64 o.m1, .int .i64 o.m2, .int .i64 o.m3, .slice o.A o.ms.length o.cm, .int .i64 o.b0, .int .i64 o.b1, .int .i64 o.b2, .int .i64 o.b3, .int .i64 o.x, .int .i64 o.y, .int .i64 o.c]
theorem do_any {w : World} {g k W H c g' k' c' : Nat} {bs : List UInt8} {o : Cl} (hv : Cv 102 w g k W H c bs) (hx : Cv 54 w g' k' W H c' bs) (hgk : g' ≠ k) (hkg : g ≠ k') (hkk : k ≠ k') (hms : Bw w o.A o.ms o.cm) (hn : 0 < o.ms.length → ∀ b, rowOf o.A = some b → b ≠ k ∧ b ≠ k') :
    Calls Try.prog 28 #[.pointer (some ⟨g, 0, none⟩), .pointer (some ⟨g', 0, none⟩), o.val] w fun e w' =>
      e = .returned (.bool true) ∧ ∃ bs', Cv 102 w' g k W H c bs' ∧ Cv 54 w' g' k' W H c' bs' ∧ Turn w w' k (some k') := by
  unfold Cl.val
  by_cases hk : o.k = 2
  · rw [hk]
    by_cases hz : flErr o = 0
    · exact (do_fillok hv hx hgk hkg hkk hz).mono fun e w' ⟨he, h1, h2, h3⟩ => ⟨he, _, h1, h2, h3⟩
    · exact (do_fillno hz).mono fun e w' ⟨he, hb⟩ => ⟨he, _, hv.keep hb, hx.keep hb, Turn.of_below hb⟩
  · by_cases hz : blErr o = 0
    · exact (do_blendok hv hx hgk hkg hkk hk hms hn hz).mono fun e w' ⟨he, h1, h2, h3⟩ => ⟨he, _, h1, h2, h3⟩
    · exact (do_blendno hk hms.small hz).mono fun e w' ⟨he, hb⟩ => ⟨he, _, hv.keep hb, hx.keep hb, Turn.of_below hb⟩

/-- The calls of a slice, in memory. -/
def CallsAt (w : World) (A : Option Addr) (os : List Cl) : Prop :=
  ∀ i o, os[i]? = some o → ∃ b off, A = some ⟨b, off, none⟩ ∧ b < w.heap.size ∧ (∀ j v, o.cells[j]? = some v → w.cell? ⟨b, off + (i * 13 + j), none⟩ = some v) ∧ Bw w o.A o.ms o.cm
theorem CallsAt.keep {w w' : World} {A : Option Addr} {os : List Cl} (h : CallsAt w A os) (hb : Below w.heap.size w w') : CallsAt w' A os := fun i o ho => by
  obtain ⟨b, off, hA, hlt, hc, hm⟩ := h i o ho
  exact ⟨b, off, hA, Nat.lt_of_lt_of_le hlt hb.size, fun j v hj => by rw [hb.cell (p := ⟨b, _, none⟩) hlt]; exact hc j v hj, hm.keep hb⟩

theorem cells_some {w : World} : ∀ {ks : List CK} {f : Nat → Option Value}, CellsOk w ks f → ∀ j, j < ks.length → ∃ v, f j = some v
  | [], _, _, j, hj => by simp at hj
  | k :: ks, f, h, 0, _ => by
    simp only [CellsOk] at h
    obtain ⟨⟨v, hv, _⟩, _⟩ := h
    exact ⟨v, hv⟩
  | k :: ks, f, h, j + 1, hj => by
    simp only [CellsOk] at h
    exact cells_some (f := fun i => f (i + 1)) h.2 j (by simpa using hj)
theorem cells_list {w : World} {ks : List CK} {f : Nat → Option Value} (h : CellsOk w ks f) : ∃ vs : List Value, vs.length = ks.length ∧ ∀ j v, vs[j]? = some v → f j = some v :=
  list_of ks.length (cells_some h)
theorem call_get {w : World} {f : Nat → Option Value}
    (h : CellsOk w [.int .i64, .int .i64, .int .i64, .int .i64, .int .i64, .sl 1 [.int .u8], .int .i64, .int .i64, .int .i64, .int .i64, .int .i64, .int .i64, .int .i64] f) : ∃ o : Cl, (∀ j v, o.cells[j]? = some v → f j = some v) ∧ Bw w o.A o.ms o.cm := by
  obtain ⟨vs, hl, hv⟩ := cells_list (w := w) (ks := [.int .i64, .int .i64, .int .i64, .int .i64, .int .i64, .sl 1 [.int .u8], .int .i64, .int .i64, .int .i64, .int .i64, .int .i64, .int .i64, .int .i64]) h
  obtain ⟨o, rfl, hm⟩ := call_of hl (h.congr fun j hj => by
    rw [List.getElem?_eq_getElem (by rw [hl]; exact hj)]
    exact hv j _ (List.getElem?_eq_getElem (by rw [hl]; exact hj)))
  exact ⟨o, hv, hm⟩

theorem calls_of {w : World} {A : Option Addr} {n : Nat} (h : ∀ i, i < n → ∃ b o, A = some ⟨b, o, none⟩ ∧ b < w.heap.size ∧ CellsOk w [.int .i64, .int .i64, .int .i64, .int .i64, .int .i64, .sl 1 [.int .u8], .int .i64, .int .i64, .int .i64, .int .i64, .int .i64, .int .i64, .int .i64] (fun j => w.cell? ⟨b, o + (i * [CK.int .i64, .int .i64, .int .i64, .int .i64, .int .i64, .sl 1 [.int .u8], .int .i64, .int .i64, .int .i64, .int .i64, .int .i64, .int .i64, .int .i64].length + j), none⟩)) :
    ∃ os : List Cl, os.length = n ∧ CallsAt w A os := by
  obtain ⟨os, hl, hp⟩ := list_of (p := fun i (o : Cl) => ∃ b off, A = some ⟨b, off, none⟩ ∧ b < w.heap.size ∧ (∀ j v, o.cells[j]? = some v → w.cell? ⟨b, off + (i * 13 + j), none⟩ = some v) ∧ Bw w o.A o.ms o.cm) n (fun i hi => by
    obtain ⟨b, o, hA, hb, hc⟩ := h i hi
    obtain ⟨c, hc1, hc2⟩ := call_get hc
    exact ⟨c, b, o, hA, hb, hc1, hc2⟩)
  exact ⟨os, hl, hp⟩

end Go.Proofs.Ytdapakoicegdoaa
