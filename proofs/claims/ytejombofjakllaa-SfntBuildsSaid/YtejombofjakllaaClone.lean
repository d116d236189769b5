/-
  slices.Clone of bytes; a row of bytes that may be written.
-/
import Derived.Test.YtejombofjakllaaRowsAt
import Derived.Test.YtejombofjakllaaBs
import Derived.Test.YtejombofjakllaaRepeat
import Derived.Lib.SliceRun
namespace Go.Proofs.Ytejombofjakllaa
open Go.RowKit

/-- Block k's first cells are bytes. -/
def Byt (w : World) (k : Nat) (bs : List UInt8) : Prop := ∃ ex : List Value, Blk w k 5 (bs.map byteV ++ ex)
section
variable {w w' : World} {k : Nat} {bs : List UInt8}
theorem Byt.lt (h : Byt w k bs) : k < w.heap.size := let ⟨_, h⟩ := h; h.lt
theorem Byt.cell (h : Byt w k bs) (i : Nat) (hi : i < bs.length) : w.cell? ⟨k, i, none⟩ = some (byteV (bs[i]?.getD 0)) := by
  obtain ⟨ex, h⟩ := h
  rw [h.cell, List.getElem?_append_left (by simpa using hi), List.getElem?_map, List.getElem?_eq_getElem hi]
  rfl
theorem Byt.frozen (h : Byt w k bs) (i : Nat) : w.frozen? ⟨k, i, none⟩ = false := let ⟨_, h⟩ := h; h.frozen i
theorem Byt.keepB (h : Byt w k bs) (hb : Below w.heap.size w w') : Byt w' k bs := let ⟨ex, h⟩ := h; ⟨ex, h.keepB hb⟩
theorem Byt.below {B : Nat} (h : Byt w k bs) (hb : Below B w w') (hlt : k < B) : Byt w' k bs := let ⟨ex, h⟩ := h; ⟨ex, h.below hb hlt⟩
theorem Byt.turn {g : Nat} (h : Byt w k bs) (ht : Turn w w' g none) (hne : k ≠ g) : Byt w' k bs := let ⟨ex, h⟩ := h; ⟨ex, ht.blk h hne (fun e => by cases e)⟩
theorem Byt.drewN (h : Byt w k bs) (n : Nat) : Byt (w.drewN n) k bs := let ⟨ex, h⟩ := h; ⟨ex, h.drewN n⟩
theorem Byt.drew (h : Byt w k bs) : Byt w.drew k bs := let ⟨ex, h⟩ := h; ⟨ex, h.drew⟩
theorem Byt.set (h : Byt w k bs) (i : Nat) (u : UInt8) (hi : i < bs.length) : Byt (w.setCell ⟨k, i, none⟩ (byteV u)) k (bs.set i u) := by
  obtain ⟨ex, h⟩ := h
  refine ⟨ex, ?_⟩
  rw [List.map_set, ← List.set_append_left _ _ (by simpa using hi)]
  exact h.set i _
theorem Byt.of_blk (h : Blk w k 5 (bs.map byteV)) : Byt w k bs := ⟨[], by rwa [List.append_nil]⟩
theorem Byt.sl (h : Byt w k bs) : SlAt w (some ⟨k, 0, none⟩) bs.length (bs.map byteV) :=
  ⟨by simp, fun i hi => ⟨k, 0, rfl, h.lt, by
    rw [Nat.zero_add, h.cell i hi, List.getElem?_map, List.getElem?_eq_getElem hi]
    rfl⟩⟩
theorem Byt.toBs {c : Nat} (h : Byt w k bs) (hc : bs.length ≤ c) (hs : bs.length ≤ 140737488355328) : Bs w (some ⟨k, 0, none⟩) bs c :=
  ⟨h.sl, hc, hs, fun i hi => by simp [rowOf] at hi; subst hi; exact h.lt⟩
theorem byt_own {base n c : Nat} {A : Option Addr} (h : w.ownsRow base 5 1 (.slice A n c) n (bs.map byteV)) (hA : A ≠ none) : ∃ g, A = some ⟨g, 0, none⟩ ∧ base ≤ g ∧ Byt w g bs ∧ n ≤ c ∧ bs.length = n := by
  obtain ⟨h1, ⟨h2, _⟩ | ⟨g, cap, cur, h2, h3, h4, h5, h6, h7, h8⟩⟩ := h
  · injection h2 with h2
    exact absurd h2 hA
  · injection h2 with e1 _ e3
    subst e1 e3
    refine ⟨g, rfl, h3, ⟨cur.toList.drop n, ?_⟩, h5, by simpa using h1⟩
    rw [← h8, Nat.mul_one, List.take_append_drop]
    unfold Blk
    rw [h4]
end

@[go_sem] theorem eqlC_nil (A : Option Addr) (l c : Nat) (w : World) : (binOp .eql 25 (.slice A l c) (.slice none 0 0)).run Try.prog w = .ok (.bool A.isNone) w := Lib.run_eql_slice_nil w _ _ A l c 0 0 Try.underlying25

set_option maxRecDepth 20000 in
set_option maxHeartbeats 1000000 in
theorem clone_new (w : World) (a : Addr) (n c : Nat) (bs : List UInt8) (h : SlAt w (some a) n (bs.map byteV)) (hn : n ≤ 140737488355328) (hn1 : 1 ≤ n) :
    Calls Try.prog 42 #[.slice (some a) n c] w fun e w' => ∃ g c', e = .returned (.slice (some ⟨g, 0, none⟩) n c') ∧ w.heap.size ≤ g ∧ Byt w' g bs ∧ n ≤ c' ∧ Below w.heap.size w w' := by
  obtain ⟨i0, hi0, hz0, hz1, hz2⟩ := info_parts u8_info
  have HS := Lib.hid h
  have HN := Lib.hid hn1
  clear h hn1
  go_enter Try.func42, Try.ntmps42
  have HR := Lib.hid ((HS.out.keep (w' := w.alloc (.cells #[] 5)) (bel_alloc bel_refl).below).reads)
  go_wp2_with (at_builtin; refine wpList_append_any _ (by rfl) (.tmp 5) (.tmp 6) _ (by rfl) w.heap.size 5 i0 _ 1 1 Try.underlying25 hi0 hz0 hz1 hz2 rfl (by omega) _ 0 [] (by rfl) (own_empty w _) _ _ _ _ _ (by rfl) HR.out (bytes_one _) (by unfold maxLen; omega) (by omega) (by simp) ?_; intro v' w' hown hgrow hat)
  obtain ⟨A', c', rfl, hs, hge, hcap⟩ := of_ownC hown
  go_ret
  rw [Nat.zero_add] at *
  rw [List.nil_append] at hown
  have hA : A' ≠ none := fun e => by
    subst e
    obtain ⟨b, o, hb, _⟩ := hs.2 0 (by have := HN.out; omega)
    cases hb
  obtain ⟨g, rfl, hg, hB, hc, _⟩ := byt_own hown hA
  refine ⟨g, c', rfl, hg, hB, hc, ?_⟩
  exact (bel_alloc bel_refl).below.trans ⟨hgrow.os, hgrow.tape, hgrow.output, hgrow.size, fun k hk => hgrow.block k (by simp; omega) (by simp [Value.ownBlock]; omega)⟩

end Go.Proofs.Ytejombofjakllaa
