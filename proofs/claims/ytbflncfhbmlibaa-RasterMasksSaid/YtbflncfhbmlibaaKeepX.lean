/-
  As it was, up to a block's number, but for one block.
-/
import Derived.Test.YtbflncfhbmlibaaRange
import Derived.Test.YtbflncfhbmlibaaBlk
namespace Go.Proofs.Ytbflncfhbmlibaa
open Go.RowKit Go.Shelf

structure KeepX (n0 nb : Nat) (A B : World) : Prop where
  os : B.os = A.os
  tape : B.tape = A.tape
  output : B.output = A.output
  size : A.heap.size ≤ B.heap.size
  block : ∀ k, k < n0 → k ≠ nb → B.heap[k]? = A.heap[k]?
section
variable {n0 nb : Nat} {A B C : World}
theorem KeepX.refl (A : World) : KeepX n0 nb A A := ⟨rfl, rfl, rfl, Nat.le_refl _, fun _ _ _ => rfl⟩
theorem KeepX.trans (h : KeepX n0 nb A B) (k : KeepX n0 nb B C) : KeepX n0 nb A C :=
  ⟨k.os.trans h.os, k.tape.trans h.tape, k.output.trans h.output, Nat.le_trans h.size k.size, fun i hi hn => (k.block i hi hn).trans (h.block i hi hn)⟩
theorem KeepX.of_below {m : Nat} (h : Below m A B) (hm : n0 ≤ m) : KeepX n0 nb A B := ⟨h.os, h.tape, h.output, h.size, fun i hi _ => h.block i (by omega)⟩
theorem KeepX.below {m : Nat} (h : KeepX n0 nb A B) (h1 : m ≤ n0) (h2 : m ≤ nb) : Below m A B := ⟨h.os, h.tape, h.output, h.size, fun i hi => h.block i (by omega) (by omega)⟩
theorem KeepX.alloc (h : KeepX n0 nb A B) (hn : n0 ≤ B.heap.size) (o : Obj) : KeepX n0 nb A (B.alloc o) := h.trans (.of_below (m := B.heap.size) (bel_alloc bel_refl).below hn)
theorem KeepX.call (h : KeepX n0 nb A B) (k : Below B.heap.size B C) (hn : n0 ≤ B.heap.size) : KeepX n0 nb A C := h.trans (.of_below k hn)
theorem KeepX.drewN (h : KeepX n0 nb A B) (n : Nat) : KeepX n0 nb A (B.drewN n) := ⟨h.os, h.tape, h.output, h.size, h.block⟩
theorem KeepX.set (h : KeepX n0 nb A B) (i : Nat) (v : Value) : KeepX n0 nb A (B.setCell ⟨nb, i, none⟩ v) :=
  h.trans ⟨rfl, rfl, rfl, by simp, fun k _ hk => by
    simp only [World.setCell, Array.getElem?_modify]
    rw [if_neg (fun e => hk e.symm)]⟩
theorem KeepX.blk {t : TypeId} {b : Nat} {cs : List Value} (h : KeepX n0 nb A B) (hb : Blk A b t cs) (h1 : b < n0) (h2 : b ≠ nb) : Blk B b t cs := (h.block b h1 h2).trans hb
theorem keepX_t (h : KeepX n0 nb A B) (k : KeepX n0 nb B C) : KeepX n0 nb A C := h.trans k
theorem keepX_b {w : World} (hn : n0 ≤ w.heap.size) (W : World) (l : Nat) (o o' : Obj) (hl : w.heap.size ≤ l) (h : W.heap[l]? = some o) (h1 : o.isCells = false) (h2 : o.isWalk = false) : KeepX n0 nb W (W.putObj l o') :=
  .of_below (belowK_b hn W l o o' hl h h1 h2) (Nat.le_refl _)
theorem ownFrom_keepX {β : Type} {n0 nb B : Nat} {w0 : World} (hn : n0 ≤ w0.heap.size) (hB : n0 ≤ B) : OwnFrom B (fun (_ : β) W => KeepX n0 nb w0 W) :=
  fun _ W W' row hs hg hr => hs.trans ⟨hg.os, hg.tape, hg.output, hg.size, fun k hk _ => hg.block k (by have := hs.size; omega) (fun e => by have := (hr k e.symm).1; omega)⟩
end

/-- What lies in a cell, and that it may be written. -/
def CellIs (b : Nat) (v : Value) (W : World) : Prop := W.cell? ⟨b, 0, none⟩ = some v ∧ W.frozen? ⟨b, 0, none⟩ = false
theorem cellIs_own {β : Type} (b : Nat) (f : β → Value) : Own (fun s W => CellIs b (f s) W) := fun _ _ _ _ hs hg hr => ⟨cell_kept hs.1 hg hr, (frozen_kept hs.1 hg hr).trans hs.2⟩
theorem CellIs.lt {b : Nat} {v : Value} {W : World} (h : CellIs b v W) : b < W.heap.size := World.block_lt_of_cell? W ⟨b, 0, none⟩ h.1
theorem CellIs.call {b : Nat} {v : Value} {W W' : World} (h : CellIs b v W) (hb : Below W.heap.size W W') : CellIs b v W' := ⟨(hb.cell (p := ⟨b, 0, none⟩) h.lt).trans h.1, (hb.frozen (p := ⟨b, 0, none⟩) h.lt).trans h.2⟩
theorem CellIs.set {b : Nat} {v : Value} {W : World} (h : CellIs b v W) (u : Value) : CellIs b u (W.setCell ⟨b, 0, none⟩ u) := ⟨World.cell?_setCell_same' _ _ _ (by rw [h.1]; rfl), by rw [World.frozen?_setCell]; exact h.2⟩
theorem CellIs.far {b b' : Nat} {v : Value} {W : World} (h : CellIs b v W) (hne : b' ≠ b) (u : Value) : CellIs b v (W.setCell ⟨b', 0, none⟩ u) := ⟨(World.cell?_setCell_other W _ _ _ (fun e => hne (by injection e))).trans h.1, by rw [World.frozen?_setCell]; exact h.2⟩
theorem CellIs.keepX {b n0 nb : Nat} {v : Value} {A B : World} (h : CellIs b v A) (hk : KeepX n0 nb A B) (h1 : b < n0) (h2 : b ≠ nb) : CellIs b v B := ⟨(World.cell?_of_block (hk.block b h1 h2)).trans h.1, (World.frozen?_of_block (hk.block b h1 h2)).trans h.2⟩
theorem Blk.cellIs {W : World} {b : Nat} {t : TypeId} {v : Value} (h : Blk W b t [v]) : CellIs b v W := ⟨h.cell 0, h.frozen 0⟩
theorem blk_own {β : Type} (b : Nat) (t : TypeId) (f : β → List Value) : Own (fun s W => Blk W b t (f s)) := by
  intro s W W' row hs hg hr
  refine (hg.block b (Blk.lt hs) (fun e => ?_)).trans hs
  obtain ⟨o, ho, hc⟩ := hr b e.symm
  rw [show W.heap[b]? = _ from hs] at ho
  cases ho
  cases hc
theorem keepsOthers_below {W W' : World} (h : Below W.heap.size W W') : KeepsOthers W W' := ⟨h.size, fun k _ ho _ => (h.block k (Array.getElem?_eq_some_iff.1 ho).1).trans ho⟩

end Go.Proofs.Ytbflncfhbmlibaa
