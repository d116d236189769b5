/-
  As it was, but for the blocks of a set.
-/
import Derived.Test.YtbflncfhbmlibaaBlk
namespace Go.Proofs.Ytbflncfhbmlibaa
open Go.RowKit

structure Tn (S : Nat → Prop) (A B : World) : Prop where
  os : B.os = A.os
  tape : B.tape = A.tape
  output : B.output = A.output
  size : A.heap.size ≤ B.heap.size
  block : ∀ i, i < A.heap.size → ¬ S i → B.heap[i]? = A.heap[i]?
section
variable {S : Nat → Prop} {A B C : World} {b : Nat} {t : TypeId} {cs : List Value}
theorem Tn.refl (A : World) : Tn S A A := ⟨rfl, rfl, rfl, Nat.le_refl _, fun _ _ _ => rfl⟩
theorem Tn.trans (h : Tn S A B) (k : Tn S B C) : Tn S A C :=
  ⟨k.os.trans h.os, k.tape.trans h.tape, k.output.trans h.output, Nat.le_trans h.size k.size, fun i hi hn => (k.block i (Nat.lt_of_lt_of_le hi h.size) hn).trans (h.block i hi hn)⟩
theorem Tn.of_below (h : Below A.heap.size A B) : Tn S A B := ⟨h.os, h.tape, h.output, h.size, fun i hi _ => h.block i hi⟩
theorem Tn.call (h : Tn S A B) (k : Below B.heap.size B C) : Tn S A C := h.trans (.of_below k)
theorem Tn.behind (h : Below A.heap.size A B) (k : Tn S B C) : Tn S A C := (Tn.of_below h).trans k
theorem Tn.alloc (h : Tn S A B) (o : Obj) : Tn S A (B.alloc o) := h.call (bel_alloc bel_refl).below
theorem Tn.drewN (h : Tn S A B) (n : Nat) : Tn S A (B.drewN n) := ⟨h.os, h.tape, h.output, h.size, h.block⟩
theorem Tn.drew (h : Tn S A B) : Tn S A B.drew := ⟨h.os, h.tape, h.output, h.size, h.block⟩
theorem Tn.set {p : Addr} (h : Tn S A B) (hp : S p.block ∨ A.heap.size ≤ p.block) (v : Value) : Tn S A (B.setCell p v) :=
  ⟨h.os, h.tape, h.output, by have := h.size; simpa [World.setCell] using this, fun i hi hn => (Below.heap_setCell _ _ _ _ (fun e => hp.elim (fun hp => hn (by rw [e]; exact hp)) (fun hp => absurd hi (by rw [e]; omega)))).trans (h.block i hi hn)⟩
theorem Tn.mono {S' : Nat → Prop} (h : Tn S A B) (hS : ∀ i, S i → S' i ∨ A.heap.size ≤ i) : Tn S' A B := ⟨h.os, h.tape, h.output, h.size, fun i hi hn => h.block i hi (fun hs => (hS i hs).elim hn (fun h1 => absurd hi (by omega)))⟩
theorem Tn.blk (h : Tn S A B) (hb : Blk A b t cs) (hn : ¬ S b) : Blk B b t cs := (h.block b hb.lt hn).trans hb
theorem Tn.cell (h : Tn S A B) {o : Nat} {v : Value} (hb : A.cell? ⟨b, o, none⟩ = some v) (hn : ¬ S b) : B.cell? ⟨b, o, none⟩ = some v :=
  (World.cell?_of_block (h.block b (World.block_lt_of_cell? A ⟨b, o, none⟩ hb) hn)).trans hb
theorem Tn.below {n : Nat} (h : Tn S A B) (hS : ∀ i, i < n → ¬ S i) (hn : n ≤ A.heap.size) : Below n A B := ⟨h.os, h.tape, h.output, h.size, fun i hi => h.block i (by omega) (hS i hi)⟩
end
end Go.Proofs.Ytbflncfhbmlibaa
