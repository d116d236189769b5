/-
  Bytes that are read: of an argument, an empty one too; made by append; as a string; what stays as it was.
-/
import Derived.Test.YtbflncfhbmlibaaFlatB
import Derived.Test.YtbflncfhbmlibaaStr
import Derived.Test.YtbflncfhbmlibaaBlk
namespace Go.Proofs.Ytbflncfhbmlibaa
open Go.RowKit

/-- Bytes that came in, to be read. -/
structure Bs (w : World) (A : Option Addr) (bs : List UInt8) (c : Nat) : Prop where
  sl : SlAt w A bs.length (bs.map byteV)
  cap : bs.length ≤ c
  small : bs.length ≤ 140737488355328
  row : ∀ k, rowOf A = some k → k < w.heap.size
theorem Bs.keep {w w' : World} {A : Option Addr} {bs : List UInt8} {c : Nat} (h : Bs w A bs c) (hb : Below w.heap.size w w') : Bs w' A bs c :=
  ⟨h.sl.keep hb, h.cap, h.small, fun k hk => Nat.lt_of_lt_of_le (h.row k hk) hb.size⟩

theorem Bs.of_sl {w : World} {A : Option Addr} {bs : List UInt8} {n c : Nat} (hn : bs.length = n) (h0 : 0 < n) (h : SlAt w A n (bs.map byteV)) (hc : n ≤ c) (hs : n ≤ 140737488355328) : Bs w A bs c := by
  subst hn
  refine ⟨h, hc, hs, fun k hk => ?_⟩
  obtain ⟨b, o, rfl, hb, _⟩ := h.2 0 h0
  simp only [rowOf, Option.map_some, Option.some.injEq] at hk
  omega
theorem Bs.nil (w : World) : Bs w none [] 0 := ⟨SlAt.nil _ _, Nat.le_refl _, Nat.zero_le _, fun k e => by cases e⟩

/-- What 'append([]byte{}, b...)' makes. -/
theorem own_bs {w : World} {n base : Nat} {e : TypeId} {v : Value} {bs : List UInt8} (h : w.ownsRow base e 1 v n (bs.map byteV)) (hs : n ≤ 140737488355328) :
    ∃ A c, v = .slice A bs.length c ∧ Bs w A bs c := by
  have hlt : ∀ A m c, v = .slice A m c → ∀ k, rowOf A = some k → k < w.heap.size := by
    intro A m c hv k hk
    obtain ⟨_, ⟨h1, h2⟩ | ⟨g, cap, cur, h1, _, h3, _⟩⟩ := h
    · rw [hv] at h1
      injection h1 with h4
      subst h4
      cases hk
    · rw [hv] at h1
      injection h1 with h4
      subst h4
      injection hk with hk
      subst hk
      rcases Nat.lt_or_ge g w.heap.size with h' | h'
      · exact h'
      · rw [Array.getElem?_eq_none h'] at h3
        cases h3
  obtain ⟨A, c, rfl, h1, h2, h3⟩ := of_ownC h
  have hn : bs.length = n := by simpa using h1.1
  subst hn
  exact ⟨A, c, rfl, ⟨h1, h3, hs, hlt _ _ _ rfl⟩⟩
theorem grow_below {w w1 : World} {o : Obj} {a : Addr} {n c : Nat} (ha : a.block = w.heap.size) (h : (w.alloc o).grownBy w1 (.slice (some a) n c : Value).ownBlock) : Below w.heap.size w w1 :=
  (bel_alloc bel_refl).below.trans ⟨h.os, h.tape, h.output, h.size, fun k hk => h.block k (by simp; omega) (by simp [Value.ownBlock]; omega)⟩

theorem Blk.keepB {w w' : World} {b : Nat} {t : TypeId} {cs : List Value} (h : Blk w b t cs) (hb : Below w.heap.size w w') : Blk w' b t cs := h.below hb h.lt
/-- As W, and new memory. -/
def Aft (W u : World) : Prop := Below W.heap.size W u
theorem aft_refl {W : World} : Aft W W := bel_refl.below
theorem aft_drew {W : World} : Aft W W.drew := (bel_drew bel_refl).below
theorem Aft.call {W u v : World} (h : Aft W u) (k : Below u.heap.size u v) : Aft W v := h.trans (k.mono h.size)
theorem Aft.size {W u : World} (h : Aft W u) : W.heap.size ≤ u.heap.size := Below.size h
theorem Aft.alloc {W u : World} (h : Aft W u) (o : Obj) : Aft W (u.alloc o) := (bel_alloc (⟨h, h.size⟩ : Bel W.heap.size W u)).below
theorem Aft.set {W u : World} {p : Addr} (h : Aft W u) (hp : W.heap.size ≤ p.block) (v : Value) : Aft W (u.setCell p v) := h.setCell hp v
theorem Aft.drew {W u : World} (h : Aft W u) : Aft W u.drew := (bel_drew (⟨h, h.size⟩ : Bel W.heap.size W u)).below
theorem Aft.bel {B : Nat} {W0 W u : World} (h : Aft W u) (k : Bel B W0 W) : Bel B W0 u := bel_call h k
theorem Blk.aft {W : World} {b : Nat} {t : TypeId} {cs : List Value} (h : Blk W b t cs) : ∀ u, Aft W u → ∀ i, u.cell? ⟨b, i, none⟩ = cs[i]? := fun _ hu => (h.keepB hu).cell

theorem SlAt.aft {W : World} {A : Option Addr} {n : Nat} {bs : List UInt8} (h : SlAt W A n (bs.map byteV)) : ∀ u, Aft W u → ∀ c, (convert 27 9 (.slice A n c)).run Try.prog u = .ok (.string (strB bs)) u :=
  fun _ hu c => run_str (P := Try.prog) (h.keep hu) Try.underlying27 Try.underlying5 Try.underlying9 c

theorem own_at {B n : Nat} {b : Option Nat} {a : Addr} {m c : Nat} (ha : a.block = B) (hn : B ≤ n) (h : b = (.slice (some a) m c : Value).ownBlock ∨ b = some n) : ∀ k, b = some k → B ≤ k := by
  intro k hk
  rcases h with h | h
  · rw [h] at hk
    simp only [Value.ownBlock, Option.some.injEq] at hk
    omega
  · rw [h] at hk
    injection hk with hk
    omega

theorem arg_row {P : Program} {w : World} {r : Reach} {base : Nat} {t e : TypeId} {A : Option Addr} {n c : Nat} (ht : P.underlying t = some (.slice e)) (h : Value.okWide P w r base t (.slice A n c)) : ∀ k, rowOf A = some k → k < w.heap.size := by
  intro k hk
  cases A with
  | none => cases hk
  | some a =>
    simp only [rowOf, Option.map_some, Option.some.injEq] at hk
    simp only [Value.okWide, ht, Cell.okWide, Cell.ok, World.has] at h
    obtain ⟨_, _, _, _, row, cells, hs, _⟩ := h
    rw [hk] at hs
    rcases Nat.lt_or_ge k w.heap.size with h' | h'
    · exact h'
    · unfold World.shape? at hs
      rw [Array.getElem?_eq_none h'] at hs
      cases hs

theorem arg_bytes {P : Program} {w : World} {r : Reach} {base : Nat} {t e : TypeId} {A : Option Addr} {n c : Nat} (ht : P.underlying t = some (.slice e)) (h : Value.okWide P w r base t (.slice A n c)) (h1 : n ≤ c) (h2 : c ≤ maxLen) (h3 : n * 1 ≤ 140737488351232)
    (h4 : ∀ i, i < n → ∃ b o, A = some ⟨b, o, none⟩ ∧ b < w.heap.size ∧ CellsOk w [.int .u8] (fun j => w.cell? ⟨b, o + (i * [CK.int .u8].length + j), none⟩)) : ∃ bs : List UInt8, bs.length = n ∧ Bs w A bs c ∧ bs.length ≤ 140737488351232 := by
  obtain ⟨A', bs, c', e, g1, g2, g3, g4, g5⟩ := bytes_of (w := w) (v := .slice A n c) (by simp only [CellOk]; exact ⟨A, n, c, rfl, h1, h2, h3, h4⟩)
  injection e with e1 e2 e3
  subst e1 e2 e3
  exact ⟨bs, rfl, ⟨g1, g2, by omega, arg_row ht h⟩, g4⟩

end Go.Proofs.Ytbflncfhbmlibaa
