/-
  Lemmas of my own that every seat of this set uses: a call through a function value in a slot, made cheap; a region that draws its order, whose calls make memory (the class of worlds that are as before below a block number); small facts.
-/
import Derived.Test.YtbflncfhbmlibaaRows
import Derived.WalkKit
import Derived.WalkSpells
import Derived.WalkLawsBesides
import Derived.Lib.Hide
import Derived.BigQuiet
import Derived.Deep.RegionHeld3
import Derived.StillTailTactics
import Derived.Deep.AppendLies
import Derived.Maps.AppendAt
namespace Go.Proofs.Ytbflncfhbmlibaa
open Go.RowKit

/-! ### A call through a function value in a slot -/
def callVal (v : Value) (args : Array Value) : Sem Next := do
  let d ← Deferred.ofValue v args
  invoke d.target d.args
@[go_sem ↓] theorem execOp_call_val (a : Act) (dst : Option Tmp) (t : Tmp) (xs : Array Operand) (ats : Array TypeId) (ty : TypeId) (pos : String) (after : Array Edge) (guard : Option (Nat × Bool)) :
    execOp a.eval { dst, op := .call { callee := .value (.tmp t), args := xs, argTypes := ats }, type := ty, pos, after, guard } = callVal (a.eval (.tmp t)) (xs.map a.eval) := rfl
@[go_sem] theorem callVal_func (f : FuncId) (first captured args : Array Value) : callVal (.func (.func f) first captured) args = callFunc f (first ++ args ++ captured) := rfl

/-! ### Below: small steps -/
theorem below_drewN {B : Nat} {a w : World} (h : Below B a w) (n : Nat) : Below B a (w.drewN n) := ⟨h.os, h.tape, h.output, h.size, h.block⟩

/-- As it was below block B, and not smaller: the form in which worlds are chained. -/
structure Bel (B : Nat) (a b : World) : Prop where
  below : Below B a b
  le : B ≤ b.heap.size
theorem bel_refl {a : World} : Bel a.heap.size a a := ⟨Below.refl _ _, Nat.le_refl _⟩
theorem bel_alloc {B : Nat} {a b : World} {o : Obj} (h : Bel B a b) : Bel B a (b.alloc o) := ⟨h.below.alloc h.le _, by have := h.le; simp; omega⟩
theorem bel_set {B : Nat} {a b : World} {p : Addr} {u : Value} (h : Bel B a b) (hp : B ≤ p.block) : Bel B a (b.setCell p u) := ⟨h.below.setCell hp _, by have := h.le; simpa [World.setCell] using this⟩
theorem bel_drew {B : Nat} {a b : World} (h : Bel B a b) : Bel B a b.drew := ⟨h.below.drew, h.le⟩
theorem bel_drewN {B : Nat} {a b : World} {n : Nat} (h : Bel B a b) : Bel B a (b.drewN n) := ⟨below_drewN h.below n, h.le⟩
theorem bel_call {B : Nat} {a b c : World} (k : Below b.heap.size b c) (h : Bel B a b) : Bel B a c := ⟨h.below.trans (k.mono h.le), Nat.le_trans h.le k.size⟩

/-- A world in which all that 'w' had is as it was. -/
structure BW (w : World) where
  val : World
  prop : Below w.heap.size w val
instance (w : World) : Nonempty (BW w) := ⟨⟨w, Below.refl _ _⟩⟩

theorem wp_region_bw_lit {P : Program} {id : Nat} {Q : Exit → Act → World → Prop} {a : Act} {w : World} {l : List Oper} (hm : P.follows .mixedOrders = true) (hB : Region.lexB .any l.toArray = true)
    (h : wpQuiet P l.toArray (fun w' => ∃ u : BW w, w' = u.val) (fun a' => ∀ w', (∃ u : BW w, w' = u.val) → Q .normal a' w') l a) : (Code.region id l.toArray true).wp P Q a w :=
  wp_region_quiet (C := fun w' => ∃ u : BW w, w' = u.val) hm hB ⟨⟨{ w with drawn := w.drawn + 1 }, ⟨rfl, rfl, rfl, Nat.le_refl _, fun _ _ => rfl⟩⟩, rfl⟩ (by simpa using h)

theorem Calls.bw_of {P : Program} {f : FuncId} {args : Array Value} {w : World} {u : BW w} {v : Value}
    (h : Calls P f args u.val fun e w' => e = .returned v ∧ Below u.val.heap.size u.val w') : Calls P f args u.val fun e w'' => e = .returned v ∧ ∃ u' : BW w, w'' = u'.val :=
  h.mono fun _ _ ⟨he, hb⟩ => ⟨he, ⟨_, u.prop.trans (hb.mono u.prop.size)⟩, rfl⟩
theorem Calls.bw_of_same {P : Program} {f : FuncId} {args : Array Value} {w : World} {u : BW w} {v : Value}
    (h : Calls P f args u.val fun e w' => e = .returned v ∧ u.val = w') : Calls P f args u.val fun e w'' => e = .returned v ∧ ∃ u' : BW w, w'' = u'.val :=
  h.mono fun _ _ ⟨he, hw⟩ => ⟨he, u, hw.symm⟩

/-- A contract that leaves the world alone, met in a quiet region, behind draws. -/
theorem Calls.q_left {P : Program} {f : FuncId} {args : Array Value} {w : World} {n : Nat} {v : Value}
    (h : Calls P f args (w.drewN n) fun e w' => e = .returned v ∧ w.drewN n = w') : Calls P f args (w.drewN n) fun e w'' => e = .returned v ∧ ∃ m, w'' = w.drewN m :=
  h.mono fun _ _ ⟨he, hm⟩ => ⟨he, n, hm.symm⟩

theorem ret_bool {a b : Bool} (h : a = b) : Ending.returned (.bool a) = .returned (.bool b) := by rw [h]
theorem ret_int {k : IntKind} {a b : Int} (h : a = b) : Ending.returned (.int k a) = .returned (.int k b) := by rw [h]

/-- What lies in a cell of which nothing is known. -/
def junkC (w : World) (b o : Nat) : Option Value := w.cell? ⟨b, o, none⟩
def junkF (w : World) (b o : Nat) : Bool := w.frozen? ⟨b, o, none⟩
def objCell (o : Obj) (i : Nat) : Option Value :=
  match o with
  | .cells c _ _ => c[i]?
  | _ => none
def objFrozen (o : Obj) (i : Nat) : Bool :=
  match o with
  | .cells _ _ (lo, hi) => lo ≤ i && i < hi
  | _ => false
@[go_sem] theorem objCell_cells (c : Array Value) (t : TypeId) (f : Nat × Nat) (i : Nat) : objCell (.cells c t f) i = c[i]? := rfl
@[go_sem] theorem objFrozen_cells (c : Array Value) (t : TypeId) (i : Nat) : objFrozen (.cells c t (0, 0)) i = false := by simp [objFrozen]
/-- A cell behind an alloc, as an 'if' that the walk decides by omega. -/
@[go_sem] theorem cell_alloc_if (w : World) (o : Obj) (b i : Nat) : (w.alloc o).cell? ⟨b, i, none⟩ = if b < w.heap.size then w.cell? ⟨b, i, none⟩ else if b = w.heap.size then objCell o i else none := by
  by_cases h : b < w.heap.size
  · rw [if_pos h]; exact World.cell?_alloc_lt w o ⟨b, i, none⟩ h
  · rw [if_neg h]
    by_cases h' : b = w.heap.size
    · subst h'
      rw [if_pos rfl]
      simp only [World.cell?, World.alloc, Array.getElem?_push, ↓reduceIte]
      cases o <;> simp [objCell]
    · rw [if_neg h']
      simp only [World.cell?, World.alloc, Array.getElem?_push, if_neg h']
      rw [Array.getElem?_eq_none (by omega)]
@[go_sem] theorem frozen_alloc_if (w : World) (o : Obj) (b i : Nat) : (w.alloc o).frozen? ⟨b, i, none⟩ = if b < w.heap.size then w.frozen? ⟨b, i, none⟩ else if b = w.heap.size then objFrozen o i else false := by
  by_cases h : b < w.heap.size
  · rw [if_pos h]; exact World.frozen?_alloc_old w o ⟨b, i, none⟩ (Nat.ne_of_lt h)
  · rw [if_neg h]
    by_cases h' : b = w.heap.size
    · subst h'
      rw [if_pos rfl]
      simp only [World.frozen?, World.alloc, Array.getElem?_push, ↓reduceIte]
      cases o <;> simp [objFrozen]
    · rw [if_neg h']
      simp only [World.frozen?, World.alloc, Array.getElem?_push, if_neg h']
      rw [Array.getElem?_eq_none (by omega)]
/-- A cell behind a store. -/
@[go_sem] theorem cell_set_if (w : World) (b i b' i' : Nat) (v : Value) : (w.setCell ⟨b, i, none⟩ v).cell? ⟨b', i', none⟩ = if b' = b then (if i' = i then (w.cell? ⟨b, i, none⟩).map (fun _ => v) else w.cell? ⟨b', i', none⟩) else w.cell? ⟨b', i', none⟩ := by
  by_cases h : b' = b
  · subst h
    rw [if_pos rfl]
    by_cases h2 : i' = i
    · subst h2
      rw [if_pos rfl]
      cases h3 : w.cell? ⟨b', i', none⟩ with
      | none =>
        simp only [World.cell?, World.setCell, Array.getElem?_modify, ↓reduceIte] at h3 ⊢
        cases h4 : w.heap[b']? with
        | none => simp
        | some o =>
          rw [h4] at h3
          cases o <;> simp_all
      | some u => exact World.cell?_setCell_same w _ _ h3
    · rw [if_neg h2]
      exact World.cell?_setCell_other w _ _ _ (fun e => h2 (by injection e with _ e2; exact e2.symm))
  · rw [if_neg h]
    exact World.cell?_setCell_other w _ _ _ (fun e => h (by injection e with e1 _; exact e1.symm))
/-- After a contract that ends in Below: each cell as an 'if', which the walk decides by omega. -/
theorem bcell {W w1 : World} (hb : Below W.heap.size W w1) : (∀ b o, w1.cell? ⟨b, o, none⟩ = if b < W.heap.size then W.cell? ⟨b, o, none⟩ else junkC w1 b o) ∧
    (∀ b o, w1.frozen? ⟨b, o, none⟩ = if b < W.heap.size then W.frozen? ⟨b, o, none⟩ else junkF w1 b o) ∧ W.heap.size ≤ w1.heap.size := by
  refine ⟨fun b o => ?_, fun b o => ?_, hb.size⟩
  · split
    · rename_i h; exact hb.cell (p := ⟨b, o, none⟩) h
    · rfl
  · split
    · rename_i h; exact hb.frozen (p := ⟨b, o, none⟩) h
    · rfl

@[go_sem] theorem bw_cell {w : World} (u : BW w) (b o : Nat) : u.val.cell? ⟨b, o, none⟩ = if b < w.heap.size then w.cell? ⟨b, o, none⟩ else junkC u.val b o := by
  split
  · rename_i h; exact u.prop.cell (p := ⟨b, o, none⟩) h
  · rfl
@[go_sem] theorem bw_frozen {w : World} (u : BW w) (b o : Nat) : u.val.frozen? ⟨b, o, none⟩ = if b < w.heap.size then w.frozen? ⟨b, o, none⟩ else junkF u.val b o := by
  split
  · rename_i h; exact u.prop.frozen (p := ⟨b, o, none⟩) h
  · rfl

/-! ### Go's '/' and '%' on int -/
theorem tdiv_bd (a b : Int) : -(a.natAbs : Int) ≤ a.tdiv b ∧ a.tdiv b ≤ a.natAbs := by
  have h := Int.natAbs_tdiv_le_natAbs a b
  omega
theorem floor_eq (a b : Int) (hb : 1 ≤ b) : a / b = if a.tmod b ≠ 0 ∧ a < 0 then a.tdiv b - 1 else a.tdiv b := by
  have h := Int.tdiv_eq_ediv (a := a) (b := b)
  rw [Int.sign_eq_one_of_pos (by omega)] at h
  have hd : b ∣ a ↔ a.tmod b = 0 := ⟨Int.tmod_eq_zero_of_dvd, Int.dvd_of_tmod_eq_zero⟩
  by_cases h1 : 0 ≤ a
  · rw [if_neg (by omega)]; rw [if_pos (Or.inl h1)] at h; omega
  · by_cases h2 : a.tmod b = 0
    · rw [if_neg (by omega)]; rw [if_pos (Or.inr (hd.2 h2))] at h; omega
    · rw [if_pos ⟨h2, by omega⟩]; rw [if_neg (fun hh => h2 (hd.1 (hh.resolve_left h1)))] at h; omega

end Go.Proofs.Ytbflncfhbmlibaa
