/-
  Places of a table: what is put, what is read. No program.
-/
import Derived.Test.YtbmflgcahbkdeaaBytes
namespace Go.Proofs.Ytbmflgcahbkdeaa
open Go.RowKit

structure PlR where
  to : Option (Nat × Nat)
  sign : Bool
  wide : Bool
  skip : Nat
  fixed : Bool
  want : Int

def ptrV (a : Option (Nat × Nat)) : Value := .pointer (a.map fun x => ⟨x.1, x.2, none⟩)
def plCells (p : PlR) : List Value := [ptrV p.to, .bool p.sign, .bool p.wide, .int .i64 p.skip, .bool p.fixed, .int .i64 p.want]
theorem plCells_len (p : PlR) : (plCells p).length = 6 := rfl
theorem pl_cell : ∀ (l : List PlR) (i j : Nat) (p : PlR), l[i]? = some p → j < 6 → (l.flatMap plCells)[i * 6 + j]? = (plCells p)[j]?
  | [], i, j, p, h, _ => by simp at h
  | q :: l, 0, j, p, h, hj => by
    simp at h
    subst h
    rw [List.flatMap_cons, List.getElem?_append_left (by rw [plCells_len]; omega)]
    simp
  | q :: l, i + 1, j, p, h, hj => by
    rw [List.flatMap_cons, List.getElem?_append_right (by rw [plCells_len]; omega), plCells_len, show (i + 1) * 6 + j - 6 = i * 6 + j by omega]
    exact pl_cell l i j p (by simpa using h) hj

/-- A place's number, as it is put. -/
def plX (val : Nat × Nat → Int) (p : PlR) : Int := match p.to with
  | some a => val a
  | none => p.want
def plBytes (val : Nat × Nat → Int) (p : PlR) : List UInt8 := if 0 < p.skip then List.replicate p.skip 0 else if p.wide then beB 4 (plX val p) else beB 2 (plX val p)

/-- A place's number, as it is read. -/
def plNum (bs : List UInt8) (s : Nat × Bool) (p : PlR) : Int := if p.wide then numF bs s 4 else if p.sign then sgn16 (numF bs s 2) else numF bs s 2
def plLen (p : PlR) : Nat := if 0 < p.skip then p.skip else if p.wide then 4 else 2
def plWrite (p : PlR) (x : Int) : List ((Nat × Nat) × Int) := match p.to with
  | some a => [(a, x)]
  | none => []
/-- What is written, and where the reader stands; none: a place says something else. -/
def gets (bs : List UInt8) : List PlR → Nat × Bool → Option (List ((Nat × Nat) × Int) × (Nat × Bool))
  | [], s => some ([], s)
  | p :: l, s => if 0 < p.skip then gets bs l (advF bs s (plLen p))
    else if p.fixed = true ∧ plNum bs s p ≠ p.want then none
    else (gets bs l (advF bs s (plLen p))).map fun r => (plWrite p (plNum bs s p) ++ r.1, r.2)

def applyW (w : World) (ws : List ((Nat × Nat) × Int)) : World := ws.foldl (fun w x => w.setCell ⟨x.1.1, x.1.2, none⟩ (.int .i64 x.2)) w
theorem applyW_append (w : World) (a b : List ((Nat × Nat) × Int)) : applyW w (a ++ b) = applyW (applyW w a) b := by simp [applyW]
theorem applyW_size (w : World) (ws : List ((Nat × Nat) × Int)) : (applyW w ws).heap.size = w.heap.size := by
  induction ws generalizing w with
  | nil => rfl
  | cons x ws ih =>
    show (applyW (w.setCell ⟨x.1.1, x.1.2, none⟩ (.int .i64 x.2)) ws).heap.size = _
    rw [ih]
    simp [World.setCell]
theorem applyW_heap (w : World) (ws : List ((Nat × Nat) × Int)) (k : Nat) (h : ∀ x ∈ ws, x.1.1 ≠ k) : (applyW w ws).heap[k]? = w.heap[k]? := by
  induction ws generalizing w with
  | nil => rfl
  | cons x ws ih =>
    show (applyW (w.setCell ⟨x.1.1, x.1.2, none⟩ (.int .i64 x.2)) ws).heap[k]? = _
    rw [ih _ (fun y hy => h y (by simp [hy]))]
    exact Below.heap_setCell w _ _ k (fun e => h x (by simp) e.symm)

end Go.Proofs.Ytbmflgcahbkdeaa
