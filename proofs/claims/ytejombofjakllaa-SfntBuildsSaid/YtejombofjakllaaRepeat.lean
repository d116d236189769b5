/-
  slices.Repeat of one byte; a slice of bytes that is made.
-/
import Derived.Test.YtejombofjakllaaMul64
import Derived.Test.YtejombofjakllaaBs
import Derived.Test.YtejombofjakllaaSliceAt
import Derived.Deep.OwnRows
import Derived.Laws.CopyOwn
namespace Go.Proofs.Ytejombofjakllaa
open Go.RowKit

theorem mk_bytes (n : Nat) (h : n ≤ 140737488355328) (w : World) : (Instr.makeSlice 25 (.int .i64 n) (.int .i64 n)).run Try.prog w =
    .ok (.slice (some ⟨w.heap.size, 0, none⟩) n n) (w.alloc (.cells (List.replicate n (Value.int .u8 0)).toArray 5)) := by
  rw [run_make_row' 25 5 (.int .u8 0) 1 Try.underlying25 u8_info rfl .i64 .i64 n (by omega) (by omega) w]
  congr 3
  apply Array.ext
  · simp [madeCells]
  · intro i h1 h2
    simp [madeCells, Nat.mod_one]

/-- A guard: the operation that writes slot n. -/
theorem mark_op {P : Program} {ops : Array Oper} {rest : List Oper} {Q : Exit → Act → World → Prop} {a : Act} {w : World} {op : Op} {t : TypeId} {p : String} {af : Array Edge} {g : Option (Nat × Bool)} (n : Nat) (h : wpList P ops Q (⟨some n, op, t, p, af, g⟩ :: rest) a w) :
    wpList P ops Q (⟨some n, op, t, p, af, g⟩ :: rest) a w := h

theorem mark_step {P : Program} {ops : Array Oper} {K : Act → World → Prop} {Q : Exit → Act → World → Prop} {E : Prop} {a : Act} {w : World} {op : Op} {t : TypeId} {p : String} {af : Array Edge} {g : Option (Nat × Bool)} (n : Nat)
    (h : if Region.wanted ⟨some n, op, t, p, af, g⟩ (yielded ops a.tmps) = true then Oper.wp P ⟨some n, op, t, p, af, g⟩ a w K Q else E) : if Region.wanted ⟨some n, op, t, p, af, g⟩ (yielded ops a.tmps) = true then Oper.wp P ⟨some n, op, t, p, af, g⟩ a w K Q else E := h

/-! ### copy, into a block that is known whole -/
theorem goInt_nat (n : Nat) : goInt n = .int .i64 n := rfl
section
variable {w : World} {ops : Array Oper} {o : Oper} {a : Act} {Q : Exit → Act → World → Prop} {A As : Option Addr} {dl dc sl sc g off : Nat} {cur : List Value}
theorem turn_setRow (w : World) (g : Nat) (cs : Array Value) : Turn w (w.setRow g cs) g none := ⟨rfl, rfl, rfl, by simp [World.setRow], fun k _ hk _ => setRow_other w g k cs hk⟩
theorem run_copy_blk (ty : TypeId) (hB : Blk w g 5 cur) (off : Nat) (cs : List Value) (hn : cs.length = min sl dl) (hA : 0 < cs.length → A = some ⟨g, off, none⟩)
    (hsrc : ∀ j, j < cs.length → ∃ b o, As = some ⟨b, o, none⟩ ∧ w.cell? ⟨b, o + j, none⟩ = cs[j]?) (hfit : off + cs.length ≤ cur.length) (h1 : ∀ v ∈ cs, v.oneCell' = true) :
    ∃ w', (Builtin.copy_ #[25, 25] ty #[.slice A dl dc, .slice As sl sc]).run Try.prog w = .ok (.int .i64 cs.length) w' ∧ Blk w' g 5 (splice cur off cs) ∧ Turn w w' g none := by
  by_cases h0 : cs.length = 0
  · obtain rfl : cs = [] := List.eq_nil_of_length_eq_zero h0
    exact ⟨w, run_copy_none (P := Try.prog) w 25 25 ty 5 A As dl dc sl sc Try.underlying25 (by kernel_rfl) hn.symm, by simpa [splice] using hB, Turn.refl _ _ _⟩
  · obtain rfl := hA (by omega)
    obtain ⟨b, o', rfl, _⟩ := hsrc 0 (by omega)
    refine ⟨_, run_copy_row (P := Try.prog) w 25 25 ty 5 g off dl dc ⟨b, o', none⟩ sl sc cur.toArray 5 cs Try.underlying25 (by kernel_rfl) hB hn ?_ (by simpa using hfit) h1, ?_, turn_setRow _ _ _⟩
    rotate_left
    · exact (setRow_heap w g _ _ _ _ hB).trans (by simp [splice])
    intro j v hj
    obtain ⟨b', o'', he, hc⟩ := hsrc j (List.getElem?_eq_some_iff.1 hj).1
    injection he with he
    injection he with e1 e2
    subst e1 e2
    rw [← hj, ← hc, Addr.add_lit]
theorem wpList_copy_blk {rest : List Oper} (hgd : o.guard = none) (d s : Operand) (ho : o.op = .call { callee := .builtin .copy, args := #[d, s], argTypes := #[25, 25] })
    (hd : a.eval d = .slice A dl dc) (hs : a.eval s = .slice As sl sc) (hB : Blk w g 5 cur) (off : Nat) (cs : List Value) (hn : cs.length = min sl dl) (hA : 0 < cs.length → A = some ⟨g, off, none⟩)
    (hsrc : ∀ j, j < cs.length → ∃ b o, As = some ⟨b, o, none⟩ ∧ w.cell? ⟨b, o + j, none⟩ = cs[j]?) (hfit : off + cs.length ≤ cur.length) (h1 : ∀ v ∈ cs, v.oneCell' = true)
    (k : ∀ w', Blk w' g 5 (splice cur off cs) → Turn w w' g none → wpList Try.prog ops Q rest (a.put o.dst (.int .i64 cs.length)) w') : wpList Try.prog ops Q (o :: rest) a w := by
  obtain ⟨w', hrun, hb, ht⟩ := run_copy_blk o.type hB off cs hn hA hsrc hfit h1 (dc := dc) (sc := sc)
  refine wpList_plain hgd fun K hK => ?_
  unfold Oper.wp
  simp [execOp, ho, resolve, invoke, builtin, hd, hs, hrun, Result.andThen]
  exact hK _ _ (k w' hb ht)
theorem step_copy_blk {K : Act → World → Prop} {E : Prop} (hgd : o.guard = none) (d s : Operand) (ho : o.op = .call { callee := .builtin .copy, args := #[d, s], argTypes := #[25, 25] })
    (hd : a.eval d = .slice A dl dc) (hs : a.eval s = .slice As sl sc) (hB : Blk w g 5 cur) (off : Nat) (cs : List Value) (hn : cs.length = min sl dl) (hA : 0 < cs.length → A = some ⟨g, off, none⟩)
    (hsrc : ∀ j, j < cs.length → ∃ b o, As = some ⟨b, o, none⟩ ∧ w.cell? ⟨b, o + j, none⟩ = cs[j]?) (hfit : off + cs.length ≤ cur.length) (h1 : ∀ v ∈ cs, v.oneCell' = true)
    (k : ∀ w', Blk w' g 5 (splice cur off cs) → Turn w w' g none → K (a.put o.dst (.int .i64 cs.length)) w') : if Region.wanted o (yielded ops a.tmps) = true then Oper.wp Try.prog o a w K Q else E := by
  obtain ⟨w', hrun, hb, ht⟩ := run_copy_blk o.type hB off cs hn hA hsrc hfit h1 (dc := dc) (sc := sc)
  rw [if_pos (by simp [Region.wanted, hgd])]
  unfold Oper.wp
  simp [execOp, ho, resolve, invoke, builtin, hd, hs, hrun, Result.andThen]
  exact k w' hb ht
end

def rep (V : Value) (k n : Nat) : List Value := List.replicate k V ++ List.replicate (n - k) (Value.int .u8 0)
theorem rep_length (V : Value) (k n : Nat) (h : k ≤ n) : (rep V k n).length = n := by simp [rep]; omega
theorem rep_splice (V : Value) (k m n : Nat) : splice (rep V k n) k (List.replicate m V) = rep V (k + m) n := by
  unfold splice rep
  rw [List.length_replicate, List.take_left' (by simp), ← List.replicate_append_replicate, List.append_assoc]
  congr 2
  rw [List.drop_append, List.drop_of_length_le (by simp)]
  simp
  omega
theorem rep_get (V : Value) (k n j : Nat) (h : j < k) : (rep V k n)[j]? = some V := by
  unfold rep
  rw [List.getElem?_append_left (by simpa using h)]
  simp [h]

end Go.Proofs.Ytejombofjakllaa
