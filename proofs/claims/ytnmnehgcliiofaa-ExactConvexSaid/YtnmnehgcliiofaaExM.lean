/-
  Lines in memory, two dots each; the lines that touch a box.
-/
import Derived.Test.YtnmnehgcliiofaaExJ
import Derived.Test.YtnmnehgcliiofaaExC
import Derived.Test.YtnmnehgcliiofaaRowsAt
import Derived.Test.YtnmnehgcliiofaaOw
namespace Go.Proofs.Ytnmnehgcliiofaa
open Go.RowKit Go.Shelf

def sgC (s : Sg) : List Value := [.int .i64 s.1.1, .int .i64 s.1.2, .int .i64 s.2.1, .int .i64 s.2.2]
theorem sgC_len (l : List Sg) : ∀ r ∈ l.map sgC, r.length = 4 := fun r hr => by obtain ⟨s, _, rfl⟩ := List.mem_map.1 hr; rfl
theorem sgC_one (l : List Sg) : ∀ u ∈ (l.map sgC).flatten, u.oneCell' = true := fun u hu => by
  obtain ⟨r, hr, hu⟩ := List.mem_flatten.1 hu
  obtain ⟨s, _, rfl⟩ := List.mem_map.1 hr
  simp only [sgC, List.mem_cons, List.mem_nil_iff, or_false] at hu
  rcases hu with rfl | rfl | rfl | rfl <;> rfl
theorem sg_info : (Try.prog.info? 100).map (fun i => (i.zero.map (fun z => z.cells.size), i.size, i.bytes)) = some (some 4, 4, 32) := by kernel_rfl
theorem sg_parts : ∃ i z, Try.prog.info? 100 = some i ∧ i.zero = some z ∧ i.size = 4 ∧ i.bytes = 32 ∧ z.cells.size = 4 := by
  have h := sg_info
  cases hi : Try.prog.info? 100 with
  | none => rw [hi] at h; cases h
  | some i =>
    rw [hi] at h
    simp only [Option.map_some, Option.some.injEq, Prod.mk.injEq] at h
    obtain ⟨h1, h2, h3⟩ := h
    cases hz : i.zero with
    | none => rw [hz] at h1; cases h1
    | some z =>
      rw [hz] at h1
      exact ⟨i, z, rfl, hz, h2, h3, by simpa using h1⟩
/-- Lines that a call made and appends to. -/
structure OwS (B : Nat) (w : World) (A : Option Addr) (L c : Nat) (l : List Sg) : Prop where
  len : l.length = L
  own : w.ownsRow B 100 4 (.slice A L c) L (l.map sgC).flatten
  le : B ≤ w.heap.size
section
variable {B : Nat} {w w' : World} {A : Option Addr} {L c : Nat} {l : List Sg}
theorem OwS.row (h : OwS B w A L c l) : ∀ k, rowOf A = some k → B ≤ k ∧ k < w.heap.size := fun k hk => own_lt h.own k (by rw [ownBlock_slice]; exact hk)
theorem OwS.stay (h : OwS B w A L c l) (hs : w.heap.size ≤ w'.heap.size) (hk : ∀ k, rowOf A = some k → w'.heap[k]? = w.heap[k]?) : OwS B w' A L c l :=
  ⟨h.len, own_keep h.own fun k e => hk k (by rw [← ownBlock_slice]; exact e), Nat.le_trans h.le hs⟩
theorem OwS.keep (h : OwS B w A L c l) (hb : Below w.heap.size w w') : OwS B w' A L c l := h.stay hb.size fun k hk => hb.block k (h.row k hk).2
theorem OwS.nil (h : B ≤ w.heap.size) : OwS B w none 0 0 [] := ⟨rfl, World.ownsRow_nil _ _ _ _, h⟩
theorem OwS.rows (h : OwS B w A L c l) : RowsAt w A L 4 (l.map sgC) := by
  obtain ⟨A', c', e, h1, _⟩ := RowsAt.of_own h.own rfl (sgC_len l) (by omega)
  injection e with e1 e2 e3
  subst e1
  exact h1
theorem OwS.appended (h : OwS B w A L c l) {v' : Value} {s : Sg} (hown : w'.ownsRow B 100 4 v' (L + 1) ((l.map sgC).flatten ++ sgC s)) (hgrow : w.grownBy w' (Value.slice A L c).ownBlock) :
    ∃ A' c', v' = .slice A' (L + 1) c' ∧ OwS B w' A' (L + 1) c' (l ++ [s]) := by
  obtain ⟨A', c', rfl, _⟩ := RowsAt.of_own (rows := (l ++ [s]).map sgC) hown (by simp) (sgC_len _) (by omega)
  exact ⟨A', c', rfl, by simp [h.len], by simpa using hown, Nat.le_trans h.le hgrow.size⟩
theorem step_append_sg {ops : Array Oper} {o : Oper} {a : Act} {K : Act → World → Prop} {Q : Exit → Act → World → Prop} {E : Prop} (hgd : o.guard = none) (s x : Operand)
    (ho : o.op = .call { callee := .builtin .append, args := #[s, x], argTypes := #[96, 96] }) (hs : a.eval s = .slice A L c) (h : OwS B w A L c l)
    (A2 : Option Addr) (c2 : Nat) (hx : a.eval x = .slice A2 1 c2) (sg : Sg) (hr : Reads w w.heap.size 4 A2 1 (sgC sg)) (hb : L ≤ 1000000)
    (k : ∀ A' c' w', OwS B w' A' (L + 1) c' (l ++ [sg]) → w.grownBy w' (Value.slice A L c).ownBlock → K (a.put o.dst (.slice A' (L + 1) c')) w') :
    if Region.wanted o (yielded ops a.tmps) = true then Oper.wp Try.prog o a w K Q else E := by
  obtain ⟨i0, z0, hi0, hz0, hz1, hz2, hz3⟩ := sg_parts
  refine step_append_any w hgd s x _ ho B 100 i0 _ 4 32 Try.underlying96 hi0 hz0 hz1 hz2 hz3 (by omega) _ L (l.map sgC).flatten hs h.own w.heap.size A2 1 c2 (sgC sg) hx hr (by simpa using sgC_one [sg]) (by unfold maxLen; omega) (by omega) h.le ?_
  intro v' w' hown hgrow _
  obtain ⟨A', c', rfl, h'⟩ := h.appended hown hgrow
  exact k A' c' w' h' hgrow
theorem wpList_append_sg {ops : Array Oper} {rest : List Oper} {o : Oper} {a : Act} {Q : Exit → Act → World → Prop} (hgd : o.guard = none) (s x : Operand)
    (ho : o.op = .call { callee := .builtin .append, args := #[s, x], argTypes := #[96, 96] }) (hs : a.eval s = .slice A L c) (h : OwS B w A L c l)
    (A2 : Option Addr) (c2 : Nat) (hx : a.eval x = .slice A2 1 c2) (sg : Sg) (hr : Reads w w.heap.size 4 A2 1 (sgC sg)) (hb : L ≤ 1000000)
    (k : ∀ A' c' w', OwS B w' A' (L + 1) c' (l ++ [sg]) → w.grownBy w' (Value.slice A L c).ownBlock → wpList Try.prog ops Q rest (a.put o.dst (.slice A' (L + 1) c')) w') : wpList Try.prog ops Q (o :: rest) a w := by
  obtain ⟨i0, z0, hi0, hz0, hz1, hz2, hz3⟩ := sg_parts
  refine wpList_append_any w hgd s x _ ho B 100 i0 _ 4 32 Try.underlying96 hi0 hz0 hz1 hz2 hz3 (by omega) _ L (l.map sgC).flatten hs h.own w.heap.size A2 1 c2 (sgC sg) hx hr (by simpa using sgC_one [sg]) (by unfold maxLen; omega) (by omega) h.le ?_
  intro v' w' hown hgrow _
  obtain ⟨A', c', rfl, h'⟩ := h.appended hown hgrow
  exact k A' c' w' h' hgrow
theorem reads_sg (W : World) (sg : Sg) : Reads (W.alloc (.cells #[.int .i64 sg.1.1, .int .i64 sg.1.2, .int .i64 sg.2.1, .int .i64 sg.2.2] 100)) (W.alloc (.cells #[.int .i64 sg.1.1, .int .i64 sg.1.2, .int .i64 sg.2.1, .int .i64 sg.2.2] 100)).heap.size 4 (some ⟨W.heap.size, 0, none⟩) 1 (sgC sg) := by
  rw [World.size_alloc]
  exact reads_new W (sgC sg) _ 4 1 rfl
end

def touchS (b0 b1 b2 b3 : Int) (s : Sg) : Bool := touchB s.1.1 s.1.2 s.2.1 s.2.2 b0 b1 b2 b3
def touchL (b0 b1 b2 b3 : Int) (l : List Sg) : List Sg := l.filter (touchS b0 b1 b2 b3)
theorem touchL_snoc {b0 b1 b2 b3 : Int} {l : List Sg} {k : Nat} {s : Sg} (h : l[k]? = some s) : touchL b0 b1 b2 b3 (l.take (k + 1)) = touchL b0 b1 b2 b3 (l.take k) ++ (if touchS b0 b1 b2 b3 s = true then [s] else []) := by
  rw [take_snoc h]
  unfold touchL
  rw [List.filter_append]
  simp [List.filter_cons]
theorem touchL_len (b0 b1 b2 b3 : Int) (l : List Sg) (k : Nat) : (touchL b0 b1 b2 b3 (l.take k)).length ≤ l.length := by
  refine Nat.le_trans (List.length_filter_le _ _) ?_
  rw [List.length_take]
  omega

end Go.Proofs.Ytnmnehgcliiofaa
