/-
  The frame of every law of this set: a call that returns true and leaves all that there was as it was meets the given post, whatever the arguments' types.
-/
import Derived.Test.YtbflncfhbmlibaaRows
import Derived.ProofKit
import Derived.WalkKit
import Derived.Lib.SmallJoins
import Derived.Deep.Fields
namespace Go.Proofs.Ytbflncfhbmlibaa
open Go.ChangeShapes Go.WideShapes Go.ChangeAt Go.RowKit Go.WideElems Go.Deep

theorem own_none : ownKnob Try.prog.godebug = none := by kernel_rfl
theorem laid_out : laidOutB Try.prog = true := by kernel_rfl

section
variable {P : Program} {H : Type} {enc : TypeId × Value → H}
theorem trodAll_keep (hl : laidOutB P = true) {W W' : World} (hb : Below W.heap.size W W') {sp : Nat → Bool} (ts : List TypeId) :
    ∀ (vs : List Value) (ds : List (DataW H)) (ps : List MemPlace), ts.all (fun t => P.readableRec t && decide (t < P.types.size)) = true →
      DataW.TrodAll enc P W 0 (fun _ => true) true ts vs ds ps → (∀ p ∈ ps, p.block < W.heap.size) → (∀ p ∈ ps, sp p.block = true) → DataW.TrodAll enc P W' 0 sp true ts vs ds ps := by
  induction ts with
  | nil =>
    intro vs ds ps _ h _ _
    cases vs with
    | nil => cases ds with
      | nil => exact h
      | cons _ _ => exact h.elim
    | cons _ _ => exact h.elim
  | cons t ts ih =>
    intro vs ds ps hall h hlt hsp
    cases vs with
    | nil => exact h.elim
    | cons v vs =>
      cases ds with
      | nil => exact h.elim
      | cons d ds =>
        simp only [List.all_cons, Bool.and_eq_true, decide_eq_true_eq] at hall
        obtain ⟨p, q, h1, h2, rfl⟩ := h
        exact ⟨p, q, Trod_stays hl hall.1.1 hall.1.2 h1 (fun x hx => hb.same (hlt x (List.mem_append.2 (Or.inl hx)))) (fun x hx => hsp x (List.mem_append.2 (Or.inl hx))),
          ih _ _ _ hall.2 h2 (fun x hx => hlt x (List.mem_append.2 (Or.inr hx))) (fun x hx => hsp x (List.mem_append.2 (Or.inr hx))), rfl⟩

theorem law_post_any {tb : TypeId} (hl : laidOutB P = true) (htb : P.underlying tb = some .bool) {f : Func} {s : ChangeSpec} {W W' : World} {args : Array Value} {ds gs : List (DataW H)} {before : List MemPlace}
    (hW : DataW.Whole enc P f.params.toList s.vars false W args.toList ds gs before)
    (hty : f.params.toList.all (fun t => P.readableRec t && decide (t < P.types.size)) = true) (hv : s.vars = [])
    (hs : s.fn H ds = { results := [.lit (.bool true)], args := ds }) (hr : f.resultTypes = #[tb])
    (hb : Below W.heap.size W W') : s.post enc P f false true false false W args (.bool true) W' := by
  have hW' := hW
  obtain ⟨p, q, hA, hV, hps, _, _⟩ := hW
  rw [hv] at hV
  cases gs with
  | cons _ _ => exact hV.elim
  | nil =>
    have hq : q = [] := hV
    subst hq
    rw [List.append_nil] at hps
    subst hps
    have hlt : ∀ x ∈ before, x.block < W.heap.size := hA.lt
    refine ⟨ds, [], before, [], before, [], hW', ?_, ?_, ?_, hb.frame _, fun h => by cases h⟩
    · rw [List.append_nil, hs, hr]
      exact ⟨[], [], shut_bool htb true, rfl, rfl⟩
    · rw [List.append_nil, hs]
      exact trodAll_keep hl hb _ _ _ _ hty hA hlt (fun x hx => by simpa using hlt x hx)
    · rw [List.append_nil, hs, hv]
      rfl
theorem open_four {w : World} {base : Nat} {spare : Nat → Bool} {held : Bool} {r : Reach} {b0 : Nat} {t : TypeId} {f0 f1 f2 f3 : Field} {v : Value} {d : DataW H} {p : List MemPlace} {k : IntKind} (hs : P.underlying t = some (.struct #[f0, f1, f2, f3])) (hone : oneCellFields P #[f0, f1, f2, f3] = true) (hC : P.cellsOf t = 4)
    (k0 : P.underlying f0.type = some (.int k)) (k1 : P.underlying f1.type = some (.int k)) (k2 : P.underlying f2.type = some (.int k)) (k3 : P.underlying f3.type = some (.int k))
    (hv : Value.okWide P w r b0 t v) (h : DataW.Trod enc P w base spare held t v d p) :
    ∃ x0 x1 x2 x3 : Int, v = .agg #[.int k x0, .int k x1, .int k x2, .int k x3] ∧ (Lit.int k x0).wf = true ∧ (Lit.int k x1).wf = true ∧ (Lit.int k x2).wf = true ∧ (Lit.int k x3).wf = true := by
  obtain ⟨c0, c1, c2, c3, y0, y1, y2, y3, m, rfl, _, _, hy0, hy1, hy2, hy3⟩ := Joins.open_agg4 hs hone hC hv h
  obtain ⟨x0, e0, _, w0⟩ := DataW.trod_int k0 hy0
  obtain ⟨x1, e1, _, w1⟩ := DataW.trod_int k1 hy1
  obtain ⟨x2, e2, _, w2⟩ := DataW.trod_int k2 hy2
  obtain ⟨x3, e3, _, w3⟩ := DataW.trod_int k3 hy3
  simp at e0 e1 e2 e3
  subst e0 e1 e2 e3
  exact ⟨x0, x1, x2, x3, rfl, w0, w1, w2, w3⟩
theorem open_num {w : World} {base : Nat} {spare : Nat → Bool} {held : Bool} {r : Reach} {b0 : Nat} {t : TypeId} {v : Value} {d : DataW H} {p : List MemPlace} {k : IntKind} (hs : P.underlying t = some (.int k))
    (hv : Value.okWide P w r b0 t v) (h : DataW.Trod enc P w base spare held t v d p) : ∃ x : Int, v = .int k x ∧ (Lit.int k x).wf = true := by
  obtain ⟨x, rfl, _, _, wx⟩ := open_int hs hv h
  exact ⟨x, rfl, wx⟩
end

end Go.Proofs.Ytbflncfhbmlibaa
