/-
  A region that draws its order, in a function that yields or in a round: its first n operations are quiet in a class of worlds, the others come behind them in one forced order.
-/
import Derived.Test.YtbflncfhbmlibaaTail
import Derived.Test.YtbflncfhbmlibaaRound
namespace Go.Proofs.Ytbflncfhbmlibaa
open Go.RowKit Go.Shelf

/-- A fence that bars nothing: a function's, or a round's. -/
def Free (F : Fence) (P : Program) : Prop :=
  (∀ f, F.fn f) ∧ F.depth = none ∧ ∀ {n f args w R}, Calls P f args w R → CallsIn F n P f args w R
theorem free_wide {P : Program} : Free Fence.wide P := ⟨fun _ => trivial, rfl, fun h => callsIn_wide.2 h⟩
theorem free_round {P : Program} (l : Nat) : Free (Fence.wide.inRound l) P := ⟨fun _ => trivial, rfl, fun h => CallsIn.inRound l (callsIn_wide.2 h)⟩

section
variable {P : Program} {n : Nat} {F : Fence} {C : World → Prop} {ops : Array Oper} {md : Region.Mode}
theorem free_op {o : Oper} {a : Act} {K : Act → Prop} {K' : Act → World → Prop} {Q' : Exit → Act → World → Prop} {w : World} (hF : Free F P) (hd : noDefer o = true) (hw : C w) (h : ∀ a w', C w' → K a → K' a w') (hh : o.quiet P a C K) :
    o.wpIn F n P a w K' Q' := by
  obtain ⟨v, h1, h2⟩ := hh
  have h3 := h1 w hw
  unfold Oper.quietAt at h3
  refine ⟨fun f _ => hF.1 f, ?_⟩
  rw [Oper.semAt_plain _ _ _ (noDefer_ne hd)]
  cases hr : (execOp a.eval o).run P w with
  | halt x w' => rw [hr] at h3; exact h3.elim
  | ok x w' =>
    rw [hr] at h3
    cases x with
    | value u => obtain ⟨rfl, rfl⟩ := h3; exact h _ _ hw h2
    | skip => obtain ⟨rfl, rfl⟩ := h3; exact h _ _ hw h2
    | enter f args =>
      obtain ⟨rfl, hc⟩ := h3
      refine ⟨fun he => (by rw [hF.2.1] at he; cases he), hF.2.2 ?_⟩
      exact hc.mono fun e w'' ⟨he, hw''⟩ => by subst he; exact h _ _ hw'' h2
    | _ => exact h3.elim
theorem free_at {i : Nat} {a : Act} {K : Act → Prop} {K' : Act → World → Prop} {Q' : Exit → Act → World → Prop} {w : World} (hF : Free F P) (hd : ∀ o, ops[i]? = some o → noDefer o = true) (hC : C w) (h : ∀ a w', C w' → K a → K' a w')
    (hh : qOp P ops C i K a) : wpOpIn F n P ops Q' i K' a w := by
  unfold qOp at hh
  unfold wpOpIn
  cases ho : ops[i]? with
  | none => rw [ho] at hh; exact h _ _ hC hh
  | some o =>
    simp only [ho] at hh ⊢
    by_cases hw : Region.wanted o (yielded ops a.tmps) = true
    · rw [if_pos hw] at hh ⊢
      exact free_op hF (hd o ho) hC h hh
    · rw [if_neg hw] at hh ⊢
      exact ⟨fun f _ => hF.1 f, h _ _ hC hh⟩

theorem wpAnyIn_of_anyHead {m g : Nat} {L : Array Bool → Act → Prop} {Q : Exit → Act → World → Prop} (hF : Free F P) (hd : ∀ (i : Nat) (o : Oper), ops[i]? = some o → noDefer o = true)
    (hL : ∀ done a w, C w → L done a → wpAnyIn F n P md ops Q g done a w) (k : Nat) :
    ∀ (done : Array Bool) (a : Act) (w : World), C w → anyHead P md ops C m L k done a → wpAnyIn F n P md ops Q (k + g) done a w := by
  induction k with
  | zero => intro done a w hw h; rw [Nat.zero_add]; exact hL _ _ _ hw h
  | succ k ih =>
    intro done a w hw h
    rw [Nat.succ_add]
    refine ⟨fun h0 => ?_, fun i hi => free_at hF (hd i) hw (fun a' w' hw' h' => ih _ _ _ hw' h') (h.2 i hi).2⟩
    obtain ⟨⟨i, hi⟩, _⟩ := h
    rw [h0] at hi
    cases hi
theorem wpAnyIn_of_seq {Q' : Exit → Act → World → Prop} : ∀ (l : List Oper) (k : Nat) (listed : Array Bool) (a : Act) (w : World), (∀ j, l[j]? = ops[k + j]?) →
    Region.seqB md ops l.length k listed = true → wpListIn F n P ops Q' l a w → wpAnyIn F n P md ops Q' l.length listed a w
  | [], _, _, _, _, _, hB, h => ⟨by simpa [Region.seqB] using hB, h⟩
  | o :: l, k, listed, a, w, hl, hB, h => by
    have h0 : ops[k]? = some o := by simpa using (hl 0).symm
    simp only [List.length_cons, Region.seqB, Bool.and_eq_true, decide_eq_true_eq] at hB
    refine ⟨fun h1 => (by rw [hB.1] at h1; cases h1), fun i hi => ?_⟩
    rw [hB.1] at hi
    have hik : i = k := by simpa using hi
    subst hik
    have hw : wpOpIn F n P ops Q' i (wpListIn F n P ops Q' l) a w := by unfold wpOpIn; simp only [h0]; exact h
    exact wpOpIn_mono (fun a' w' h' => wpAnyIn_of_seq l (i + 1) _ a' w' (fun j => by have := hl (j + 1); simpa [Nat.add_assoc, Nat.add_comm 1 j] using this) hB.2 h') hw

theorem wpIn_region_quiet_tail {id : Nat} {Q : Exit → Act → World → Prop} {a : Act} {w : World} {l : List Oper} (m : Nat) (hF : Free F P) (hm : P.follows .mixedOrders = true) (hB : Region.lexTailB .any l.toArray m = true) (hd : l.all noDefer = true)
    (hC : C { w with drawn := w.drawn + 1 })
    (h : wpQuiet P l.toArray C (fun a' => ∀ w', C w' → wpListIn F n P l.toArray Q (l.drop m) a' w') (l.take m) a) : (Code.region id l.toArray true).wpIn F n P Q a w := by
  simp only [Region.lexTailB, Bool.and_eq_true, decide_eq_true_eq] at hB
  obtain ⟨⟨⟨⟨hsel, hn⟩, hs⟩, hc⟩, hlex⟩ := hB
  have hn' : m < l.length := by simpa using hn
  have htl : (l.take m).length = m := by simp; omega
  have inv0 : HeadInv .any l.toArray m (Array.replicate l.toArray.size false) :=
    ⟨by simp, fun j oj _ hl => (by rw [getD_replicate_false] at hl; cases hl), fun t _ ht => getD_in (by simpa using ht) (getD_replicate_false _ _)⟩
  have H := anyHead_lex (md := .any) (g := l.toArray.size - m) hsel hs hc hn (l.take m) 0 _ a (fun j hj => by
    have hj' : j < m := by rw [htl] at hj; exact hj
    simp [hj']) (by simpa using htl) inv0 (by rw [htl]; exact hlex) h
  refine wpIn_region_any hm ?_
  have hd' : ∀ (i : Nat) (o : Oper), l.toArray[i]? = some o → noDefer o = true := fun i o ho => by
    rw [List.all_eq_true] at hd
    exact hd o (List.mem_of_getElem? (by simpa using ho))
  have H2 := wpAnyIn_of_anyHead (n := n) (Q := Q) (g := l.toArray.size - m) hF hd' (fun done a' w' hw' hL => by
    have hdl : (l.drop m).length = l.toArray.size - m := by simp
    have := wpAnyIn_of_seq (md := .any) (Q' := Q) (l.drop m) m done a' w' (fun j => by simp [List.getElem?_drop]) (by rw [hdl]; exact hL.1) (hL.2 w' hw')
    rwa [hdl] at this) _ _ _ _ hC H
  rw [htl, show m + (l.toArray.size - m) = l.toArray.size by omega] at H2
  exact H2
theorem wpIn_region_drew_tail {id : Nat} {Q : Exit → Act → World → Prop} {a : Act} {w : World} {l : List Oper} (m : Nat) (hF : Free F P) (hm : P.follows .mixedOrders = true) (hB : Region.lexTailB .any l.toArray m = true) (hd : l.all noDefer = true)
    (h : wpQuiet P l.toArray (fun w' => ∃ k, w' = w.drewN k) (fun a' => ∀ w', (∃ k, w' = w.drewN k) → wpListIn F n P l.toArray Q (l.drop m) a' w') (l.take m) a) : (Code.region id l.toArray true).wpIn F n P Q a w :=
  wpIn_region_quiet_tail (C := fun w' => ∃ k, w' = w.drewN k) m hF hm hB hd ⟨1, rfl⟩ h
theorem free_any {Q : Act → Prop} {Q' : Exit → Act → World → Prop} (hF : Free F P) (hd : ∀ (i : Nat) (o : Oper), ops[i]? = some o → noDefer o = true) (hQ : ∀ a w, C w → Q a → Q' .normal a w) (fuel : Nat) :
    ∀ (listed : Array Bool) (a : Act) (w : World), C w → wpAnyQ P md ops C Q fuel listed a → wpAnyIn F n P md ops Q' fuel listed a w := by
  induction fuel with
  | zero => intro _ _ _ hw h; exact ⟨h.1, hQ _ _ hw h.2⟩
  | succ fuel ih => intro listed a w hw h; exact ⟨fun h0 => hQ _ _ hw (h.1 h0), fun i hi => free_at hF (hd i) hw (fun a' w' hw' => ih _ a' w' hw') (h.2 i hi)⟩
/-- A region of quiet operations alone. -/
theorem wpIn_region_free {id : Nat} {Q : Exit → Act → World → Prop} {a : Act} {w : World} {os : List Oper} (hF : Free F P) (hm : P.follows .mixedOrders = true) (hB : Region.lexB .any os.toArray = true) (hd : os.all noDefer = true)
    (h : wpQuiet P os.toArray (fun w' => ∃ m, w' = w.drewN m) (fun a' => ∀ w', (∃ m, w' = w.drewN m) → Q .normal a' w') os a) : (Code.region id os.toArray true).wpIn F n P Q a w := by
  simp only [Region.lexB, Bool.and_eq_true] at hB
  refine wpIn_region_any hm (free_any (C := fun w' => ∃ m, w' = w.drewN m) (Q := fun a' => ∀ w', (∃ m, w' = w.drewN m) → Q .normal a' w') hF ?_ (fun _ w' hw' h => h w' hw') _ _ _ _ ⟨1, rfl⟩ ?_)
  · intro i o ho
    rw [List.all_eq_true] at hd
    exact hd o (List.mem_of_getElem? (by simpa using ho))
  · have := wpAnyQ_lex (C := fun w' => ∃ m, w' = w.drewN m) (md := .any) hB.1 os 0 (Array.replicate os.toArray.size false) a (by simp) (by simpa using hB.2) h
    simpa using this
end
end Go.Proofs.Ytbflncfhbmlibaa
