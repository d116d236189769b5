/-
  A range over a function whose loop variables are made anew in each round.
-/
import Derived.Test.YtbflncfhbmlibaaRound
namespace Go.Proofs.Ytbflncfhbmlibaa
open Go.RowKit Go.Shelf

/-- The like, where the loop's variables are made anew in each round: 'wa' is the world behind that. -/
theorem wpIn_range_box {P : Program} {n : Nat} {α : Type} {g : Operand} {ps : Array Tmp} {assign body : Code} {Q : Exit → Act → World → Prop} {a : Act} {w : World}
    {gf : Nat} {lb : Array Value} (hg : a.eval g = .func (.func gf) #[] lb) (eg : ∀ args w, (callFunc gf args).run P w = .ok (.enter gf args) w)
    {encs : α → Array Value} {Kp : World → World → Prop} {G : List α → α → World → Prop} {S Sp : List α → Prop} {w0 : World} (hseq : Gives (n - 1) P gf lb encs Kp G S Sp w0)
    (hKt : ∀ {A B C : World}, Kp A B → Kp B C → Kp A C) (hKb : ∀ (W : World) (l : Nat) (o o' : Obj), w.heap.size ≤ l → W.heap[l]? = some o → o.isCells = false → o.isWalk = false → Kp W (W.putObj l o')) (hb0 : Below w0.heap.size w0 w) (hps : ∀ x, (encs x).size = ps.size)
    (I : List α → World → Prop) (Ix : Code → List α → World → Prop) (hI : OwnFrom w.heap.size I) (hIx : ∀ c, OwnFrom w.heap.size (Ix c)) (hG : OwnFrom w.heap.size (fun (p : List α × α) W => G p.1 p.2 W)) (h0 : I [] w) (a₁ : α → World → Act) (wa : α → World → World) (hwa : ∀ x W, Below W.heap.size W (wa x W)) (hKa : ∀ x W, w.heap.size ≤ W.heap.size → Kp W (wa x W))
    (hassign : ∀ (l : Nat) (x : α) (W : World) (K : Act → World → Prop), K (a₁ x W) (wa x W) →
      assign.wpIn (Fence.wide.inRound l) (n - 1 - 1) P (Exit.then K (fun _ _ _ => False)) { tmps := (ps.zip (encs x)).foldl (fun t (p, v) => t.setIfInBounds p v) a.tmps, defers := [] } W)
    (hbody : ∀ (l : Nat) (pre : List α) (x : α) (W Wb : World), w.heap.size ≤ W.heap.size → Wb.heap.size = (wa x W).heap.size → (∀ (b : Nat) (o : Obj), (wa x W).heap[b]? = some o → o.isCells = true → Wb.heap[b]? = some o) → I pre Wb → G pre x Wb → body.wpIn (Fence.wide.inRound l) (n - 1 - 1) P (ownPostK Kp I Ix (pre ++ [x]) Wb) (a₁ x W) Wb)
    (hdone : ∀ (D : Nat) (xs : List α) (W : World), w.heap.size ≤ D → S xs → I xs W → W.heap[D]? = some (.deferred (some [])) → Q .normal { a with defers := { target := .collected D, args := #[] } :: a.defers } W)
    (hstop : ∀ (D : Nat) (c : Code) (pre : List α) (W : World), w.heap.size ≤ D → Sp pre → Ix c pre W → W.heap[D]? = some (.deferred (some [])) → c.wpIn Fence.wide n P Q { a with defers := { target := .collected D, args := #[] } :: a.defers } W) :
    (Code.rangeFunc g ps assign body).wpIn Fence.wide n P Q a w := by
  refine wpIn_rangeFunc (F := Fence.wide) ?_
  intro fn hfn
  obtain ⟨r0, hr0⟩ : ∃ r0 : Loop, r0 = { state := .ready, pending := none, fn, tmps := a.tmps, params := ps, assign, body, defers := w.heap.size } := ⟨_, rfl⟩
  obtain ⟨W1, hW1⟩ : ∃ W1, (w.alloc (.deferred (some []))).alloc (.loop r0) = W1 := ⟨_, rfl⟩
  have hL1 : W1.heap[w.heap.size + 1]? = some (.loop r0) := by
    have := World.alloc_heap_new (w.alloc (.deferred (some []))) (.loop r0)
    rw [World.size_alloc, hW1] at this
    exact this
  have hD1 : W1.heap[w.heap.size]? = some (.deferred (some [])) := by
    rw [← hW1]
    exact (Below.heap_alloc _ _ _ (by simp)).trans (World.alloc_heap_new w _)
  have hsz1 : W1.heap.size = w.heap.size + 2 := by rw [← hW1]; simp
  have far : ∀ {A : World} {row : Option Nat}, (∀ r, row = some r → W1.heap.size ≤ r ∧ ∃ o : Obj, A.heap[r]? = some o ∧ o.isWalk = true) → ∀ r, row = some r → w.heap.size ≤ r ∧ ∃ o : Obj, A.heap[r]? = some o ∧ o.isCells = false :=
    fun hr r e => by
      obtain ⟨hB, o, ho, hw⟩ := hr r e
      exact ⟨by omega, o, ho, Obj.not_cells_of_walk hw⟩
  refine ⟨w.heap.size + 1, [{ target := .collected w.heap.size, args := #[] }], W1, { target := .fn (.func gf) lb, args := #[.func (.yield (w.heap.size + 1)) #[] #[]] }, W1, gf,
    #[.func (.yield (w.heap.size + 1)) #[] #[]] ++ lb, W1, ?_, ?_, ?_, ?_, fun he => (by cases he), ?_⟩
  · rw [← hW1, hr0]
    exact run_enterLoop_outer _ _ _ _ _
  · simp only [resolve, hg]
    simp [go_sem]
  · intro _ _
    exact trivial
  · simp [invoke, go_sem, eg]
  · refine (hseq (w.heap.size + 1)
      (fun pre W => I pre W ∧ W.heap[w.heap.size + 1]? = some (.loop r0) ∧ W.heap[w.heap.size]? = some (.deferred (some [])))
      (fun pre W => ∃ c, Ix c pre W ∧ W.heap[w.heap.size + 1]? = some (.loop { r0 with state := .done, pending := some c }) ∧ W.heap[w.heap.size]? = some (.deferred (some [])))
      W1 ?b1 ?j1 ?j2 ?round ⟨?i1, hL1, hD1⟩).mono ?behind
    case b1 =>
      rw [← hW1]
      exact hb0.trans ((((Below.refl _ w).alloc (Nat.le_refl _) _).alloc (by simp) _).mono hb0.size)
    case i1 =>
      rw [← hW1]
      exact hI.alloc _ (hI.alloc _ h0)
    case j1 =>
      intro s A B row hs hg' hr
      exact ⟨hI s A B row hs.1 hg' (far hr), (grownBy_keeps hg' (fun r e => (hr r e).2) hs.2.1 rfl).trans hs.2.1, (grownBy_keeps hg' (fun r e => (hr r e).2) hs.2.2 rfl).trans hs.2.2⟩
    case j2 =>
      rintro s A B row ⟨c, hc, hl, hk⟩ hg' hr
      exact ⟨c, hIx c s A B row hc hg' (far hr), (grownBy_keeps hg' (fun r e => (hr r e).2) hl rfl).trans hl, (grownBy_keeps hg' (fun r e => (hr r e).2) hk rfl).trans hk⟩
    case round =>
      rintro pre x W ⟨hi, hl, hk⟩ hgx
      have hy := run_yield (P := P) (args := encs x) hl (by rw [hr0]; exact hps x)
      refine ⟨r0.fn, (r0.params.zip (encs x)).foldl (fun t (p, v) => t.setIfInBounds p v) r0.tmps, r0.assign, r0.body, hy, ?_⟩
      subst hr0
      have hlt0 : w.heap.size + 1 < W.heap.size := (Array.getElem?_eq_some_iff.1 hl).1
      have hg2 : W.grownBy (wa x W) none := ⟨(hwa x W).os, (hwa x W).tape, (hwa x W).output, (hwa x W).size, fun k hk _ => (hwa x W).block k hk⟩
      have hi2 : I pre (wa x W) := hI pre W _ none hi hg2 (fun r e => by cases e)
      have hgx2 : G pre x (wa x W) := hG (pre, x) W _ none hgx hg2 (fun r e => by cases e)
      have hl2 := ((hwa x W).block _ hlt0).trans hl
      have hk2 := ((hwa x W).block _ (show w.heap.size < W.heap.size by omega)).trans hk
      refine roundIn_of_wpIn hfn (hassign _ x W _ ⟨_, run_beginRound hl2 rfl, ?_⟩)
      refine wpIn_mono (hbody _ pre x W _ (by omega) (by simp) (fun b o hb ho => ?_) (hI.putObj _ hi2 (by omega) hl2 rfl) (hG.putObj (s := (pre, x)) _ hgx2 (by omega) hl2 rfl)) ?_
      · by_cases hbe : b = w.heap.size + 1
        · subst hbe
          rw [hl2] at hb
          injection hb with hb
          subst hb
          cases ho
        · rw [World.putObj_heap_other (fun e => hbe e)]
          exact hb
      have hlt : w.heap.size + 1 < (wa x W).heap.size := (Array.getElem?_eq_some_iff.1 hl2).1
      have hw2 := hKt (hKa x W (by omega)) (hKb (wa x W) (w.heap.size + 1) _ (.loop { state := .busy, pending := none, fn, tmps := a.tmps, params := ps, assign, body, defers := w.heap.size }) (by omega) hl2 rfl rfl)
      have left := fun jump W3 hk3 => record_left (P := P) (L := w.heap.size + 1) (D := w.heap.size) (W := wa x W) (W3 := W3) (by omega) hl2 hk2 hk3 jump
      rintro e a3 W3 hp
      cases e with
      | normal =>
        obtain ⟨hk3, hkp3, hi3⟩ := hp
        obtain ⟨hl3, hr, hl4, hk4⟩ := left none W3 hk3
        exact ⟨_, _, hr, .inl ⟨rfl, ⟨hI.putObj _ hi3 (by omega) hl3 rfl, hl4, hk4⟩, hKt (hKt hw2 hkp3) (hKb _ _ _ _ (by omega) hl3 rfl rfl)⟩⟩
      | ret =>
        obtain ⟨hk3, hi3⟩ := hp
        obtain ⟨hl3, hr, hl4, hk4⟩ := left (some .ret) W3 hk3
        exact ⟨_, _, hr, .inr ⟨rfl, .ret, (hIx _).putObj _ hi3 (by omega) hl3 rfl, hl4, hk4⟩⟩
      | exit id =>
        obtain ⟨hk3, hi3⟩ := hp
        obtain ⟨hl3, hr, hl4, hk4⟩ := left (some (.exit id)) W3 hk3
        exact ⟨_, _, hr, .inr ⟨rfl, .exit id, (hIx _).putObj _ hi3 (by omega) hl3 rfl, hl4, hk4⟩⟩
      | goto t =>
        obtain ⟨hk3, hi3⟩ := hp
        obtain ⟨hl3, hr, hl4, hk4⟩ := left (some (.goto t)) W3 hk3
        exact ⟨_, _, hr, .inr ⟨rfl, .goto t, (hIx _).putObj _ hi3 (by omega) hl3 rfl, hl4, hk4⟩⟩
      | panic ch => exact hp.elim
      | outgrown => exact hp.elim
    case behind =>
      rintro e W2 ⟨⟨v, rfl⟩, (⟨xs, hS, hi, hl, hk⟩ | ⟨pre, hSp, c, hi, hl, hk⟩)⟩
      · have he := run_endLoop (P := P) hl (by rw [hr0]; simp)
        rw [hr0] at he
        exact ⟨none, _, he, hdone _ xs _ (Nat.le_refl _) hS (hI.putObj _ hi (by omega) hl rfl) ((World.putObj_heap_other (by omega)).trans hk)⟩
      · have he := run_endLoop (P := P) hl (by rw [hr0]; simp)
        rw [hr0] at he
        exact ⟨some c, _, he, hstop _ c pre _ (Nat.le_refl _) hSp ((hIx c).putObj _ hi (by omega) hl rfl) ((World.putObj_heap_other (by omega)).trans hk)⟩

end Go.Proofs.Ytbflncfhbmlibaa
