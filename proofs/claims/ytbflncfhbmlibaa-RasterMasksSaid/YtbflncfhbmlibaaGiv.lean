/-
  A range over an iterator that writes blocks of its own while it goes; such a range within a round of another one.
-/
import Derived.Test.YtbflncfhbmlibaaRange
import Derived.Test.YtbflncfhbmlibaaBlk
import Derived.Test.YtbflncfhbmlibaaTailIn
namespace Go.Proofs.Ytbflncfhbmlibaa
open Go.RowKit Go.Shelf

/-- A region of calls that make memory and of reads, ahead of a forced tail. -/
theorem wpIn_region_bw_tail {P : Program} {n : Nat} {F : Fence} {id : Nat} {Q : Exit → Act → World → Prop} {a : Act} {w : World} {l : List Oper} (m : Nat) (hF : Free F P) (hm : P.follows .mixedOrders = true) (hB : Region.lexTailB .any l.toArray m = true) (hd : l.all noDefer = true)
    (h : wpQuiet P l.toArray (fun w' => ∃ u : BW w, w' = u.val) (fun a' => ∀ w', (∃ u : BW w, w' = u.val) → wpListIn F n P l.toArray Q (l.drop m) a' w') (l.take m) a) : (Code.region id l.toArray true).wpIn F n P Q a w :=
  wpIn_region_quiet_tail (C := fun w' => ∃ u : BW w, w' = u.val) m hF hm hB hd ⟨⟨{ w with drawn := w.drawn + 1 }, ⟨rfl, rfl, rfl, Nat.le_refl _, fun _ _ => rfl⟩⟩, rfl⟩ h
/-- It speaks of what lies below B alone. -/
def BStable {β : Type} (B : Nat) (J : β → World → Prop) : Prop := ∀ (s : β) (A A' : World), J s A → Below B A A' → J s A'
/-- An iterator that lays J at each round, and may write whatever it has made itself. -/
def GivesB {α : Type} (n : Nat) (P : Program) (g : Nat) (lb : Array Value) (encs : α → Array Value) (Kp : World → World → Prop) (G : List α → α → Prop) (S Sp : List α → Prop) (w : World) : Prop :=
  ∀ (l : Nat) (J Jx : List α → World → Prop) (W : World), Below w.heap.size w W → BStable W.heap.size J → BStable W.heap.size Jx →
    (∀ pre x W1, W.heap.size ≤ W1.heap.size → J pre W1 → G pre x → YieldAt Fence.wide (n - 1) P l (encs x) W1 fun e W' =>
      (e = .returned (.bool true) ∧ J (pre ++ [x]) W' ∧ Kp W1 W') ∨ (e = .returned (.bool false) ∧ Jx (pre ++ [x]) W')) →
    J [] W →
    CallsIn Fence.wide n P g (#[.func (.yield l) #[] #[]] ++ lb) W fun e W' => (∃ v, e = .returned v) ∧ ((∃ xs, S xs ∧ J xs W') ∨ (∃ pre, Sp pre ∧ Jx pre W'))

/-- A loop over an iterator that may write blocks of its own; its variables are made anew in each round: 'wa' is the world behind that. -/
theorem wpIn_range_b {P : Program} {n : Nat} {α : Type} {g : Operand} {ps : Array Tmp} {assign body : Code} {Q : Exit → Act → World → Prop} {a : Act} {w : World}
    {gf : Nat} {lb : Array Value} (hg : a.eval g = .func (.func gf) #[] lb) (eg : ∀ args w, (callFunc gf args).run P w = .ok (.enter gf args) w)
    {encs : α → Array Value} {Kp : World → World → Prop} {G : List α → α → Prop} {S Sp : List α → Prop} {w0 : World} (hseq : GivesB (n - 1) P gf lb encs Kp G S Sp w0)
    (hKt : ∀ {A B C : World}, Kp A B → Kp B C → Kp A C) (hKb : ∀ (W : World) (l : Nat) (o o' : Obj), w.heap.size ≤ l → W.heap[l]? = some o → o.isCells = false → o.isWalk = false → Kp W (W.putObj l o')) (hb0 : Below w0.heap.size w0 w) (hps : ∀ x, (encs x).size = ps.size)
    (I : List α → World → Prop) (Ix : Code → List α → World → Prop) (hI : BStable w.heap.size I) (hIx : ∀ c, BStable w.heap.size (Ix c)) (h0 : I [] w) (a₁ : α → World → Act) (wa : α → World → World) (hwa : ∀ x W, Below W.heap.size W (wa x W)) (hKa : ∀ x W, w.heap.size ≤ W.heap.size → Kp W (wa x W))
    (hassign : ∀ (l : Nat) (x : α) (W : World) (K : Act → World → Prop), K (a₁ x W) (wa x W) →
      assign.wpIn (Fence.wide.inRound l) (n - 1 - 1) P (Exit.then K (fun _ _ _ => False)) { tmps := (ps.zip (encs x)).foldl (fun t (p, v) => t.setIfInBounds p v) a.tmps, defers := [] } W)
    (hbody : ∀ (l : Nat) (pre : List α) (x : α) (W Wb : World), w.heap.size ≤ l → (∃ r, Wb.heap[l]? = some (.loop r)) → w.heap.size + 2 ≤ W.heap.size → Wb.heap.size = (wa x W).heap.size → (∀ (b : Nat) (o : Obj), (wa x W).heap[b]? = some o → o.isCells = true → Wb.heap[b]? = some o) → I pre Wb → G pre x → body.wpIn (Fence.wide.inRound l) (n - 1 - 1) P (ownPostK Kp I Ix (pre ++ [x]) Wb) (a₁ x W) Wb)
    (hdone : ∀ (D : Nat) (xs : List α) (W : World), w.heap.size ≤ D → S xs → I xs W → W.heap[D]? = some (.deferred (some [])) → Q .normal { a with defers := { target := .collected D, args := #[] } :: a.defers } W)
    (hstop : ∀ (D : Nat) (c : Code) (pre : List α) (W : World), w.heap.size ≤ D → Sp pre → Ix c pre W → W.heap[D]? = some (.deferred (some [])) → c.wpIn Fence.wide n P Q { a with defers := { target := .collected D, args := #[] } :: a.defers } W) :
    (Code.rangeFunc g ps assign body).wpIn Fence.wide n P Q a w := by
  refine wpIn_rangeFunc (F := Fence.wide) ?_
  intro fn hfn
  obtain ⟨r0, hr0⟩ : ∃ r0 : Loop, r0 = { state := .ready, pending := none, fn, tmps := a.tmps, params := ps, assign, body, defers := w.heap.size } := ⟨_, rfl⟩
  obtain ⟨W1, hW1⟩ : ∃ W1, (w.alloc (.deferred (some []))).alloc (.loop r0) = W1 := ⟨_, rfl⟩
  have hL1 : W1.heap[w.heap.size + 1]? = some (.loop r0) := by
    have := World.alloc_heap_new (w.alloc (.deferred (some []))) (.loop r0)
    rw [World.size_alloc, hW1] at this
    exact this
  have hD1 : W1.heap[w.heap.size]? = some (.deferred (some [])) := by
    rw [← hW1]
    exact (Below.heap_alloc _ _ _ (by simp)).trans (World.alloc_heap_new w _)
  have hsz1 : W1.heap.size = w.heap.size + 2 := by rw [← hW1]; simp
  have hbw : ∀ {A B : World}, Below W1.heap.size A B → Below w.heap.size A B := fun h => h.mono (by omega)
  have hput : ∀ {A : World} {l : Nat} (o' : Obj), w.heap.size ≤ l → Below w.heap.size A (A.putObj l o') := fun o' hl => ⟨rfl, rfl, rfl, by simp, fun k hk => World.putObj_heap_other (by omega)⟩
  refine ⟨w.heap.size + 1, [{ target := .collected w.heap.size, args := #[] }], W1, { target := .fn (.func gf) lb, args := #[.func (.yield (w.heap.size + 1)) #[] #[]] }, W1, gf,
    #[.func (.yield (w.heap.size + 1)) #[] #[]] ++ lb, W1, ?_, ?_, ?_, ?_, fun he => (by cases he), ?_⟩
  · rw [← hW1, hr0]
    exact run_enterLoop_outer _ _ _ _ _
  · simp only [resolve, hg]
    simp [go_sem]
  · intro _ _
    exact trivial
  · simp [invoke, go_sem, eg]
  · refine (hseq (w.heap.size + 1)
      (fun pre W => I pre W ∧ W.heap[w.heap.size + 1]? = some (.loop r0) ∧ W.heap[w.heap.size]? = some (.deferred (some [])))
      (fun pre W => ∃ c, Ix c pre W ∧ W.heap[w.heap.size + 1]? = some (.loop { r0 with state := .done, pending := some c }) ∧ W.heap[w.heap.size]? = some (.deferred (some [])))
      W1 ?b1 ?j1 ?j2 ?round ⟨?i1, hL1, hD1⟩).mono ?behind
    case b1 =>
      rw [← hW1]
      exact hb0.trans ((((Below.refl _ w).alloc (Nat.le_refl _) _).alloc (by simp) _).mono hb0.size)
    case i1 =>
      rw [← hW1]
      exact hI _ _ _ h0 (((Below.refl _ w).alloc (Nat.le_refl _) _).alloc (by simp) _)
    case j1 =>
      intro s A B hs hb
      exact ⟨hI s A B hs.1 (hbw hb), (hb.block _ (by omega)).trans hs.2.1, (hb.block _ (by omega)).trans hs.2.2⟩
    case j2 =>
      rintro s A B ⟨c, hc, hl, hk⟩ hb
      exact ⟨c, hIx c s A B hc (hbw hb), (hb.block _ (by omega)).trans hl, (hb.block _ (by omega)).trans hk⟩
    case round =>
      rintro pre x W hbW ⟨hi, hl, hk⟩ hgx
      have hy := run_yield (P := P) (args := encs x) hl (by rw [hr0]; exact hps x)
      refine ⟨r0.fn, (r0.params.zip (encs x)).foldl (fun t (p, v) => t.setIfInBounds p v) r0.tmps, r0.assign, r0.body, hy, ?_⟩
      subst hr0
      have hlt0 : w.heap.size + 1 < W.heap.size := (Array.getElem?_eq_some_iff.1 hl).1
      have hi2 : I pre (wa x W) := hI pre W _ hi ((hwa x W).mono (by omega))
      have hl2 := ((hwa x W).block _ hlt0).trans hl
      have hk2 := ((hwa x W).block _ (show w.heap.size < W.heap.size by omega)).trans hk
      refine roundIn_of_wpIn hfn (hassign _ x W _ ⟨_, run_beginRound hl2 rfl, ?_⟩)
      refine wpIn_mono (hbody _ pre x W _ (by omega) ⟨_, World.putObj_heap_same (Array.getElem?_eq_some_iff.1 hl2).1⟩ (by omega) (by simp) (fun b o hb ho => ?_) (hI _ _ _ hi2 (hput _ (by omega))) hgx) ?_
      · by_cases hbe : b = w.heap.size + 1
        · subst hbe
          rw [hl2] at hb
          injection hb with hb
          subst hb
          cases ho
        · rw [World.putObj_heap_other (fun e => hbe e)]
          exact hb
      have hlt : w.heap.size + 1 < (wa x W).heap.size := (Array.getElem?_eq_some_iff.1 hl2).1
      have hw2 := hKt (hKa x W (by omega)) (hKb (wa x W) (w.heap.size + 1) _ (.loop { state := .busy, pending := none, fn, tmps := a.tmps, params := ps, assign, body, defers := w.heap.size }) (by omega) hl2 rfl rfl)
      have left := fun jump W3 hk3 => record_left (P := P) (L := w.heap.size + 1) (D := w.heap.size) (W := wa x W) (W3 := W3) (by omega) hl2 hk2 hk3 jump
      rintro e a3 W3 hp
      cases e with
      | normal =>
        obtain ⟨hk3, hkp3, hi3⟩ := hp
        obtain ⟨hl3, hr, hl4, hk4⟩ := left none W3 hk3
        exact ⟨_, _, hr, .inl ⟨rfl, ⟨hI _ _ _ hi3 (hput _ (by omega)), hl4, hk4⟩, hKt (hKt hw2 hkp3) (hKb _ _ _ _ (by omega) hl3 rfl rfl)⟩⟩
      | ret =>
        obtain ⟨hk3, hi3⟩ := hp
        obtain ⟨hl3, hr, hl4, hk4⟩ := left (some .ret) W3 hk3
        exact ⟨_, _, hr, .inr ⟨rfl, .ret, hIx _ _ _ _ hi3 (hput _ (by omega)), hl4, hk4⟩⟩
      | exit id =>
        obtain ⟨hk3, hi3⟩ := hp
        obtain ⟨hl3, hr, hl4, hk4⟩ := left (some (.exit id)) W3 hk3
        exact ⟨_, _, hr, .inr ⟨rfl, .exit id, hIx _ _ _ _ hi3 (hput _ (by omega)), hl4, hk4⟩⟩
      | goto t =>
        obtain ⟨hk3, hi3⟩ := hp
        obtain ⟨hl3, hr, hl4, hk4⟩ := left (some (.goto t)) W3 hk3
        exact ⟨_, _, hr, .inr ⟨rfl, .goto t, hIx _ _ _ _ hi3 (hput _ (by omega)), hl4, hk4⟩⟩
      | panic ch => exact hp.elim
      | outgrown => exact hp.elim
    case behind =>
      rintro e W2 ⟨⟨v, rfl⟩, (⟨xs, hS, hi, hl, hk⟩ | ⟨pre, hSp, c, hi, hl, hk⟩)⟩
      · have he := run_endLoop (P := P) hl (by rw [hr0]; simp)
        rw [hr0] at he
        exact ⟨none, _, he, hdone _ xs _ (Nat.le_refl _) hS (hI _ _ _ hi (hput _ (by omega))) ((World.putObj_heap_other (by omega)).trans hk)⟩
      · have he := run_endLoop (P := P) hl (by rw [hr0]; simp)
        rw [hr0] at he
        exact ⟨some c, _, he, hstop _ c pre _ (Nat.le_refl _) hSp (hIx c _ _ _ hi (hput _ (by omega))) ((World.putObj_heap_other (by omega)).trans hk)⟩


/-- Such a loop within a round of loop l₀. Its variables are made anew in each round: 'wa' is the world behind that. -/
theorem wpIn_range_bn {P : Program} {n : Nat} {α : Type} {g : Operand} {ps : Array Tmp} {assign body : Code} {Q : Exit → Act → World → Prop} {a : Act} {w : World}
    {l₀ : Nat} {r₀ : Loop} (hl₀ : w.heap[l₀]? = some (.loop r₀)) {gf : Nat} {lb : Array Value} (hg : a.eval g = .func (.func gf) #[] lb) (eg : ∀ args w, (callFunc gf args).run P w = .ok (.enter gf args) w)
    {encs : α → Array Value} {Kp : World → World → Prop} {G : List α → α → Prop} {S Sp : List α → Prop} {w0 : World} (hseq : GivesB (n - 1) P gf lb encs Kp G S Sp w0)
    (hKt : ∀ {A B C : World}, Kp A B → Kp B C → Kp A C) (hKb : ∀ (W : World) (l : Nat) (o o' : Obj), w.heap.size ≤ l → W.heap[l]? = some o → o.isCells = false → o.isWalk = false → Kp W (W.putObj l o')) (hb0 : Below w0.heap.size w0 w) (hps : ∀ x, (encs x).size = ps.size)
    (I : List α → World → Prop) (Ix : Code → List α → World → Prop) (hI : BStable w.heap.size I) (hIx : ∀ c, BStable w.heap.size (Ix c)) (h0 : I [] w) (a₁ : α → World → Act) (wa : α → World → World) (hwa : ∀ x W, Below W.heap.size W (wa x W)) (hKa : ∀ x W, w.heap.size ≤ W.heap.size → Kp W (wa x W))
    (hassign : ∀ (l : Nat) (x : α) (W : World) (K : Act → World → Prop), K (a₁ x W) (wa x W) →
      assign.wpIn (Fence.wide.inRound l) (n - 1 - 1) P (Exit.then K (fun _ _ _ => False)) { tmps := (ps.zip (encs x)).foldl (fun t (p, v) => t.setIfInBounds p v) a.tmps, defers := [] } W)
    (hbody : ∀ (l : Nat) (pre : List α) (x : α) (W Wb : World), w.heap.size ≤ l → (∃ r, Wb.heap[l]? = some (.loop r)) → w.heap.size + 1 ≤ W.heap.size → Wb.heap.size = (wa x W).heap.size → (∀ (b : Nat) (o : Obj), (wa x W).heap[b]? = some o → o.isCells = true → Wb.heap[b]? = some o) → I pre Wb → G pre x → body.wpIn (Fence.wide.inRound l) (n - 1 - 1) P (ownPostK Kp I Ix (pre ++ [x]) Wb) (a₁ x W) Wb)
    (hdone : ∀ (xs : List α) (W : World), S xs → I xs W → Q .normal a W)
    (hstop : ∀ (c : Code) (pre : List α) (W : World), Sp pre → Ix c pre W → c.wpIn (Fence.wide.inRound l₀) n P Q a W) :
    (Code.rangeFunc g ps assign body).wpIn (Fence.wide.inRound l₀) n P Q a w := by
  refine wpIn_rangeFunc (F := Fence.wide.inRound l₀) ?_
  intro fn hfn
  obtain ⟨r0, hr0⟩ : ∃ r0 : Loop, r0 = { state := .ready, pending := none, fn, tmps := a.tmps, params := ps, assign, body, defers := r₀.defers } := ⟨_, rfl⟩
  obtain ⟨W1, hW1⟩ : ∃ W1, w.alloc (.loop r0) = W1 := ⟨_, rfl⟩
  have hL1 : W1.heap[w.heap.size]? = some (.loop r0) := by
    have := World.alloc_heap_new w (.loop r0)
    rw [hW1] at this
    exact this
  have hsz1 : W1.heap.size = w.heap.size + 1 := by rw [← hW1]; simp
  have hbw : ∀ {A B : World}, Below W1.heap.size A B → Below w.heap.size A B := fun h => h.mono (by omega)
  have hput : ∀ {A : World} {l : Nat} (o' : Obj), w.heap.size ≤ l → Below w.heap.size A (A.putObj l o') := fun o' hl => ⟨rfl, rfl, rfl, by simp, fun k hk => World.putObj_heap_other (by omega)⟩
  refine ⟨w.heap.size, [], W1, { target := .fn (.func gf) lb, args := #[.func (.yield w.heap.size) #[] #[]] }, W1, gf,
    #[.func (.yield w.heap.size) #[] #[]] ++ lb, W1, ?_, ?_, ?_, ?_, fun he => (by cases he), ?_⟩
  · rw [← hW1, hr0]
    exact run_enterLoop_inner hl₀ _ _ _ _ _
  · simp only [resolve, hg]
    simp [go_sem]
  · intro _ _
    exact trivial
  · simp [invoke, go_sem, eg]
  · refine (hseq w.heap.size
      (fun pre W => I pre W ∧ W.heap[w.heap.size]? = some (.loop r0))
      (fun pre W => ∃ c, Ix c pre W ∧ W.heap[w.heap.size]? = some (.loop { r0 with state := .done, pending := some c }))
      W1 ?b1 ?j1 ?j2 ?round ⟨?i1, hL1⟩).mono ?behind
    case b1 =>
      rw [← hW1]
      exact hb0.trans (((Below.refl _ w).alloc (Nat.le_refl _) _).mono hb0.size)
    case i1 =>
      rw [← hW1]
      exact hI _ _ _ h0 ((Below.refl _ w).alloc (Nat.le_refl _) _)
    case j1 =>
      intro s A B hs hb
      exact ⟨hI s A B hs.1 (hbw hb), (hb.block _ (by omega)).trans hs.2⟩
    case j2 =>
      rintro s A B ⟨c, hc, hl⟩ hb
      exact ⟨c, hIx c s A B hc (hbw hb), (hb.block _ (by omega)).trans hl⟩
    case round =>
      rintro pre x W hbW ⟨hi, hl⟩ hgx
      have hy := run_yield (P := P) (args := encs x) hl (by rw [hr0]; exact hps x)
      refine ⟨r0.fn, (r0.params.zip (encs x)).foldl (fun t (p, v) => t.setIfInBounds p v) r0.tmps, r0.assign, r0.body, hy, ?_⟩
      subst hr0
      have hlt0 : w.heap.size < W.heap.size := (Array.getElem?_eq_some_iff.1 hl).1
      have hi2 : I pre (wa x W) := hI pre W _ hi ((hwa x W).mono (by omega))
      have hl2 := ((hwa x W).block _ hlt0).trans hl
      refine roundIn_of_wpIn hfn (hassign _ x W _ ⟨_, run_beginRound hl2 rfl, ?_⟩)
      refine wpIn_mono (hbody _ pre x W _ (by omega) ⟨_, World.putObj_heap_same (Array.getElem?_eq_some_iff.1 hl2).1⟩ (by omega) (by simp) (fun b o hb ho => ?_) (hI _ _ _ hi2 (hput _ (by omega))) hgx) ?_
      · by_cases hbe : b = w.heap.size
        · subst hbe
          rw [hl2] at hb
          injection hb with hb
          subst hb
          cases ho
        · rw [World.putObj_heap_other (fun e => hbe e)]
          exact hb
      have hlt : w.heap.size < (wa x W).heap.size := (Array.getElem?_eq_some_iff.1 hl2).1
      have hw2 := hKt (hKa x W (by omega)) (hKb (wa x W) w.heap.size _ (.loop { state := .busy, pending := none, fn, tmps := a.tmps, params := ps, assign, body, defers := r₀.defers }) (by omega) hl2 rfl rfl)
      have left : ∀ (jump : Option Code) (W3 : World), KeepsOthers ((wa x W).putObj w.heap.size (.loop { state := .busy, pending := none, fn, tmps := a.tmps, params := ps, assign, body, defers := r₀.defers })) W3 →
          W3.heap[w.heap.size]? = some (.loop { state := .busy, pending := none, fn, tmps := a.tmps, params := ps, assign, body, defers := r₀.defers }) ∧
          (Instr.endRound w.heap.size jump).run P W3 = .ok (.bool jump.isNone) (W3.putObj w.heap.size (.loop { state := if jump.isNone then .ready else .done, pending := jump, fn, tmps := a.tmps, params := ps, assign, body, defers := r₀.defers })) ∧
          (W3.putObj w.heap.size (.loop { state := if jump.isNone then .ready else .done, pending := jump, fn, tmps := a.tmps, params := ps, assign, body, defers := r₀.defers })).heap[w.heap.size]? = some (.loop { state := if jump.isNone then .ready else .done, pending := jump, fn, tmps := a.tmps, params := ps, assign, body, defers := r₀.defers }) := fun jump W3 hk3 => by
        have h3 := hk3.same w.heap.size _ (World.putObj_heap_same hlt) rfl
        exact ⟨h3, run_endRound (P := P) jump h3, World.putObj_heap_same (Array.getElem?_eq_some_iff.1 h3).1⟩
      rintro e a3 W3 hp
      cases e with
      | normal =>
        obtain ⟨hk3, hkp3, hi3⟩ := hp
        obtain ⟨hl3, hr, hl4⟩ := left none W3 hk3
        exact ⟨_, _, hr, .inl ⟨rfl, ⟨hI _ _ _ hi3 (hput _ (by omega)), hl4⟩, hKt (hKt hw2 hkp3) (hKb _ _ _ _ (by omega) hl3 rfl rfl)⟩⟩
      | ret =>
        obtain ⟨hk3, hi3⟩ := hp
        obtain ⟨hl3, hr, hl4⟩ := left (some .ret) W3 hk3
        exact ⟨_, _, hr, .inr ⟨rfl, .ret, hIx _ _ _ _ hi3 (hput _ (by omega)), hl4⟩⟩
      | exit id =>
        obtain ⟨hk3, hi3⟩ := hp
        obtain ⟨hl3, hr, hl4⟩ := left (some (.exit id)) W3 hk3
        exact ⟨_, _, hr, .inr ⟨rfl, .exit id, hIx _ _ _ _ hi3 (hput _ (by omega)), hl4⟩⟩
      | goto t =>
        obtain ⟨hk3, hi3⟩ := hp
        obtain ⟨hl3, hr, hl4⟩ := left (some (.goto t)) W3 hk3
        exact ⟨_, _, hr, .inr ⟨rfl, .goto t, hIx _ _ _ _ hi3 (hput _ (by omega)), hl4⟩⟩
      | panic ch => exact hp.elim
      | outgrown => exact hp.elim
    case behind =>
      rintro e W2 ⟨⟨v, rfl⟩, (⟨xs, hS, hi, hl⟩ | ⟨pre, hSp, c, hi, hl⟩)⟩
      · have he := run_endLoop (P := P) hl (by rw [hr0]; simp)
        rw [hr0] at he
        exact ⟨none, _, he, hdone xs _ hS (hI _ _ _ hi (hput _ (by omega)))⟩
      · have he := run_endLoop (P := P) hl (by rw [hr0]; simp)
        rw [hr0] at he
        exact ⟨some c, _, he, hstop c pre _ hSp (hIx c _ _ _ hi (hput _ (by omega)))⟩

end Go.Proofs.Ytbflncfhbmlibaa
