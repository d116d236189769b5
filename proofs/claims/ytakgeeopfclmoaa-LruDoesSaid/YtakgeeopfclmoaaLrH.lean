/-
  Layer 25: a slot is removed.
-/
import Derived.Test.YtakgeeopfclmoaaLrG
namespace Go.Proofs.Ytakgeeopfclmoaa
open Go.RowKit Go.Maps

/-- Block g is a cache of these entries that says that it holds so much. -/
def LruH (w : World) (g : Nat) (B : Bz) (held budget : Int) (L : List En) : Prop := ∃ Y S l fr, Lr w g B Y S fr (keysE S.ss l) held budget ∧ Ok S l fr [] L
section
variable {B : Bz} {g : Nat} {w w' : World} {Y : Lay} {S : Lk} {fr : List Nat} {E : List (K4 × Nat)} {held budget : Int}
theorem Lr.setMap (h : Lr w g B Y S fr E held budget) {E' : List (K4 × Nat)} (hE : MapOk E') (hm : w'.ownsMap Try.prog 24 (plainElem Try.prog 3) Y.mb E'.length (mapD E'))
    (hs : w.heap.size ≤ w'.heap.size) (hb : ∀ k, k < w.heap.size → k ≠ Y.mb → w'.heap[k]? = w.heap[k]?) : Lr w' g B Y S fr E' held budget := by
  obtain ⟨es, clock, h1, _⟩ := h.map
  have hne : ∀ {cs : Array Value} {t : TypeId} {f : Nat × Nat} {k : Nat}, w.heap[k]? = some (.cells cs t f) → w'.heap[k]? = w.heap[k]? := fun {cs t f k} hk => by
    refine hb k (Array.getElem?_eq_some_iff.1 hk).1 fun e => ?_
    rw [e, h1] at hk
    cases hk
  refine ⟨(hne h.blk).trans h.blk, own_keep h.own fun k hk => ?_, fun s hsm => (h.rows s hsm).stay hs fun b cs f e => hne e, own_keep h.free fun k hk => ?_, hm, h.base, hE⟩
  · obtain ⟨cs, hc⟩ := own_typed' h.own k hk
    exact hne hc
  · obtain ⟨cs, hc⟩ := own_typed' h.free k hk
    exact hne hc
theorem ownsMap_exact {n m : Nat} {b : Nat} {D : DataW Unit} {P : Program} {k : Nat} {R : Value → Option (DataW Unit × List MemPlace)} (h : w.ownsMap P k R b n D) (hm : Maps.size D = m) : w.ownsMap P k R b m D := by
  obtain ⟨es, clock, h1, h2, h3, h4⟩ := h
  refine ⟨es, clock, h1, h2, ?_, h4⟩
  subst hm
  rw [h4]
  simp [Maps.size, length_sorted]
/-- The free list is another one. -/
theorem Lr.setFree (h : Lr w g B Y S fr E held budget) {fr' : List Nat} {A' : Option Addr} {c' : Nat} (hown : w'.ownsRow B 3 1 (.slice A' fr'.length c') fr'.length (fr'.map fun i : Nat => Value.int .i64 (i : Int)))
    (hgrow : w.grownBy w' (rowOf Y.Af)) : Lr (w'.setCell ⟨g, 4, none⟩ (.slice A' fr'.length c')) g B { Y with Af := A', cf := c' } S fr' E held budget ∧ hot w' g := by
  have hAf : ∀ k, rowOf Y.Af = some k → ∃ cs, w.heap[k]? = some (.cells cs 3 (0, 0)) := fun k hk => own_typed' h.free k (by rw [ownBlock_slice]; exact hk)
  have hAn : ∀ k, rowOf A' = some k → ∃ cs, w'.heap[k]? = some (.cells cs 3 (0, 0)) := fun k hk => own_typed' hown k (by rw [ownBlock_slice]; exact hk)
  have apart : ∀ {k : Nat} {o : Obj}, w.heap[k]? = some o → (∀ cs, o ≠ .cells cs 3 (0, 0)) → w'.heap[k]? = w.heap[k]? := fun {k o} hk ho => by
    refine hgrow.block k (Array.getElem?_eq_some_iff.1 hk).1 fun e => ?_
    obtain ⟨cs, hc⟩ := hAf k e.symm
    rw [hc] at hk
    injection hk with hk
    exact ho cs hk.symm
  have hgb : Blk w' g 67 [.slice Y.A S.ss.length Y.c, .map (some Y.mb), .int .i64 S.first, .int .i64 S.last, .slice Y.Af fr.length Y.cf, .int .i64 held, .int .i64 budget] :=
    (apart h.blk (by intro cs e; injection e with _ e _; revert e; decide)).trans h.blk
  have hne : ∀ {k : Nat} {o : Obj}, w.heap[k]? = some o → (∀ cs, o ≠ .cells cs 3 (0, 0)) → (∀ cs f, o ≠ .cells cs 67 f) → (w'.setCell ⟨g, 4, none⟩ (.slice A' fr'.length c')).heap[k]? = w.heap[k]? := fun {k o} hk ho ho2 => by
    refine (Below.heap_setCell w' ⟨g, 4, none⟩ _ k fun e => ?_).trans (apart hk ho)
    have e' : k = g := e
    subst e'
    have h6 := h.blk
    unfold Blk at h6
    rw [h6] at hk
    injection hk with hk
    exact ho2 _ _ hk.symm
  refine ⟨⟨hgb.set 4 _, own_keep h.own fun k hk => ?_, fun s hs => ?_, own_keep hown fun k hk => ?_, ?_, h.base, h.mok⟩, hot_blk hgb (.inl rfl)⟩
  · obtain ⟨cs, hc⟩ := own_typed' h.own k hk
    exact hne hc (by intro cs e; injection e with _ e _; revert e; decide) (by intro cs f e; injection e with _ e _; revert e; decide)
  · exact (h.rows s hs).stay (by have := hgrow.size; simpa [World.setCell] using this) fun b cs f e => hne e (by intro cs e; injection e with _ e _; revert e; decide) (by intro cs f e; injection e with _ e _; revert e; decide)
  · refine Below.heap_setCell w' ⟨g, 4, none⟩ _ k fun e => ?_
    have e' : k = g := e
    subst e'
    obtain ⟨cs, hc⟩ := hAn k (by rw [← ownBlock_slice]; exact hk)
    unfold Blk at hgb
    rw [hgb] at hc
    injection hc with hc
    injection hc with _ hc _
    revert hc
    decide
  · obtain ⟨es, clock, h1, h2⟩ := h.map
    exact ⟨es, clock, (hne h1 (by intro cs e; cases e) (by intro cs f e; cases e)).trans h1, h2⟩
end
theorem int_info : (Try.prog.info? 3).map (fun i => (i.zero, i.size, i.bytes)) = some (some (.int .i64 0), 1, 8) := by kernel_rfl
theorem ints_one' (xs : List Nat) : ∀ u ∈ xs.map (fun i : Nat => Value.int .i64 (i : Int)), u.oneCell' = true := by
  intro u hu
  obtain ⟨x, _, rfl⟩ := List.mem_map.1 hu
  rfl
theorem slat_int (w : World) (x : Int) : SlAt (w.alloc (.cells #[.int .i64 x] 3)) (some ⟨w.heap.size, 0, none⟩) 1 [.int .i64 x] := by
  refine ⟨rfl, fun k hk => ⟨w.heap.size, 0, rfl, by simp, ?_⟩⟩
  obtain rfl : k = 0 := by omega
  simp

end Go.Proofs.Ytakgeeopfclmoaa
