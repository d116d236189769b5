/-
  Layer 25: a slot that is free, or a new one.
-/
import Derived.Test.YtakgeeopfclmoaaLrJ
namespace Go.Proofs.Ytakgeeopfclmoaa
open Go.RowKit Go.Maps

theorem slot_info : (Try.prog.info? 71).map (fun i => (i.zero, i.size, i.bytes)) = some (some (.agg zSl.cells.toArray), 11, 104) := by kernel_rfl
section
variable {B : Bz} {g : Nat} {w w' : World} {Y : Lay} {S : Lk} {fr : List Nat} {E : List (K4 × Nat)} {held budget : Int}
theorem Lr.growS (h : Lr w g B Y S fr E held budget) (hgrow : w.grownBy w' (rowOf Y.A)) : w'.heap[g]? = w.heap[g]? := by
  refine hgrow.block g h.blk.lt fun e => ?_
  obtain ⟨cs, hc⟩ := own_typed' h.own g (by rw [ownBlock_slice]; exact e.symm)
  have h6 := h.blk
  unfold Blk at h6
  rw [h6] at hc
  injection hc with hc
  injection hc with _ hc _
  revert hc
  decide
theorem Lr.rowS (h : Lr w g B Y S fr E held budget) : ∀ k, rowOf Y.A = some k → B ≤ k ∧ hot w k := fun k hk => hot_own h.own (.inr (.inl rfl)) k (by rw [ownBlock_slice]; exact hk)
/-- One slot more. -/
theorem Lr.setSlots (h : Lr w g B Y S fr E held budget) {A' : Option Addr} {c' : Nat} (hown : w'.ownsRow B 71 11 (.slice A' (S.ss ++ [zSl]).length c') (S.ss ++ [zSl]).length ((S.ss ++ [zSl]).flatMap Sl.cells))
    (hgrow : w.grownBy w' (rowOf Y.A)) : Lr (w'.setCell ⟨g, 0, none⟩ (.slice A' (S.ss ++ [zSl]).length c')) g B { Y with A := A', c := c' } { S with ss := S.ss ++ [zSl] } fr E held budget := by
  have hAf : ∀ k, rowOf Y.A = some k → ∃ cs, w.heap[k]? = some (.cells cs 71 (0, 0)) := fun k hk => own_typed' h.own k (by rw [ownBlock_slice]; exact hk)
  have hAn : ∀ k, rowOf A' = some k → ∃ cs, w'.heap[k]? = some (.cells cs 71 (0, 0)) := fun k hk => own_typed' hown k (by rw [ownBlock_slice]; exact hk)
  have apart : ∀ {k : Nat} {o : Obj}, w.heap[k]? = some o → (∀ cs, o ≠ .cells cs 71 (0, 0)) → w'.heap[k]? = w.heap[k]? := fun {k o} hk ho => by
    refine hgrow.block k (Array.getElem?_eq_some_iff.1 hk).1 fun e => ?_
    obtain ⟨cs, hc⟩ := hAf k e.symm
    rw [hc] at hk
    injection hk with hk
    exact ho cs hk.symm
  have hgb : Blk w' g 67 [.slice Y.A S.ss.length Y.c, .map (some Y.mb), .int .i64 S.first, .int .i64 S.last, .slice Y.Af fr.length Y.cf, .int .i64 held, .int .i64 budget] :=
    (apart h.blk (by intro cs e; injection e with _ e _; revert e; decide)).trans h.blk
  have hne : ∀ {k : Nat} {o : Obj}, w.heap[k]? = some o → (∀ cs, o ≠ .cells cs 71 (0, 0)) → (∀ cs f, o ≠ .cells cs 67 f) → (w'.setCell ⟨g, 0, none⟩ (.slice A' (S.ss ++ [zSl]).length c')).heap[k]? = w.heap[k]? := fun {k o} hk ho ho2 => by
    refine (Below.heap_setCell w' ⟨g, 0, none⟩ _ k fun e => ?_).trans (apart hk ho)
    have e' : k = g := e
    subst e'
    have h6 := h.blk
    unfold Blk at h6
    rw [h6] at hk
    injection hk with hk
    exact ho2 _ _ hk.symm
  refine ⟨hgb.set 0 _, own_keep hown fun k hk => ?_, fun s hs => ?_, own_keep h.free fun k hk => ?_, ?_, h.base, h.mok⟩
  · refine Below.heap_setCell w' ⟨g, 0, none⟩ _ k fun e => ?_
    have e' : k = g := e
    subst e'
    obtain ⟨cs, hc⟩ := hAn k (by rw [← ownBlock_slice]; exact hk)
    unfold Blk at hgb
    rw [hgb] at hc
    injection hc with hc
    injection hc with _ hc _
    revert hc
    decide
  · have hs' : Buf B w s.A s.m.bs s.c := by
      rcases List.mem_append.1 hs with hs | hs
      · exact h.rows s hs
      · simp only [List.mem_cons, List.not_mem_nil, or_false] at hs
        subst hs
        exact ⟨bu_nil w, fun _ e => by cases e⟩
    exact hs'.stay (by have := hgrow.size; simpa [World.setCell] using this) fun b cs f e => hne e (by intro cs e; injection e with _ e _; revert e; decide) (by intro cs f e; injection e with _ e _; revert e; decide)
  · obtain ⟨cs, hc⟩ := own_typed' h.free k hk
    exact hne hc (by intro cs e; injection e with _ e _; revert e; decide) (by intro cs f e; injection e with _ e _; revert e; decide)
  · obtain ⟨es, clock, h1, h2⟩ := h.map
    exact ⟨es, clock, (hne h1 (by intro cs e; cases e) (by intro cs f e; cases e)).trans h1, h2⟩
/-- The last free one is taken. -/
theorem Lr.takeFree {i : Nat} (h : Lr w g B Y S (fr ++ [i]) E held budget) : Lr (w.setCell ⟨g, 4, none⟩ (.slice Y.Af fr.length Y.cf)) g B Y S fr E held budget := by
  have hown : w.ownsRow B 3 1 (.slice Y.Af fr.length Y.cf) fr.length (fr.map fun i : Nat => Value.int .i64 (i : Int)) := by
    obtain ⟨h1, ⟨h2, h3⟩ | ⟨b, cap, cur, h2, h3, h4, h5, h6, h7, h8⟩⟩ := h.free
    · simp at h3
    · injection h2 with e1 _ e3
      refine ⟨by simp, .inr ⟨b, cap, cur, by rw [e1, e3], h3, h4, by simp at h5; omega, h6, h7, ?_⟩⟩
      have := congrArg (List.take fr.length) h8
      rw [List.take_take] at this
      simp at this
      simp [this]
  have hne : ∀ k, k ≠ g → (w.setCell ⟨g, 4, none⟩ (.slice Y.Af fr.length Y.cf)).heap[k]? = w.heap[k]? := fun k hk => Below.heap_setCell w _ _ k hk
  have hg : ∀ {cs : Array Value} {t : TypeId} {f : Nat × Nat} {k : Nat}, w.heap[k]? = some (.cells cs t f) → t ≠ 67 → k ≠ g := fun {cs t f k} hk ht e => by
    subst e
    have h6 := h.blk
    unfold Blk at h6
    rw [h6] at hk
    injection hk with hk
    injection hk with _ hk _
    exact ht hk.symm
  refine ⟨h.blk.set 4 _, own_keep h.own fun k hk => hne k ?_, fun s hs => (h.rows s hs).stay (by simp [World.setCell]) fun b cs f e => hne b (hg e (by decide)), own_keep hown fun k hk => hne k ?_, ?_, h.base, h.mok⟩
  · obtain ⟨cs, hc⟩ := own_typed' h.own k hk
    exact hg hc (by decide)
  · obtain ⟨cs, hc⟩ := own_typed' hown k hk
    exact hg hc (by decide)
  · obtain ⟨es, clock, h1, h2⟩ := h.map
    refine ⟨es, clock, (hne Y.mb fun e => ?_).trans h1, h2⟩
    have h6 := h.blk
    unfold Blk at h6
    rw [e, h6] at h1
    cases h1
end
theorem own_slice {w : World} {B : Nat} {e : TypeId} {v : Value} {n : Nat} {xs : List Value} {size : Nat} (h : w.ownsRow B e size v n xs) : ∃ A c, v = .slice A n c := by
  obtain ⟨_, ⟨rfl, rfl⟩ | ⟨g, cap, cur, rfl, _⟩⟩ := h
  · exact ⟨none, 0, rfl⟩
  · exact ⟨_, _, rfl⟩
/-- Slot i is neither linked nor free. -/
def EmpR (w : World) (g : Nat) (B : Bz) (E : List (K4 × Nat)) (held budget : Int) (l : List Nat) (L : List En) (e : Ending) (w' : World) : Prop :=
  ∃ (i : Nat) (Y : Lay) (S : Lk) (fr : List Nat), e = .returned (.int .i64 i) ∧ Lr w' g B Y S fr E held budget ∧ Ok S l fr [i] L ∧ keysE S.ss l = E ∧ KeepT B w w'
section
variable {B : Bz} {g : Nat} {w : World} {Y : Lay} {S : Lk} {l fr : List Nat} {L : List En} {held budget : Int}
set_option maxRecDepth 20000 in
set_option maxHeartbeats 2000000 in
theorem empty_free {i : Nat} (h : Lr w g B Y S (fr ++ [i]) (keysE S.ss l) held budget) (ok : Ok S l (fr ++ [i]) [] L) :
    Calls Try.prog 28 #[.pointer (some ⟨g, 0, none⟩)] w (EmpR w g B (keysE S.ss l) held budget l L) := by
  obtain ⟨fb, hAf, hcf, cc, hfl⟩ : ∃ fb, Y.Af = some ⟨fb, 0, none⟩ ∧ (fr ++ [i]).length ≤ Y.cf ∧ w.cell? ⟨fb, fr.length, none⟩ = some (.int .i64 i) ∧ fb < w.heap.size := by
    have hc := h.free
    obtain ⟨h1, ⟨h2, h3⟩ | ⟨b, cap, cur, h2, h3, h4, h5, _⟩⟩ := h.free
    · simp at h3
    · injection h2 with e1 _ e3
      refine ⟨b, e1, by rw [e3]; exact h5, ?_, (Array.getElem?_eq_some_iff.1 h4).1⟩
      have := hc.cells (g := b) (by rw [e1]; rfl) fr.length (.int .i64 i) (by simp)
      rwa [show (⟨b, 0, none⟩ : Addr).add fr.length = ⟨b, fr.length, none⟩ by unfold Addr.add; split <;> simp [*]] at this
  have g4 : w.cell? ⟨g, 4, none⟩ = some (.slice (some ⟨fb, 0, none⟩) (fr.length + 1) Y.cf) := by rw [h.blk.cell 4, hAf]; simp
  have f4 := h.blk.frozen 4
  have hgl := h.blk.lt
  have hsm : fr.length ≤ 262145 := by have h1 := ok.len; have := ok.small; simp at h1; omega
  have H := Lib.hid h
  have O := Lib.hid ok
  have HA := Lib.hid hAf
  have hcf' : fr.length + 1 ≤ Y.cf := by simpa using hcf
  clear h ok hAf hcf
  go_enter Try.func28, Try.ntmps28
  go_wp2_with fail
  go_ret
  refine ⟨i, Y, S, fr, rfl, ?_, ok_take O.out, rfl, (KeepT.refl (Nat.le_trans H.out.base.1 (Nat.le_of_lt hgl))).set (p := ⟨g, 4, none⟩) H.out.base.1 H.out.hotg _⟩
  rw [← HA.out]
  exact H.out.takeFree
set_option maxRecDepth 20000 in
set_option maxHeartbeats 2000000 in
theorem empty_new (h : Lr w g B Y S [] (keysE S.ss l) held budget) (ok : Ok S l [] [] L) (hsm : S.ss.length ≤ 262144) :
    Calls Try.prog 28 #[.pointer (some ⟨g, 0, none⟩)] w (EmpR w g B (keysE S.ss l) held budget l L) := by
  obtain ⟨i0, hi0, hz0, hz1, hz2⟩ := info_parts slot_info
  have g4 : w.cell? ⟨g, 4, none⟩ = some (.slice Y.Af 0 Y.cf) := by rw [h.blk.cell 4]; rfl
  have g0 : w.cell? ⟨g, 0, none⟩ = some (.slice Y.A S.ss.length Y.c) := by rw [h.blk.cell 0]; rfl
  have hgl := h.blk.lt
  have H := Lib.hid (h.alloc (.cells #[.int .i64 0, .int .i64 0, .int .i64 0, .int .i64 0, .int .i64 0, .int .i64 0, .int .i64 0, .int .i64 0, .slice none 0 0, .int .i64 0, .int .i64 0] 71))
  have K := Lib.hid ((KeepT.refl (B := B) (w := w) (Nat.le_trans h.base.1 (Nat.le_of_lt hgl))).alloc (.cells #[.int .i64 0, .int .i64 0, .int .i64 0, .int .i64 0, .int .i64 0, .int .i64 0, .int .i64 0, .int .i64 0, .slice none 0 0, .int .i64 0, .int .i64 0] 71))
  have O := Lib.hid ok
  have HG := Lib.hid h.hotg
  have HF := Lib.hid h.rowS
  have HRD := Lib.hid (reads_new w [.int .i64 0, .int .i64 0, .int .i64 0, .int .i64 0, .int .i64 0, .int .i64 0, .int .i64 0, .int .i64 0, .slice none 0 0, .int .i64 0, .int .i64 0] 71 11 1 (by rfl))
  clear h ok
  go_enter Try.func28, Try.ntmps28
  go_wp2_with (first
    | (at_builtin; refine wpList_append_any _ (by rfl) (.tmp 35) (.tmp 37) _ (by rfl) B 71 i0 _ 11 104 Try.underlying64 hi0 hz0 hz1 hz2 rfl (by omega) _ S.ss.length _ (by rfl) H.out.own _ _ 1 _ _ (by rfl) HRD.out (by intro u hu; simp at hu; rcases hu with rfl | rfl | rfl <;> rfl) (by unfold maxLen; omega) (by omega) (Nat.le_trans H.out.base.1 (Nat.le_of_lt H.out.blk.lt)) ?_; intro v' w5 hown5 hgrow5 hat5
       obtain ⟨A5, c5, rfl⟩ := own_slice hown5
       rw [ownBlock_slice] at hgrow5
       have hgb := H.out.blk
       have g05 : w5.cell? ⟨g, 0, none⟩ = some (.slice Y.A S.ss.length Y.c) := by
         rw [World.cell?_of_block (H.out.growS hgrow5), hgb.cell 0]; rfl
       have f05 : w5.frozen? ⟨g, 0, none⟩ = false := by
         rw [World.frozen?_of_block (H.out.growS hgrow5)]; exact hgb.frozen 0
       have hgl5 : g < w5.heap.size := by have := hgrow5.size; simp at this; omega
       have HW := Lib.hid hown5
       have HR := Lib.hid hgrow5
       clear hown5 hgrow5 hat5 hgb))
  go_ret
  have e1 : S.ss.length + 1 = (S.ss ++ [zSl]).length := by simp
  have hown6 := HW.out
  rw [e1, show S.ss.flatMap Sl.cells ++ [.int .i64 0, .int .i64 0, .int .i64 0, .int .i64 0, .int .i64 0, .int .i64 0, .int .i64 0, .int .i64 0, .slice none 0 0, .int .i64 0, .int .i64 0] = (S.ss ++ [zSl]).flatMap Sl.cells by simp [zSl, Sl.cells, zK4, zMs, zBq]] at hown6
  rw [e1]
  have hlt : ∀ i ∈ l, i < S.ss.length := fun i hi => O.out.lt (by simp [hi])
  have hk2 : keysE (S.ss ++ [zSl]) l = keysE S.ss l := keysE_push hlt
  exact ⟨S.ss.length, _, _, [], rfl, H.out.setSlots hown6 HR.out, ok_push O.out hsm, hk2, (K.out.grown HR.out HF.out).set (p := ⟨g, 0, none⟩) H.out.base.1 HG.out _⟩
theorem empty_any (h : Lr w g B Y S fr (keysE S.ss l) held budget) (ok : Ok S l fr [] L) (hsm : L.length ≤ 262144) :
    Calls Try.prog 28 #[.pointer (some ⟨g, 0, none⟩)] w (EmpR w g B (keysE S.ss l) held budget l L) := by
  rcases List.eq_nil_or_concat fr with rfl | ⟨f, i, rfl⟩
  · exact empty_new h ok (by have h1 := ok.len; have h2 := ok.lenL; simp at h1; omega)
  · rw [List.concat_eq_append] at *
    exact empty_free h ok
end
end Go.Proofs.Ytakgeeopfclmoaa
