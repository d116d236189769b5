/-
  Layer 25: a mask's own copy; a look-up.
-/
import Derived.Test.YtakgeeopfclmoaaLrK
import Derived.Test.YtakgeeopfclmoaaSlice
import Derived.Test.YtakgeeopfclmoaaLs
import Derived.Lib.SliceRun
namespace Go.Proofs.Ytakgeeopfclmoaa
open Go.RowKit Go.Maps

@[go_sem] theorem eqlC_nil' (A : Option Addr) (l c : Nat) (w : World) : (binOp .eql 33 (.slice A l c) (.slice none 0 0)).run Try.prog w = .ok (.bool A.isNone) w := Lib.run_eql_slice_nil w _ _ A l c 0 0 Try.underlying33

/-- The same bytes, new. -/
def CloneR (w : World) (bs : List UInt8) (e : Ending) (w' : World) : Prop := ∃ A c, e = .returned (.slice A bs.length c) ∧ Bu w' A bs c ∧ Below w.heap.size w w' ∧ ∀ b, rowOf A = some b → w.heap.size ≤ b
theorem Bu.set {w : World} {A : Option Addr} {bs : List UInt8} {c : Nat} (h : Bu w A bs c) {p : Addr} (hne : rowOf A ≠ some p.block) (v : Value) : Bu (w.setCell p v) A bs c := by
  have same : ∀ b, rowOf A = some b → (w.setCell p v).heap[b]? = w.heap[b]? := fun b e => Below.heap_setCell w p v b fun e2 => hne (by rw [e, e2])
  refine ⟨⟨⟨h.bs.sl.1, fun i hi => ?_⟩, h.bs.cap, h.bs.small, fun b e => by simpa [World.setCell] using h.bs.row b e⟩, fun b e => by rw [same b e]; exact h.typed b e⟩
  obtain ⟨b, o, rfl, hlt, hc⟩ := h.bs.sl.2 i hi
  exact ⟨b, o, rfl, by simpa [World.setCell] using hlt, by rw [World.cell?_of_block (w := w) (same b rfl)]; exact hc⟩
set_option maxRecDepth 20000 in
set_option maxHeartbeats 1000000 in
theorem clone_bs (w : World) (A : Option Addr) (c : Nat) (bs : List UInt8) (h : Bw w A bs c) : Calls Try.prog 43 #[.slice A bs.length c] w (CloneR w bs) := by
  cases A with
  | none =>
    have h0 : bs = [] := by
      rcases Nat.eq_zero_or_pos bs.length with e | e
      · exact List.eq_nil_of_length_eq_zero e
      · obtain ⟨b, o, hb, _⟩ := h.sl.2 0 e
        cases hb
    subst h0
    clear h
    go_enter Try.func43, Try.ntmps43
    go_wp2_with fail
    go_ret
    exact ⟨none, 0, rfl, bu_nil _, Below.refl _ _, fun b e => by cases e⟩
  | some a =>
    obtain ⟨i0, hi0, hz0, hz1, hz2⟩ := info_parts u8_info
    have hn := h.small
    have HS := Lib.hid h.sl
    clear h
    go_enter Try.func43, Try.ntmps43
    have HR := Lib.hid ((HS.out.keep (w' := w.alloc (.cells #[] 5)) (bel_alloc bel_refl).below).reads)
    go_wp2_with (at_builtin; refine wpList_append_any _ (by rfl) (.tmp 5) (.tmp 6) _ (by rfl) w.heap.size 5 i0 _ 1 1 Try.underlying33 hi0 hz0 hz1 hz2 rfl (by omega) _ 0 [] (by rfl) (own_empty w _) _ _ _ _ _ (by rfl) HR.out (bytes_one _) (by unfold maxLen; omega) (by omega) (by simp) ?_; intro v' w' hown hgrow hat)
    obtain ⟨A', c', rfl, hs, hge, hcap⟩ := of_ownC hown
    go_ret
    rw [Nat.zero_add] at *
    rw [List.nil_append] at hown
    refine ⟨A', c', rfl, ⟨⟨hs, hcap, hn, fun k hk => (own_lt hown k (by rw [ownBlock_slice]; exact hk)).2⟩, fun k hk => ?_⟩, (bel_alloc bel_refl).below.trans ⟨hgrow.os, hgrow.tape, hgrow.output, hgrow.size, fun k hk => hgrow.block k (by simp; omega) (by simp [Value.ownBlock]; omega)⟩, fun k hk => (own_lt hown k (by rw [ownBlock_slice]; exact hk)).1⟩
    obtain ⟨cs, hc⟩ := own_typed' hown k (by rw [ownBlock_slice]; exact hk)
    exact ⟨cs, _, hc⟩

def mv (m : Ms) (A : Option Addr) (c : Nat) : Value := .agg #[.int .i64 m.box.a, .int .i64 m.box.b, .int .i64 m.box.c, .int .i64 m.box.d, .slice A m.bs.length c]
def CloneM (w : World) (m : Ms) (e : Ending) (w' : World) : Prop := ∃ A c, e = .returned (.agg #[.int .i64 m.box.a, .int .i64 m.box.b, .int .i64 m.box.c, .int .i64 m.box.d, .slice A m.bs.length c]) ∧ Bu w' A m.bs c ∧ Below w.heap.size w w' ∧ ∀ b, rowOf A = some b → w.heap.size ≤ b
set_option maxRecDepth 20000 in
set_option maxHeartbeats 1000000 in
theorem clone_any (w : World) (m : Ms) (A : Option Addr) (c : Nat) (h : Bw w A m.bs c) : Calls Try.prog 29 #[.agg #[.int .i64 m.box.a, .int .i64 m.box.b, .int .i64 m.box.c, .int .i64 m.box.d, .slice A m.bs.length c]] w (CloneM w m) := by
  have H := fun w' (hb : Below w.heap.size w w') => clone_bs w' A c m.bs (h.keep hb)
  have HH := Lib.hid H
  clear H h
  go_enter Try.func29, Try.ntmps29
  go_wp2_with fail
  go_region_with (first
    | (go_at_call 43; (with_reducible refine (HH.out _ ?_).mono ?_); (focus (refine Bel.below ?_; (repeat (first | with_reducible exact bel_refl | with_reducible apply bel_alloc | with_reducible apply bel_drewN | with_reducible apply bel_drew | (with_reducible refine bel_set ?_ ?_; rotate_left; · first | (simp; done) | (simp; omega) | omega) | with_reducible refine bel_call (by assumption) ?_)))); rintro e w1 ⟨A', c', rfl, hb1, hw1, hr1⟩; obtain ⟨hc1, hf1, hz1⟩ := bcell hw1; (try simp at hz1); have HB := Lib.hid hb1; have HW := Lib.hid hw1; (try simp at hr1); have HR := Lib.hid hr1; clear hb1 hw1 hr1))
  all_goals
    go_wp2_with fail
    refine bodyPost_ret (v := mv m A' c') (by simp [results, Try.results29, go_sem, mv, *]) rfl ⟨A', c', rfl, ?_, ?_, fun b e => by have := HR.out _ e; omega⟩
    · have hne : rowOf A' ≠ some (w.heap.size + 1) := fun e => by have := HR.out _ e; omega
      exact ((((HB.out.set (p := ⟨_, 0, none⟩) hne _).set (p := ⟨_, 1, none⟩) hne _).set (p := ⟨_, 2, none⟩) hne _).set (p := ⟨_, 3, none⟩) hne _).set (p := ⟨_, 4, none⟩) hne _
    · have hw1 := HW.out
      refine Bel.below ?_
      repeat (first | with_reducible exact bel_refl | with_reducible apply bel_alloc | with_reducible apply bel_drewN | with_reducible apply bel_drew | (with_reducible refine bel_set ?_ ?_; rotate_left; · first | (simp; done) | (simp; omega) | omega) | with_reducible refine bel_call (by assumption) ?_)

/-- A mask is stored into block b. -/
def maskW (w : World) (b : Nat) (m : Ms) (A : Option Addr) (c : Nat) : World := ((((w.setCell ⟨b, 0, none⟩ (.int .i64 m.box.a)).setCell ⟨b, 1, none⟩ (.int .i64 m.box.b)).setCell ⟨b, 2, none⟩ (.int .i64 m.box.c)).setCell ⟨b, 3, none⟩ (.int .i64 m.box.d)).setCell ⟨b, 4, none⟩ (.slice A m.bs.length c)
theorem maskW_heap (w : World) (b : Nat) (m : Ms) (A : Option Addr) (c k : Nat) (hk : k ≠ b) : (maskW w b m A c).heap[k]? = w.heap[k]? := by
  unfold maskW
  rw [Below.heap_setCell _ ⟨b, 4, none⟩ _ k hk, Below.heap_setCell _ ⟨b, 3, none⟩ _ k hk, Below.heap_setCell _ ⟨b, 2, none⟩ _ k hk, Below.heap_setCell _ ⟨b, 1, none⟩ _ k hk, Below.heap_setCell _ ⟨b, 0, none⟩ _ k hk]
theorem maskW_size (w : World) (b : Nat) (m : Ms) (A : Option Addr) (c : Nat) : (maskW w b m A c).heap.size = w.heap.size := by simp [maskW, World.setCell]
theorem Bu.maskW {w : World} {A : Option Addr} {bs : List UInt8} {c : Nat} (h : Bu w A bs c) {b : Nat} (hne : rowOf A ≠ some b) (m : Ms) (A' : Option Addr) (c' : Nat) : Bu (Proofs.Ytakgeeopfclmoaa.maskW w b m A' c') A bs c :=
  ((((h.set (p := ⟨b, 0, none⟩) hne _).set (p := ⟨b, 1, none⟩) hne _).set (p := ⟨b, 2, none⟩) hne _).set (p := ⟨b, 3, none⟩) hne _).set (p := ⟨b, 4, none⟩) hne _
theorem KeepT.maskW {B : Nat} {w w' : World} (h : KeepT B w w') {b : Nat} (hb : w.heap.size ≤ b) (m : Ms) (A : Option Addr) (c : Nat) : KeepT B w (Proofs.Ytakgeeopfclmoaa.maskW w' b m A c) := by
  have hB : B ≤ b := Nat.le_trans h.le hb
  exact ((((h.set (p := ⟨b, 0, none⟩) hB (hot_new hb) _).set (p := ⟨b, 1, none⟩) hB (hot_new hb) _).set (p := ⟨b, 2, none⟩) hB (hot_new hb) _).set (p := ⟨b, 3, none⟩) hB (hot_new hb) _).set (p := ⟨b, 4, none⟩) hB (hot_new hb) _
theorem Lr.maskW {w : World} {B : Bz} {g : Nat} {Y : Lay} {S : Lk} {fr : List Nat} {E : List (K4 × Nat)} {held budget : Int} (h : Lr w g B Y S fr E held budget) {b : Nat} {cs : List Value} (hb : Blk w b 35 cs) (m : Ms) (A : Option Addr) (c : Nat) :
    Lr (Proofs.Ytakgeeopfclmoaa.maskW w b m A c) g B Y S fr E held budget :=
  h.stay (Nat.le_of_eq (maskW_size _ _ _ _ _).symm) fun k o ho hh => maskW_heap _ _ _ _ _ _ fun e => by
    subst e
    unfold Blk at hb
    rw [hb] at ho
    injection ho with ho
    subst ho
    rcases hh with hh | ⟨cs', f, e⟩
    · simp only [hotO] at hh
      revert hh
      decide
    · injection e with _ e _
      revert e
      decide
theorem KeepT.blk {B : Nat} {w w' : World} (h : KeepT B w w') {b : Nat} {t : TypeId} {cs : List Value} (hb : Blk w b t cs) (ht : ¬ (t = 67 ∨ t = 71 ∨ t = 3)) : Blk w' b t cs :=
  (h.block b (.inr (by unfold hot; unfold Blk at hb; rw [hb]; exact ht))).trans hb
section
variable {B : Bz} {g : Nat} {w : World} {Y : Lay} {S : Lk} {fr : List Nat} {E : List (K4 × Nat)} {held budget : Int}
theorem zeroInt (w : World) : (zeroValue 3).run Try.prog w = .ok (.int .i64 0) w := by kernel_rfl
theorem look_yes (h : Lr w g B Y S fr E held budget) {k : K4} {i : Nat} (hm : (k, i) ∈ E) :
    (Instr.lookup 63 (.map (some Y.mb)) (kv k) true).run Try.prog w = .ok (.tuple #[.int .i64 i, .bool true]) w := by
  obtain ⟨v, ps, hrun, hv⟩ := h.map.look_ok key_law Try.underlying63 (zeroInt w) (plainElem_int Try.underlying3 (by decide)) (keyOf_kv k (h.mok.wf _ hm))
  obtain ⟨h1, h2⟩ := mapD_has h.mok hm
  rw [h1] at hrun
  rw [h2] at hv
  obtain ⟨c, rfl, hc, _⟩ := plainElem_int_inv Try.underlying3 hv
  simp only [Prod.mk.injEq, DataW.lit.injEq, Lit.int.injEq, true_and] at hc
  rw [hrun, ← hc.1]
theorem look_no (h : Lr w g B Y S fr E held budget) {k : K4} (hk : k.wf) (hm : k ∉ E.map (·.1)) :
    (Instr.lookup 63 (.map (some Y.mb)) (kv k) true).run Try.prog w = .ok (.tuple #[.int .i64 0, .bool false]) w := by
  obtain ⟨v, ps, hrun, hv⟩ := h.map.look_ok key_law Try.underlying63 (zeroInt w) (plainElem_int Try.underlying3 (by decide)) (keyOf_kv k hk)
  have h1 := mapD_not h.mok hk hm
  rw [h1] at hrun
  rw [atKey_of_not_has h1] at hv
  obtain ⟨c, rfl, hc, _⟩ := plainElem_int_inv Try.underlying3 hv
  simp only [Prod.mk.injEq, DataW.lit.injEq, Lit.int.injEq, true_and] at hc
  rw [hrun, ← hc.1]
theorem keysE_fst (ss : List Sl) (l : List Nat) : (keysE ss l).map (·.1) = (ents ss l).map (·.1) := by simp [keysE, ents]
end
/-- Where a key stands. -/
theorem ok_find {S : Lk} {l fr pend : List Nat} {L : List En} (ok : Ok S l fr pend L) {k : K4} (hk : k ∈ L.map (·.1)) :
    ∃ xs ys i s, l = xs ++ i :: ys ∧ S.ss[i]? = some s ∧ s.k = k ∧ L = ents S.ss xs ++ (s.k, s.m) :: ents S.ss ys ∧ (k, i) ∈ keysE S.ss l ∧ k ∉ (ents S.ss xs).map (·.1) ∧ k ∉ (ents S.ss xs ++ ents S.ss ys).map (·.1) := by
  obtain ⟨e, he, rfl⟩ := List.mem_map.1 hk
  obtain ⟨n, hn⟩ := List.getElem?_of_mem he
  have hnl : n < l.length := by rw [← ok.lenL]; exact (List.getElem?_eq_some_iff.1 hn).1
  obtain ⟨xs, ys, i, s, h1, h2, h3, h4⟩ := ok.split hnl
  have hlen : (ents S.ss xs).length = n := by simp [ents, h2]
  have hek : e = (s.k, s.m) := by
    rw [h4, List.getElem?_append_right (by omega), hlen, Nat.sub_self] at hn
    simpa using hn.symm
  have hnd := ok.keys
  rw [h4, List.map_append, List.map_cons] at hnd
  have h5 := (List.nodup_cons.1 ((List.perm_middle).nodup_iff.1 hnd)).1
  refine ⟨xs, ys, i, s, h1, h3, by rw [hek], h4, ?_, fun hm => h5 ?_, fun hm => h5 ?_⟩
  · rw [h1, hek]; simp [keysE, entAt_some h3]
  · rw [hek] at hm; simp [hm]
  · rw [hek, List.map_append] at hm; exact hm
end Go.Proofs.Ytakgeeopfclmoaa
