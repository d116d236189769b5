/-
  Layer 25: a cache in memory: its block, its slots, its free list, its map; what a call may turn.
-/
import Derived.Test.YtakgeeopfclmoaaLrC
namespace Go.Proofs.Ytakgeeopfclmoaa
open Go.RowKit Go.Maps

/-- Blocks that a cache's calls may write: of a cache, of slots, of ints; maps. -/
def hotO (o : Obj) : Prop :=
  match o with
  | .cells _ t _ => t = 67 ∨ t = 71 ∨ t = 3
  | _ => True
def hot (w : World) (k : Nat) : Prop :=
  match w.heap[k]? with
  | some o => hotO o
  | none => True
/-- What a cache's call may turn: hot blocks from B on, and what is new. -/
structure KeepT (B : Nat) (w w' : World) : Prop where
  os : w'.os = w.os
  tape : w'.tape = w.tape
  output : w'.output = w.output
  size : w.heap.size ≤ w'.heap.size
  le : B ≤ w.heap.size
  block : ∀ k, k < B ∨ ¬ hot w k → w'.heap[k]? = w.heap[k]?
section
variable {B : Nat} {w w' w'' : World}
theorem hot_of {k : Nat} (h : w'.heap[k]? = w.heap[k]?) : hot w' k ↔ hot w k := by unfold hot; rw [h]
theorem KeepT.refl (h : B ≤ w.heap.size) : KeepT B w w := ⟨rfl, rfl, rfl, Nat.le_refl _, h, fun _ _ => rfl⟩
theorem KeepT.trans (h : KeepT B w w') (h' : KeepT B w' w'') : KeepT B w w'' :=
  ⟨h'.os.trans h.os, h'.tape.trans h.tape, h'.output.trans h.output, Nat.le_trans h.size h'.size, h.le, fun k hk =>
    (h'.block k (hk.imp id fun hn => fun hh => hn ((hot_of (h.block k (.inr hn))).1 hh))).trans (h.block k hk)⟩
theorem KeepT.old (_ : KeepT B w w') {k : Nat} (hB : B ≤ w.heap.size) (hk : k < B ∨ ¬ hot w k) : k < w.heap.size := by
  rcases Nat.lt_or_ge k w.heap.size with h' | h'
  · exact h'
  · rcases hk with hk | hk
    · omega
    · exact absurd (by unfold hot; rw [Array.getElem?_eq_none h']; trivial) hk
theorem KeepT.below (h : KeepT B w w') (hb : Below w'.heap.size w' w'') : KeepT B w w'' :=
  ⟨hb.os.trans h.os, hb.tape.trans h.tape, hb.output.trans h.output, Nat.le_trans h.size hb.size, h.le, fun k hk =>
    (hb.block k (Nat.lt_of_lt_of_le (h.old h.le hk) h.size)).trans (h.block k hk)⟩
theorem KeepT.alloc (h : KeepT B w w') (o : Obj) : KeepT B w (w'.alloc o) := h.below (bel_alloc bel_refl).below
theorem KeepT.drewN (h : KeepT B w w') (n : Nat) : KeepT B w (w'.drewN n) := h.below (bel_drewN bel_refl).below
theorem KeepT.drew (h : KeepT B w w') : KeepT B w w'.drew := h.below (bel_drew bel_refl).below
theorem KeepT.set (h : KeepT B w w') {p : Addr} (hp : B ≤ p.block) (hh : hot w p.block) (v : Value) : KeepT B w (w'.setCell p v) :=
  ⟨h.os, h.tape, h.output, by simpa [World.setCell] using h.size, h.le, fun k hk => by
    have e := h.block k hk
    have hne : k ≠ p.block := fun e2 => by
      subst e2
      rcases hk with hk | hk
      · omega
      · exact hk hh
    exact (Below.heap_setCell w' p v k hne).trans e⟩
theorem hot_new {k : Nat} (h : w.heap.size ≤ k) : hot w k := by unfold hot; rw [Array.getElem?_eq_none h]; trivial
theorem KeepT.grown {row : Option Nat} (h : KeepT B w w') (hg : w'.grownBy w'' row) (hr : ∀ k, row = some k → B ≤ k ∧ hot w k) : KeepT B w w'' :=
  ⟨hg.os.trans h.os, hg.tape.trans h.tape, hg.output.trans h.output, Nat.le_trans h.size hg.size, h.le, fun k hk => by
    have e := h.block k hk
    refine (hg.block k (Nat.lt_of_lt_of_le (h.old h.le hk) h.size) fun e2 => ?_).trans e
    obtain ⟨r1, r2⟩ := hr k e2.symm
    rcases hk with hk | hk
    · omega
    · exact hk r2⟩
theorem KeepT.toBelow (h : KeepT B w w') : Below B w w' := ⟨h.os, h.tape, h.output, h.size, fun k hk => h.block k (.inl hk)⟩
end
theorem hot_blk {w : World} {b : Nat} {t : TypeId} {cs : List Value} (h : Blk w b t cs) (ht : t = 67 ∨ t = 71 ∨ t = 3) : hot w b := by
  unfold hot; unfold Blk at h; rw [h]; exact ht
theorem hot_own {w : World} {base : Nat} {e : TypeId} {size : Nat} {v : Value} {n : Nat} {xs : List Value} (h : w.ownsRow base e size v n xs) (ht : e = 67 ∨ e = 71 ∨ e = 3) : ∀ k, v.ownBlock = some k → base ≤ k ∧ hot w k := by
  intro k hk
  refine ⟨(own_lt h k hk).1, ?_⟩
  obtain ⟨_, ⟨rfl, _⟩ | ⟨g, cap, cur, rfl, _, h4, _⟩⟩ := h
  · cases hk
  · simp only [Value.ownBlock, Option.some.injEq] at hk
    subst hk
    unfold hot; rw [h4]; exact ht
theorem hot_map {w : World} {R : Value → Option (DataW Unit × List MemPlace)} {P : Program} {k b n : Nat} {D : DataW Unit} (h : w.ownsMap P k R b n D) : hot w b := by
  obtain ⟨es, clock, hb, _⟩ := h
  unfold hot; rw [hb]; trivial

theorem own_typed' {w : World} {B : Nat} {e : TypeId} {v : Value} {n : Nat} {xs : List Value} {size : Nat} (h : w.ownsRow B e size v n xs) : ∀ b, v.ownBlock = some b → ∃ cs, w.heap[b]? = some (.cells cs e (0, 0)) := by
  intro b hb
  obtain ⟨_, ⟨rfl, _⟩ | ⟨g, cap, cur, rfl, _, h4, _⟩⟩ := h
  · cases hb
  · simp only [Value.ownBlock, Option.some.injEq] at hb
    subst hb
    exact ⟨cur, h4⟩

/-! ### The cache -/
def Sl.cells (s : Sl) : List Value :=
  [.int .i64 s.k.g, .int .i64 s.k.p, .int .i64 s.k.x, .int .i64 s.k.y, .int .i64 s.m.box.a, .int .i64 s.m.box.b, .int .i64 s.m.box.c, .int .i64 s.m.box.d, .slice s.A s.m.bs.length s.c, .int .i64 s.ahead, .int .i64 s.next]
/-- Bytes whose block, if there are any, is one of bytes. -/
structure Bu (w : World) (A : Option Addr) (bs : List UInt8) (c : Nat) : Prop where
  bs : Bs w A bs c
  typed : ∀ b, rowOf A = some b → ∃ cs f, w.heap[b]? = some (.cells cs 5 f)
theorem Bu.stay {w w' : World} {A : Option Addr} {bs : List UInt8} {c : Nat} (h : Bu w A bs c) (hs : w.heap.size ≤ w'.heap.size) (hb : ∀ (b : Nat) (cs : Array Value) (f : Nat × Nat), w.heap[b]? = some (Obj.cells cs 5 f) → w'.heap[b]? = w.heap[b]?) : Bu w' A bs c := by
  have same : ∀ b, rowOf A = some b → w'.heap[b]? = w.heap[b]? := fun b e => by
    obtain ⟨cs, f, h2⟩ := h.typed b e
    exact hb b cs f h2
  refine ⟨⟨⟨h.bs.sl.1, fun i hi => ?_⟩, h.bs.cap, h.bs.small, fun b e => Nat.lt_of_lt_of_le (h.bs.row b e) hs⟩, fun b e => by rw [same b e]; exact h.typed b e⟩
  obtain ⟨b, o, rfl, hlt, hc⟩ := h.bs.sl.2 i hi
  exact ⟨b, o, rfl, Nat.lt_of_lt_of_le hlt hs, by rw [World.cell?_of_block (w := w) (w' := w') (same b rfl)]; exact hc⟩

/-- Where a cache's blocks begin; blocks in which no mask of its lies. -/
structure Bz where
  base : Nat
  F : Nat → Prop
instance : Coe Bz Nat := ⟨Bz.base⟩
@[reducible] def bz (n : Nat) : Bz := ⟨n, fun _ => False⟩
structure Buf (B : Bz) (w : World) (A : Option Addr) (bs : List UInt8) (c : Nat) : Prop where
  bu : Bu w A bs c
  far : ∀ k, rowOf A = some k → ¬ B.F k
theorem Buf.stay {B : Bz} {w w' : World} {A : Option Addr} {bs : List UInt8} {c : Nat} (h : Buf B w A bs c) (hs : w.heap.size ≤ w'.heap.size) (hb : ∀ (b : Nat) (cs : Array Value) (f : Nat × Nat), w.heap[b]? = some (Obj.cells cs 5 f) → w'.heap[b]? = w.heap[b]?) : Buf B w' A bs c := ⟨h.bu.stay hs hb, h.far⟩
theorem Buf.bs {B : Bz} {w : World} {A : Option Addr} {bs : List UInt8} {c : Nat} (h : Buf B w A bs c) : Bs w A bs c := h.bu.bs
structure Lay where
  A : Option Addr
  c : Nat
  mb : Nat
  Af : Option Addr
  cf : Nat
/-- Block g is a cache. -/
structure Lr (w : World) (g : Nat) (B : Bz) (Y : Lay) (S : Lk) (fr : List Nat) (E : List (K4 × Nat)) (held budget : Int) : Prop where
  blk : Blk w g 67 [.slice Y.A S.ss.length Y.c, .map (some Y.mb), .int .i64 S.first, .int .i64 S.last, .slice Y.Af fr.length Y.cf, .int .i64 held, .int .i64 budget]
  own : w.ownsRow B 71 11 (.slice Y.A S.ss.length Y.c) S.ss.length (S.ss.flatMap Sl.cells)
  rows : ∀ s ∈ S.ss, Buf B w s.A s.m.bs s.c
  free : w.ownsRow B 3 1 (.slice Y.Af fr.length Y.cf) fr.length (fr.map fun i : Nat => Value.int .i64 (i : Int))
  map : w.ownsMap Try.prog 24 (plainElem Try.prog 3) Y.mb E.length (mapD E)
  base : B ≤ g ∧ B ≤ Y.mb
  mok : MapOk E
section
variable {B : Bz} {g : Nat} {w w' : World} {Y : Lay} {S : Lk} {fr : List Nat} {E : List (K4 × Nat)} {held budget : Int}
/-- A world in which all hot blocks and all blocks of bytes are as they were. -/
theorem Lr.stay (h : Lr w g B Y S fr E held budget) (hs : w.heap.size ≤ w'.heap.size) (hb : ∀ (k : Nat) (o : Obj), w.heap[k]? = some o → (hotO o ∨ ∃ cs f, o = Obj.cells cs 5 f) → w'.heap[k]? = w.heap[k]?) : Lr w' g B Y S fr E held budget := by
  refine ⟨(hb g _ h.blk (.inl (.inl rfl))).trans h.blk, own_keep h.own fun k hk => ?_, fun s hsm => (h.rows s hsm).stay hs fun b cs f e => hb b _ e (.inr ⟨cs, f, rfl⟩), own_keep h.free fun k hk => ?_, ?_, h.base, h.mok⟩
  · have h1 := (hot_own h.own (.inr (.inl rfl)) k hk).2
    obtain ⟨_, hl⟩ := own_lt h.own k hk
    unfold hot at h1
    rw [Array.getElem?_eq_getElem hl] at h1
    exact hb k _ (Array.getElem?_eq_getElem hl) (.inl h1)
  · have h1 := (hot_own h.free (.inr (.inr rfl)) k hk).2
    obtain ⟨_, hl⟩ := own_lt h.free k hk
    unfold hot at h1
    rw [Array.getElem?_eq_getElem hl] at h1
    exact hb k _ (Array.getElem?_eq_getElem hl) (.inl h1)
  · obtain ⟨es, clock, h1, h2⟩ := h.map
    exact ⟨es, clock, (hb Y.mb _ h1 (.inl trivial)).trans h1, h2⟩
theorem Lr.keep (h : Lr w g B Y S fr E held budget) (hb : Below w.heap.size w w') : Lr w' g B Y S fr E held budget :=
  h.stay hb.size fun k o ho _ => hb.block k (Array.getElem?_eq_some_iff.1 ho).1
theorem Lr.drewN (h : Lr w g B Y S fr E held budget) (n : Nat) : Lr (w.drewN n) g B Y S fr E held budget := h.keep (bel_drewN bel_refl).below
theorem Lr.alloc (h : Lr w g B Y S fr E held budget) (o : Obj) : Lr (w.alloc o) g B Y S fr E held budget := h.keep (bel_alloc bel_refl).below
theorem Lr.hotg (h : Lr w g B Y S fr E held budget) : hot w g := hot_blk h.blk (.inl rfl)
theorem Lr.slotA (h : Lr w g B Y S fr E held budget) (hn : 0 < S.ss.length) : ∃ sb, Y.A = some ⟨sb, 0, none⟩ ∧ B ≤ sb ∧ sb < w.heap.size ∧ sb ≠ g ∧ hot w sb ∧ S.ss.length ≤ Y.c := by
  have h0 := h.own
  obtain ⟨_, ⟨_, h2⟩ | ⟨sb, cap, cur, h2, h3, h4, h5, _⟩⟩ := h.own
  · omega
  · injection h2 with e1 _ e3
    refine ⟨sb, e1, h3, (Array.getElem?_eq_some_iff.1 h4).1, fun e => ?_, ?_, by omega⟩
    · subst e
      have h6 := h.blk
      unfold Blk at h6
      rw [h6] at h4
      injection h4 with h4
      injection h4 with _ h4 _
      revert h4
      decide
    · unfold hot; rw [h4]; exact .inr (.inl rfl)
end
theorem flat_cells {ss : List Sl} {i j : Nat} {s : Sl} (hs : ss[i]? = some s) (hj : j < 11) : (ss.flatMap Sl.cells)[i * 11 + j]? = s.cells[j]? := by
  rw [List.flatMap_def]
  exact flatten_at 11 (ss.map Sl.cells) i j s.cells (fun r hr => by obtain ⟨q, _, rfl⟩ := List.mem_map.1 hr; rfl) (by rw [List.getElem?_map, hs]; rfl) hj
theorem flat_set {f : Sl → Sl} {j : Nat} {v : Value} (hf : ∀ s : Sl, (f s).cells = s.cells.set j v) (hj : j < 11) : ∀ (ss : List Sl) (i : Nat), i < ss.length → (ss.modify i f).flatMap Sl.cells = (ss.flatMap Sl.cells).set (i * 11 + j) v
  | [], i, h => by simp at h
  | s :: ss, 0, _ => by
    rw [List.modify_zero_cons, List.flatMap_cons, List.flatMap_cons, hf, Nat.zero_mul, Nat.zero_add, List.set_append_left _ _ (by simp [Sl.cells]; omega)]
  | s :: ss, i + 1, h => by
    rw [List.modify_succ_cons, List.flatMap_cons, List.flatMap_cons, flat_set hf hj ss i (by simpa using h), List.set_append_right _ _ (by simp [Sl.cells]; omega)]
    congr 2
    simp [Sl.cells]; omega
section
variable {B : Bz} {g : Nat} {w w' : World} {Y : Lay} {S : Lk} {fr : List Nat} {E : List (K4 × Nat)} {held budget : Int}
/-- A cell of slot i, where the slots lie in block sb. -/
theorem Lr.cell (h : Lr w g B Y S fr E held budget) {sb : Nat} (hA : Y.A = some ⟨sb, 0, none⟩) {i j : Nat} {s : Sl} {v : Value} (hs : S.ss[i]? = some s) (hv : s.cells[j]? = some v) : w.cell? ⟨sb, i * 11 + j, none⟩ = some v := by
  have hj : j < 11 := (List.getElem?_eq_some_iff.1 hv).1
  have h1 := h.own.cells (g := sb) (by rw [hA]; rfl) (i * 11 + j) v ((flat_cells hs hj).trans hv)
  rw [show (⟨sb, 0, none⟩ : Addr).add (i * 11 + j) = ⟨sb, i * 11 + j, none⟩ by unfold Addr.add; split <;> simp [*]] at h1
  exact h1
theorem Lr.frz (h : Lr w g B Y S fr E held budget) {sb : Nat} (hA : Y.A = some ⟨sb, 0, none⟩) (o : Nat) : w.frozen? ⟨sb, o, none⟩ = false := by
  have h1 := h.own
  rw [hA] at h1
  exact h1.frozenAt o
/-- A store into the cache's own block. -/
theorem Lr.setG (h : Lr w g B Y S fr E held budget) (i : Nat) (v : Value) {S' : Lk} {held' budget' : Int} (hS : S'.ss = S.ss)
    (he : [Value.slice Y.A S'.ss.length Y.c, .map (some Y.mb), .int .i64 S'.first, .int .i64 S'.last, .slice Y.Af fr.length Y.cf, .int .i64 held', .int .i64 budget'] =
      [Value.slice Y.A S.ss.length Y.c, .map (some Y.mb), .int .i64 S.first, .int .i64 S.last, .slice Y.Af fr.length Y.cf, .int .i64 held, .int .i64 budget].set i v) :
    Lr (w.setCell ⟨g, i, none⟩ v) g B Y S' fr E held' budget' := by
  have hne : ∀ k, k ≠ g → (w.setCell ⟨g, i, none⟩ v).heap[k]? = w.heap[k]? := fun k hk => Below.heap_setCell w ⟨g, i, none⟩ v k hk
  have hg : ∀ {cs : Array Value} {t : TypeId} {f : Nat × Nat} {k : Nat}, w.heap[k]? = some (.cells cs t f) → t ≠ 67 → k ≠ g := fun {cs t f k} hk ht e => by
    subst e
    have h6 := h.blk
    unfold Blk at h6
    rw [h6] at hk
    injection hk with hk
    injection hk with _ hk _
    exact ht hk.symm
  refine ⟨?_, ?_, ?_, ?_, ?_, h.base, h.mok⟩
  · rw [he]; exact h.blk.set i v
  · rw [hS]
    refine own_keep h.own fun k hk => hne k ?_
    obtain ⟨cs, hc⟩ := own_typed' h.own k hk
    exact hg hc (by decide)
  · rw [hS]
    exact fun s hs => (h.rows s hs).stay (by simp [World.setCell]) fun b cs f e => hne b (hg e (by decide))
  · refine own_keep h.free fun k hk => hne k ?_
    obtain ⟨cs, hc⟩ := own_typed' h.free k hk
    exact hg hc (by decide)
  · obtain ⟨es, clock, h1, h2⟩ := h.map
    refine ⟨es, clock, (hne Y.mb fun e => ?_).trans h1, h2⟩
    have h6 := h.blk
    unfold Blk at h6
    rw [e, h6] at h1
    cases h1
/-- A store into a slot. -/
theorem Lr.setS (h : Lr w g B Y S fr E held budget) {sb : Nat} (hA : Y.A = some ⟨sb, 0, none⟩) {f : Sl → Sl} {i j : Nat} {v : Value} (hf : ∀ s : Sl, (f s).cells = s.cells.set j v) (hp : ∀ s : Sl, (f s).A = s.A ∧ (f s).m = s.m ∧ (f s).c = s.c) (hj : j < 11) (hi : i < S.ss.length) :
    Lr (w.setCell ⟨sb, i * 11 + j, none⟩ v) g B Y { S with ss := S.ss.modify i f } fr E held budget := by
  obtain ⟨sb', e1, hB, hlt, hneg, _, _⟩ := h.slotA (by omega)
  rw [hA] at e1
  injection e1 with e1
  injection e1 with e1
  subst e1
  have hne : ∀ k, k ≠ sb → (w.setCell ⟨sb, i * 11 + j, none⟩ v).heap[k]? = w.heap[k]? := fun k hk => Below.heap_setCell w _ v k hk
  have ht0 : ∃ cs, w.heap[sb]? = some (.cells cs 71 (0, 0)) := own_typed' h.own sb (by rw [hA]; rfl)
  have hg : ∀ {cs : Array Value} {t : TypeId} {f : Nat × Nat} {k : Nat}, w.heap[k]? = some (.cells cs t f) → t ≠ 71 → k ≠ sb := fun {cs t f k} hk ht e => by
    subst e
    obtain ⟨cs', h6⟩ := ht0
    rw [h6] at hk
    injection hk with hk
    injection hk with _ hk _
    exact ht hk.symm
  have hlen : (S.ss.modify i f).length = S.ss.length := by simp
  refine ⟨?_, ?_, ?_, ?_, ?_, h.base, h.mok⟩
  · show Blk _ _ _ [.slice Y.A (S.ss.modify i f).length Y.c, _, _, _, _, _, _]
    rw [hlen]
    exact h.blk.far (Ne.symm hneg) _
  · show World.ownsRow _ _ _ _ (.slice Y.A (S.ss.modify i f).length Y.c) (S.ss.modify i f).length ((S.ss.modify i f).flatMap Sl.cells)
    rw [hlen, flat_set hf hj S.ss i hi]
    have h1 := h.own
    rw [hA] at h1 ⊢
    exact (h1.stored (i * 11 + j) v).1
  · intro s hs
    obtain ⟨q, hq⟩ := List.getElem?_of_mem hs
    have hs' : ∃ s0 ∈ S.ss, s.A = s0.A ∧ s.m = s0.m ∧ s.c = s0.c := by
      have hq' : (S.ss.modify i f)[q]? = some s := hq
      rw [List.getElem?_modify] at hq'
      cases h0 : S.ss[q]? with
      | none => rw [h0] at hq'; simp at hq'
      | some s0 =>
        rw [h0] at hq'
        simp at hq'
        refine ⟨s0, List.mem_of_getElem? h0, ?_⟩
        by_cases e : i = q
        · simp [e] at hq'; rw [← hq']; exact hp s0
        · simp [e] at hq'; rw [← hq']; exact ⟨rfl, rfl, rfl⟩
    obtain ⟨s0, hm, e1, e2, e3⟩ := hs'
    rw [e1, e2, e3]
    exact (h.rows s0 hm).stay (by simp [World.setCell]) fun b cs f e => hne b (hg e (by decide))
  · refine own_keep h.free fun k hk => hne k ?_
    obtain ⟨cs, hc⟩ := own_typed' h.free k hk
    exact hg hc (by decide)
  · obtain ⟨es, clock, h1, h2⟩ := h.map
    refine ⟨es, clock, (hne Y.mb fun e => ?_).trans h1, h2⟩
    obtain ⟨cs', h6⟩ := ht0
    rw [e, h6] at h1
    cases h1
end
end Go.Proofs.Ytakgeeopfclmoaa
