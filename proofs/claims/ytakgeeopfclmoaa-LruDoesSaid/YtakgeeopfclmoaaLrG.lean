/-
  Layer 25: what a mask costs; a slot is emptied; an append to the free list.
-/
import Derived.Test.YtakgeeopfclmoaaLrF
namespace Go.Proofs.Ytakgeeopfclmoaa
open Go.RowKit Go.Maps

theorem cost_any (a b c d : Int) (A : Option Addr) (n k : Nat) (hn : n ≤ 140737488355328) (w : World) :
    Calls Try.prog 27 #[.agg #[.int .i64 a, .int .i64 b, .int .i64 c, .int .i64 d, .slice A n k]] w fun e w' => e = .returned (.int .i64 (64 + n)) ∧ Below w.heap.size w w' := by
  go_enter Try.func27, Try.ntmps27
  go_wp2
  go_ret
  refine ⟨ret_int rfl, Bel.below ?_⟩
  repeat (first | with_reducible exact bel_refl | with_reducible apply bel_alloc | with_reducible apply bel_drewN | with_reducible apply bel_drew | (with_reducible refine bel_set ?_ ?_; rotate_left; · first | (simp; done) | (simp; omega) | omega) | with_reducible refine bel_call (by assumption) ?_)

section
variable {B : Bz} {g : Nat} {w w' : World} {Y : Lay} {S : Lk} {fr : List Nat} {E : List (K4 × Nat)} {held budget : Int}
/-- A store into a slot: the slot's bytes may be others. -/
theorem Lr.setR (h : Lr w g B Y S fr E held budget) {sb : Nat} (hA : Y.A = some ⟨sb, 0, none⟩) {f : Sl → Sl} {i j : Nat} {v : Value} (hf : ∀ s : Sl, (f s).cells = s.cells.set j v) (hp : ∀ s : Sl, ((f s).A = s.A ∧ (f s).m.bs = s.m.bs ∧ (f s).c = s.c) ∨ Buf B w (f s).A (f s).m.bs (f s).c) (hj : j < 11) (hi : i < S.ss.length) :
    Lr (w.setCell ⟨sb, i * 11 + j, none⟩ v) g B Y { S with ss := S.ss.modify i f } fr E held budget := by
  obtain ⟨sb', e1, hB, hlt, hneg, _, _⟩ := h.slotA (by omega)
  rw [hA] at e1
  injection e1 with e1
  injection e1 with e1
  subst e1
  have hne : ∀ k, k ≠ sb → (w.setCell ⟨sb, i * 11 + j, none⟩ v).heap[k]? = w.heap[k]? := fun k hk => Below.heap_setCell w _ v k hk
  have ht0 : ∃ cs, w.heap[sb]? = some (.cells cs 71 (0, 0)) := own_typed' h.own sb (by rw [hA]; rfl)
  have hg : ∀ {cs : Array Value} {t : TypeId} {f : Nat × Nat} {k : Nat}, w.heap[k]? = some (.cells cs t f) → t ≠ 71 → k ≠ sb := fun {cs t f k} hk ht e => by
    subst e
    obtain ⟨cs', h6⟩ := ht0
    rw [h6] at hk
    injection hk with hk
    injection hk with _ hk _
    exact ht hk.symm
  have hlen : (S.ss.modify i f).length = S.ss.length := by simp
  refine ⟨?_, ?_, ?_, ?_, ?_, h.base, h.mok⟩
  · show Blk _ _ _ [.slice Y.A (S.ss.modify i f).length Y.c, _, _, _, _, _, _]
    rw [hlen]
    exact h.blk.far (Ne.symm hneg) _
  · show World.ownsRow _ _ _ _ (.slice Y.A (S.ss.modify i f).length Y.c) (S.ss.modify i f).length ((S.ss.modify i f).flatMap Sl.cells)
    rw [hlen, flat_set hf hj S.ss i hi]
    have h1 := h.own
    rw [hA] at h1 ⊢
    exact (h1.stored (i * 11 + j) v).1
  · intro s hs
    obtain ⟨q, hq⟩ := List.getElem?_of_mem hs
    have hs' : Buf B w s.A s.m.bs s.c := by
      have hq' : (S.ss.modify i f)[q]? = some s := hq
      rw [List.getElem?_modify] at hq'
      cases h0 : S.ss[q]? with
      | none => rw [h0] at hq'; simp at hq'
      | some s0 =>
        rw [h0] at hq'
        simp at hq'
        have hm := List.mem_of_getElem? h0
        by_cases e : i = q
        · simp [e] at hq'
          rw [← hq']
          rcases hp s0 with ⟨e1, e2, e3⟩ | hb
          · rw [e1, e2, e3]; exact h.rows s0 hm
          · exact hb
        · simp [e] at hq'
          rw [← hq']
          exact h.rows s0 hm
    exact hs'.stay (by simp [World.setCell]) fun b cs f e => hne b (hg e (by decide))
  · refine own_keep h.free fun k hk => hne k ?_
    obtain ⟨cs, hc⟩ := own_typed' h.free k hk
    exact hg hc (by decide)
  · obtain ⟨es, clock, h1, h2⟩ := h.map
    refine ⟨es, clock, (hne Y.mb fun e => ?_).trans h1, h2⟩
    obtain ⟨cs', h6⟩ := ht0
    rw [e, h6] at h1
    cases h1
end
def sg (v : Int) (s : Sl) : Sl := { s with k := { s.k with g := v } }
def sp (v : Int) (s : Sl) : Sl := { s with k := { s.k with p := v } }
def sx (v : Int) (s : Sl) : Sl := { s with k := { s.k with x := v } }
def sy (v : Int) (s : Sl) : Sl := { s with k := { s.k with y := v } }
def sba (v : Int) (s : Sl) : Sl := { s with m := { s.m with box := { s.m.box with a := v } } }
def sbb (v : Int) (s : Sl) : Sl := { s with m := { s.m with box := { s.m.box with b := v } } }
def sbc (v : Int) (s : Sl) : Sl := { s with m := { s.m with box := { s.m.box with c := v } } }
def sbd (v : Int) (s : Sl) : Sl := { s with m := { s.m with box := { s.m.box with d := v } } }
def sr (A : Option Addr) (bs : List UInt8) (c : Nat) (s : Sl) : Sl := { s with m := { s.m with bs := bs }, A := A, c := c }
theorem mod_mod (f h : Sl → Sl) (ss : List Sl) (i : Nat) : (ss.modify i f).modify i h = ss.modify i (fun s => h (f s)) := by
  apply List.ext_getElem?
  intro j
  rw [List.getElem?_modify, List.getElem?_modify, List.getElem?_modify]
  cases ss[j]? with
  | none => simp
  | some s => by_cases e : i = j <;> simp [e]
section
variable {B : Bz} {g : Nat} {w w' : World} {Y : Lay} {S : Lk} {fr : List Nat} {E : List (K4 × Nat)} {held budget : Int}
theorem bu_nil (w : World) : Bu w none [] 0 := ⟨⟨⟨rfl, fun k hk => by simp at hk⟩, Nat.le_refl _, Nat.zero_le _, fun b e => by cases e⟩, fun b e => by cases e⟩
def keyW (w : World) (sb i : Nat) (k : K4) : World := (((w.setCell ⟨sb, i * 11 + 0, none⟩ (.int .i64 k.g)).setCell ⟨sb, i * 11 + 1, none⟩ (.int .i64 k.p)).setCell ⟨sb, i * 11 + 2, none⟩ (.int .i64 k.x)).setCell ⟨sb, i * 11 + 3, none⟩ (.int .i64 k.y)
def boxW (w : World) (sb i : Nat) (b : Bq) : World := (((w.setCell ⟨sb, i * 11 + 4, none⟩ (.int .i64 b.a)).setCell ⟨sb, i * 11 + 5, none⟩ (.int .i64 b.b)).setCell ⟨sb, i * 11 + 6, none⟩ (.int .i64 b.c)).setCell ⟨sb, i * 11 + 7, none⟩ (.int .i64 b.d)
theorem Lr.setKey (h : Lr w g B Y S fr E held budget) {sb : Nat} (hA : Y.A = some ⟨sb, 0, none⟩) {i : Nat} (hi : i < S.ss.length) (k : K4) : Lr (keyW w sb i k) g B Y { S with ss := S.ss.modify i (fun s => { s with k := k }) } fr E held budget := by
  have h1 := h.setS hA (f := sg k.g) (i := i) (j := 0) (v := .int .i64 k.g) (fun _ => rfl) (fun _ => ⟨rfl, rfl, rfl⟩) (by omega) hi
  have h2 := h1.setS hA (f := sp k.p) (i := i) (j := 1) (v := .int .i64 k.p) (fun _ => rfl) (fun _ => ⟨rfl, rfl, rfl⟩) (by omega) (by simpa using hi)
  have h3 := h2.setS hA (f := sx k.x) (i := i) (j := 2) (v := .int .i64 k.x) (fun _ => rfl) (fun _ => ⟨rfl, rfl, rfl⟩) (by omega) (by simpa using hi)
  have h4 := h3.setS hA (f := sy k.y) (i := i) (j := 3) (v := .int .i64 k.y) (fun _ => rfl) (fun _ => ⟨rfl, rfl, rfl⟩) (by omega) (by simpa using hi)
  simp only [mod_mod] at h4
  exact h4
theorem Lr.setBox (h : Lr w g B Y S fr E held budget) {sb : Nat} (hA : Y.A = some ⟨sb, 0, none⟩) {i : Nat} (hi : i < S.ss.length) (b : Bq) : Lr (boxW w sb i b) g B Y { S with ss := S.ss.modify i (fun s => { s with m := { s.m with box := b } }) } fr E held budget := by
  have h1 := h.setR hA (f := sba b.a) (i := i) (j := 4) (v := .int .i64 b.a) (fun _ => rfl) (fun _ => .inl ⟨rfl, rfl, rfl⟩) (by omega) hi
  have h2 := h1.setR hA (f := sbb b.b) (i := i) (j := 5) (v := .int .i64 b.b) (fun _ => rfl) (fun _ => .inl ⟨rfl, rfl, rfl⟩) (by omega) (by simpa using hi)
  have h3 := h2.setR hA (f := sbc b.c) (i := i) (j := 6) (v := .int .i64 b.c) (fun _ => rfl) (fun _ => .inl ⟨rfl, rfl, rfl⟩) (by omega) (by simpa using hi)
  have h4 := h3.setR hA (f := sbd b.d) (i := i) (j := 7) (v := .int .i64 b.d) (fun _ => rfl) (fun _ => .inl ⟨rfl, rfl, rfl⟩) (by omega) (by simpa using hi)
  simp only [mod_mod] at h4
  exact h4
def wipeW (w : World) (sb i : Nat) : World := (((boxW (keyW w sb i zK4) sb i zBq).setCell ⟨sb, i * 11 + 8, none⟩ (.slice none 0 0)).setCell ⟨sb, i * 11 + 9, none⟩ (.int .i64 0)).setCell ⟨sb, i * 11 + 10, none⟩ (.int .i64 0)
theorem Lr.wipe (h : Lr w g B Y S fr E held budget) {sb : Nat} (hA : Y.A = some ⟨sb, 0, none⟩) {i : Nat} (hi : i < S.ss.length) : Lr (wipeW w sb i) g B Y { S with ss := S.ss.modify i (fun _ => zSl) } fr E held budget := by
  have h1 := (h.setKey hA hi zK4).setBox hA (i := i) (by simpa using hi) zBq
  have h2 := h1.setR hA (f := sr none [] 0) (i := i) (j := 8) (v := .slice none 0 0) (fun _ => rfl) (fun _ => .inr ⟨bu_nil _, fun _ e => by cases e⟩) (by omega) (by simpa using hi)
  have h3 := h2.setS hA (f := setA 0) (i := i) (j := 9) (v := .int .i64 0) (fun _ => rfl) (fun _ => ⟨rfl, rfl, rfl⟩) (by omega) (by simpa using hi)
  have h4 := h3.setS hA (f := setN 0) (i := i) (j := 10) (v := .int .i64 0) (fun _ => rfl) (fun _ => ⟨rfl, rfl, rfl⟩) (by omega) (by simpa using hi)
  simp only [mod_mod] at h4
  exact h4
theorem KeepT.key (h : KeepT B w w') {sb : Nat} (hB : B ≤ sb) (hh : hot w sb) (i : Nat) (k : K4) : KeepT B w (keyW w' sb i k) := (((h.set (p := ⟨sb, _, none⟩) hB hh _).set (p := ⟨sb, _, none⟩) hB hh _).set (p := ⟨sb, _, none⟩) hB hh _).set (p := ⟨sb, _, none⟩) hB hh _
theorem KeepT.box (h : KeepT B w w') {sb : Nat} (hB : B ≤ sb) (hh : hot w sb) (i : Nat) (b : Bq) : KeepT B w (boxW w' sb i b) := (((h.set (p := ⟨sb, _, none⟩) hB hh _).set (p := ⟨sb, _, none⟩) hB hh _).set (p := ⟨sb, _, none⟩) hB hh _).set (p := ⟨sb, _, none⟩) hB hh _
theorem KeepT.wipe (h : KeepT B w w') {sb : Nat} (hB : B ≤ sb) (hh : hot w sb) (i : Nat) : KeepT B w (wipeW w' sb i) := ((((h.key hB hh i _).box hB hh i _).set (p := ⟨sb, _, none⟩) hB hh _).set (p := ⟨sb, _, none⟩) hB hh _).set (p := ⟨sb, _, none⟩) hB hh _
end
end Go.Proofs.Ytakgeeopfclmoaa
