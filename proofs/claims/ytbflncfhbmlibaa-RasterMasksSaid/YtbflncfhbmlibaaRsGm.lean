/-
  Layer 23: the region in which a round of flatten.Box appends a dot's numbers, whatever its order.
  Layer 23: a region that draws its order, in a round: shown by what holds between its operations.
  Layer 23: the walkers of closed lines.
  Layer 23, plainly: bounds of what pieces leave; the bytes of a mask from the pieces of its lines.
  Layer 23, plainly: the signed pieces of lines; what walkers have still to do; what pieces leave in a pixel.
  Layer 23: a pixel's byte, a row's bytes.
  Layer 23: the queue behind a walker's piece and behind a line; the cells of a row.
  Layer 23, plainly: the walkers of one row, taken one by one.
  Layer 23: a walker's next piece.
  Layer 23: heap.Init, Fix, Pop.
  Layer 23: heap.down.
  Layer 23: the queue's methods through its interface.
  Layer 23: the queue's Pop; heap.down.
  Layer 23: the queue's own methods.
  Layer 23: walkers and their queue in memory; what a queue's call may turn.
  Layer 23, plain: walkers in a heap: what running down keeps. No program in sight.
-/
import Derived.Test.YtbflncfhbmlibaaCoA
import Derived.Test.YtbflncfhbmlibaaRcGm
import Derived.Deep.QuietTactic
import Derived.BigQuiet
import Derived.Test.YtbflncfhbmlibaaSlice
import Derived.Deep.RegionLaw
import Derived.Test.YtbflncfhbmlibaaTailIn
import Derived.Great.Frames
namespace Go.Proofs.Ytbflncfhbmlibaa

/-- A walker: its block, its line, how far it has gone, whether it was turned. -/
structure Wk where
  g : Nat
  a : Dt
  d : Dt
  l : Dt
  tn : Bool
instance : Inhabited Wk := ⟨⟨0, (0, 0), (0, 0), (0, 0), false⟩⟩
def Wk.row (k : Wk) : Int := k.l.2 / 64
/-- The row in which the walker at a place goes on. -/
def kr (ws : List Wk) (i : Nat) : Int := ((ws[i]?).map Wk.row).getD 0
/-- Two change places. -/
def swp (ws : List Wk) (i j : Nat) : List Wk := (ws.set i (ws.getD j default)).set j (ws.getD i default)
theorem swp_len (ws : List Wk) (i j : Nat) : (swp ws i j).length = ws.length := by unfold swp; simp
theorem swp_at (ws : List Wk) {i j : Nat} (hi : i < ws.length) (hj : j < ws.length) (m : Nat) : (swp ws i j)[m]? = if m = j then ws[i]? else if m = i then ws[j]? else ws[m]? := by
  unfold swp
  rw [List.getElem?_set, List.length_set]
  by_cases h1 : m = j
  · subst h1
    rw [if_pos rfl, if_pos hj, if_pos rfl, List.getD_eq_getElem?_getD, List.getElem?_eq_getElem hi]
    rfl
  · rw [if_neg (fun e => h1 e.symm), if_neg h1, List.getElem?_set]
    by_cases h2 : m = i
    · subst h2
      rw [if_pos rfl, if_pos hi, if_pos rfl, List.getD_eq_getElem?_getD, List.getElem?_eq_getElem hj]
      rfl
    · rw [if_neg (fun e => h2 e.symm), if_neg h2]
theorem swp_kr (ws : List Wk) {i j : Nat} (hi : i < ws.length) (hj : j < ws.length) (m : Nat) : kr (swp ws i j) m = if m = j then kr ws i else if m = i then kr ws j else kr ws m := by
  unfold kr
  rw [swp_at ws hi hj]
  split
  · rfl
  · split <;> rfl
theorem set_perm {α : Type} {l : List α} {i : Nat} {x : α} (y : α) (h : l[i]? = some x) : (x :: l.set i y).Perm (y :: l) := by
  have hi := (List.getElem?_eq_some_iff.1 h).1
  obtain ⟨_, rfl⟩ := List.getElem?_eq_some_iff.1 h
  have e1 : l = l.take i ++ l[i] :: l.drop (i + 1) := by rw [← List.drop_eq_getElem_cons hi, List.take_append_drop]
  have e2 : l.set i y = l.take i ++ y :: l.drop (i + 1) := by rw [List.set_eq_take_append_cons_drop, if_pos hi]
  rw [e2]
  conv => rhs; rw [e1]
  have h1 : (l[i] :: (l.take i ++ y :: l.drop (i + 1))).Perm (l[i] :: y :: (l.take i ++ l.drop (i + 1))) := List.perm_middle.cons _
  have h2 : (y :: (l.take i ++ l[i] :: l.drop (i + 1))).Perm (y :: l[i] :: (l.take i ++ l.drop (i + 1))) := List.perm_middle.cons _
  exact h1.trans ((List.Perm.swap y l[i] _).trans h2.symm)
theorem swp_perm (ws : List Wk) {i j : Nat} (hi : i < ws.length) (hj : j < ws.length) : (swp ws i j).Perm ws := by
  have hgi : ws[i]? = some (ws.getD i default) := by rw [List.getD_eq_getElem?_getD, List.getElem?_eq_getElem hi]; rfl
  have hgj : ws[j]? = some (ws.getD j default) := by rw [List.getD_eq_getElem?_getD, List.getElem?_eq_getElem hj]; rfl
  unfold swp
  obtain ⟨x, hx⟩ : ∃ x, ws.getD i default = x := ⟨_, rfl⟩
  obtain ⟨y, hy⟩ : ∃ y, ws.getD j default = y := ⟨_, rfl⟩
  rw [hx] at hgi ⊢
  rw [hy] at hgj ⊢
  have h1 := set_perm y hgi
  by_cases hij : i = j
  · subst hij
    rw [hgi] at hgj
    injection hgj with hgj
    subst hgj
    have e : ws.set i x = ws := by
      obtain ⟨_, rfl⟩ := List.getElem?_eq_some_iff.1 hgi
      exact List.set_getElem_self _
    rw [e, e]
  · have h2 : (ws.set i y)[j]? = some y := by rw [List.getElem?_set_ne hij, hgj]
    have h3 := set_perm x h2
    exact (h3.trans h1).cons_inv
/-- Edges from k on are in order. -/
def HpK (ws : List Wk) (n k : Nat) : Prop := ∀ j, 0 < j → j < n → k ≤ (j - 1) / 2 → kr ws ((j - 1) / 2) ≤ kr ws j
/-- Running down from i0 has come to i. -/
structure DnI (ws0 ws : List Wk) (n i0 i : Nat) : Prop where
  perm : ws.Perm ws0
  rest : ∀ m, n ≤ m → ws[m]? = ws0[m]?
  ge : i0 ≤ i
  edge : ∀ j, 0 < j → j < n → i0 ≤ (j - 1) / 2 → (j - 1) / 2 ≠ i → kr ws ((j - 1) / 2) ≤ kr ws j
  over : ∀ j, 0 < j → j < n → (j - 1) / 2 = i → i0 < i → kr ws ((i - 1) / 2) ≤ kr ws j
theorem DnI.start {ws : List Wk} {n i0 : Nat} (h : HpK ws n (i0 + 1)) : DnI ws ws n i0 i0 :=
  ⟨List.Perm.refl _, fun _ _ => rfl, Nat.le_refl _, fun j h0 h1 h2 h3 => h j h0 h1 (by omega), fun j _ _ _ h => absurd h (by omega)⟩
theorem DnI.len {ws0 ws : List Wk} {n i0 i : Nat} (h : DnI ws0 ws n i0 i) : ws.length = ws0.length := h.perm.length_eq
/-- No child is less: done. -/
theorem DnI.stop {ws0 ws : List Wk} {n i0 i : Nat} (h : DnI ws0 ws n i0 i) (hs : ∀ j, 0 < j → j < n → (j - 1) / 2 = i → kr ws i ≤ kr ws j) : HpK ws n i0 := fun j h0 h1 h2 => by
  by_cases hi : (j - 1) / 2 = i
  · rw [hi]
    exact hs j h0 h1 hi
  · exact h.edge j h0 h1 h2 hi
/-- The lesser child goes up. -/
theorem DnI.step {ws0 ws : List Wk} {n i0 i j : Nat} (h : DnI ws0 ws n i0 i) (hn : n ≤ ws.length) (hj : j < n) (hc : (j - 1) / 2 = i) (h0 : 0 < j) (hl : kr ws j < kr ws i) (hm : ∀ m, 0 < m → m < n → (m - 1) / 2 = i → kr ws j ≤ kr ws m) : DnI ws0 (swp ws i j) n i0 j := by
  have hij : i < j := by omega
  have hi : i < ws.length := by omega
  have hjl : j < ws.length := by omega
  have hk := swp_kr ws hi hjl
  refine ⟨(swp_perm ws hi hjl).trans h.perm, fun m hm => ?_, by have := h.ge; omega, fun m m0 m1 m2 m3 => ?_, fun m m0 m1 m2 _ => ?_⟩
  · rw [swp_at ws hi hjl, if_neg (by omega), if_neg (by omega)]
    exact h.rest m hm
  · rw [hk, hk, if_neg m3]
    by_cases e1 : (m - 1) / 2 = i
    · rw [if_pos e1]
      by_cases e2 : m = j
      · rw [if_pos e2]
        omega
      · rw [if_neg e2, if_neg (by omega)]
        exact hm m m0 m1 e1
    · rw [if_neg e1]
      by_cases e2 : m = j
      · subst e2
        exact absurd hc e1
      · rw [if_neg e2]
        by_cases e3 : m = i
        · subst e3
          rw [if_pos rfl]
          exact h.over j h0 hj hc (by omega)
        · rw [if_neg e3]
          exact h.edge m m0 m1 m2 e1
  · have e1 : (j - 1) / 2 = i := hc
    rw [e1, hk, hk, if_neg (by omega), if_pos rfl, if_neg (by omega), if_neg (by omega)]
    have := h.edge m m0 m1 (by have := h.ge; omega) (by omega)
    rw [m2] at this
    exact this
/-- The head of a heap is least. -/
theorem HpK.least {ws : List Wk} {n : Nat} (h : HpK ws n 0) : ∀ j, j < n → kr ws 0 ≤ kr ws j := by
  intro j
  induction j using Nat.strongRecOn with
  | _ j ih =>
    intro hj
    rcases Nat.eq_zero_or_pos j with h0 | h0
    · subst h0; exact Int.le_refl _
    · exact Int.le_trans (ih ((j - 1) / 2) (by omega) (by omega)) (h j h0 hj (Nat.zero_le _))
theorem HpK.half (ws : List Wk) (n : Nat) : HpK ws n (n / 2) := fun j h0 h1 h2 => by omega
theorem HpK.mono {ws : List Wk} {n k k' : Nat} (h : HpK ws n k) (hk : k ≤ k') : HpK ws n k' := fun j h0 h1 h2 => h j h0 h1 (by omega)
theorem HpK.cut {ws : List Wk} {n m k : Nat} (h : HpK ws n k) (hm : m ≤ n) : HpK ws m k := fun j h0 h1 h2 => h j h0 (by omega) h2
/-- Edges hang on what lies from k on alone. -/
theorem HpK.same {ws ws' : List Wk} {n k : Nat} (h : HpK ws n k) (he : ∀ m, k ≤ m → m < n → kr ws' m = kr ws m) : HpK ws' n k := fun j h0 h1 h2 => by
  rw [he _ h2 (by omega), he j (by omega) h1]
  exact h j h0 h1 h2
end Go.Proofs.Ytbflncfhbmlibaa

namespace Go.Proofs.Ytbflncfhbmlibaa
open Go.RowKit Go.Shelf

/-- Blocks that a queue's calls may write: of a queue, of its row, of walkers. -/
def hotO (o : Obj) : Prop :=
  match o with
  | .cells _ t _ => t = 83 ∨ t = 84 ∨ t = 86
  | _ => True
def hot (w : World) (k : Nat) : Prop :=
  match w.heap[k]? with
  | some o => hotO o
  | none => True
/-- What a queue's call may turn: hot blocks from B on, and what is new. -/
structure KeepW (B : Nat) (w w' : World) : Prop where
  os : w'.os = w.os
  tape : w'.tape = w.tape
  output : w'.output = w.output
  size : w.heap.size ≤ w'.heap.size
  le : B ≤ w.heap.size
  block : ∀ k, k < B ∨ ¬ hot w k → w'.heap[k]? = w.heap[k]?
section
variable {B : Nat} {w w' w'' : World}
theorem hot_of {k : Nat} (h : w'.heap[k]? = w.heap[k]?) : hot w' k ↔ hot w k := by unfold hot; rw [h]
theorem KeepW.refl (h : B ≤ w.heap.size) : KeepW B w w := ⟨rfl, rfl, rfl, Nat.le_refl _, h, fun _ _ => rfl⟩
theorem KeepW.trans (h : KeepW B w w') (h' : KeepW B w' w'') : KeepW B w w'' :=
  ⟨h'.os.trans h.os, h'.tape.trans h.tape, h'.output.trans h.output, Nat.le_trans h.size h'.size, h.le, fun k hk =>
    (h'.block k (hk.imp id fun hn => fun hh => hn ((hot_of (h.block k (.inr hn))).1 hh))).trans (h.block k hk)⟩
theorem KeepW.old (h : KeepW B w w') {k : Nat} (hk : k < B ∨ ¬ hot w k) : k < w.heap.size := by
  rcases Nat.lt_or_ge k w.heap.size with h' | h'
  · exact h'
  · rcases hk with hk | hk
    · have := h.le
      omega
    · exact absurd (by unfold hot; rw [Array.getElem?_eq_none h']; trivial) hk
theorem KeepW.below (h : KeepW B w w') (hb : Below w'.heap.size w' w'') : KeepW B w w'' :=
  ⟨hb.os.trans h.os, hb.tape.trans h.tape, hb.output.trans h.output, Nat.le_trans h.size hb.size, h.le, fun k hk =>
    (hb.block k (Nat.lt_of_lt_of_le (h.old hk) h.size)).trans (h.block k hk)⟩
theorem KeepW.set (h : KeepW B w w') {p : Addr} (hp : B ≤ p.block) (hh : hot w p.block) (v : Value) : KeepW B w (w'.setCell p v) :=
  ⟨h.os, h.tape, h.output, by simpa [World.setCell] using h.size, h.le, fun k hk => by
    have e := h.block k hk
    have hne : k ≠ p.block := fun e2 => by
      subst e2
      rcases hk with hk | hk
      · omega
      · exact hk hh
    exact (Below.heap_setCell w' p v k hne).trans e⟩
theorem KeepW.toBelow (h : KeepW B w w') : Below B w w' := ⟨h.os, h.tape, h.output, h.size, fun k hk => h.block k (.inl hk)⟩
theorem KeepW.mono {B' : Nat} (h : KeepW B w w') (hb : B' ≤ B) : KeepW B' w w' := ⟨h.os, h.tape, h.output, h.size, Nat.le_trans hb h.le, fun k hk => h.block k (hk.imp (fun h => Nat.lt_of_lt_of_le h hb) id)⟩
end
theorem hot_blk {w : World} {b : Nat} {t : TypeId} {cs : List Value} (h : Blk w b t cs) (ht : t = 83 ∨ t = 84 ∨ t = 86) : hot w b := by
  unfold hot; unfold Blk at h; rw [h]; exact ht
theorem cool_blk {w : World} {b : Nat} {t : TypeId} {cs : List Value} (h : Blk w b t cs) (ht : ¬ (t = 83 ∨ t = 84 ∨ t = 86)) : ¬ hot w b := by
  unfold hot; unfold Blk at h; rw [h]; exact ht
theorem KeepW.blk {B : Nat} {w w' : World} (h : KeepW B w w') {b : Nat} {t : TypeId} {cs : List Value} (hb : Blk w b t cs) (ht : ¬ (t = 83 ∨ t = 84 ∨ t = 86)) : Blk w' b t cs := (h.block b (.inr (cool_blk hb ht))).trans hb

/-! ### The queue -/
def wkC (k : Wk) : List Value := [.int .i64 k.a.1, .int .i64 k.a.2, .int .i64 k.d.1, .int .i64 k.d.2, .int .i64 k.l.1, .int .i64 k.l.2, .bool k.tn]
def ptrV (g : Nat) : Value := .pointer (some ⟨g, 0, none⟩)
def qRow (ws : List Wk) : List Value := ws.map fun k => ptrV k.g
/-- Numbers of a walker that may be; it is on its way. -/
structure WkOk (k : Wk) : Prop where
  fa : dotB k.a = true
  fd : dotB k.d = true
  way : onWay k.a k.d k.l
  go : k.l.2 < k.d.2
/-- A queue in memory. -/
structure Qm (w : World) (B gq gs c : Nat) (ws : List Wk) : Prop where
  hd : Blk w gq 83 [.slice (some ⟨gs, 0, none⟩) ws.length c]
  row : ∃ ex, Blk w gs 84 (qRow ws ++ ex)
  wk : ∀ k ∈ ws, Blk w k.g 86 (wkC k)
  nd : (ws.map Wk.g).Nodup
  cap : ws.length ≤ c
  big : ws.length ≤ 70000
  bq : B ≤ gq
  bs : B ≤ gs
  bw : ∀ k ∈ ws, B ≤ k.g
section
variable {w w' : World} {B gq gs c : Nat} {ws : List Wk}
theorem Qm.keep (h : Qm w B gq gs c ws) (hb : Below w.heap.size w w') : Qm w' B gq gs c ws :=
  ⟨h.hd.keepB hb, let ⟨ex, h1⟩ := h.row; ⟨ex, h1.keepB hb⟩, fun k hk => (h.wk k hk).keepB hb, h.nd, h.cap, h.big, h.bq, h.bs, h.bw⟩
theorem Qm.cell (h : Qm w B gq gs c ws) {i : Nat} {k : Wk} (hk : ws[i]? = some k) : w.cell? ⟨gs, i, none⟩ = some (ptrV k.g) := by
  obtain ⟨ex, h1⟩ := h.row
  rw [h1.cell, List.getElem?_append_left (by unfold qRow; rw [List.length_map]; exact (List.getElem?_eq_some_iff.1 hk).1)]
  unfold qRow
  rw [List.getElem?_map, hk]
  rfl
theorem Qm.frozen (h : Qm w B gq gs c ws) (i : Nat) : w.frozen? ⟨gs, i, none⟩ = false := let ⟨_, h1⟩ := h.row; h1.frozen i
theorem Qm.lt (h : Qm w B gq gs c ws) : gs < w.heap.size := let ⟨_, h1⟩ := h.row; h1.lt
theorem Qm.walker (h : Qm w B gq gs c ws) {i : Nat} {k : Wk} (hk : ws[i]? = some k) : Blk w k.g 86 (wkC k) := h.wk k (List.mem_of_getElem? hk)
theorem qRow_swp (ws : List Wk) {i j : Nat} {x y : Wk} (hi : ws[i]? = some x) (hj : ws[j]? = some y) (ex : List Value) : ((qRow ws ++ ex).set i (ptrV y.g)).set j (ptrV x.g) = qRow (swp ws i j) ++ ex := by
  have il := (List.getElem?_eq_some_iff.1 hi).1
  have jl := (List.getElem?_eq_some_iff.1 hj).1
  have hl : (qRow ws).length = ws.length := by unfold qRow; rw [List.length_map]
  rw [List.set_append_left _ _ (by omega), List.set_append_left _ _ (by rw [List.length_set]; omega)]
  unfold swp qRow
  rw [List.getD_eq_getElem?_getD, List.getD_eq_getElem?_getD, hi, hj, List.map_set, List.map_set]
  rfl
/-- Two change places. -/
theorem Qm.swap (h : Qm w B gq gs c ws) {i j : Nat} {x y : Wk} (hi : ws[i]? = some x) (hj : ws[j]? = some y) : Qm ((w.setCell ⟨gs, i, none⟩ (ptrV y.g)).setCell ⟨gs, j, none⟩ (ptrV x.g)) B gq gs c (swp ws i j) := by
  obtain ⟨ex, h1⟩ := h.row
  have hp := swp_perm ws (List.getElem?_eq_some_iff.1 hi).1 (List.getElem?_eq_some_iff.1 hj).1
  have n1 : gq ≠ gs := blk_ne_type h.hd h1 (by decide)
  refine ⟨?_, ⟨ex, ?_⟩, fun k hk => ?_, ?_, ?_, ?_, h.bq, h.bs, fun k hk => h.bw k (hp.mem_iff.1 hk)⟩
  · rw [swp_len]
    exact (h.hd.far n1 _).far n1 _
  · rw [← qRow_swp ws hi hj ex]
    exact (h1.set _ _).set _ _
  · have hb := h.wk k (hp.mem_iff.1 hk)
    have n2 : k.g ≠ gs := blk_ne_type hb h1 (by decide)
    exact (hb.far n2 _).far n2 _
  · exact (hp.map Wk.g).nodup_iff.2 h.nd
  · rw [swp_len]; exact h.cap
  · rw [swp_len]; exact h.big
end
section
variable {w : World}
set_option maxHeartbeats 1000000 in
/-- The row in which a walker goes on. -/
theorem wrow_any {k : Wk} (h : Blk w k.g 86 (wkC k)) : Calls Try.prog 57 #[ptrV k.g] w fun e w' => e = .returned (.int .i64 k.row) ∧ w = w' := by
  obtain ⟨g, a, d, ⟨l1, l2⟩, tn⟩ := k
  have c5 : w.cell? ⟨g, 5, none⟩ = some (.int .i64 l2) := h.cell 5
  have hl := h.lt
  clear h
  unfold ptrV Wk.row
  dsimp only
  go_enter Try.func57, Try.ntmps57
  go_wp2_with (first
    | (go_at_call 51; (with_reducible refine (Floor26_any _ _).mono ?_); rintro e w1 ⟨rfl, rfl⟩)
    | fail)
  go_ret
  exact ⟨rfl, rfl⟩
end
end Go.Proofs.Ytbflncfhbmlibaa

namespace Go.Proofs.Ytbflncfhbmlibaa
open Go.RowKit Go.Shelf

section
variable {w : World} {B gq gs c n : Nat} {ws : List Wk}
set_option maxHeartbeats 1000000 in
theorem qlen_any (A : Option Addr) (n c : Nat) (w : World) : Calls Try.prog 56 #[.slice A n c] w fun e w' => e = .returned (.int .i64 n) ∧ w = w' := by
  go_enter Try.func56, Try.ntmps56
  go_wp2_with fail
  go_ret
  exact ⟨rfl, rfl⟩
set_option maxHeartbeats 2000000 in
theorem qless_any (h : Qm w B gq gs c ws) (hn : ws.length = n) {i j : Nat} (hi : i < n) (hj : j < n) : Calls Try.prog 122 #[.slice (some ⟨gs, 0, none⟩) n c, .int .i64 i, .int .i64 j] w fun e w' => e = .returned (.bool (decide (kr ws i < kr ws j))) ∧ ∃ q, w' = w.drewN q := by
  obtain ⟨x, hx⟩ := get_some (l := ws) (k := i) (by omega)
  obtain ⟨y, hy⟩ := get_some (l := ws) (k := j) (by omega)
  have c0 := h.cell hx
  have c1 := h.cell hy
  have hl := h.lt
  have e0 : kr ws i = x.row := by unfold kr; rw [hx]; rfl
  have e1 : kr ws j = y.row := by unfold kr; rw [hy]; rfl
  have HX := Lib.hid fun (q : Nat) => wrow_any ((h.walker hx).drewN q)
  have HY := Lib.hid fun (q : Nat) => wrow_any ((h.walker hy).drewN q)
  have hb := h.big
  rw [e0, e1]
  obtain ⟨r1, hr1⟩ : ∃ r1, x.row = r1 := ⟨_, rfl⟩
  obtain ⟨r2, hr2⟩ : ∃ r2, y.row = r2 := ⟨_, rfl⟩
  rw [hr1] at HX ⊢
  rw [hr2] at HY ⊢
  unfold ptrV at c0 c1 HX HY
  clear h hx hy e0 e1 hn
  have d1 : (i : Int) < n := by omega
  have d2 : (j : Int) < n := by omega
  go_enter Try.func122, Try.ntmps122
  go_wp2_with fail
  go_quiet (first
    | (go_at_call 57; with_reducible exact Calls.q_left (HX.out _))
    | (go_at_call 57; with_reducible exact Calls.q_left (HY.out _)))
  go_wp2_with fail
  go_ret
  exact ⟨rfl, _, rfl⟩
set_option maxHeartbeats 2000000 in
theorem qswap_any (h : Qm w B gq gs c ws) (hn : ws.length = n) {i j : Nat} (hi : i < n) (hj : j < n) : Calls Try.prog 124 #[.slice (some ⟨gs, 0, none⟩) n c, .int .i64 i, .int .i64 j] w fun e w' => e = .returned (.tuple #[]) ∧ Qm w' B gq gs c (swp ws i j) ∧ KeepW B w w' := by
  obtain ⟨x, hx⟩ := get_some (l := ws) (k := i) (by omega)
  obtain ⟨y, hy⟩ := get_some (l := ws) (k := j) (by omega)
  have c0 := h.cell hx
  have c1 := h.cell hy
  have f0 := h.frozen i
  have f1 := h.frozen j
  have hl := h.lt
  have HS := Lib.hid (h.swap hx hy)
  have hot1 : hot w gs := by obtain ⟨ex, h1⟩ := h.row; exact hot_blk h1 (.inr (.inl rfl))
  have HK := Lib.hid fun u v => ((KeepW.refl (B := B) (w := w) (by have := h.bs; omega)).set (p := ⟨gs, i, none⟩) h.bs hot1 u).set (p := ⟨gs, j, none⟩) h.bs hot1 v
  have hb := h.big
  unfold ptrV at c0 c1 HS
  clear h hx hy hn hot1
  have d1 : (i : Int) < n := by omega
  have d2 : (j : Int) < n := by omega
  go_enter Try.func124, Try.ntmps124
  go_wp2_with fail
  go_region
  have HSD := Lib.hid (HS.out.keep (bel_drew bel_refl).below)
  have HKD := Lib.hid ((HK.out (.pointer (some ⟨y.g, 0, none⟩)) (.pointer (some ⟨x.g, 0, none⟩))).below (bel_drew bel_refl).below)
  go_wp2_with fail
  with_reducible refine bodyPost_end (v := .tuple #[]) (by simp [results, Try.results124]) rfl ?_
  exact ⟨rfl, HSD.out, HKD.out⟩
end
end Go.Proofs.Ytbflncfhbmlibaa

namespace Go.Proofs.Ytbflncfhbmlibaa
open Go.RowKit Go.Shelf

section
variable {w : World} {B gq gs c n : Nat} {ws : List Wk}
theorem Qm.pop (h : Qm w B gq gs c ws) (hn : ws.length = n + 1) : Qm (w.setCell ⟨gq, 0, none⟩ (.slice (some ⟨gs, 0, none⟩) n c)) B gq gs c (ws.take n) := by
  obtain ⟨ex, h1⟩ := h.row
  have n1 : gs ≠ gq := fun e => blk_ne_type h.hd h1 (by decide) e.symm
  have hl : (ws.take n).length = n := by rw [List.length_take]; omega
  refine ⟨?_, ⟨(ws.drop n).map (fun k => ptrV k.g) ++ ex, ?_⟩, fun k hk => ?_, ?_, ?_, ?_, h.bq, h.bs, fun k hk => h.bw k (List.mem_of_mem_take hk)⟩
  · have := h.hd.set 0 (.slice (some ⟨gs, 0, none⟩) n c)
    rw [hl]
    exact this
  · have e : qRow (ws.take n) ++ ((ws.drop n).map (fun k => ptrV k.g) ++ ex) = qRow ws ++ ex := by
      unfold qRow
      rw [← List.append_assoc, ← List.map_append, List.take_append_drop]
    rw [e]
    exact h1.far n1 _
  · have hb := h.wk k (List.mem_of_mem_take hk)
    exact hb.far (blk_ne_type hb h.hd (by decide)) _
  · rw [List.map_take]
    exact List.Nodup.sublist (List.take_sublist _ _) h.nd
  · rw [hl]; have := h.cap; omega
  · rw [hl]; have := h.big; omega
set_option maxHeartbeats 2000000 in
theorem qpop_any (h : Qm w B gq gs c ws) (hn : ws.length = n + 1) : Calls Try.prog 123 #[.pointer (some ⟨gq, 0, none⟩)] w fun e w' => (∃ v, e = .returned v) ∧ Qm w' B gq gs c (ws.take n) ∧ KeepW B w w' := by
  obtain ⟨x, hx⟩ := get_some (l := ws) (k := n) (by omega)
  have c0 := h.hd.cell 0
  rw [hn] at c0
  have c0' : w.cell? ⟨gq, 0, none⟩ = some (.slice (some ⟨gs, 0, none⟩) (n + 1) c) := c0
  have c1 := h.cell hx
  have f0 := h.hd.frozen 0
  have hl := h.lt
  have hl2 := h.hd.lt
  have hcap := h.cap
  rw [hn] at hcap
  have HS := Lib.hid (h.pop hn)
  have hot1 : hot w gq := hot_blk h.hd (.inl rfl)
  have HK := Lib.hid fun u => ((KeepW.refl (B := B) (w := w) (by have := h.bs; omega)).set (p := ⟨gq, 0, none⟩) h.bq hot1 u)
  have hb := h.big
  unfold ptrV at c1
  clear h hx hot1 c0
  go_enter Try.func123, Try.ntmps123
  go_wp2_with fail
  go_ret
  exact ⟨⟨_, rfl⟩, HS.out, HK.out _⟩
end
end Go.Proofs.Ytbflncfhbmlibaa

namespace Go.Proofs.Ytbflncfhbmlibaa
open Go.RowKit Go.Shelf

theorem load_q {W : World} {a : Addr} {v : Value} (h : W.cell? a = some v) : (loadVar 83 a).run Try.prog W = .ok v W := by
  go_simp
theorem nil_chk (a : Addr) (nm : String) (W : World) : (Builtin.ssaWrapNilChk_ #[58] 58 #[.pointer (some a), strVal "", strVal nm]).run Try.prog W = .ok (.pointer (some a)) W := rfl
theorem recv_q {W : World} {a : Addr} {v : Value} (nm : String) (h : W.cell? a = some v) : (receiverAt 58 (.val (.pointer (some a))) false (some nm)).run Try.prog W = .ok v W := by
  unfold receiverAt
  simp [go_sem, Place.get, nil_chk, h]
theorem meth_at {nm : String} {f : FuncId} (hf : (Try.t58.methods.find? fun x => x.name == nm).map (fun m => (m.path, m.func)) = some (#[], some (f, false))) {W : World} {a : Addr} {v : Value} (h : W.cell? a = some v) :
    (method 258 58 (.pointer (some a)) nm).run Try.prog W = .ok (f, v) W := by
  have hr := fun nm => recv_q nm h
  obtain ⟨m, hm, he⟩ := Option.map_eq_some_iff.1 hf
  have e1 : m.path = #[] := congrArg Prod.fst he
  have e2 : m.func = _ := congrArg Prod.snd he
  dsimp only at e2
  unfold method
  simp [go_sem]
  rw [hm]
  simp only [e1, e2]
  simp [go_sem, follow, hr]
theorem meth_ptr {nm : String} {f : FuncId} (hf : (Try.t58.methods.find? fun x => x.name == nm).map (fun m => (m.path, m.func)) = some (#[], some (f, true))) (W : World) (a : Addr) :
    (method 258 58 (.pointer (some a)) nm).run Try.prog W = .ok (f, .pointer (some a)) W := by
  obtain ⟨m, hm, he⟩ := Option.map_eq_some_iff.1 hf
  have e1 : m.path = #[] := congrArg Prod.fst he
  have e2 : m.func = _ := congrArg Prod.snd he
  dsimp only at e2
  unfold method
  simp [go_sem]
  rw [hm]
  simp only [e1, e2]
  simp [go_sem, follow, receiverAt, Place.get]
section
variable {W : World} {a : Addr} {v : Value}
theorem meth_less (h : W.cell? a = some v) : (method 258 58 (.pointer (some a)) "Less").run Try.prog W = .ok (122, v) W := meth_at (by kernel_rfl) h
theorem meth_len (h : W.cell? a = some v) : (method 258 58 (.pointer (some a)) "Len").run Try.prog W = .ok (56, v) W := meth_at (by kernel_rfl) h
theorem meth_swap (h : W.cell? a = some v) : (method 258 58 (.pointer (some a)) "Swap").run Try.prog W = .ok (124, v) W := meth_at (by kernel_rfl) h
theorem meth_pop (W : World) (a : Addr) : (method 258 58 (.pointer (some a)) "Pop").run Try.prog W = .ok (123, .pointer (some a)) W := meth_ptr (by kernel_rfl) W a
end
end Go.Proofs.Ytbflncfhbmlibaa

namespace Go.Proofs.Ytbflncfhbmlibaa
open Go.RowKit Go.Shelf

section
variable {w : World} {B gq gs c n : Nat} {ws : List Wk}
/-- What a question to the queue leaves. -/
def AsR (B gq gs c : Nat) (ws : List Wk) (v : Value) (w : World) (e : Ending) (w' : World) : Prop := e = .returned v ∧ Qm w' B gq gs c ws ∧ KeepW B w w'
theorem Qm.self (h : Qm w B gq gs c ws) : KeepW B w w := KeepW.refl (by have := h.bs; have := h.lt; omega)
theorem Qm.head (h : Qm w B gq gs c ws) (hn : ws.length = n) : w.cell? ⟨gq, 0, none⟩ = some (.slice (some ⟨gs, 0, none⟩) n c) := by
  have := h.hd.cell 0
  rw [hn] at this
  exact this
theorem qless_q (h : Qm w B gq gs c ws) (hn : ws.length = n) {i j : Nat} (hi : i < n) (hj : j < n) {x y : Int} (hx : x = i) (hy : y = j) {b : Bool} (hb : decide (kr ws i < kr ws j) = b) : Calls Try.prog 122 #[.slice (some ⟨gs, 0, none⟩) n c, .int .i64 x, .int .i64 y] w (AsR B gq gs c ws (.bool b) w) := by
  subst hx hy hb
  exact (qless_any h hn hi hj).mono fun e w' ⟨he, q, hw⟩ => ⟨he, by rw [hw]; exact h.keep (bel_drewN bel_refl).below, by rw [hw]; exact h.self.below (bel_drewN bel_refl).below⟩
theorem qswap_q (h : Qm w B gq gs c ws) (hn : ws.length = n) {i j : Nat} (hi : i < n) (hj : j < n) {x y : Int} (hx : x = i) (hy : y = j) : Calls Try.prog 124 #[.slice (some ⟨gs, 0, none⟩) n c, .int .i64 x, .int .i64 y] w (AsR B gq gs c (swp ws i j) (.tuple #[]) w) := by
  subst hx hy
  exact qswap_any h hn hi hj
set_option maxRecDepth 20000 in
set_option maxHeartbeats 4000000 in
theorem down_q {w : World} {ws : List Wk} {N : Nat} (h : Qm w B gq gs c ws) (hN : ws.length = N) {i0 : Nat} (hi0 : i0 ≤ 70000) (hn : n ≤ N) (h0 : HpK ws n (i0 + 1)) :
    Calls Try.prog 78 #[.iface 58 (.pointer (some ⟨gq, 0, none⟩)), .int .i64 i0, .int .i64 n] w fun e w' => ∃ b ws', e = .returned (.bool b) ∧ Qm w' B gq gs c ws' ∧ ws'.Perm ws ∧ (∀ m, n ≤ m → ws'[m]? = ws[m]?) ∧ HpK ws' n i0 ∧ KeepW B w w' := by
  have hn7 : N ≤ 70000 := by have := h.big; omega
  have HQ := Lib.hid h
  have HD := Lib.hid (DnI.start h0)
  have HK := Lib.hid h.self
  have HN := Lib.hid hN
  clear h h0 hN
  go_enter Try.func78, Try.ntmps78
  go_wp2_with fail
  go_loopw [7] (fun s wr => ∃ (i : Nat) (ws1 : List Wk), i ≤ 70000 ∧ s = .int .i64 i ∧ Hid (Qm wr B gq gs c ws1) ∧ Hid (DnI ws ws1 n i0 i) ∧ Hid (KeepW B w wr)) (fun s _ => 70001 - (intOf s).toNat)
  case atStart => exact ⟨i0, ws, hi0, rfl, HQ, HD, HK⟩
  case round =>
    clear HQ HD HK
    obtain ⟨i, ws1, hi, rfl, HQ, HD, HK⟩ := hrel
    have HL1 : Hid (ws1.length = N) := Lib.hid (HD.out.len.trans HN.out)
    by_cases h1 : 2 * i + 1 < n
    · have d1 : decide ((n : Int) ≤ 2 * (i : Int) + 1) = false := by simp; omega
      have d2 : decide (2 * (i : Int) + 1 < 0) = false := by simp; omega
      have m0 := meth_less (HQ.out.head HL1.out)
      by_cases h2 : 2 * i + 2 < n
      · have d3 : decide (2 * (i : Int) + 1 + 1 < n) = true := by simp; omega
        rcases Int.lt_or_le (kr ws1 (2 * i + 2)) (kr ws1 (2 * i + 1)) with hk | hk
        · have hb : decide (kr ws1 (2 * i + 2) < kr ws1 (2 * i + 1)) = true := by simp; omega
          have HC1 := Lib.hid (qless_q HQ.out HL1.out (i := 2 * i + 2) (j := 2 * i + 1) (x := 2 * (i : Int) + 1 + 1) (y := 2 * (i : Int) + 1) (by omega) (by omega) (by omega) (by omega) hb)
          rcases Int.lt_or_le (kr ws1 (2 * i + 2)) (kr ws1 i) with hl | hl
          · have HC2 : Hid (∀ W, Qm W B gq gs c ws1 → Calls Try.prog 122 #[.slice (some ⟨gs, 0, none⟩) N c, .int .i64 (2 * (i : Int) + 1 + 1), .int .i64 i] W (AsR B gq gs c ws1 (.bool true) W)) := Lib.hid fun W h => qless_q h HL1.out (i := 2 * i + 2) (j := i) (by omega) (by omega) (by omega) rfl (by simp; omega)
            have HC3 : Hid (∀ W, Qm W B gq gs c ws1 → Calls Try.prog 124 #[.slice (some ⟨gs, 0, none⟩) N c, .int .i64 i, .int .i64 (2 * (i : Int) + 1 + 1)] W (AsR B gq gs c (swp ws1 i (2 * i + 2)) (.tuple #[]) W)) := Lib.hid fun W h => qswap_q h HL1.out (i := i) (j := 2 * i + 2) (by omega) (by omega) rfl (by omega)
            have HD2 := Lib.hid (HD.out.step (j := 2 * i + 2) (by rw [HL1.out]; exact hn) (by omega) (by omega) (by omega) hl (fun m m0 m1 m2 => by
              have hm : m = 2 * i + 1 ∨ m = 2 * i + 2 := by omega
              rcases hm with rfl | rfl
              · omega
              · omega))
            clear hl hb hk
            go_wp2_with (first
              | (go_at_call 122; (with_reducible refine HC1.out.mono ?_); rintro e w1 ⟨rfl, hq1, hk1⟩; have HQ1 := Lib.hid hq1; have HK1 := Lib.hid (HK.out.trans hk1); have m1 := meth_less (hq1.head HL1.out); clear hq1 hk1 m0 HC1)
              | (go_at_call 122; (with_reducible refine (HC2.out _ HQ1.out).mono ?_); rintro e w2 ⟨rfl, hq2, hk2⟩; have HQ2 := Lib.hid hq2; have HK2 := Lib.hid (HK1.out.trans hk2); have m2 := meth_swap (hq2.head HL1.out); clear hq2 hk2 m1 HC2)
              | (go_at_call 124; (with_reducible refine (HC3.out _ HQ2.out).mono ?_); rintro e w3 ⟨rfl, hq3, hk3⟩; have HQ3 := Lib.hid hq3; have HK3 := Lib.hid (HK2.out.trans hk3); clear hq3 hk3 m2 HC3)
              | fail)
            exact ⟨⟨2 * i + 2, _, by omega, by go_num, HQ3, HD2, HK3⟩, by simp [intOf]; omega⟩
          · have HC2 : Hid (∀ W, Qm W B gq gs c ws1 → Calls Try.prog 122 #[.slice (some ⟨gs, 0, none⟩) N c, .int .i64 (2 * (i : Int) + 1 + 1), .int .i64 i] W (AsR B gq gs c ws1 (.bool false) W)) := Lib.hid fun W h => qless_q h HL1.out (i := 2 * i + 2) (j := i) (by omega) (by omega) (by omega) rfl (by simp; omega)
            have HS := Lib.hid (HD.out.stop (fun m m0 m1 m2 => by
              have hm : m = 2 * i + 1 ∨ m = 2 * i + 2 := by omega
              rcases hm with rfl | rfl
              · omega
              · omega))
            clear hl hb hk
            go_wp2_with (first
              | (go_at_call 122; (with_reducible refine HC1.out.mono ?_); rintro e w1 ⟨rfl, hq1, hk1⟩; have HQ1 := Lib.hid hq1; have HK1 := Lib.hid (HK.out.trans hk1); have m1 := meth_less (hq1.head HL1.out); clear hq1 hk1 m0 HC1)
              | (go_at_call 122; (with_reducible refine (HC2.out _ HQ1.out).mono ?_); rintro e w2 ⟨rfl, hq2, hk2⟩; have HQ2 := Lib.hid hq2; have HK2 := Lib.hid (HK1.out.trans hk2); have m2 := meth_swap (hq2.head HL1.out); clear hq2 hk2 m1 HC2)
              | fail)
            go_ret
            exact ⟨_, ws1, rfl, HQ2.out, HD.out.perm, HD.out.rest, HS.out, HK2.out⟩
        · have hb : decide (kr ws1 (2 * i + 2) < kr ws1 (2 * i + 1)) = false := by simp; omega
          have HC1 := Lib.hid (qless_q HQ.out HL1.out (i := 2 * i + 2) (j := 2 * i + 1) (x := 2 * (i : Int) + 1 + 1) (y := 2 * (i : Int) + 1) (by omega) (by omega) (by omega) (by omega) hb)
          rcases Int.lt_or_le (kr ws1 (2 * i + 1)) (kr ws1 i) with hl | hl
          · have HC2 : Hid (∀ W, Qm W B gq gs c ws1 → Calls Try.prog 122 #[.slice (some ⟨gs, 0, none⟩) N c, .int .i64 (2 * (i : Int) + 1), .int .i64 i] W (AsR B gq gs c ws1 (.bool true) W)) := Lib.hid fun W h => qless_q h HL1.out (i := 2 * i + 1) (j := i) (by omega) (by omega) (by omega) rfl (by simp; omega)
            have HC3 : Hid (∀ W, Qm W B gq gs c ws1 → Calls Try.prog 124 #[.slice (some ⟨gs, 0, none⟩) N c, .int .i64 i, .int .i64 (2 * (i : Int) + 1)] W (AsR B gq gs c (swp ws1 i (2 * i + 1)) (.tuple #[]) W)) := Lib.hid fun W h => qswap_q h HL1.out (i := i) (j := 2 * i + 1) (by omega) (by omega) rfl (by omega)
            have HD2 := Lib.hid (HD.out.step (j := 2 * i + 1) (by rw [HL1.out]; exact hn) (by omega) (by omega) (by omega) hl (fun m m0 m1 m2 => by
              have hm : m = 2 * i + 1 ∨ m = 2 * i + 2 := by omega
              rcases hm with rfl | rfl
              · omega
              · omega))
            clear hl hb hk
            go_wp2_with (first
              | (go_at_call 122; (with_reducible refine HC1.out.mono ?_); rintro e w1 ⟨rfl, hq1, hk1⟩; have HQ1 := Lib.hid hq1; have HK1 := Lib.hid (HK.out.trans hk1); have m1 := meth_less (hq1.head HL1.out); clear hq1 hk1 m0 HC1)
              | (go_at_call 122; (with_reducible refine (HC2.out _ HQ1.out).mono ?_); rintro e w2 ⟨rfl, hq2, hk2⟩; have HQ2 := Lib.hid hq2; have HK2 := Lib.hid (HK1.out.trans hk2); have m2 := meth_swap (hq2.head HL1.out); clear hq2 hk2 m1 HC2)
              | (go_at_call 124; (with_reducible refine (HC3.out _ HQ2.out).mono ?_); rintro e w3 ⟨rfl, hq3, hk3⟩; have HQ3 := Lib.hid hq3; have HK3 := Lib.hid (HK2.out.trans hk3); clear hq3 hk3 m2 HC3)
              | fail)
            exact ⟨⟨2 * i + 1, _, by omega, by go_num, HQ3, HD2, HK3⟩, by simp [intOf]; omega⟩
          · have HC2 : Hid (∀ W, Qm W B gq gs c ws1 → Calls Try.prog 122 #[.slice (some ⟨gs, 0, none⟩) N c, .int .i64 (2 * (i : Int) + 1), .int .i64 i] W (AsR B gq gs c ws1 (.bool false) W)) := Lib.hid fun W h => qless_q h HL1.out (i := 2 * i + 1) (j := i) (by omega) (by omega) (by omega) rfl (by simp; omega)
            have HS := Lib.hid (HD.out.stop (fun m m0 m1 m2 => by
              have hm : m = 2 * i + 1 ∨ m = 2 * i + 2 := by omega
              rcases hm with rfl | rfl
              · omega
              · omega))
            clear hl hb hk
            go_wp2_with (first
              | (go_at_call 122; (with_reducible refine HC1.out.mono ?_); rintro e w1 ⟨rfl, hq1, hk1⟩; have HQ1 := Lib.hid hq1; have HK1 := Lib.hid (HK.out.trans hk1); have m1 := meth_less (hq1.head HL1.out); clear hq1 hk1 m0 HC1)
              | (go_at_call 122; (with_reducible refine (HC2.out _ HQ1.out).mono ?_); rintro e w2 ⟨rfl, hq2, hk2⟩; have HQ2 := Lib.hid hq2; have HK2 := Lib.hid (HK1.out.trans hk2); have m2 := meth_swap (hq2.head HL1.out); clear hq2 hk2 m1 HC2)
              | fail)
            go_ret
            exact ⟨_, ws1, rfl, HQ2.out, HD.out.perm, HD.out.rest, HS.out, HK2.out⟩
      · have d3 : decide (2 * (i : Int) + 1 + 1 < n) = false := by simp; omega
        rcases Int.lt_or_le (kr ws1 (2 * i + 1)) (kr ws1 i) with hl | hl
        · have HC2 : Hid (∀ W, Qm W B gq gs c ws1 → Calls Try.prog 122 #[.slice (some ⟨gs, 0, none⟩) N c, .int .i64 (2 * (i : Int) + 1), .int .i64 i] W (AsR B gq gs c ws1 (.bool true) W)) := Lib.hid fun W h => qless_q h HL1.out (i := 2 * i + 1) (j := i) (by omega) (by omega) (by omega) rfl (by simp; omega)
          have HC3 : Hid (∀ W, Qm W B gq gs c ws1 → Calls Try.prog 124 #[.slice (some ⟨gs, 0, none⟩) N c, .int .i64 i, .int .i64 (2 * (i : Int) + 1)] W (AsR B gq gs c (swp ws1 i (2 * i + 1)) (.tuple #[]) W)) := Lib.hid fun W h => qswap_q h HL1.out (i := i) (j := 2 * i + 1) (by omega) (by omega) rfl (by omega)
          have HD2 := Lib.hid (HD.out.step (j := 2 * i + 1) (by rw [HL1.out]; exact hn) (by omega) (by omega) (by omega) hl (fun m m0 m1 m2 => by
            have hm : m = 2 * i + 1 ∨ m = 2 * i + 2 := by omega
            rcases hm with rfl | rfl
            · omega
            · omega))
          clear hl
          go_wp2_with (first
            | (go_at_call 122; (with_reducible refine (HC2.out _ HQ.out).mono ?_); rintro e w2 ⟨rfl, hq2, hk2⟩; have HQ2 := Lib.hid hq2; have HK2 := Lib.hid (HK.out.trans hk2); have m2 := meth_swap (hq2.head HL1.out); clear hq2 hk2 m0 HC2)
            | (go_at_call 124; (with_reducible refine (HC3.out _ HQ2.out).mono ?_); rintro e w3 ⟨rfl, hq3, hk3⟩; have HQ3 := Lib.hid hq3; have HK3 := Lib.hid (HK2.out.trans hk3); clear hq3 hk3 m2 HC3)
            | fail)
          exact ⟨⟨2 * i + 1, _, by omega, by go_num, HQ3, HD2, HK3⟩, by simp [intOf]; omega⟩
        · have HC2 : Hid (∀ W, Qm W B gq gs c ws1 → Calls Try.prog 122 #[.slice (some ⟨gs, 0, none⟩) N c, .int .i64 (2 * (i : Int) + 1), .int .i64 i] W (AsR B gq gs c ws1 (.bool false) W)) := Lib.hid fun W h => qless_q h HL1.out (i := 2 * i + 1) (j := i) (by omega) (by omega) (by omega) rfl (by simp; omega)
          have HS := Lib.hid (HD.out.stop (fun m m0 m1 m2 => by
            have hm : m = 2 * i + 1 ∨ m = 2 * i + 2 := by omega
            rcases hm with rfl | rfl
            · omega
            · omega))
          clear hl
          go_wp2_with (first
            | (go_at_call 122; (with_reducible refine (HC2.out _ HQ.out).mono ?_); rintro e w2 ⟨rfl, hq2, hk2⟩; have HQ2 := Lib.hid hq2; have HK2 := Lib.hid (HK.out.trans hk2); have m2 := meth_swap (hq2.head HL1.out); clear hq2 hk2 m0 HC2)
            | fail)
          go_ret
          exact ⟨_, ws1, rfl, HQ2.out, HD.out.perm, HD.out.rest, HS.out, HK2.out⟩
    · have d1 : decide ((n : Int) ≤ 2 * (i : Int) + 1) = true := by simp; omega
      have HS := Lib.hid (HD.out.stop (fun m m0 m1 m2 => by omega))
      go_wp2_with fail
      go_ret
      exact ⟨_, ws1, rfl, HQ.out, HD.out.perm, HD.out.rest, HS.out, HK.out⟩
end
end Go.Proofs.Ytbflncfhbmlibaa

namespace Go.Proofs.Ytbflncfhbmlibaa
open Go.RowKit Go.Shelf

section
variable {w : World} {B gq gs c n : Nat} {ws : List Wk}
set_option maxHeartbeats 1000000 in
theorem up_q (g : Nat) (w : World) : Calls Try.prog 83 #[.iface 58 (.pointer (some ⟨g, 0, none⟩)), .int .i64 0] w fun e w' => e = .returned (.tuple #[]) ∧ w = w' := by
  go_enter Try.func83, Try.ntmps83
  go_wp2_with fail
  go_loopw [1] (fun s wr => s = .int .i64 0 ∧ w = wr) (fun _ _ => 0)
  case atStart => exact ⟨rfl, rfl⟩
  case round =>
    obtain ⟨rfl, rfl⟩ := hrel
    go_wp2_with fail
    with_reducible refine bodyPost_end (v := .tuple #[]) (by simp [results, Try.results83]) rfl ?_
    exact ⟨rfl, rfl⟩
set_option maxRecDepth 20000 in
set_option maxHeartbeats 2000000 in
/-- After the head's row has grown. -/
theorem fix_q (h : Qm w B gq gs c ws) (hn : ws.length = n) (h0 : HpK ws n 1) : Calls Try.prog 60 #[.iface 58 (.pointer (some ⟨gq, 0, none⟩)), .int .i64 0] w fun e w' => ∃ ws', e = .returned (.tuple #[]) ∧ Qm w' B gq gs c ws' ∧ ws'.Perm ws ∧ HpK ws' n 0 ∧ KeepW B w w' := by
  have m0 := meth_len (h.head hn)
  have HD : Hid (∀ W, W = w → Calls Try.prog 78 #[.iface 58 (.pointer (some ⟨gq, 0, none⟩)), .int .i64 0, .int .i64 n] W fun e w' => ∃ b ws', e = .returned (.bool b) ∧ Qm w' B gq gs c ws' ∧ ws'.Perm ws ∧ (∀ m, n ≤ m → ws'[m]? = ws[m]?) ∧ HpK ws' n 0 ∧ KeepW B w w') := Lib.hid fun W e => by subst e; exact down_q h hn (i0 := 0) (by omega) (Nat.le_refl _) h0
  clear h h0
  go_enter Try.func60, Try.ntmps60
  go_wp2_with (first
    | (go_at_call 56; (with_reducible refine (qlen_any _ _ _ _).mono ?_); rintro e w1 ⟨rfl, rfl⟩)
    | (go_at_call 78; (with_reducible refine (HD.out _ rfl).mono ?_); rintro e w2 ⟨b, ws', rfl, h1, h2, h3, h4, h5⟩; have H1 := Lib.hid h1; have H2 := Lib.hid h2; have H4 := Lib.hid h4; have H5 := Lib.hid h5; clear h1 h2 h3 h4 h5)
    | (go_at_call 83; (with_reducible refine (up_q _ _).mono ?_); rintro e w3 ⟨rfl, rfl⟩)
    | fail)
  all_goals
    with_reducible refine bodyPost_end (v := .tuple #[]) (by simp [results, Try.results60]) rfl ?_
    exact ⟨_, rfl, H1.out, H2.out, H4.out, H5.out⟩
set_option maxRecDepth 20000 in
set_option maxHeartbeats 2000000 in
/-- The head is taken away. -/
theorem pop_q (h : Qm w B gq gs c ws) (hn : ws.length = n + 1) (h0 : HpK ws (n + 1) 1) : Calls Try.prog 61 #[.iface 58 (.pointer (some ⟨gq, 0, none⟩))] w fun e w' => ∃ v ws', e = .returned v ∧ Qm w' B gq gs c ws' ∧ (∀ x, ws[0]? = some x → (x :: ws').Perm ws) ∧ HpK ws' n 0 ∧ KeepW B w w' := by
  have m0 := meth_len (h.head hn)
  have m1 := meth_swap (h.head hn)
  obtain ⟨x, hx⟩ := get_some (l := ws) (k := 0) (by omega)
  have HS := Lib.hid (qswap_q h hn (i := 0) (j := n) (x := 0) (y := n) (by omega) (by omega) rfl rfl)
  have hls : (swp ws 0 n).length = n + 1 := by rw [swp_len]; exact hn
  have hh : HpK (swp ws 0 n) n 1 := (h0.cut (m := n) (by omega)).same (fun m m0 m1 => by rw [swp_kr ws (by omega) (by omega), if_neg (by omega), if_neg (by omega)])
  have hsp := swp_perm ws (i := 0) (j := n) (by omega) (by omega)
  have hat : (swp ws 0 n)[n]? = some x := by rw [swp_at ws (by omega) (by omega), if_pos rfl]; exact hx
  have HD : Hid (∀ W, Qm W B gq gs c (swp ws 0 n) → Calls Try.prog 78 #[.iface 58 (.pointer (some ⟨gq, 0, none⟩)), .int .i64 0, .int .i64 n] W fun e w' => ∃ b ws', e = .returned (.bool b) ∧ Qm w' B gq gs c ws' ∧ ws'.Perm (swp ws 0 n) ∧ (∀ m, n ≤ m → ws'[m]? = (swp ws 0 n)[m]?) ∧ HpK ws' n 0 ∧ KeepW B W w') := Lib.hid fun W h => down_q h hls (i0 := 0) (by omega) (Nat.le_succ n) hh
  have HP := Lib.hid fun W ws' (h : Qm W B gq gs c ws') (hl : ws'.length = n + 1) => qpop_any h hl
  have hb := h.big
  have HX := Lib.hid hx
  have HSP := Lib.hid hsp
  have HAT := Lib.hid hat
  have HLS := Lib.hid hls
  clear h h0 hh hsp hat hx
  go_enter Try.func61, Try.ntmps61
  go_wp2_with (first
    | (go_at_call 56; (with_reducible refine (qlen_any _ _ _ _).mono ?_); rintro e w1 ⟨rfl, rfl⟩)
    | (go_at_call 124; (with_reducible refine HS.out.mono ?_); rintro e w2 ⟨rfl, hq, hk⟩; have HQ2 := Lib.hid hq; have HK2 := Lib.hid hk; clear hq hk m0 m1 HS)
    | (go_at_call 78; (with_reducible refine (HD.out _ HQ2.out).mono ?_); rintro e w3 ⟨b, ws', rfl, h1, h2, h3, h4, h5⟩; have H1 := Lib.hid h1; have H2 := Lib.hid h2; have H3 := Lib.hid h3; have H4 := Lib.hid h4; have H5 := Lib.hid (HK2.out.trans h5); have hl3 : ws'.length = n + 1 := h2.length_eq.trans HLS.out; have m3 := meth_pop w3 ⟨gq, 0, none⟩; clear h1 h2 h3 h4 h5)
    | (go_at_call 123; (with_reducible refine (HP.out _ _ H1.out hl3).mono ?_); rintro e w4 ⟨⟨v, rfl⟩, hq, hk⟩; have HQ4 := Lib.hid hq; have HK4 := Lib.hid (H5.out.trans hk); clear hq hk)
    | fail)
  go_ret
  have hlast : ws'[n]? = some x := by rw [H3.out n (Nat.le_refl n)]; exact HAT.out
  refine ⟨v, ws'.take n, rfl, HQ4.out, fun y hy => ?_, ?_, HK4.out⟩
  · rw [HX.out] at hy
    injection hy with hy
    subst hy
    have e : ws' = ws'.take n ++ [x] := by
      rw [← take_snoc hlast, List.take_of_length_le (by omega)]
    have h1 : (x :: ws'.take n).Perm (ws'.take n ++ [x]) := List.perm_append_comm (l₁ := [x]) (l₂ := ws'.take n)
    rw [← e] at h1
    exact h1.trans (H2.out.trans HSP.out)
  · refine H4.out.same (fun m _ m1 => ?_)
    unfold kr
    rw [List.getElem?_take, if_pos m1]
set_option maxRecDepth 20000 in
set_option maxHeartbeats 2000000 in
theorem init_q (h : Qm w B gq gs c ws) (hn : ws.length = n) : Calls Try.prog 54 #[.iface 58 (.pointer (some ⟨gq, 0, none⟩))] w fun e w' => ∃ ws', e = .returned (.tuple #[]) ∧ Qm w' B gq gs c ws' ∧ ws'.Perm ws ∧ HpK ws' n 0 ∧ KeepW B w w' := by
  have m0 := meth_len (h.head hn)
  have hb := h.big
  have hn7 : n ≤ 70000 := by omega
  have HQ := Lib.hid h
  have HN := Lib.hid hn
  have HH := Lib.hid (HpK.half ws n)
  have HK := Lib.hid h.self
  clear h hn hb
  go_enter Try.func54, Try.ntmps54
  go_wp2_with (first
    | (go_at_call 56; (with_reducible refine (qlen_any _ _ _ _).mono ?_); rintro e w1 ⟨rfl, rfl⟩)
    | fail)
  go_loopw [3] (fun s wr => ∃ (v : Int) (k : Nat) (ws1 : List Wk), s = .int .i64 v ∧ v + 1 = k ∧ k ≤ 70000 ∧ Hid (Qm wr B gq gs c ws1) ∧ Hid (ws1.Perm ws) ∧ Hid (HpK ws1 n k) ∧ Hid (KeepW B w wr)) (fun s _ => (intOf s + 1).toNat)
  case atStart => exact ⟨(n : Int) / 2 - 1, n / 2, ws, rfl, by omega, by omega, HQ, Lib.hid (List.Perm.refl _), HH, HK⟩
  case round =>
    clear HQ HH HK
    obtain ⟨v, k, ws1, rfl, hv, hk, HQ, HP, HH, HK⟩ := hrel
    have hl1 : ws1.length = n := HP.out.length_eq.trans HN.out
    rcases Nat.eq_zero_or_pos k with h0 | h0
    · obtain rfl : v = -1 := by omega
      subst h0
      go_wp2_with fail
      with_reducible refine bodyPost_end (v := .tuple #[]) (by simp [results, Try.results54]) rfl ?_
      exact ⟨ws1, rfl, HQ.out, HP.out, HH.out, HK.out⟩
    · obtain ⟨j, rfl⟩ : ∃ j, k = j + 1 := ⟨k - 1, by omega⟩
      obtain rfl : v = j := by omega
      have HD := Lib.hid (down_q HQ.out hl1 (i0 := j) (by omega) (Nat.le_refl n) HH.out)
      clear hv
      go_wp2_with (first
        | (go_at_call 78; (with_reducible refine HD.out.mono ?_); rintro e w3 ⟨b, ws2, rfl, h1, h2, h3, h4, h5⟩; have H1 := Lib.hid h1; have H2 := Lib.hid (h2.trans HP.out); have H4 := Lib.hid h4; have H5 := Lib.hid (HK.out.trans h5); clear h1 h2 h3 h4 h5)
        | fail)
      exact ⟨⟨(j : Int) - 1, j, ws2, rfl, by omega, by omega, H1, H2, H4, H5⟩, by simp [intOf]⟩
end
end Go.Proofs.Ytbflncfhbmlibaa

namespace Go.Proofs.Ytbflncfhbmlibaa
open Go.RowKit Go.Shelf

def Wk.go (k : Wk) : Wk := { k with l := nextD k.a k.d k.l }
def Wk.from' (k : Wk) : Dt := if k.tn = true then nextD k.a k.d k.l else k.l
def Wk.to' (k : Wk) : Dt := if k.tn = true then k.l else nextD k.a k.d k.l
theorem Turn.setN {w w' : World} {g : Nat} (h : Turn w w' g none) {p : Addr} (hp : w.heap.size ≤ p.block) (v : Value) : Turn w (w'.setCell p v) g none :=
  ⟨h.os, h.tape, h.output, by have := h.size; simpa [World.setCell] using this, fun k hk h1 h2 => (Below.heap_setCell _ _ _ _ (by omega)).trans (h.block k hk h1 h2)⟩
theorem Turn.setG {w w' : World} {g : Nat} (h : Turn w w' g none) (o : Nat) (v : Value) : Turn w (w'.setCell ⟨g, o, none⟩ v) g none :=
  ⟨h.os, h.tape, h.output, by have := h.size; simpa [World.setCell] using this, fun k hk h1 h2 => (Below.heap_setCell _ _ _ _ h1).trans (h.block k hk h1 h2)⟩
theorem Turn.drewT {w w' : World} {g : Nat} (h : Turn w w' g none) : Turn w w'.drew g none := ⟨h.os, h.tape, h.output, h.size, h.block⟩
def NxR (k : Wk) (w : World) (e : Ending) (w' : World) : Prop := e = .returned (.tuple #[.agg #[.int .i64 k.from'.1, .int .i64 k.from'.2], .agg #[.int .i64 k.to'.1, .int .i64 k.to'.2]]) ∧ Blk w' k.g 86 (wkC k.go) ∧ Turn w w' k.g none
section
variable {w : World}
set_option maxRecDepth 20000 in
set_option maxHeartbeats 4000000 in
theorem next_any {k : Wk} (h : Blk w k.g 86 (wkC k)) (ok : WkOk k) : Calls Try.prog 58 #[ptrV k.g] w (NxR k w) := by
  have HB := Lib.hid h
  have HR := Lib.hid (wrow_any h)
  obtain ⟨g, ⟨a1, a2⟩, ⟨d1, d2⟩, ⟨l1, l2⟩, tn⟩ := k
  have c0 : w.cell? ⟨g, 0, none⟩ = some (.int .i64 a1) := h.cell 0
  have c1 : w.cell? ⟨g, 1, none⟩ = some (.int .i64 a2) := h.cell 1
  have c2 : w.cell? ⟨g, 2, none⟩ = some (.int .i64 d1) := h.cell 2
  have c3 : w.cell? ⟨g, 3, none⟩ = some (.int .i64 d2) := h.cell 3
  have c4 : w.cell? ⟨g, 4, none⟩ = some (.int .i64 l1) := h.cell 4
  have c5 : w.cell? ⟨g, 5, none⟩ = some (.int .i64 l2) := h.cell 5
  have c6 : w.cell? ⟨g, 6, none⟩ = some (.bool tn) := h.cell 6
  have f4 := h.frozen 4
  have f5 := h.frozen 5
  have hl := h.lt
  unfold ptrV Wk.row at HR
  unfold ptrV
  dsimp only at HR
  clear h
  go_enter Try.func58, Try.ntmps58
  go_wp2_with fail
  go_cut [4, 5] (fun s4 s5 wx => ∃ bf bt, s4 = .pointer (some ⟨bf, 0, none⟩) ∧ s5 = .pointer (some ⟨bt, 0, none⟩) ∧ Hid (w.heap.size + 1 < bf ∧ w.heap.size + 1 < bt ∧ bf ≠ bt) ∧ Hid (Blk wx bf 37 [.int .i64 l1, .int .i64 l2]) ∧ Hid (Blk wx bt 37 [.int .i64 d1, .int .i64 d2]) ∧ Hid (Blk wx w.heap.size 37 [.int .i64 0, .int .i64 0]) ∧ Hid (Blk wx (w.heap.size + 1) 37 [.int .i64 0, .int .i64 0]) ∧ Hid (Below w.heap.size w wx))
  case first =>
    go_region
    all_goals (go_wp2_with fail; go_meet)
    all_goals
      refine ⟨_, _, rfl, rfl, Lib.hid (by first | (simp; done) | (simp; omega)), Lib.hid (Blk.drew ?_), Lib.hid (Blk.drew ?_), Lib.hid (Blk.drew ?_), Lib.hid (Blk.drew ?_), Lib.hid (bel_drew (bel_alloc (bel_alloc (bel_alloc (bel_alloc bel_refl))))).below⟩
      all_goals repeat (first | (refine Blk.newAt _ _ [_, _] ?_; (simp; done)) | refine Blk.alloc ?_ _)
  case rest =>
    obtain ⟨bf, bt, rfl, rfl, HZ, HF, HT, HA0, HA1, HBW⟩ := hcut
    clear c0 c1 c2 c3 c4 c5 c6 f4 f5 HR
    have hgB : Blk wc g 86 (wkC ⟨g, (a1, a2), (d1, d2), (l1, l2), tn⟩) := HB.out.keepB HBW.out
    have HGB := Lib.hid hgB
    have HR : Hid (Calls Try.prog 57 #[.pointer (some ⟨g, 0, none⟩)] wc fun e w' => e = .returned (.int .i64 (l2 / 64)) ∧ wc = w') := Lib.hid (by
      have := wrow_any (k := ⟨g, (a1, a2), (d1, d2), (l1, l2), tn⟩) hgB
      unfold ptrV Wk.row at this
      exact this)
    have c0 : wc.cell? ⟨g, 0, none⟩ = some (.int .i64 a1) := hgB.cell 0
    have c1 : wc.cell? ⟨g, 1, none⟩ = some (.int .i64 a2) := hgB.cell 1
    have c2 : wc.cell? ⟨g, 2, none⟩ = some (.int .i64 d1) := hgB.cell 2
    have c3 : wc.cell? ⟨g, 3, none⟩ = some (.int .i64 d2) := hgB.cell 3
    have c6 : wc.cell? ⟨g, 6, none⟩ = some (.bool tn) := hgB.cell 6
    have glt := hgB.lt
    obtain ⟨⟨x1, x2⟩, x3, x4⟩ := dotB_true.1 ok.fa
    obtain ⟨⟨y1, y2⟩, y3, y4⟩ := dotB_true.1 ok.fd
    obtain ⟨z1, z2, z3⟩ := ok.way
    have z4 := ok.go
    dsimp only at x1 x2 x3 x4 y1 y2 y3 y4 z1 z2 z4
    have HOK := Lib.hid ok
    clear hgB ok z3
    obtain ⟨q, hq⟩ : ∃ q, l2 / 64 = q := ⟨_, rfl⟩
    have hqb : 64 * q ≤ l2 ∧ l2 ≤ 64 * q + 63 := by omega
    have HQ := Lib.hid hq
    rw [hq] at HR
    clear hq
    rename_i hKK
    refine hKK _ _ ?_
    by_cases hy : (q + 1) * 64 < d2
    · have e1 : decide ((q + 1) * 64 < d2) = true := by simp; omega
      go_wp2_with (first
        | (go_at_call 57; (with_reducible refine HR.out.mono ?_); rintro e w1 ⟨rfl, rfl⟩)
        | fail)
      have hp := mul_bdd (a := d1 - a1) (b := (q + 1) * 64 - a2) (A := 2097152) (B := 4194304) (by omega) (by omega) (by omega) (by omega)
      have hw : IntKind.i64.wrap ((d1 - a1) * ((q + 1) * 64 - a2)) = (d1 - a1) * ((q + 1) * 64 - a2) := IntWalk.i64_in _ (by omega)
      have hw1 : IntKind.i64.wrap (d1 - a1) = d1 - a1 := IntWalk.i64_in _ (by omega)
      have hw2 : IntKind.i64.wrap ((q + 1) * 64 - a2) = (q + 1) * 64 - a2 := IntWalk.i64_in _ (by omega)
      have hw3 : IntKind.i64.wrap (d2 - a2) = d2 - a2 := IntWalk.i64_in _ (by omega)
      have HNR := Lib.hid fun W => Near_any (w := W) ((d1 - a1) * ((q + 1) * 64 - a2)) (d2 - a2) (by omega) (by omega) (by omega) (by omega)
      have k0 : ∀ u, Aft wc u → u.cell? ⟨g, 0, none⟩ = some (.int .i64 a1) := fun u hu => (hu.cell (p := ⟨g, 0, none⟩) glt).trans c0
      have k1 : ∀ u, Aft wc u → u.cell? ⟨g, 1, none⟩ = some (.int .i64 a2) := fun u hu => (hu.cell (p := ⟨g, 1, none⟩) glt).trans c1
      have k2 : ∀ u, Aft wc u → u.cell? ⟨g, 2, none⟩ = some (.int .i64 d1) := fun u hu => (hu.cell (p := ⟨g, 2, none⟩) glt).trans c2
      have k3 : ∀ u, Aft wc u → u.cell? ⟨g, 3, none⟩ = some (.int .i64 d2) := fun u hu => (hu.cell (p := ⟨g, 3, none⟩) glt).trans c3
      have kz : ∀ u, Aft wc u → g < u.heap.size := fun u hu => Nat.lt_of_lt_of_le glt hu.size
      have HD0 : Hid (Aft wc wc.drew) := Lib.hid aft_drew
      go_region_held (fun u => Aft wc u) (first | (with_reducible exact HD0.out) | (with_reducible exact HD1.out)) (first
        | (go_at_call 80; (with_reducible refine (HNR.out _).mono ?_); rintro e w1 ⟨rfl, hb1⟩; have HD1 : Hid (Aft wc w1) := Lib.hid (Below.trans HD0.out (hb1.mono (Below.size HD0.out))); clear hb1)
        | fail)
      all_goals
        have hHT := HT.out.keepB HD1.out
        have hHF := HF.out.keepB HD1.out
        have hHG := HGB.out.keepB HD1.out
        have HR0 := Lib.hid (HA0.out.keepB HD1.out)
        have HR1 := Lib.hid (HA1.out.keepB HD1.out)
        have HTL := Lib.hid hHT
        have HFL := Lib.hid hHF
        have HGL := Lib.hid hHG
        have t0 : w1.cell? ⟨bt, 0, none⟩ = some (.int .i64 d1) := hHT.cell 0
        have t1 : w1.cell? ⟨bt, 1, none⟩ = some (.int .i64 d2) := hHT.cell 1
        have t2 := hHT.frozen 0
        have t3 := hHT.frozen 1
        have t4 := hHT.lt
        have m0 : w1.cell? ⟨g, 0, none⟩ = some (.int .i64 a1) := hHG.cell 0
        have m4 : w1.cell? ⟨g, 4, none⟩ = some (.int .i64 l1) := hHG.cell 4
        have m5 : w1.cell? ⟨g, 5, none⟩ = some (.int .i64 l2) := hHG.cell 5
        have m6 : w1.cell? ⟨g, 6, none⟩ = some (.bool tn) := hHG.cell 6
        have n4 := hHG.frozen 4
        have n5 := hHG.frozen 5
        have n6 := hHG.lt
        have gt1 : g ≠ bt := blk_ne_type hHG hHT (by decide)
        have gt2 : bt ≠ g := gt1.symm
        have ft1 : bf ≠ bt := HZ.out.2.2
        have ft2 : bf ≠ g := (blk_ne_type hHG hHF (by decide)).symm
        have hz1 := HZ.out.1
        have hz2 := HZ.out.2.1
        have rt1 : w.heap.size ≠ bt := by omega
        have rt2 : w.heap.size ≠ g := by omega
        have rt3 : w.heap.size + 1 ≠ bt := by omega
        have rt4 : w.heap.size + 1 ≠ g := by omega
        have HTN : Hid (Turn w w1 g none) := Lib.hid (Turn.of_below (HBW.out.trans (HD1.out.mono HBW.out.size)))
        obtain ⟨nx, hnx⟩ : ∃ nx, near ((d1 - a1) * ((q + 1) * 64 - a2)) (d2 - a2) = nx := ⟨_, rfl⟩
        have hnd : nextD (a1, a2) (d1, d2) (l1, l2) = (a1 + nx, (q + 1) * 64) := by
          unfold nextD
          dsimp only
          rw [HQ.out, Int.mul_comm 64 (q + 1), if_pos hy, hnx]
        have hwy := nextD_way HOK.out.way HOK.out.go
        dsimp only at hwy
        rw [hnd] at hwy
        obtain ⟨_, _, hwb⟩ := hwy
        have hxb : -1048576 ≤ a1 + nx ∧ a1 + nx ≤ 1048576 := by unfold btw at hwb; dsimp only at hwb; omega
        have hw5 : IntKind.i64.wrap (a1 + nx) = a1 + nx := IntWalk.i64_in _ (by omega)
        rw [hnx]
        have HND := Lib.hid hnd
        clear hHT hHF hHG hnd hwb hnx k0 k1 k2 k3 kz hw hw1 hw2 hw3 hp c0 c1 c2 c3 c6
        -- the end
        have hbt : w.heap.size ≤ bt := by omega
        clear hz1 hz2
        go_wp2_with fail
        all_goals
          have hgo : (((wkC ⟨g, (a1, a2), (d1, d2), (l1, l2), tn⟩).set 4 (.int .i64 (a1 + nx))).set 5 (.int .i64 ((q + 1) * 64))) = wkC (Wk.go ⟨g, (a1, a2), (d1, d2), (l1, l2), tn⟩) := by
            unfold Wk.go wkC
            dsimp only
            rw [HND.out]
            rfl
          have HT2 : Hid (Blk ((((w1.setCell ⟨bt, 0, none⟩ (.int .i64 (a1 + nx))).setCell ⟨bt, 1, none⟩ (.int .i64 ((q + 1) * 64))).setCell ⟨g, 4, none⟩ (.int .i64 (a1 + nx))).setCell ⟨g, 5, none⟩ (.int .i64 ((q + 1) * 64))) bt 37 [.int .i64 (a1 + nx), .int .i64 ((q + 1) * 64)]) := Lib.hid ((((HTL.out.set 0 (.int .i64 (a1 + nx))).set 1 (.int .i64 ((q + 1) * 64))).far gt2 _).far gt2 _)
          have HF2 : Hid (Blk ((((w1.setCell ⟨bt, 0, none⟩ (.int .i64 (a1 + nx))).setCell ⟨bt, 1, none⟩ (.int .i64 ((q + 1) * 64))).setCell ⟨g, 4, none⟩ (.int .i64 (a1 + nx))).setCell ⟨g, 5, none⟩ (.int .i64 ((q + 1) * 64))) bf 37 [.int .i64 l1, .int .i64 l2]) := Lib.hid ((((HFL.out.far ft1 _).far ft1 _).far ft2 _).far ft2 _)
          have HG2 : Hid (Blk ((((w1.setCell ⟨bt, 0, none⟩ (.int .i64 (a1 + nx))).setCell ⟨bt, 1, none⟩ (.int .i64 ((q + 1) * 64))).setCell ⟨g, 4, none⟩ (.int .i64 (a1 + nx))).setCell ⟨g, 5, none⟩ (.int .i64 ((q + 1) * 64))) g 86 (wkC (Wk.go ⟨g, (a1, a2), (d1, d2), (l1, l2), tn⟩))) := Lib.hid (by rw [← hgo]; exact (((HGL.out.far gt1 _).far gt1 _).set 4 _).set 5 _)
          have HA2 : Hid (Blk ((((w1.setCell ⟨bt, 0, none⟩ (.int .i64 (a1 + nx))).setCell ⟨bt, 1, none⟩ (.int .i64 ((q + 1) * 64))).setCell ⟨g, 4, none⟩ (.int .i64 (a1 + nx))).setCell ⟨g, 5, none⟩ (.int .i64 ((q + 1) * 64))) w.heap.size 37 [.int .i64 0, .int .i64 0]) := Lib.hid ((((HR0.out.far rt1 _).far rt1 _).far rt2 _).far rt2 _)
          have HB2 : Hid (Blk ((((w1.setCell ⟨bt, 0, none⟩ (.int .i64 (a1 + nx))).setCell ⟨bt, 1, none⟩ (.int .i64 ((q + 1) * 64))).setCell ⟨g, 4, none⟩ (.int .i64 (a1 + nx))).setCell ⟨g, 5, none⟩ (.int .i64 ((q + 1) * 64))) (w.heap.size + 1) 37 [.int .i64 0, .int .i64 0]) := Lib.hid ((((HR1.out.far rt3 _).far rt3 _).far rt4 _).far rt4 _)
          have HU2 : Hid (Turn w ((((w1.setCell ⟨bt, 0, none⟩ (.int .i64 (a1 + nx))).setCell ⟨bt, 1, none⟩ (.int .i64 ((q + 1) * 64))).setCell ⟨g, 4, none⟩ (.int .i64 (a1 + nx))).setCell ⟨g, 5, none⟩ (.int .i64 ((q + 1) * 64))) g none) := Lib.hid ((((HTN.out.setN (p := ⟨bt, 0, none⟩) (by dsimp only; omega) _).setN (p := ⟨bt, 1, none⟩) (by dsimp only; omega) _).setG _ _).setG _ _)
          generalize ((((w1.setCell ⟨bt, 0, none⟩ (.int .i64 (a1 + nx))).setCell ⟨bt, 1, none⟩ (.int .i64 ((q + 1) * 64))).setCell ⟨g, 4, none⟩ (.int .i64 (a1 + nx))).setCell ⟨g, 5, none⟩ (.int .i64 ((q + 1) * 64))) = W2 at HT2 HF2 HG2 HA2 HB2 HU2 ⊢
          clear t0 t1 t2 t3 t4 m0 m4 m5 m6 n4 n5 n6 gt1 gt2 ft1 ft2 hw5 rt1 rt2 rt3 rt4 hgo e1 hy HTL HFL HGL HR0 HR1 HTN HD0 HD1
          have u0 : W2.cell? ⟨bt, 0, none⟩ = some (.int .i64 (a1 + nx)) := HT2.out.cell 0
          have u1 : W2.cell? ⟨bt, 1, none⟩ = some (.int .i64 ((q + 1) * 64)) := HT2.out.cell 1
          have u2 : W2.cell? ⟨bf, 0, none⟩ = some (.int .i64 l1) := HF2.out.cell 0
          have u3 : W2.cell? ⟨bf, 1, none⟩ = some (.int .i64 l2) := HF2.out.cell 1
          have u4 : W2.cell? ⟨w.heap.size, 0, none⟩ = some (.int .i64 0) := HA2.out.cell 0
          have u5 : W2.cell? ⟨w.heap.size, 1, none⟩ = some (.int .i64 0) := HA2.out.cell 1
          have u6 : W2.cell? ⟨w.heap.size + 1, 0, none⟩ = some (.int .i64 0) := HB2.out.cell 0
          have u7 : W2.cell? ⟨w.heap.size + 1, 1, none⟩ = some (.int .i64 0) := HB2.out.cell 1
          have v4 := HA2.out.frozen 0
          have v5 := HA2.out.frozen 1
          have v6 := HB2.out.frozen 0
          have v7 := HB2.out.frozen 1
          have l0 := HT2.out.lt
          have l1' := HF2.out.lt
          have l2' := HA2.out.lt
          have l3' := HB2.out.lt
          have e5 : w.heap.size ≠ w.heap.size + 1 := by omega
          have e6 : w.heap.size + 1 ≠ w.heap.size := by omega
          have hza := HZ.out.1
          have hzb := HZ.out.2.1
          have p1 : bf ≠ w.heap.size := by omega
          have p2 : bf ≠ w.heap.size + 1 := by omega
          have p3 : bt ≠ w.heap.size := by omega
          have p4 : bt ≠ w.heap.size + 1 := by omega
          clear hza hzb
          have e7 : g ≠ w.heap.size := by omega
          have e8 : g ≠ w.heap.size + 1 := by omega
          go_region
          go_wp2_with fail
          generalize hW3 : World.drew _ = W3
          have HG3 : Hid (Blk W3 g 86 (wkC (Wk.go ⟨g, (a1, a2), (d1, d2), (l1, l2), tn⟩))) := Lib.hid (by rw [← hW3]; exact ((((HG2.out.far e7 _).far e7 _).far e8 _).far e8 _).drew)
          have HU3 : Hid (Turn w W3 g none) := Lib.hid (by
            rw [← hW3]
            exact ((((HU2.out.setN (p := ⟨w.heap.size, 0, none⟩) (Nat.le_refl _) _).setN (p := ⟨w.heap.size, 1, none⟩) (Nat.le_refl _) _).setN (p := ⟨w.heap.size + 1, 0, none⟩) (Nat.le_succ _) _).setN (p := ⟨w.heap.size + 1, 1, none⟩) (Nat.le_succ _) _).drewT)
          first
            | (have htn : tn = true := by assumption
               have R0 : Blk W3 w.heap.size 37 [.int .i64 (a1 + nx), .int .i64 ((q + 1) * 64)] := by rw [← hW3]; exact ((((HA2.out.set 0 (.int .i64 (a1 + nx))).set 1 (.int .i64 ((q + 1) * 64))).far e5 _).far e5 _).drew
               have R1 : Blk W3 (w.heap.size + 1) 37 [.int .i64 l1, .int .i64 l2] := by rw [← hW3]; exact ((((HB2.out.far e6 _).far e6 _).set 0 (.int .i64 l1)).set 1 (.int .i64 l2)).drew
               have x0 : W3.cell? ⟨w.heap.size, 0, none⟩ = some (.int .i64 (a1 + nx)) := R0.cell 0
               have x1 : W3.cell? ⟨w.heap.size, 1, none⟩ = some (.int .i64 ((q + 1) * 64)) := R0.cell 1
               have x2 : W3.cell? ⟨w.heap.size + 1, 0, none⟩ = some (.int .i64 l1) := R1.cell 0
               have x3 : W3.cell? ⟨w.heap.size + 1, 1, none⟩ = some (.int .i64 l2) := R1.cell 1
               clear hW3 R0 R1
               with_reducible refine bodyPost_ret (v := .tuple #[.agg #[.int .i64 (a1 + nx), .int .i64 ((q + 1) * 64)], .agg #[.int .i64 l1, .int .i64 l2]]) ?_ rfl ?_
               · simp [results, Try.results58, go_sem, x0, x1, x2, x3]
               · refine ⟨?_, HG3.out, HU3.out⟩
                 have htn : tn = true := by assumption
                 unfold Wk.from' Wk.to'
                 dsimp only
                 rw [HND.out, htn]
                 rfl)
            | (have htn : tn = false := by assumption
               have R0 : Blk W3 w.heap.size 37 [.int .i64 l1, .int .i64 l2] := by rw [← hW3]; exact ((((HA2.out.set 0 (.int .i64 l1)).set 1 (.int .i64 l2)).far e5 _).far e5 _).drew
               have R1 : Blk W3 (w.heap.size + 1) 37 [.int .i64 (a1 + nx), .int .i64 ((q + 1) * 64)] := by rw [← hW3]; exact ((((HB2.out.far e6 _).far e6 _).set 0 (.int .i64 (a1 + nx))).set 1 (.int .i64 ((q + 1) * 64))).drew
               have x0 : W3.cell? ⟨w.heap.size, 0, none⟩ = some (.int .i64 l1) := R0.cell 0
               have x1 : W3.cell? ⟨w.heap.size, 1, none⟩ = some (.int .i64 l2) := R0.cell 1
               have x2 : W3.cell? ⟨w.heap.size + 1, 0, none⟩ = some (.int .i64 (a1 + nx)) := R1.cell 0
               have x3 : W3.cell? ⟨w.heap.size + 1, 1, none⟩ = some (.int .i64 ((q + 1) * 64)) := R1.cell 1
               clear hW3 R0 R1
               with_reducible refine bodyPost_ret (v := .tuple #[.agg #[.int .i64 l1, .int .i64 l2], .agg #[.int .i64 (a1 + nx), .int .i64 ((q + 1) * 64)]]) ?_ rfl ?_
               · simp [results, Try.results58, go_sem, x0, x1, x2, x3]
               · refine ⟨?_, HG3.out, HU3.out⟩
                 have htn : tn = false := by assumption
                 unfold Wk.from' Wk.to'
                 dsimp only
                 rw [HND.out, htn]
                 rfl)
    · have e1 : decide ((q + 1) * 64 < d2) = false := by simp; omega
      have hnd : nextD (a1, a2) (d1, d2) (l1, l2) = (d1, d2) := by
        unfold nextD
        dsimp only
        rw [HQ.out, Int.mul_comm 64 (q + 1), if_neg hy]
      have HND := Lib.hid hnd
      have hHT := HT.out
      have hHF := HF.out
      have hHG := HGB.out
      have t0 : wc.cell? ⟨bt, 0, none⟩ = some (.int .i64 d1) := hHT.cell 0
      have t1 : wc.cell? ⟨bt, 1, none⟩ = some (.int .i64 d2) := hHT.cell 1
      have t4 := hHT.lt
      have m4 : wc.cell? ⟨g, 4, none⟩ = some (.int .i64 l1) := hHG.cell 4
      have m5 : wc.cell? ⟨g, 5, none⟩ = some (.int .i64 l2) := hHG.cell 5
      have n4 := hHG.frozen 4
      have n5 := hHG.frozen 5
      have gt1 : g ≠ bt := blk_ne_type hHG hHT (by decide)
      have gt2 : bt ≠ g := gt1.symm
      have ft2 : bf ≠ g := (blk_ne_type hHG hHF (by decide)).symm
      have rt2 : w.heap.size ≠ g := by omega
      have rt4 : w.heap.size + 1 ≠ g := by omega
      have HTN : Hid (Turn w wc g none) := Lib.hid (Turn.of_below HBW.out)
      clear hHT hHF hHG hnd
      go_wp2_with (first
        | (go_at_call 57; (with_reducible refine HR.out.mono ?_); rintro e w1 ⟨rfl, rfl⟩)
        | fail)
      all_goals
        have hgo : (((wkC ⟨g, (a1, a2), (d1, d2), (l1, l2), tn⟩).set 4 (.int .i64 d1)).set 5 (.int .i64 d2)) = wkC (Wk.go ⟨g, (a1, a2), (d1, d2), (l1, l2), tn⟩) := by
          unfold Wk.go wkC
          dsimp only
          rw [HND.out]
          rfl
        have HT2 : Hid (Blk ((wc.setCell ⟨g, 4, none⟩ (.int .i64 d1)).setCell ⟨g, 5, none⟩ (.int .i64 d2)) bt 37 [.int .i64 d1, .int .i64 d2]) := Lib.hid ((HT.out.far gt2 _).far gt2 _)
        have HF2 : Hid (Blk ((wc.setCell ⟨g, 4, none⟩ (.int .i64 d1)).setCell ⟨g, 5, none⟩ (.int .i64 d2)) bf 37 [.int .i64 l1, .int .i64 l2]) := Lib.hid ((HF.out.far ft2 _).far ft2 _)
        have HG2 : Hid (Blk ((wc.setCell ⟨g, 4, none⟩ (.int .i64 d1)).setCell ⟨g, 5, none⟩ (.int .i64 d2)) g 86 (wkC (Wk.go ⟨g, (a1, a2), (d1, d2), (l1, l2), tn⟩))) := Lib.hid (by rw [← hgo]; exact (HGB.out.set 4 _).set 5 _)
        have HA2 : Hid (Blk ((wc.setCell ⟨g, 4, none⟩ (.int .i64 d1)).setCell ⟨g, 5, none⟩ (.int .i64 d2)) w.heap.size 37 [.int .i64 0, .int .i64 0]) := Lib.hid ((HA0.out.far rt2 _).far rt2 _)
        have HB2 : Hid (Blk ((wc.setCell ⟨g, 4, none⟩ (.int .i64 d1)).setCell ⟨g, 5, none⟩ (.int .i64 d2)) (w.heap.size + 1) 37 [.int .i64 0, .int .i64 0]) := Lib.hid ((HA1.out.far rt4 _).far rt4 _)
        have HU2 : Hid (Turn w ((wc.setCell ⟨g, 4, none⟩ (.int .i64 d1)).setCell ⟨g, 5, none⟩ (.int .i64 d2)) g none) := Lib.hid ((HTN.out.setG _ _).setG _ _)
        generalize ((wc.setCell ⟨g, 4, none⟩ (.int .i64 d1)).setCell ⟨g, 5, none⟩ (.int .i64 d2)) = W2 at HT2 HF2 HG2 HA2 HB2 HU2 ⊢
        clear t0 t1 t4 m4 m5 n4 n5 gt1 gt2 ft2 rt2 rt4 hgo e1 hy c0 c1 c2 c3 c6 HGB HT HF HA0 HA1 HTN glt
        have u0 : W2.cell? ⟨bt, 0, none⟩ = some (.int .i64 d1) := HT2.out.cell 0
        have u1 : W2.cell? ⟨bt, 1, none⟩ = some (.int .i64 d2) := HT2.out.cell 1
        have u2 : W2.cell? ⟨bf, 0, none⟩ = some (.int .i64 l1) := HF2.out.cell 0
        have u3 : W2.cell? ⟨bf, 1, none⟩ = some (.int .i64 l2) := HF2.out.cell 1
        have u4 : W2.cell? ⟨w.heap.size, 0, none⟩ = some (.int .i64 0) := HA2.out.cell 0
        have u5 : W2.cell? ⟨w.heap.size, 1, none⟩ = some (.int .i64 0) := HA2.out.cell 1
        have u6 : W2.cell? ⟨w.heap.size + 1, 0, none⟩ = some (.int .i64 0) := HB2.out.cell 0
        have u7 : W2.cell? ⟨w.heap.size + 1, 1, none⟩ = some (.int .i64 0) := HB2.out.cell 1
        have v4 := HA2.out.frozen 0
        have v5 := HA2.out.frozen 1
        have v6 := HB2.out.frozen 0
        have v7 := HB2.out.frozen 1
        have l0 := HT2.out.lt
        have l1' := HF2.out.lt
        have l2' := HA2.out.lt
        have l3' := HB2.out.lt
        have e5 : w.heap.size ≠ w.heap.size + 1 := by omega
        have e6 : w.heap.size + 1 ≠ w.heap.size := by omega
        have hza := HZ.out.1
        have hzb := HZ.out.2.1
        have p1 : bf ≠ w.heap.size := by omega
        have p2 : bf ≠ w.heap.size + 1 := by omega
        have p3 : bt ≠ w.heap.size := by omega
        have p4 : bt ≠ w.heap.size + 1 := by omega
        clear hza hzb
        have e7 : g ≠ w.heap.size := by omega
        have e8 : g ≠ w.heap.size + 1 := by omega
        go_region
        go_wp2_with fail
        generalize hW3 : World.drew _ = W3
        have HG3 : Hid (Blk W3 g 86 (wkC (Wk.go ⟨g, (a1, a2), (d1, d2), (l1, l2), tn⟩))) := Lib.hid (by rw [← hW3]; exact ((((HG2.out.far e7 _).far e7 _).far e8 _).far e8 _).drew)
        have HU3 : Hid (Turn w W3 g none) := Lib.hid (by
          rw [← hW3]
          exact ((((HU2.out.setN (p := ⟨w.heap.size, 0, none⟩) (Nat.le_refl _) _).setN (p := ⟨w.heap.size, 1, none⟩) (Nat.le_refl _) _).setN (p := ⟨w.heap.size + 1, 0, none⟩) (Nat.le_succ _) _).setN (p := ⟨w.heap.size + 1, 1, none⟩) (Nat.le_succ _) _).drewT)
        first
          | (have htn : tn = true := by assumption
             have R0 : Blk W3 w.heap.size 37 [.int .i64 d1, .int .i64 d2] := by rw [← hW3]; exact ((((HA2.out.set 0 (.int .i64 d1)).set 1 (.int .i64 d2)).far e5 _).far e5 _).drew
             have R1 : Blk W3 (w.heap.size + 1) 37 [.int .i64 l1, .int .i64 l2] := by rw [← hW3]; exact ((((HB2.out.far e6 _).far e6 _).set 0 (.int .i64 l1)).set 1 (.int .i64 l2)).drew
             have x0 : W3.cell? ⟨w.heap.size, 0, none⟩ = some (.int .i64 d1) := R0.cell 0
             have x1 : W3.cell? ⟨w.heap.size, 1, none⟩ = some (.int .i64 d2) := R0.cell 1
             have x2 : W3.cell? ⟨w.heap.size + 1, 0, none⟩ = some (.int .i64 l1) := R1.cell 0
             have x3 : W3.cell? ⟨w.heap.size + 1, 1, none⟩ = some (.int .i64 l2) := R1.cell 1
             clear hW3 R0 R1
             with_reducible refine bodyPost_ret (v := .tuple #[.agg #[.int .i64 d1, .int .i64 d2], .agg #[.int .i64 l1, .int .i64 l2]]) ?_ rfl ?_
             · simp [results, Try.results58, go_sem, x0, x1, x2, x3]
             · refine ⟨?_, HG3.out, HU3.out⟩
               have htn : tn = true := by assumption
               unfold Wk.from' Wk.to'
               dsimp only
               rw [HND.out, htn]
               rfl)
          | (have htn : tn = false := by assumption
             have R0 : Blk W3 w.heap.size 37 [.int .i64 l1, .int .i64 l2] := by rw [← hW3]; exact ((((HA2.out.set 0 (.int .i64 l1)).set 1 (.int .i64 l2)).far e5 _).far e5 _).drew
             have R1 : Blk W3 (w.heap.size + 1) 37 [.int .i64 d1, .int .i64 d2] := by rw [← hW3]; exact ((((HB2.out.far e6 _).far e6 _).set 0 (.int .i64 d1)).set 1 (.int .i64 d2)).drew
             have x0 : W3.cell? ⟨w.heap.size, 0, none⟩ = some (.int .i64 l1) := R0.cell 0
             have x1 : W3.cell? ⟨w.heap.size, 1, none⟩ = some (.int .i64 l2) := R0.cell 1
             have x2 : W3.cell? ⟨w.heap.size + 1, 0, none⟩ = some (.int .i64 d1) := R1.cell 0
             have x3 : W3.cell? ⟨w.heap.size + 1, 1, none⟩ = some (.int .i64 d2) := R1.cell 1
             clear hW3 R0 R1
             with_reducible refine bodyPost_ret (v := .tuple #[.agg #[.int .i64 l1, .int .i64 l2], .agg #[.int .i64 d1, .int .i64 d2]]) ?_ rfl ?_
             · simp [results, Try.results58, go_sem, x0, x1, x2, x3]
             · refine ⟨?_, HG3.out, HU3.out⟩
               have htn : tn = false := by assumption
               unfold Wk.from' Wk.to'
               dsimp only
               rw [HND.out, htn]
               rfl)
end
end Go.Proofs.Ytbflncfhbmlibaa

namespace Go.Proofs.Ytbflncfhbmlibaa
open Go.RowKit Go.Shelf

def nextW (k : Wk) : Option Wk := if k.go.l.2 < k.d.2 then some k.go else none
theorem go_row {k : Wk} (h : k.go.l.2 < k.d.2) : k.row < k.go.row := by
  unfold Wk.go Wk.row at *
  dsimp only at *
  unfold nextD at *
  split at h
  · rename_i h1
    rw [if_pos h1]
    dsimp only
    omega
  · exact absurd h (Int.lt_irrefl _)
theorem go_ok {k : Wk} (h : WkOk k) (hl : k.go.l.2 < k.d.2) : WkOk k.go :=
  ⟨h.fa, h.fd, nextD_way h.way h.go, hl⟩
theorem nextW_some {k x : Wk} (h : nextW k = some x) : x = k.go ∧ k.go.l.2 < k.d.2 := by
  unfold nextW at h
  split at h
  · rename_i h1
    injection h with h
    exact ⟨h.symm, h1⟩
  · cases h
def onRow (y : Int) (k : Wk) : Bool := decide (k.row = y)
/-- Some walkers of the row are done, others not yet. -/
structure RwW (y : Int) (ws0 ws don todo : List Wk) : Prop where
  ok : ∀ k ∈ ws0, WkOk k
  ge : ∀ k ∈ ws0, y ≤ k.row
  p1 : (ws0.filter (onRow y)).Perm (don ++ todo)
  p2 : ws.Perm (ws0.filter (fun k => !onRow y k) ++ (todo ++ don.filterMap nextW))
section
variable {y : Int} {ws0 ws don todo : List Wk}
theorem filter_parts {α : Type} (p : α → Bool) : ∀ l : List α, (l.filter (fun k => !p k) ++ l.filter p).Perm l
  | [] => List.Perm.refl _
  | x :: l => by
    have h := filter_parts p l
    cases hx : p x
    · rw [List.filter_cons_of_pos (by simp [hx]), List.filter_cons_of_neg (by simp [hx])]
      exact h.cons x
    · rw [List.filter_cons_of_neg (by simp [hx]), List.filter_cons_of_pos (by simp [hx])]
      exact List.perm_middle.trans (h.cons x)
theorem RwW.start (ok : ∀ k ∈ ws0, WkOk k) (ge : ∀ k ∈ ws0, y ≤ k.row) : RwW y ws0 ws0 [] (ws0.filter (onRow y)) :=
  ⟨ok, ge, List.Perm.refl _, by simpa using (filter_parts (onRow y) ws0).symm⟩
theorem RwW.on_don (h : RwW y ws0 ws don todo) {k : Wk} (hk : k ∈ don) : WkOk k ∧ k.row = y := by
  have := h.p1.mem_iff.2 (List.mem_append_left _ hk)
  rw [List.mem_filter] at this
  exact ⟨h.ok k this.1, by simpa [onRow] using this.2⟩
theorem RwW.on_todo (h : RwW y ws0 ws don todo) {k : Wk} (hk : k ∈ todo) : WkOk k ∧ k.row = y := by
  have := h.p1.mem_iff.2 (List.mem_append_right _ hk)
  rw [List.mem_filter] at this
  exact ⟨h.ok k this.1, by simpa [onRow] using this.2⟩
theorem RwW.mem (h : RwW y ws0 ws don todo) {k : Wk} (hk : k ∈ ws) : WkOk k ∧ y ≤ k.row ∧ (k.row = y → k ∈ todo) := by
  rcases List.mem_append.1 (h.p2.mem_iff.1 hk) with h1 | h1
  · rw [List.mem_filter] at h1
    refine ⟨h.ok k h1.1, h.ge k h1.1, fun e => ?_⟩
    have h2 := h1.2
    simp [onRow, e] at h2
  · rcases List.mem_append.1 h1 with h1 | h1
    · obtain ⟨a, b⟩ := h.on_todo h1
      exact ⟨a, by omega, fun _ => h1⟩
    · obtain ⟨z, hz, hzk⟩ := List.mem_filterMap.1 h1
      obtain ⟨rfl, hl⟩ := nextW_some hzk
      obtain ⟨a, b⟩ := h.on_don hz
      have := go_row hl
      exact ⟨go_ok a hl, by omega, fun e => by omega⟩
/-- One walker more. -/
theorem RwW.step (h : RwW y ws0 ws don todo) {x : Wk} {tl ws' : List Wk} (hw : ws.Perm (x :: tl)) (hy : x.row = y) (hn : ws'.Perm ((nextW x).toList ++ tl)) : ∃ todo', RwW y ws0 ws' (don ++ [x]) todo' ∧ todo'.length + 1 = todo.length := by
  have hx := (h.mem (hw.mem_iff.2 (List.mem_cons_self ..))).2.2 hy
  obtain ⟨a, b, rfl⟩ := List.append_of_mem hx
  have hp : (a ++ x :: b).Perm (x :: (a ++ b)) := List.perm_middle
  refine ⟨a ++ b, ⟨h.ok, h.ge, ?_, ?_⟩, by simp; omega⟩
  · refine h.p1.trans ?_
    rw [List.append_assoc]
    exact hp.append_left don
  · have h1 : (x :: tl).Perm (x :: (ws0.filter (fun k => !onRow y k) ++ ((a ++ b) ++ don.filterMap nextW))) := by
      refine hw.symm.trans (h.p2.trans ?_)
      refine ((hp.append_right _).append_left _).trans ?_
      exact List.perm_middle
    have h2 := h1.cons_inv
    refine hn.trans ((h2.append_left _).trans ?_)
    rw [List.filterMap_append]
    have e : List.filterMap nextW [x] = (nextW x).toList := by
      simp [List.filterMap_cons]
      cases nextW x <;> rfl
    rw [e]
    exact List.perm_append_comm.trans (by simp [List.append_assoc])
/-- No walker of the row is left. -/
theorem RwW.stop (h : RwW y ws0 ws don todo) {n : Nat} (hn : ws.length = n) (hp : HpK ws n 0) (hs : n = 0 ∨ kr ws 0 ≠ y) : todo = [] := by
  cases todo with
  | nil => rfl
  | cons t r =>
    exfalso
    have ht : t ∈ ws := h.p2.mem_iff.2 (List.mem_append_right _ (List.mem_append_left _ (List.mem_cons_self ..)))
    have hr := (h.on_todo (List.mem_cons_self ..)).2
    obtain ⟨i, hi⟩ := List.getElem?_of_mem ht
    have hil := (List.getElem?_eq_some_iff.1 hi).1
    rcases hs with h0 | h0
    · omega
    · have h1 := hp.least i (by omega)
      have e1 : kr ws i = t.row := by unfold kr; rw [hi]; rfl
      obtain ⟨x, hx⟩ := get_some (l := ws) (k := 0) (by omega)
      have e0 : kr ws 0 = x.row := by unfold kr; rw [hx]; rfl
      have := (h.mem (List.mem_of_getElem? hx)).2.1
      omega
end
end Go.Proofs.Ytbflncfhbmlibaa

namespace Go.Proofs.Ytbflncfhbmlibaa
open Go.RowKit Go.Shelf

section
variable {w w' : World} {B gq gs c : Nat} {ws tl : List Wk} {x x' : Wk}
/-- Behind a call that turned the head's block alone. -/
theorem Qm.turned (h : Qm w B gq gs c (x :: tl)) (hb : Blk w' x.g 86 (wkC x')) (hx : x'.g = x.g) (ht : Turn w w' x.g none) : Qm w' B gq gs c (x' :: tl) := by
  obtain ⟨ex, h1⟩ := h.row
  have hw := h.wk x (List.mem_cons_self ..)
  have hnd := h.nd
  rw [List.map_cons, List.nodup_cons] at hnd
  refine ⟨ht.blk h.hd (blk_ne_type h.hd hw (by decide)) (fun e => by cases e), ⟨ex, ?_⟩, fun k hk => ?_, ?_, h.cap, h.big, h.bq, h.bs, fun k hk => ?_⟩
  · have e : qRow (x' :: tl) = qRow (x :: tl) := by unfold qRow; rw [List.map_cons, List.map_cons, hx]
    rw [e]
    exact ht.blk h1 (blk_ne_type h1 hw (by decide)) (fun e => by cases e)
  · rcases List.mem_cons.1 hk with rfl | hk
    · rw [hx]; exact hb
    · have hb2 := h.wk k (List.mem_cons_of_mem _ hk)
      exact ht.blk hb2 (fun e => hnd.1 (by rw [← e]; exact List.mem_map_of_mem hk)) (fun e => by cases e)
  · rw [List.map_cons, List.nodup_cons, hx]
    exact hnd
  · rcases List.mem_cons.1 hk with rfl | hk
    · rw [hx]; exact h.bw x (List.mem_cons_self ..)
    · exact h.bw k (List.mem_cons_of_mem _ hk)
/-- Behind a call that turned a block of cells alone. -/
theorem Qm.beside {k : Nat} {t : TypeId} {cs : List Value} (h : Qm w B gq gs c ws) (hk : Blk w k t cs) (h1 : t ≠ 83) (h2 : t ≠ 84) (h3 : t ≠ 86) (ht : Turn w w' k none) : Qm w' B gq gs c ws := by
  obtain ⟨ex, hr⟩ := h.row
  exact ⟨ht.blk h.hd (blk_ne_type h.hd hk (fun e => h1 e.symm)) (fun e => by cases e), ⟨ex, ht.blk hr (blk_ne_type hr hk (fun e => h2 e.symm)) (fun e => by cases e)⟩, fun x hx => ht.blk (h.wk x hx) (blk_ne_type (h.wk x hx) hk (fun e => h3 e.symm)) (fun e => by cases e), h.nd, h.cap, h.big, h.bq, h.bs, h.bw⟩
theorem KeepW.turned {w0 : World} {g : Nat} {cs : List Value} (h : KeepW B w0 w) (hB : B ≤ g) (hk : Blk w g 86 cs) (ht : Turn w w' g none) : KeepW B w0 w' :=
  ⟨ht.os.trans h.os, ht.tape.trans h.tape, ht.output.trans h.output, Nat.le_trans h.size ht.size, h.le, fun k hk' => by
    have hlt := Nat.lt_of_lt_of_le (h.old hk') h.size
    have hne : k ≠ g := fun e => by
      subst e
      rcases hk' with h1 | h1
      · omega
      · have he := h.block k (.inr h1)
        exact (fun hn => hn (hot_blk hk (.inr (.inr rfl)))) (fun hh => h1 ((hot_of he).1 hh))
    exact (ht.block k hlt hne (fun e => by cases e)).trans (h.block k hk')⟩
theorem KeepW.beside {w0 : World} {k : Nat} (h : KeepW B w0 w) (hk : w0.heap.size ≤ k) (ht : Turn w w' k none) : KeepW B w0 w' :=
  ⟨ht.os.trans h.os, ht.tape.trans h.tape, ht.output.trans h.output, Nat.le_trans h.size ht.size, h.le, fun i hi => by
    have hlt := h.old hi
    exact (ht.block i (Nat.lt_of_lt_of_le hlt h.size) (by omega) (fun e => by cases e)).trans (h.block i hi)⟩
end
/-- Behind a call that turned a walker alone, and behind a queue's call. -/
theorem Cc.turned {w w' : World} {g k n : Nat} {b : B4} {cs : List Ce} {l : List Value} (h : Cc w g k b cs) (hn : Blk w n 86 l) (ht : Turn w w' n none) : Cc w' g k b cs :=
  ⟨ht.blk h.blk (blk_ne_type h.blk hn (by decide)) (fun e => by cases e), ht.blk h.row (blk_ne_type h.row hn (by decide)) (fun e => by cases e), h.len, h.box⟩
theorem Cc.kept {w w' : World} {B g k : Nat} {b : B4} {cs : List Ce} (h : Cc w g k b cs) (hk : KeepW B w w') : Cc w' g k b cs :=
  ⟨hk.blk h.blk (by decide), hk.blk h.row (by decide), h.len, h.box⟩
def rowC (bx : B4) (l : List Wk) : List Ce := l.foldl (fun cs x => lineC bx cs x.from' x.to') (zerC (numB bx))
/-- A row, some of whose walkers are done. -/
def RqI (B gq gs c : Nat) (ws0 : List Wk) (y : Int) (bx : B4) (g k : Nat) (w : World) (r : Nat) (wr : World) : Prop :=
  ∃ ws don todo, todo.length = r ∧ RwW y ws0 ws don todo ∧ Qm wr B gq gs c ws ∧ HpK ws ws.length 0 ∧ Cc wr g k bx (rowC bx don) ∧ KeepW B w wr
theorem New_yes {b : B4} (h : cellE b.x0 b.y0 b.x1 b.y1 = 0) (w : World) : Calls Try.prog 55 #[.agg #[.int .i64 b.x0, .int .i64 b.y0, .int .i64 b.x1, .int .i64 b.y1]] w (NewYes b w) := by
  have := New_any b w
  unfold NewR at this
  simp only [h, if_true] at this
  exact this
set_option maxRecDepth 20000 in
set_option maxHeartbeats 4000000 in
theorem row_any {w : World} {B gq gs c : Nat} {ws0 : List Wk} (b : B4) (y : Int) (h : Qm w B gq gs c ws0) (hB : B ≤ w.heap.size) (hp : HpK ws0 ws0.length 0) (ok : ∀ k ∈ ws0, WkOk k) (ge : ∀ k ∈ ws0, y ≤ k.row)
    (hy1 : -16777216 ≤ y) (hy2 : y ≤ 16777216) (hc : cellE b.x0 y b.x1 (y + 1) = 0)
    (hin : ∀ k ∈ ws0, k.row = y → inB ⟨b.x0, y, b.x1, y + 1⟩ k.from' = true ∧ inB ⟨b.x0, y, b.x1, y + 1⟩ k.to' = true) :
    Calls Try.prog 34 #[.pointer (some ⟨gq, 0, none⟩), .agg #[.int .i64 b.x0, .int .i64 b.y0, .int .i64 b.x1, .int .i64 b.y1], .int .i64 y] w fun e w' => ∃ g k, e = .returned (.tuple #[.pointer (some ⟨g, 0, none⟩), .int .i64 0]) ∧ RqI B gq gs c ws0 y ⟨b.x0, y, b.x1, y + 1⟩ g k w 0 w' ∧ w.heap.size ≤ g ∧ w.heap.size ≤ k := by
  have s1 : IntKind.i64.wrap (y + 1) = y + 1 := IntWalk.i64_in _ (by omega)
  have HQ := Lib.hid h
  have HP := Lib.hid hp
  have HOK := Lib.hid ok
  have HGE := Lib.hid ge
  have HI := Lib.hid hin
  have HN := Lib.hid fun w => New_yes (b := ⟨b.x0, y, b.x1, y + 1⟩) hc w
  clear h hp ok ge hin hc
  go_enter Try.func34, Try.ntmps34
  go_wp2_with (first
    | (go_at_call 55; (with_reducible refine (HN.out _).mono ?_); rintro e w1 ⟨g, k, rfl, hc1, hg1, hk1, hb1⟩; have HC1 := Lib.hid hc1; have HB1 := Lib.hid hb1; clear hc1 hb1)
    | fail)
  go_loopg [] ((ws0.filter (onRow y)).length) (fun r wr => RqI B gq gs c ws0 y ⟨b.x0, y, b.x1, y + 1⟩ g k w r wr)
  case atStart =>
    have hbw : Below w.heap.size w w1 := ((Below.refl _ _).alloc (Nat.le_refl _) _).trans (HB1.out.mono (by simp))
    exact ⟨ws0, [], ws0.filter (onRow y), rfl, RwW.start HOK.out HGE.out, HQ.out.keep hbw, HP.out, HC1.out, (KeepW.refl hB).below hbw⟩
  case round =>
    obtain ⟨ws, don, todo, hr, hrw, hq, hp, hc, hk⟩ := hrel
    have hgw : w.heap.size ≤ g := by have := hg1; simp at this; omega
    have hkw : w.heap.size ≤ k := by have := hk1; simp at this; omega
    have HR := Lib.hid hr
    have HRW := Lib.hid hrw
    have HQR := Lib.hid hq
    have HPR := Lib.hid hp
    have HCR := Lib.hid hc
    have HKR := Lib.hid hk
    have q0 : wr.cell? ⟨gq, 0, none⟩ = some (.slice (some ⟨gs, 0, none⟩) ws.length c) := hq.hd.cell 0
    clear hr hrw hp hc hk hg1 hk1 HQ HP HB1 HC1 HN
    by_cases hs : ws.length = 0
    · rw [hs] at q0
      clear hq
      go_wp2_with (first
        | (go_at_call 56; (with_reducible refine (qlen_any _ _ _ _).mono ?_); rintro e w2 ⟨rfl, rfl⟩)
        | fail)
      go_ret2
      have h0 := HRW.out.stop rfl HPR.out (.inl hs)
      exact ⟨g, k, rfl, ⟨ws, don, todo, by rw [h0]; rfl, HRW.out, HQR.out, HPR.out, HCR.out, HKR.out⟩, hgw, hkw⟩
    · obtain ⟨x, hx⟩ := get_some (l := ws) (k := 0) (by omega)
      have q1 : wr.cell? ⟨gs, 0, none⟩ = some (ptrV x.g) := hq.cell hx
      have HW := Lib.hid (wrow_any (hq.walker hx))
      have hlt : (0 : Int) < (ws.length : Int) := by omega
      have hln : 0 < ws.length := by omega
      unfold ptrV at q1 HW
      have HX := Lib.hid hx
      have hbig := hq.big
      clear hq hx
      by_cases hy : x.row = y
      · rw [hy] at HW
        obtain ⟨tl, rfl⟩ : ∃ tl, ws = x :: tl := by
          cases ws with
          | nil => simp at hln
          | cons z tl => have := HX.out; rw [List.getElem?_cons_zero] at this; injection this with this; exact ⟨tl, by rw [this]⟩
        have hxm := List.mem_cons_self (a := x) (l := tl)
        have hxo := (HRW.out.mem hxm).1
        have hxt := (HRW.out.mem hxm).2.2 hy
        have hx0 := (List.mem_filter.1 (HRW.out.p1.mem_iff.2 (List.mem_append_right don hxt))).1
        have hi := HI.out x hx0 hy
        have HNX := Lib.hid (next_any (HQR.out.wk x hxm) hxo)
        have HLN := Lib.hid fun W (h : Cc W g k ⟨b.x0, y, b.x1, y + 1⟩ (rowC ⟨b.x0, y, b.x1, y + 1⟩ don)) => Line_yes h x.from' x.to' hi.1 hi.2
        have hrest : HpK (x.go :: tl) (x.go :: tl).length 1 := HpK.same (ws := x :: tl) (HPR.out.mono (Nat.zero_le 1)) fun m m0 m1 => by
          obtain ⟨m', rfl⟩ := Nat.exists_eq_add_of_lt m0
          rfl
        have HH := Lib.hid hrest
        unfold ptrV at HNX
        clear hi hrest
        by_cases hgo : x.go.l.2 < x.d.2
        · go_wp2_with (first
            | (go_at_call 56; (with_reducible refine (qlen_any _ _ _ _).mono ?_); rintro e w2 ⟨rfl, rfl⟩)
            | (go_at_call 57; (with_reducible refine HW.out.mono ?_); rintro e w3 ⟨rfl, rfl⟩)
            | (go_at_call 58; (with_reducible refine HNX.out.mono ?_); rintro e w4 ⟨rfl, hbk, ht⟩; have HQ4 := Lib.hid (HQR.out.turned (x' := x.go) hbk rfl ht); have HC4 := Lib.hid (HCR.out.turned (HQR.out.wk x hxm) ht); have HK4 := Lib.hid (HKR.out.turned (HQR.out.bw x hxm) (HQR.out.wk x hxm) ht); clear hbk ht q0 q1)
            | (go_at_call 59; have hab : Below w4.heap.size w4 ((w4.alloc (.cells #[.int .i64 x.from'.1, .int .i64 x.from'.2] 37)).alloc (.cells #[.int .i64 x.to'.1, .int .i64 x.to'.2] 37)) := ((Below.refl _ _).alloc (Nat.le_refl _) _).alloc (by simp) _; have hcb := HC4.out.keepB hab; (with_reducible refine (HLN.out _ hcb).mono ?_); rintro e w5 ⟨rfl, hc5, ht5⟩; have HQ5 := Lib.hid ((HQ4.out.keep hab).beside hcb.row (by decide) (by decide) (by decide) ht5); have HK5 := Lib.hid ((HK4.out.below hab).beside hkw ht5); have HC5 := Lib.hid hc5; have c3 : w5.cell? ⟨x.g, 3, none⟩ = some (.int .i64 x.d.2) := (HQ5.out.wk x.go (List.mem_cons_self ..)).cell 3; have c5 : w5.cell? ⟨x.g, 5, none⟩ = some (.int .i64 x.go.l.2) := (HQ5.out.wk x.go (List.mem_cons_self ..)).cell 5; clear hc5 ht5 hab hcb)
            | fail)
          go_region
          have hd5 : Below w5.heap.size w5 w5.drew := (bel_drew (bel_refl (a := w5))).below
          have HQ6 := Lib.hid (HQ5.out.keep hd5)
          have HK6 := Lib.hid (HK5.out.below hd5)
          have HC6 := Lib.hid (HC5.out.keepB hd5)
          generalize w5.drew = W6 at HQ6 HK6 HC6 ⊢
          clear c3 c5 hd5 HQ5 HK5 HC5
          go_wp2_with (first
            | (go_at_call 60; (with_reducible refine (fix_q HQ6.out rfl HH.out).mono ?_); rintro e w7 ⟨ws', rfl, hq7, hp7, hh7, hk7⟩; have HQ7 := Lib.hid hq7; have HP7 := Lib.hid hp7; have HH7 := Lib.hid hh7; have HC7 := Lib.hid (HC6.out.kept hk7); have HK7 := Lib.hid (HK6.out.trans hk7); clear hq7 hp7 hh7 hk7)
            | fail)
          have hnx : (nextW x).toList = [x.go] := by unfold nextW; rw [if_pos hgo]; rfl
          obtain ⟨todo', hw', hl'⟩ := HRW.out.step (List.Perm.refl _) hy (ws' := ws') (by rw [hnx]; exact HP7.out)
          go_roundg todo'.length
          case rel => exact ⟨ws', don ++ [x], todo', rfl, hw', HQ7.out, by rw [HP7.out.length_eq]; exact HH7.out, by unfold rowC; rw [List.foldl_append]; exact HC7.out, HK7.out⟩
          case measure => have := HR.out; omega
        · go_wp2_with (first
            | (go_at_call 56; (with_reducible refine (qlen_any _ _ _ _).mono ?_); rintro e w2 ⟨rfl, rfl⟩)
            | (go_at_call 57; (with_reducible refine HW.out.mono ?_); rintro e w3 ⟨rfl, rfl⟩)
            | (go_at_call 58; (with_reducible refine HNX.out.mono ?_); rintro e w4 ⟨rfl, hbk, ht⟩; have HQ4 := Lib.hid (HQR.out.turned (x' := x.go) hbk rfl ht); have HC4 := Lib.hid (HCR.out.turned (HQR.out.wk x hxm) ht); have HK4 := Lib.hid (HKR.out.turned (HQR.out.bw x hxm) (HQR.out.wk x hxm) ht); clear hbk ht q0 q1)
            | (go_at_call 59; have hab : Below w4.heap.size w4 ((w4.alloc (.cells #[.int .i64 x.from'.1, .int .i64 x.from'.2] 37)).alloc (.cells #[.int .i64 x.to'.1, .int .i64 x.to'.2] 37)) := ((Below.refl _ _).alloc (Nat.le_refl _) _).alloc (by simp) _; have hcb := HC4.out.keepB hab; (with_reducible refine (HLN.out _ hcb).mono ?_); rintro e w5 ⟨rfl, hc5, ht5⟩; have HQ5 := Lib.hid ((HQ4.out.keep hab).beside hcb.row (by decide) (by decide) (by decide) ht5); have HK5 := Lib.hid ((HK4.out.below hab).beside hkw ht5); have HC5 := Lib.hid hc5; have c3 : w5.cell? ⟨x.g, 3, none⟩ = some (.int .i64 x.d.2) := (HQ5.out.wk x.go (List.mem_cons_self ..)).cell 3; have c5 : w5.cell? ⟨x.g, 5, none⟩ = some (.int .i64 x.go.l.2) := (HQ5.out.wk x.go (List.mem_cons_self ..)).cell 5; clear hc5 ht5 hab hcb)
            | fail)
          go_region
          have hd5 : Below w5.heap.size w5 w5.drew := (bel_drew (bel_refl (a := w5))).below
          have HQ6 := Lib.hid (HQ5.out.keep hd5)
          have HK6 := Lib.hid (HK5.out.below hd5)
          have HC6 := Lib.hid (HC5.out.keepB hd5)
          generalize w5.drew = W6 at HQ6 HK6 HC6 ⊢
          clear c3 c5 hd5 HQ5 HK5 HC5
          have HPO := Lib.hid (pop_q (n := tl.length) HQ6.out rfl HH.out)
          go_wp2_with (first
            | (go_at_call 61; (with_reducible refine HPO.out.mono ?_); rintro e w7 ⟨v, ws', rfl, hq7, hp7, hh7, hk7⟩; have HQ7 := Lib.hid hq7; have HP7 := Lib.hid (hp7 x.go rfl).cons_inv; have HH7 := Lib.hid hh7; have HC7 := Lib.hid (HC6.out.kept hk7); have HK7 := Lib.hid (HK6.out.trans hk7); clear hq7 hp7 hh7 hk7)
            | fail)
          have hnx : (nextW x).toList = [] := by unfold nextW; rw [if_neg (Int.not_lt.2 hgo)]; rfl
          obtain ⟨todo', hw', hl'⟩ := HRW.out.step (List.Perm.refl _) hy (ws' := ws') (by rw [hnx]; exact HP7.out)
          go_roundg todo'.length
          case rel => exact ⟨ws', don ++ [x], todo', rfl, hw', HQ7.out, by rw [HP7.out.length_eq]; exact HH7.out, by unfold rowC; rw [List.foldl_append]; exact HC7.out, HK7.out⟩
          case measure => have := HR.out; omega
      · obtain ⟨z, hz⟩ : ∃ z, x.row = z := ⟨_, rfl⟩
        rw [hz] at HW hy
        go_wp2_with (first
          | (go_at_call 56; (with_reducible refine (qlen_any _ _ _ _).mono ?_); rintro e w2 ⟨rfl, rfl⟩)
          | (go_at_call 57; (with_reducible refine HW.out.mono ?_); rintro e w3 ⟨rfl, rfl⟩)
          | fail)
        go_ret2
        have h0 := HRW.out.stop rfl HPR.out (.inr (by unfold kr; rw [HX.out]; show x.row ≠ y; rw [hz]; exact hy))
        exact ⟨g, k, rfl, ⟨ws, don, todo, by rw [h0]; rfl, HRW.out, HQR.out, HPR.out, HCR.out, HKR.out⟩, hgw, hkw⟩
end Go.Proofs.Ytbflncfhbmlibaa

namespace Go.Proofs.Ytbflncfhbmlibaa
open Go.RowKit Go.Shelf

def lvl (s : Int) : Int := (255 * min (max s (-s)) 8192 + 4096) / 8192
theorem lvl_le (s : Int) : 0 ≤ lvl s ∧ lvl s ≤ 255 := by
  unfold lvl
  omega
set_option maxRecDepth 20000 in
set_option maxHeartbeats 1000000 in
theorem level_any (s : Int) (h1 : -4611686018427387904 ≤ s) (h2 : s ≤ 4611686018427387904) (w : World) : Calls Try.prog 63 #[.int .i64 s] w fun e w' => e = .returned (.int .u8 (lvl s)) ∧ w = w' := by
  have s1 : IntKind.i64.wrap (-s) = -s := IntWalk.i64_in _ (by omega)
  go_enter Try.func63, Try.ntmps63
  go_wp2_with fail
  go_ret
  exact ⟨rfl, rfl⟩
theorem grown_low {w w' : World} {B : Nat} {row : Option Nat} (h : w.grownBy w' row) (hB : B ≤ w.heap.size) (hr : ∀ k, row = some k → B ≤ k) : Below B w w' :=
  ⟨h.os, h.tape, h.output, h.size, fun k hk => h.block k (by omega) (fun e => by have := hr k e.symm; omega)⟩
def sumD (f : Int → Ce) (x0 : Int) : Nat → Int
  | 0 => 0
  | n + 1 => sumD f x0 n + (f (x0 + n)).1
def pxV (f : Int → Ce) (x0 : Int) (n : Nat) : Int := lvl (128 * sumD f x0 (n + 1) - (f (x0 + n)).2)
/-- The bytes of a row, from its cells. -/
def rowPx (f : Int → Ce) (x0 : Int) (n : Nat) : List Int := (List.range n).map (pxV f x0)
theorem rowPx_succ (f : Int → Ce) (x0 : Int) (n : Nat) : rowPx f x0 (n + 1) = rowPx f x0 n ++ [pxV f x0 n] := by
  unfold rowPx
  rw [List.range_succ, List.map_append]
  rfl
section
variable {w : World} {g k : Nat} {b : B4} {cs : List Ce}
set_option maxRecDepth 20000 in
set_option maxHeartbeats 4000000 in
theorem bytes_any (h : Cc w g k b cs) (x0 y0 y1 y : Int) (n : Nat) (h1 : -16777216 ≤ x0) (h2 : x0 + n ≤ 16777216) (h3 : n ≤ 16777216)
    (hs : ∀ j, j ≤ n → -1125899906842624 ≤ sumD (fun x => atC b cs x y) x0 j ∧ sumD (fun x => atC b cs x y) x0 j ≤ 1125899906842624)
    (ha : ∀ x, -1125899906842624 ≤ (atC b cs x y).2 ∧ (atC b cs x y).2 ≤ 1125899906842624) :
    Calls Try.prog 35 #[.pointer (some ⟨g, 0, none⟩), .agg #[.int .i64 x0, .int .i64 y0, .int .i64 (x0 + n), .int .i64 y1], .int .i64 y] w fun e w' =>
      ∃ v, e = .returned v ∧ w'.ownsRow (w.heap.size + 1) 5 1 v n ((rowPx (fun x => atC b cs x y) x0 n).map (.int .u8)) ∧ Below w.heap.size w w' := by
  have s1 : IntKind.i64.wrap (x0 + n - x0) = n := by
    have e : x0 + n - x0 = n := by omega
    rw [e]
    exact IntWalk.i64_in _ (by omega)
  obtain ⟨i0, hi0, hz0, hz1, hz2⟩ := info_parts u8_info
  have HC := Lib.hid h
  have hat := fun x w' hb => At_any (h.keepB (w' := w') hb) x y
  obtain ⟨F, hF⟩ : ∃ F : Int → Ce, ∀ x, atC b cs x y = F x := ⟨_, fun _ => rfl⟩
  simp only [hF] at hs ha hat ⊢
  have HS := Lib.hid hs
  have HA := Lib.hid ha
  have HAT := Lib.hid hat
  clear h hs ha hat
  go_enter Try.func35, Try.ntmps35
  go_wp2_with (first
    | (at_make; refine wpList_make_own _ rfl _ _ 27 rfl (w.heap.size + 1) 5 i0 _ 1 Try.underlying27 hi0 hz0 hz1 .i64 .i64 _ n rfl rfl (by simp) (by rw [hz2]; omega) (by unfold maxLen; omega) (by simp) ?_; intro w2 hown hgrow; have HO2 := Lib.hid hown; have hb2 := grown_low hgrow (Nat.le_refl _) (by intro k e; cases e); have hbx := (Blk.new w 26 [.int .i64 x0, .int .i64 y0, .int .i64 (x0 + n), .int .i64 y1]).keepB hb2; have hbw := ((Below.refl w.heap.size w).alloc (Nat.le_refl _) (.cells #[.int .i64 x0, .int .i64 y0, .int .i64 (x0 + n), .int .i64 y1] 26)).trans (hb2.mono (by simp)); have c0 : w2.cell? ⟨w.heap.size, 0, none⟩ = some (.int .i64 x0) := hbx.cell 0; have HBX := Lib.hid hbx; have HBW := Lib.hid hbw; clear hown hgrow hb2 hbx hbw))
  clear c0
  go_loopg [7, 8, 9] n (fun r o sm x wr => ∃ j, r + j = n ∧ x = .int .i64 (x0 + j) ∧ sm = .int .i64 (sumD F x0 j) ∧ Hid (wr.ownsRow (w.heap.size + 1) 5 1 o j ((rowPx F x0 j).map (.int .u8))) ∧ Hid (Blk wr w.heap.size 26 [.int .i64 x0, .int .i64 y0, .int .i64 (x0 + n), .int .i64 y1]) ∧ Hid (Below w.heap.size w wr))
  case atStart => exact ⟨0, rfl, by simp, rfl, Lib.hid (by have := HO2.out; simpa [rowPx] using this), HBX, HBW⟩
  case round =>
    obtain ⟨j, hr, rfl, rfl, HO, HX, HB⟩ := hrel
    have c2 : wr.cell? ⟨w.heap.size, 2, none⟩ = some (.int .i64 (x0 + n)) := HX.out.cell 2
    by_cases hj : j < n
    · obtain ⟨S, hS⟩ : ∃ S, sumD F x0 j = S := ⟨_, rfl⟩
      obtain ⟨⟨dn, ar⟩, hD⟩ : ∃ D, F (x0 + j) = D := ⟨_, rfl⟩
      have b1 := HS.out j (by omega)
      have b2 := HS.out (j + 1) (by omega)
      have b3 := HA.out (x0 + j)
      have e1 : sumD F x0 (j + 1) = S + dn := by show sumD F x0 j + (F (x0 + j)).1 = _; rw [hS, hD]
      have e2 : pxV F x0 j = lvl (128 * (S + dn) - ar) := by unfold pxV; rw [e1, hD]
      rw [hS] at b1
      rw [e1] at b2
      rw [hD] at b3
      dsimp only at b3
      have hat := HAT.out (x0 + j) wr HB.out
      rw [hD] at hat
      have HAT1 := Lib.hid hat
      have HL := Lib.hid fun w => level_any (128 * (S + dn) - ar) (by omega) (by omega) w
      have hps := rowPx_succ F x0 j
      rw [e2] at hps
      have HPS := Lib.hid hps
      have HE1 := Lib.hid e1
      rw [hS]
      obtain ⟨L, hL⟩ : ∃ L, lvl (128 * (S + dn) - ar) = L := ⟨_, rfl⟩
      rw [hL] at HL HPS
      clear hat hps e1 e2 hS hD hL
      obtain ⟨A0, cp0, rfl⟩ := own_slice HO.out
      go_wp2_with (first
        | (go_at_call 62; (with_reducible refine HAT1.out.mono ?_); rintro e w4 ⟨rfl, hb4⟩; have HB4 := Lib.hid hb4; have HO4 := Lib.hid ((own_keep HO.out fun k hk => hb4.block k (own_lt HO.out k hk).2).alloc (.cells #[.int .u8 L] 5)); have HX4 := Lib.hid (HX.out.keepB hb4); have HR4 := Lib.hid (reads_new w4 [.int .u8 L] 5 1 1 (by rfl)); have hz4 := hb4.size; have hxl := HX.out.lt; clear hb4)
        | (go_at_call 63; (with_reducible refine (HL.out _).mono ?_); rintro e w5 ⟨rfl, rfl⟩)
        | (at_builtin; refine wpList_append_any _ (by rfl) (.tmp 36) (.tmp 42) _ (by rfl) (w.heap.size + 1) 5 i0 _ 1 1 Try.underlying27 hi0 hz0 hz1 hz2 rfl (by omega) _ j _ (by rfl) HO4.out _ _ 1 _ _ (by rfl) HR4.out (by intro u hu; simp at hu; rcases hu with rfl; rfl) (by unfold maxLen; omega) (by omega) (by simp; omega) ?_; intro v' w5 hown5 hgrow5 hat5; have hb5 := grown_low (B := w.heap.size + 1) hgrow5 (by simp; omega) (fun k hk => (own_lt HO4.out k hk).1); have HX5 := Lib.hid ((HX4.out.alloc (.cells #[.int .u8 L] 5)).below hb5 (by omega)); have HB5 := Lib.hid (((HB.out.trans (HB4.out.mono HB.out.size)).alloc (by omega) (.cells #[.int .u8 L] 5)).trans (hb5.mono (by omega))); have HO5 := Lib.hid hown5; clear hown5 hgrow5 hat5 hb5)
        | fail)
      go_roundg (n - (j + 1))
      case rel => exact ⟨j + 1, by omega, by simp; omega, by rw [HE1.out], Lib.hid (by rw [HPS.out, List.map_append]; exact HO5.out), HX5, HB5⟩
      case measure => omega
    · obtain rfl : j = n := by omega
      go_wp2_with fail
      go_ret
      exact ⟨_, rfl, HO.out, HB.out⟩
end
end Go.Proofs.Ytbflncfhbmlibaa

namespace Go.Proofs.Ytbflncfhbmlibaa
open Go.RowKit Go.Shelf

/-- A line's walker, if it goes somewhere (block g to be). -/
def segW (g : Nat) (a d : Dt) : Option Wk := if a.2 < d.2 then some ⟨g, a, d, a, false⟩ else if d.2 < a.2 then some ⟨g, d, a, d, true⟩ else none
def bareW (k : Wk) : Wk := { k with g := 0 }
def segsW (l : List Sg) : List Wk := l.filterMap fun s => segW 0 s.1 s.2
/-- A piece and its sign. -/
abbrev SPc := Int × Pc
def lineP (s : Sg) : List SPc := (rowsR (dnA s.1 s.2) (dnB s.1 s.2) (dnA s.1 s.2)).map fun p => (dnS s.1 s.2, p)
def segsP (l : List Sg) : List SPc := l.flatMap lineP
def wkS (k : Wk) : Int := if k.tn = true then -1 else 1
/-- What a walker has still to do. -/
def wkP (k : Wk) : List SPc := (rowsR k.a k.d k.l).map fun p => (wkS k, p)
def firstP (k : Wk) : SPc := (wkS k, ⟨k.row, k.l, nextD k.a k.d k.l⟩)
theorem wkP_bare (k : Wk) : wkP (bareW k) = wkP k := rfl
theorem segW_P (g : Nat) (s : Sg) : (segW g s.1 s.2).toList.flatMap wkP = lineP s := by
  unfold segW lineP dnA dnB dnS
  by_cases h1 : s.1.2 < s.2.2
  · rw [if_pos h1, if_neg (by omega), if_neg (by omega), if_neg (by omega)]
    simp [wkP, wkS]
  · rw [if_neg h1]
    by_cases h2 : s.2.2 < s.1.2
    · rw [if_pos h2, if_pos h2, if_pos h2, if_pos h2]
      simp [wkP, wkS]
    · rw [if_neg h2, if_neg h2, if_neg h2, if_neg h2, rowsR_end (by omega)]
      rfl
theorem segsW_P : ∀ l : List Sg, (segsW l).flatMap wkP = segsP l
  | [] => rfl
  | s :: l => by
    have h := segW_P 0 s
    have ih := segsW_P l
    unfold segsW segsP at *
    rw [List.filterMap_cons, List.flatMap_cons]
    cases hs : segW 0 s.1 s.2 with
    | none =>
      rw [hs] at h
      simp only [Option.toList_none, List.flatMap_nil] at h
      rw [← h, List.nil_append]
      exact ih
    | some k =>
      rw [hs] at h
      simp only [Option.toList_some, List.flatMap_cons, List.flatMap_nil, List.append_nil] at h
      simp only [List.flatMap_cons]
      rw [h, ih]
theorem bare_P : ∀ ws : List Wk, (ws.map bareW).flatMap wkP = ws.flatMap wkP
  | [] => rfl
  | k :: ws => by rw [List.map_cons, List.flatMap_cons, List.flatMap_cons, bare_P ws, wkP_bare]
theorem wkP_step {k : Wk} (h : k.l.2 < k.d.2) : wkP k = firstP k :: (nextW k).toList.flatMap wkP := by
  unfold wkP firstP nextW
  rw [rowsR_step h, List.map_cons]
  congr 1
  by_cases h2 : k.go.l.2 < k.d.2
  · rw [if_pos h2]
    simp [Wk.go, wkS]
  · rw [if_neg h2, rowsR_end (by unfold Wk.go at h2; simpa using h2)]
    rfl
theorem rowsN_ge {a d : Dt} : ∀ (n : Nat) (last : Dt), ∀ p ∈ rowsN a d n last, last.2 / 64 ≤ p.row
  | 0, _, p, hp => by simp [rowsN] at hp
  | n + 1, last, p, hp => by
    rw [rowsN] at hp
    split at hp
    · rename_i hl
      rcases List.mem_cons.1 hp with rfl | hp
      · exact Int.le_refl _
      · have h1 := rowsN_ge n _ p hp
        have h2 := (nextD_up (a := a) hl).1
        have h3 : last.2 / 64 ≤ (nextD a d last).2 / 64 := Int.ediv_le_ediv (by omega) (Int.le_of_lt h2)
        omega
    · simp at hp
theorem wkP_ge {k : Wk} {q : SPc} (h : q ∈ wkP k) : k.row ≤ q.2.row := by
  obtain ⟨p, hp, rfl⟩ := List.mem_map.1 h
  exact rowsN_ge _ _ p hp
theorem nextW_gt {k : Wk} {q : SPc} (h : q ∈ (nextW k).toList.flatMap wkP) : k.row < q.2.row := by
  obtain ⟨x, hx, hq⟩ := List.mem_flatMap.1 h
  obtain ⟨rfl, hl⟩ := nextW_some (by simpa using hx)
  have := go_row hl
  have := wkP_ge hq
  omega
/-! ### From row to row -/
def rowP (y : Int) (q : SPc) : Bool := decide (q.2.row = y)
def fromP (y : Int) (q : SPc) : Bool := decide (y ≤ q.2.row)
theorem filter_none {α : Type} {p : α → Bool} {l : List α} (h : ∀ x ∈ l, p x = false) : l.filter p = [] := by
  rw [List.filter_eq_nil_iff]
  intro x hx
  rw [h x hx]
  decide
theorem filter_all {α : Type} {p : α → Bool} {l : List α} (h : ∀ x ∈ l, p x = true) : l.filter p = l := List.filter_eq_self.2 h
theorem don_row {y : Int} : ∀ {don : List Wk}, (∀ k ∈ don, WkOk k ∧ k.row = y) → (don.flatMap wkP).filter (rowP y) = don.map firstP
  | [], _ => rfl
  | k :: don, h => by
    obtain ⟨hk, hy⟩ := h k (List.mem_cons_self ..)
    rw [List.flatMap_cons, List.filter_append, don_row (fun x hx => h x (List.mem_cons_of_mem _ hx)), wkP_step hk.go, List.filter_cons_of_pos (by unfold rowP firstP; simpa using hy),
      filter_none (fun q hq => by have := nextW_gt hq; unfold rowP; rw [decide_eq_false_iff_not]; omega)]
    rfl
theorem don_more {y : Int} : ∀ {don : List Wk}, (∀ k ∈ don, WkOk k ∧ k.row = y) → (don.flatMap wkP).filter (fromP (y + 1)) = (don.filterMap nextW).flatMap wkP
  | [], _ => rfl
  | k :: don, h => by
    obtain ⟨hk, hy⟩ := h k (List.mem_cons_self ..)
    rw [List.flatMap_cons, List.filter_append, don_more (fun x hx => h x (List.mem_cons_of_mem _ hx)), wkP_step hk.go, List.filter_cons_of_neg (by unfold fromP firstP; simp; omega),
      filter_all (fun q hq => by have := nextW_gt hq; unfold fromP; rw [decide_eq_true_eq]; omega), List.filterMap_cons]
    cases nextW k <;> simp
theorem othP_row {y : Int} {l : List Wk} (h : ∀ k ∈ l, y < k.row) : (l.flatMap wkP).filter (rowP y) = [] := filter_none fun q hq => by
  obtain ⟨k, hk, hq⟩ := List.mem_flatMap.1 hq
  have := h k hk
  have := wkP_ge hq
  unfold rowP
  rw [decide_eq_false_iff_not]
  omega
theorem othP_more {y : Int} {l : List Wk} (h : ∀ k ∈ l, y < k.row) : (l.flatMap wkP).filter (fromP (y + 1)) = l.flatMap wkP := filter_all fun q hq => by
  obtain ⟨k, hk, hq⟩ := List.mem_flatMap.1 hq
  have := h k hk
  have := wkP_ge hq
  unfold fromP
  rw [decide_eq_true_eq]
  omega
theorem filter_two {α : Type} {p q : α → Bool} (l : List α) (h : ∀ x, p x = true → q x = true) : (l.filter q).filter p = l.filter p := by
  rw [List.filter_filter]
  congr 1
  funext x
  cases hp : p x
  · simp
  · simp [h x hp]
/-- What walkers have still to do at a row. -/
def InvP (P : List SPc) (y : Int) (ws : List Wk) : Prop := (ws.flatMap wkP).Perm (P.filter (fromP y))
theorem InvP.step {P : List SPc} {y : Int} {ws0 ws don : List Wk} (h : InvP P y ws0) (r : RwW y ws0 ws don []) : InvP P (y + 1) ws ∧ (don.map firstP).Perm (P.filter (rowP y)) ∧ (∀ k ∈ ws, WkOk k) ∧ (∀ k ∈ ws, y + 1 ≤ k.row) := by
  have h1 := (filter_parts (onRow y) ws0).symm
  have hd : ∀ k ∈ don, WkOk k ∧ k.row = y := fun k hk => r.on_don hk
  have ho : ∀ k ∈ ws0.filter (fun k => !onRow y k), y < k.row := fun k hk => by
    rw [List.mem_filter] at hk
    have := r.ge k hk.1
    have h2 := hk.2
    simp [onRow] at h2
    omega
  have p1 : (ws0.filter (onRow y)).Perm don := by simpa using r.p1
  have p2 : ws.Perm (ws0.filter (fun k => !onRow y k) ++ don.filterMap nextW) := by simpa using r.p2
  have h3 : (ws0.flatMap wkP).Perm ((ws0.filter (fun k => !onRow y k)).flatMap wkP ++ don.flatMap wkP) := by
    rw [← List.flatMap_append]
    exact (h1.trans (p1.append_left _)).flatMap_right _
  refine ⟨?_, ?_, fun k hk => (r.mem hk).1, fun k hk => ?_⟩
  · have h4 := (h3.symm.trans h).filter (fromP (y + 1))
    rw [filter_two _ (fun q hq => by unfold fromP at *; rw [decide_eq_true_eq] at *; omega), List.filter_append, othP_more ho, don_more hd, ← List.flatMap_append] at h4
    exact (p2.flatMap_right _).trans h4
  · have h4 := (h3.symm.trans h).filter (rowP y)
    rw [filter_two _ (fun q hq => by unfold fromP rowP at *; rw [decide_eq_true_eq] at *; omega), List.filter_append, othP_row ho, don_row hd, List.nil_append] at h4
    exact h4
  · have hm := r.mem hk
    have hne : k.row ≠ y := fun e => by simpa using hm.2.2 e
    have := hm.2.1
    omega
/-! ### What pieces leave -/
def pvL (f : Int → Bt → Int) (sg x : Int) (L : List Bt) : Int := (L.map fun t => if t.col = x then f sg t else 0).sum
def pv (f : Int → Bt → Int) (x y : Int) (q : SPc) : Int := if q.2.row = y then pvL f q.1 x (bitsR q.2.A q.2.B q.2.A.1 q.2.A.2) else 0
def pvs (f : Int → Bt → Int) (P : List SPc) (x y : Int) : Int := (P.map (pv f x y)).sum
theorem sum_perm {l l' : List Int} (h : l.Perm l') : l.sum = l'.sum := by
  induction h with
  | nil => rfl
  | cons x _ ih => rw [List.sum_cons, List.sum_cons, ih]
  | swap x y l => simp only [List.sum_cons]; omega
  | trans _ _ h1 h2 => exact h1.trans h2
theorem pvs_perm {f : Int → Bt → Int} {P Q : List SPc} (h : P.Perm Q) (x y : Int) : pvs f P x y = pvs f Q x y := sum_perm (h.map _)
theorem pvs_append (f : Int → Bt → Int) (P Q : List SPc) (x y : Int) : pvs f (P ++ Q) x y = pvs f P x y + pvs f Q x y := by simp [pvs]
theorem pvs_cons (f : Int → Bt → Int) (q : SPc) (Q : List SPc) (x y : Int) : pvs f (q :: Q) x y = pv f x y q + pvs f Q x y := by simp [pvs]
theorem pvs_row (f : Int → Bt → Int) (x y : Int) : ∀ P : List SPc, pvs f (P.filter (rowP y)) x y = pvs f P x y
  | [] => rfl
  | q :: P => by
    by_cases h : q.2.row = y
    · rw [List.filter_cons_of_pos (by unfold rowP; simpa using h), pvs_cons, pvs_cons, pvs_row f x y P]
    · rw [List.filter_cons_of_neg (by unfold rowP; simpa using h), pvs_cons, pvs_row f x y P]
      unfold pv
      rw [if_neg h, Int.zero_add]
def pcsC (b : B4) (cs : List Ce) (P : List SPc) : List Ce := P.foldl (fun cs q => pieceC b q.1 cs q.2) cs
theorem pcsC_ops (b : B4) : ∀ (P : List SPc) (cs : List Ce), pcsC b cs P = (P.flatMap fun q => pieceO b q.1 q.2).foldl upd cs
  | [], _ => rfl
  | q :: P, cs => by
    show pcsC b (pieceC b q.1 cs q.2) P = _
    rw [pcsC_ops b P, List.flatMap_cons, List.foldl_append, pieceO_eq]
theorem lineC_pcs (b : B4) (cs : List Ce) (s : Sg) : lineC b cs s.1 s.2 = pcsC b cs (lineP s) := by
  unfold lineC pcsC lineP
  rw [List.foldl_map]
theorem flatC_pcs (b : B4) (cs : List Ce) (ls : List (List Dt)) : flatC b cs ls = pcsC b cs (segsP (segs ls)) := by
  unfold flatC segsP
  generalize segs ls = l
  induction l generalizing cs with
  | nil => rfl
  | cons s l ih =>
    rw [List.foldl_cons, ih, List.flatMap_cons]
    unfold segC pcsC
    rw [lineC_pcs, List.foldl_append]
    rfl
theorem firstC (b : B4) (cs : List Ce) {k : Wk} (h : k.l.2 < k.d.2) : lineC b cs k.from' k.to' = pieceC b (firstP k).1 cs (firstP k).2 := by
  have h1 := nextD_up (a := k.a) h
  have h2 := nextD_top (a := k.a) (d := k.d) (last := k.l)
  obtain ⟨nd, hn⟩ : ∃ nd, nextD k.a k.d k.l = nd := ⟨_, rfl⟩
  have key : rowsR k.l nd k.l = [⟨k.l.2 / 64, k.l, nd⟩] := by
    rw [hn] at h1 h2
    have e : nextD k.l nd k.l = nd := by unfold nextD; rw [if_neg (by omega)]
    rw [rowsR_step h1.1, e, rowsR_end (Int.le_refl _)]
  rw [hn] at h1
  unfold lineC Wk.from' Wk.to' firstP wkS dnA dnB dnS Wk.row
  rw [hn]
  cases ht : k.tn
  · simp only [if_neg (show ¬ (false = true) by decide), if_neg (show ¬ nd.2 < k.l.2 by omega)]
    rw [key]
    rfl
  · simp only [if_true, if_pos h1.1]
    rw [key]
    rfl
theorem rowC_pcs {bx : B4} : ∀ {don : List Wk} (cs : List Ce), (∀ k ∈ don, WkOk k) → don.foldl (fun cs x => lineC bx cs x.from' x.to') cs = pcsC bx cs (don.map firstP)
  | [], _, _ => rfl
  | k :: don, cs, h => by
    rw [List.foldl_cons, firstC bx cs (h k (List.mem_cons_self ..)).go, rowC_pcs _ (fun x hx => h x (List.mem_cons_of_mem _ hx))]
    rfl
theorem place_inj {b : B4} (hb : BoxOk b) {x y x' y' : Int} (h : placeB b x y = true) (h' : placeB b x' y' = true) : (placeN b x y).toNat = (placeN b x' y').toNat ↔ x = x' ∧ y = y' := by
  constructor
  · intro e
    have p1 := place_bd hb h
    have p2 := place_bd hb h'
    have e2 : placeN b x y = placeN b x' y' := by omega
    unfold placeB at h h'
    rw [Bool.and_eq_true, withinB_true, withinB_true] at h h'
    have hr := place_row hb (r := (y' - b.y0).toNat) (col := x') (row := y') (by unfold placeB; rw [Bool.and_eq_true, withinB_true, withinB_true]; exact h')
    have hr2 := place_row hb (r := (y' - b.y0).toNat) (col := x) (row := y) (by unfold placeB; rw [Bool.and_eq_true, withinB_true, withinB_true]; exact h)
    have hy' : y' = b.y0 + ((y' - b.y0).toNat : Int) := by omega
    have hy : y = b.y0 + ((y' - b.y0).toNat : Int) := hr2.1 (by rw [e]; exact hr.2 hy')
    have hyy : y = y' := by omega
    subst hyy
    unfold placeN at e2
    generalize (y - b.y0) * widB b = m at e2
    omega
  · rintro ⟨rfl, rfl⟩
    rfl
theorem ops_at {b : B4} (hb : BoxOk b) {x y : Int} (h : placeB b x y = true) (f : Int → Bt → Int) (g : Op3 → Int) (hg : ∀ i sg t, g (i, bitD sg t, bitE sg t) = f sg t) (q : SPc) : sumAt g (placeN b x y).toNat (pieceO b q.1 q.2) = pv f x y q := by
  unfold pieceO pv pvL
  generalize bitsR q.2.A q.2.B q.2.A.1 q.2.A.2 = L
  induction L with
  | nil => simp [sumAt]
  | cons t L ih =>
    by_cases hp : placeB b t.col q.2.row = true
    · have h4 : bitO b q.1 q.2.row t = some ((placeN b t.col q.2.row).toNat, bitD q.1 t, bitE q.1 t) := if_pos hp
      rw [List.filterMap_cons, h4]
      show (if (placeN b t.col q.2.row).toNat = (placeN b x y).toNat then g ((placeN b t.col q.2.row).toNat, bitD q.1 t, bitE q.1 t) else 0) + sumAt g _ _ = _
      rw [ih, hg, List.map_cons, List.sum_cons]
      by_cases hr : q.2.row = y
      · rw [if_pos hr, if_pos hr]
        congr 1
        by_cases hc : t.col = x
        · rw [if_pos hc, if_pos (by rw [hc, hr])]
        · rw [if_neg hc, if_neg (fun e => hc ((place_inj hb hp h).1 e).1)]
      · rw [if_neg hr, if_neg hr, if_neg (fun e => hr ((place_inj hb hp h).1 e).2)]
        rfl
    · have h4 : bitO b q.1 q.2.row t = none := if_neg hp
      rw [List.filterMap_cons, h4, ih, List.map_cons, List.sum_cons]
      by_cases hr : q.2.row = y
      · rw [if_pos hr, if_pos hr, if_neg (fun e => hp (by rw [e, hr]; exact h)), Int.zero_add]
      · rw [if_neg hr, if_neg hr]
theorem ops_sum {b : B4} (hb : BoxOk b) {x y : Int} (h : placeB b x y = true) (f : Int → Bt → Int) (g : Op3 → Int) (hg : ∀ i sg t, g (i, bitD sg t, bitE sg t) = f sg t) : ∀ P : List SPc, sumAt g (placeN b x y).toNat (P.flatMap fun q => pieceO b q.1 q.2) = pvs f P x y
  | [] => rfl
  | q :: P => by rw [List.flatMap_cons, sumAt_append, ops_sum hb h f g hg P, ops_at hb h f g hg, pvs_cons]
/-- What lies in a pixel behind pieces. -/
theorem pcs_at {b : B4} (hb : BoxOk b) {x y : Int} (h : placeB b x y = true) (P : List SPc) : atC b (pcsC b (zerC (numB b)) P) x y = (wrap64 (pvs bitD P x y), wrap64 (pvs bitE P x y)) := by
  have hbd := place_bd hb h
  unfold atC
  rw [if_pos h, pcsC_ops, List.getD_eq_getElem?_getD, fold_at _ _ (zer_in _), ops_sum hb h bitD _ (fun _ _ _ => rfl), ops_sum hb h bitE _ (fun _ _ _ => rfl)]
  unfold zerC
  rw [List.getElem?_replicate, if_pos (by unfold numB; omega)]
  simp [addC]
theorem pcs_out {b : B4} {cs : List Ce} {x y : Int} (h : placeB b x y = false) : atC b cs x y = (0, 0) := by
  unfold atC
  rw [if_neg (by rw [h]; decide)]
end Go.Proofs.Ytbflncfhbmlibaa

namespace Go.Proofs.Ytbflncfhbmlibaa
open Go.RowKit Go.Shelf

theorem bitsN_len {a b : Dt} : ∀ (n : Nat) (u v : Int), (bitsN a b n u v).length ≤ n + 1
  | 0, u, v => by simp [bitsN]
  | n + 1, u, v => by
    rw [bitsN]
    split
    · simp
    · have := bitsN_len (a := a) (b := b) n (stepX u b.1) (zAt a b (stepX u b.1))
      simp only [List.length_cons]
      omega
theorem sum_bd {α : Type} (f : α → Int) (M : Int) : ∀ l : List α, (∀ x ∈ l, -M ≤ f x ∧ f x ≤ M) → -(l.length * M) ≤ (l.map f).sum ∧ (l.map f).sum ≤ l.length * M
  | [], _ => by simp
  | x :: l, h => by
    have h1 := sum_bd f M l (fun y hy => h y (List.mem_cons_of_mem _ hy))
    have h2 := h x (List.mem_cons_self ..)
    rw [List.map_cons, List.sum_cons, List.length_cons, Int.natCast_add, Int.add_mul]
    generalize (l.length : Int) * M = m at h1 ⊢
    omega
theorem pvL_bd {f : Int → Bt → Int} {sg x M : Int} (hM : 0 ≤ M) {L : List Bt} (h : ∀ t ∈ L, t.col = x → -M ≤ f sg t ∧ f sg t ≤ M) : -(L.length * M) ≤ pvL f sg x L ∧ pvL f sg x L ≤ L.length * M := by
  unfold pvL
  refine sum_bd _ M L fun t ht => ?_
  by_cases hc : t.col = x
  · rw [if_pos hc]
    exact h t ht hc
  · rw [if_neg hc]
    omega
/-- A piece within 6400 by 6400. -/
structure PcIn (q : SPc) : Prop where
  sg : q.1 = 1 ∨ q.1 = -1
  x : -6400 ≤ q.2.B.1 - q.2.A.1 ∧ q.2.B.1 - q.2.A.1 ≤ 6400
  y : 0 ≤ q.2.B.2 - q.2.A.2 ∧ q.2.B.2 - q.2.A.2 ≤ 64
theorem PcIn.bits {q : SPc} (h : PcIn q) : ((bitsR q.2.A q.2.B q.2.A.1 q.2.A.2).length : Int) ≤ 6401 := by
  have := bitsN_len (a := q.2.A) (b := q.2.B) (sizeI (q.2.B.1 - q.2.A.1)).toNat q.2.A.1 q.2.A.2
  have hx := h.x
  unfold bitsR
  have : (sizeI (q.2.B.1 - q.2.A.1)).toNat ≤ 6400 := by unfold sizeI; split <;> omega
  omega
theorem PcIn.d {q : SPc} (h : PcIn q) {t : Bt} (ht : t ∈ bitsR q.2.A q.2.B q.2.A.1 q.2.A.2) : -64 ≤ bitD q.1 t ∧ bitD q.1 t ≤ 64 := by
  have ho := bitsR_ok t ht
  have hv := ho.v
  have hz := ho.z
  have hy := h.y
  unfold bitD
  unfold btw at hv hz
  rcases h.sg with e | e <;> rw [e] <;> omega
theorem PcIn.e {q : SPc} (h : PcIn q) {t : Bt} (ht : t ∈ bitsR q.2.A q.2.B q.2.A.1 q.2.A.2) : -524288 ≤ bitE q.1 t ∧ bitE q.1 t ≤ 524288 := by
  have ho := bitsR_ok t ht
  have hu := ho.u
  have hw := ho.w
  have hx := h.x
  have hd := h.d ht
  have hk : -8192 ≤ t.u - t.col * 64 + t.w - t.col * 64 ∧ t.u - t.col * 64 + t.w - t.col * 64 ≤ 8192 := by
    unfold Bt.col
    unfold btw at hu hw
    omega
  have := mul_bdd (a := bitD q.1 t) (b := t.u - t.col * 64 + t.w - t.col * 64) (A := 64) (B := 8192) hd.1 hd.2 hk.1 hk.2
  unfold bitE
  omega
theorem pvL_d {q : SPc} (h : PcIn q) (x : Int) : -524288 ≤ pvL bitD q.1 x (bitsR q.2.A q.2.B q.2.A.1 q.2.A.2) ∧ pvL bitD q.1 x (bitsR q.2.A q.2.B q.2.A.1 q.2.A.2) ≤ 524288 := by
  have h1 := pvL_bd (f := bitD) (sg := q.1) (x := x) (M := 64) (by omega) (fun t ht _ => h.d ht)
  have h2 := h.bits
  omega
theorem pvL_e {q : SPc} (h : PcIn q) (x : Int) : -4294967296 ≤ pvL bitE q.1 x (bitsR q.2.A q.2.B q.2.A.1 q.2.A.2) ∧ pvL bitE q.1 x (bitsR q.2.A q.2.B q.2.A.1 q.2.A.2) ≤ 4294967296 := by
  have h1 := pvL_bd (f := bitE) (sg := q.1) (x := x) (M := 524288) (by omega) (fun t ht _ => h.e ht)
  have h2 := h.bits
  omega
/-- Of a line's pieces at most one lies in a row. -/
theorem rows_bd {f : Int → Bt → Int} {sg x y M : Int} (hM : 0 ≤ M) {a d : Dt} : ∀ (n : Nat) (last : Dt), (∀ p ∈ rowsN a d n last, -M ≤ pv f x y (sg, p) ∧ pv f x y (sg, p) ≤ M) → (∀ p ∈ rowsN a d n last, last.2 / 64 ≤ p.row) →
    -M ≤ pvs f ((rowsN a d n last).map fun p => (sg, p)) x y ∧ pvs f ((rowsN a d n last).map fun p => (sg, p)) x y ≤ M
  | 0, last, _, _ => by simp [rowsN, pvs]; omega
  | n + 1, last, h, hr => by
    rw [rowsN] at h ⊢
    split
    · rename_i hl
      rw [if_pos hl] at h
      rw [List.map_cons, pvs_cons]
      have h0 := h _ (List.mem_cons_self ..)
      by_cases hy : last.2 / 64 = y
      · have hz : pvs f ((rowsN a d n (nextD a d last)).map fun p => (sg, p)) x y = 0 := by
          by_cases hg : (nextD a d last).2 < d.2
          · have hrow : last.2 / 64 < (nextD a d last).2 / 64 := by
              unfold nextD at hg ⊢
              split at hg
              · rename_i h1
                rw [if_pos h1]
                dsimp only
                omega
              · omega
            have hall : ∀ l : List Pc, (∀ p ∈ l, y < p.row) → pvs f (l.map fun p => (sg, p)) x y = 0 := by
              intro l
              induction l with
              | nil => intro _; rfl
              | cons p l ih =>
                intro h2
                rw [List.map_cons, pvs_cons, ih (fun p hp => h2 p (List.mem_cons_of_mem _ hp))]
                unfold pv
                rw [if_neg (by have := h2 p (List.mem_cons_self ..); dsimp only; omega)]
                rfl
            exact hall _ fun p hp => by have := rowsN_ge n _ p hp; omega
          · cases n with
            | zero => simp [rowsN, pvs]
            | succ n => rw [rowsN, if_neg hg]; rfl
        rw [hz]
        omega
      · have h1 : pv f x y (sg, (⟨last.2 / 64, last, nextD a d last⟩ : Pc)) = 0 := by unfold pv; rw [if_neg hy]
        rw [h1, Int.zero_add]
        exact rows_bd hM n _ (fun p hp => h p (List.mem_cons_of_mem _ hp)) (rowsN_ge n _)
    · simp [pvs]; omega
def inLs (b : B4) (l : List Sg) : Prop := ∀ s ∈ l, inB b s.1 = true ∧ inB b s.2 = true
theorem dn_inB {b : B4} {s : Sg} (h : inB b s.1 = true ∧ inB b s.2 = true) : inB b (dnA s.1 s.2) = true ∧ inB b (dnB s.1 s.2) = true := by
  unfold dnA dnB
  split
  · exact ⟨h.2, h.1⟩
  · exact h
theorem way_in {b : B4} {a d p : Dt} (ha : inB b a = true) (hd : inB b d = true) (h : onWay a d p) : inB b p = true := by
  rw [inB_true] at *
  obtain ⟨h1, h2, h3⟩ := h
  unfold btw at h3
  omega
theorem lineP_in {b : B4} (hx : b.x1 - b.x0 ≤ 100) {s : Sg} (h : inB b s.1 = true ∧ inB b s.2 = true) : ∀ q ∈ lineP s, PcIn q := by
  intro q hq
  obtain ⟨p, hp, rfl⟩ := List.mem_map.1 hq
  obtain ⟨ha, hd⟩ := dn_inB h
  have ho := rowsR_ok (onWay_start (dn_le s.1 s.2)) p hp
  have hA := inB_true.1 (way_in ha hd ho.A)
  have hB := inB_true.1 (way_in ha hd ho.B)
  refine ⟨by unfold dnS; dsimp only; split <;> omega, by dsimp only; omega, ?_⟩
  have h1 := ho.up
  have h2 := ho.top
  have h3 := ho.row
  dsimp only
  omega
theorem line_bd {f : Int → Bt → Int} {M : Int} (hM : 0 ≤ M) (hf : ∀ q : SPc, PcIn q → ∀ x, -M ≤ pvL f q.1 x (bitsR q.2.A q.2.B q.2.A.1 q.2.A.2) ∧ pvL f q.1 x (bitsR q.2.A q.2.B q.2.A.1 q.2.A.2) ≤ M) {b : B4} (hx : b.x1 - b.x0 ≤ 100) {s : Sg} (h : inB b s.1 = true ∧ inB b s.2 = true) (x y : Int) :
    -M ≤ pvs f (lineP s) x y ∧ pvs f (lineP s) x y ≤ M := by
  have hq := lineP_in hx h
  unfold lineP at hq ⊢
  unfold rowsR at hq ⊢
  refine rows_bd hM _ _ (fun p hp => ?_) (rowsN_ge _ _)
  have := hf _ (hq _ (List.mem_map_of_mem hp)) x
  unfold pv
  split
  · exact this
  · omega
theorem segs_bd {f : Int → Bt → Int} {M : Int} (hM : 0 ≤ M) (hf : ∀ q : SPc, PcIn q → ∀ x, -M ≤ pvL f q.1 x (bitsR q.2.A q.2.B q.2.A.1 q.2.A.2) ∧ pvL f q.1 x (bitsR q.2.A q.2.B q.2.A.1 q.2.A.2) ≤ M) {b : B4} (hx : b.x1 - b.x0 ≤ 100) (x y : Int) : ∀ {l : List Sg}, inLs b l →
    -(l.length * M) ≤ pvs f (segsP l) x y ∧ pvs f (segsP l) x y ≤ l.length * M
  | [], _ => by simp [segsP, pvs]
  | s :: l, h => by
    have h1 := segs_bd hM hf hx x y (l := l) (fun s hs => h s (List.mem_cons_of_mem _ hs))
    have h2 := line_bd hM hf hx (h s (List.mem_cons_self ..)) x y
    unfold segsP at h1 ⊢
    rw [List.flatMap_cons, pvs_append, List.length_cons, Int.natCast_add, Int.add_mul]
    generalize (l.length : Int) * M = m at h1 ⊢
    omega
def celF (P : List SPc) (y : Int) (x : Int) : Ce := (pvs bitD P x y, pvs bitE P x y)
theorem pix_bd {b : B4} (hx : b.x1 - b.x0 ≤ 100) {l : List Sg} (h : inLs b l) (hl : l.length ≤ 1000) (x y : Int) :
    (-524288000 ≤ pvs bitD (segsP l) x y ∧ pvs bitD (segsP l) x y ≤ 524288000) ∧ (-4294967296000 ≤ pvs bitE (segsP l) x y ∧ pvs bitE (segsP l) x y ≤ 4294967296000) := by
  have h1 := segs_bd (M := 524288) (by omega) (fun q hq x => pvL_d hq x) hx x y h
  have h2 := segs_bd (M := 4294967296) (by omega) (fun q hq x => pvL_e hq x) hx x y h
  omega
theorem sumD_bd (f : Int → Ce) (x0 M : Int) (hM : 0 ≤ M) (h : ∀ x, -M ≤ (f x).1 ∧ (f x).1 ≤ M) : ∀ n : Nat, -(n * M) ≤ sumD f x0 n ∧ sumD f x0 n ≤ n * M
  | 0 => by simp [sumD]
  | n + 1 => by
    have h1 := sumD_bd f x0 M hM h n
    have h2 := h (x0 + n)
    rw [sumD, Int.natCast_add, Int.add_mul]
    generalize (n : Int) * M = m at h1 ⊢
    omega
theorem sumD_same {f g : Int → Ce} {x0 : Int} : ∀ {n : Nat}, (∀ j : Nat, j < n → f (x0 + j) = g (x0 + j)) → sumD f x0 n = sumD g x0 n
  | 0, _ => rfl
  | n + 1, h => by rw [sumD, sumD, sumD_same (fun j hj => h j (by omega)), h n (Nat.lt_succ_self n)]
theorem rowPx_same {f g : Int → Ce} {x0 : Int} {n : Nat} (h : ∀ j : Nat, j < n → f (x0 + j) = g (x0 + j)) : rowPx f x0 n = rowPx g x0 n := by
  unfold rowPx
  refine List.map_congr_left fun j hj => ?_
  rw [List.mem_range] at hj
  unfold pxV
  rw [sumD_same (fun i hi => h i (by omega)), h j hj]
/-- The first k rows of a mask. -/
def rowsM (b : B4) (P : List SPc) (k : Nat) : List Int := (List.range k).flatMap fun (j : Nat) => rowPx (celF P (b.y0 + j)) b.x0 (b.x1 - b.x0).toNat
theorem rowsM_succ (b : B4) (P : List SPc) (k : Nat) : rowsM b P (k + 1) = rowsM b P k ++ rowPx (celF P (b.y0 + k)) b.x0 (b.x1 - b.x0).toNat := by
  unfold rowsM
  rw [List.range_succ, List.flatMap_append]
  simp
def maskM (b : B4) (P : List SPc) : List Int := rowsM b P (b.y1 - b.y0).toNat
theorem rowPx_len (f : Int → Ce) (x0 : Int) (n : Nat) : (rowPx f x0 n).length = n := by simp [rowPx]
theorem rowsM_len (b : B4) (P : List SPc) : ∀ k, (rowsM b P k).length = k * (b.x1 - b.x0).toNat
  | 0 => by simp [rowsM]
  | k + 1 => by rw [rowsM_succ, List.length_append, rowsM_len b P k, rowPx_len, Nat.succ_mul]
end Go.Proofs.Ytbflncfhbmlibaa

namespace Go.Proofs.Ytbflncfhbmlibaa
open Go.RowKit Go.Shelf

/-- The queue while it is filled. -/
structure WqI (w wr : World) (ws : List Wk) : Prop where
  own : ∃ v, Blk wr (w.heap.size + 1) 83 [v] ∧ wr.ownsRow w.heap.size 84 1 v ws.length (qRow ws) ∧ v.ownBlock ≠ some (w.heap.size + 1) ∧ v.ownBlock ≠ none
  wk : ∀ k ∈ ws, Blk wr k.g 86 (wkC k) ∧ w.heap.size + 1 < k.g
  nd : (ws.map Wk.g).Nodup
  bel : Below w.heap.size w wr
theorem wkp_info : (Try.prog.info? 84).map (fun i => (i.zero, i.size, i.bytes)) = some (some (.pointer none), 1, 8) := by kernel_rfl
theorem WqI.start (w : World) : WqI w ((w.alloc (.cells #[] 84)).alloc (.cells #[.slice (some ⟨w.heap.size, 0, none⟩) 0 0] 83)) [] := by
  refine ⟨⟨_, Blk.newAt _ _ [_] (by simp), ⟨rfl, .inr ⟨w.heap.size, 0, #[], rfl, Nat.le_refl _, (Blk.new w 84 []).alloc _, Nat.le_refl _, by unfold maxLen; omega, rfl, rfl⟩⟩, by simp [Value.ownBlock], by simp [Value.ownBlock]⟩, by simp, by simp, ((Below.refl _ _).alloc (Nat.le_refl _) _).alloc (by simp) _⟩
theorem WqI.keep {w wr wr' : World} {ws : List Wk} (h : WqI w wr ws) (hb : Below wr.heap.size wr wr') : WqI w wr' ws := by
  obtain ⟨v, h1, h2, h3, h4⟩ := h.own
  exact ⟨⟨v, h1.keepB hb, own_keep h2 fun k hk => hb.block k (own_lt h2 k hk).2, h3, h4⟩, fun k hk => ⟨(h.wk k hk).1.keepB hb, (h.wk k hk).2⟩, h.nd, h.bel.trans (hb.mono h.bel.size)⟩
theorem Below.setOne {B : Nat} {w w' : World} (h : Below B w w') {p : Addr} (hp : B ≤ p.block) (v : Value) : Below B w (w'.setCell p v) :=
  ⟨h.os, h.tape, h.output, by have := h.size; simpa [World.setCell] using this, fun k hk => (Below.heap_setCell _ _ _ _ (by omega)).trans (h.block k hk)⟩
theorem own_typed {w : World} {B : Nat} {e : TypeId} {v : Value} {n : Nat} {xs : List Value} {size : Nat} (h : w.ownsRow B e size v n xs) : ∀ b, v.ownBlock = some b → ∃ cs, w.heap[b]? = some (.cells cs e (0, 0)) := by
  intro b hb
  rcases h.2 with ⟨rfl, _⟩ | ⟨g, cap, cur, rfl, _, hg, _⟩
  · simp [Value.ownBlock] at hb
  · simp [Value.ownBlock] at hb
    subst hb
    exact ⟨cur, hg⟩
theorem own_blk_ne {w : World} {B : Nat} {e : TypeId} {v : Value} {n : Nat} {xs : List Value} {size : Nat} (h : w.ownsRow B e size v n xs) {b : Nat} {t : TypeId} {cs : List Value} (hb : Blk w b t cs) (ht : t ≠ e) : v.ownBlock ≠ some b := fun e2 => by
  obtain ⟨c2, hc⟩ := own_typed h b e2
  unfold Blk at hb
  rw [hb] at hc
  injection hc with hc
  injection hc with _ hc
  exact ht hc
/-- One walker more, behind an append. -/
theorem WqI.push {w W W1 w7 : World} {ws : List Wk} {k : Wk} {v v' : Value} {n : Nat} (h : WqI w W ws) (hk : W.heap.size ≤ k.g) (hb : Below W.heap.size W W1) (hkb : Blk W1 k.g 86 (wkC k))
    (hown : W1.ownsRow w.heap.size 84 1 v ws.length (qRow ws)) (hv : Blk W1 (w.heap.size + 1) 83 [v]) (hvn : v.ownBlock ≠ none)
    (hg : W1.grownBy w7 v.ownBlock) (hown' : w7.ownsRow w.heap.size 84 1 v' n (qRow ws ++ [ptrV k.g])) (hn : n = ws.length + 1) (hat : v'.ownBlock = v.ownBlock ∨ v'.ownBlock = some W1.heap.size) :
    WqI w (w7.setCell ⟨w.heap.size + 1, 0, none⟩ v') (ws ++ [k]) := by
  subst hn
  obtain ⟨v0, hv0, _, _, _⟩ := h.own
  have hq := hv0.lt
  have hz := hb.size
  have n0 : v.ownBlock ≠ some (w.heap.size + 1) := own_blk_ne hown hv (by decide)
  have n1 : v'.ownBlock ≠ some (w.heap.size + 1) := fun e => by
    rcases hat with e2 | e2
    · exact n0 (e2.symm.trans e)
    · rw [e2] at e
      injection e with e
      omega
  have hk7 : ∀ x : Wk, Blk W1 x.g 86 (wkC x) → w.heap.size + 1 < x.g → Blk (w7.setCell ⟨w.heap.size + 1, 0, none⟩ v') x.g 86 (wkC x) := fun x hx hlt => by
    have h1 : Blk w7 x.g 86 (wkC x) := (hg.block _ hx.lt (fun e => own_blk_ne hown hx (by decide) e.symm)).trans hx
    exact h1.far (by show x.g ≠ w.heap.size + 1; omega) _
  refine ⟨⟨v', ?_, ?_, n1, ?_⟩, fun x hx => ?_, ?_, ?_⟩
  · have h1 : Blk w7 (w.heap.size + 1) 83 [v] := (hg.block _ hv.lt (fun e => n0 e.symm)).trans hv
    exact h1.set 0 v'
  · rw [List.length_append, show qRow (ws ++ [k]) = qRow ws ++ [ptrV k.g] by unfold qRow; simp]
    exact own_keep hown' fun b hb2 => Below.heap_setCell _ _ _ _ (fun e => n1 (by rw [hb2, e]))
  · rcases hat with e2 | e2
    · rw [e2]; exact hvn
    · rw [e2]; simp
  · rcases List.mem_append.1 hx with hx | hx
    · exact ⟨hk7 x ((h.wk x hx).1.keepB hb) (h.wk x hx).2, (h.wk x hx).2⟩
    · rw [List.mem_singleton] at hx
      subst hx
      have hlt : w.heap.size + 1 < x.g := by omega
      exact ⟨hk7 x hkb hlt, hlt⟩
  · rw [List.map_append, List.nodup_append]
    refine ⟨h.nd, by simp, fun a ha b hb2 e => ?_⟩
    obtain ⟨x, hx, rfl⟩ := List.mem_map.1 ha
    simp only [List.map_cons, List.map_nil, List.mem_singleton] at hb2
    have := (h.wk x hx).1.lt
    omega
  · have h1 : Below w.heap.size W1 w7 := ⟨hg.os, hg.tape, hg.output, hg.size, fun b hb2 => hg.block b (by omega) (fun e => by have := (own_lt hown b e.symm).1; omega)⟩
    exact Below.setOne ((h.bel.trans (hb.mono (by omega))).trans h1) (Nat.le_succ _) _
theorem segsW_len (l : List Sg) : (segsW l).length ≤ l.length := List.length_filterMap_le _ _
theorem flat_segs_len : ∀ l : List (List Dt), (l.flatMap segsOf).length = cnt l
  | [] => rfl
  | c :: l => by
    rw [List.flatMap_cons, List.length_append, flat_segs_len l, segsOf_len]
    unfold cnt
    simp
theorem pre_segs_len {ls : List (List Dt)} {k j : Nat} {cl : List Dt} (h : ls[k]? = some cl) : ((ls.take k).flatMap segsOf ++ (segsOf cl).take j).length ≤ cnt ls := by
  have h1 := cnt_snoc h
  have h2 := cnt_take ls (k + 1)
  rw [List.length_append, flat_segs_len, List.length_take, segsOf_len]
  omega
theorem WqI.qm {w wr : World} {ws : List Wk} (h : WqI w wr ws) (hl : ws.length ≤ 1000) : ∃ gs c, Qm wr w.heap.size (w.heap.size + 1) gs c ws := by
  obtain ⟨v, h1, h2, h3, h4⟩ := h.own
  rcases h2.2 with ⟨rfl, _⟩ | ⟨g, cap, cur, rfl, hg, hc, hn, _, hs, ht⟩
  · exact absurd rfl h4
  · refine ⟨g, cap, h1, ⟨cur.toList.drop ws.length, ?_⟩, fun k hk => (h.wk k hk).1, h.nd, hn, by omega, Nat.le_succ _, hg, fun k hk => by have := (h.wk k hk).2; omega⟩
    rw [← ht, Nat.mul_one, List.take_append_drop]
    exact hc
theorem segs_flat (ls : List (List Dt)) : ls.flatMap segsOf = segs ls := rfl
end Go.Proofs.Ytbflncfhbmlibaa

namespace Go.Proofs.Ytbflncfhbmlibaa
open Go.RowKit Go.Shelf

def markL (L : Nat → Bool) (i : Nat) : Nat → Bool := fun j => if j = i then true else L j
def cntU (L : Nat → Bool) : Nat → Nat
  | 0 => 0
  | n + 1 => cntU L n + if L n = true then 0 else 1
theorem cntU_le (L : Nat → Bool) : ∀ n, cntU L n ≤ n
  | 0 => Nat.le_refl _
  | n + 1 => by have := cntU_le L n; unfold cntU; split <;> omega
theorem cntU_zero {L : Nat → Bool} : ∀ {n : Nat}, cntU L n = 0 → ∀ i, i < n → L i = true
  | 0, _, i, hi => by omega
  | n + 1, h, i, hi => by
    unfold cntU at h
    by_cases hn : L n = true
    · rw [if_pos hn] at h
      by_cases e : i = n
      · rw [e]; exact hn
      · exact cntU_zero (n := n) (by omega) i (by omega)
    · rw [if_neg hn] at h
      omega
theorem cntU_far {L : Nat → Bool} {i : Nat} : ∀ {n : Nat}, n ≤ i → cntU (markL L i) n = cntU L n
  | 0, _ => rfl
  | n + 1, h => by
    unfold cntU
    rw [cntU_far (n := n) (by omega), show markL L i n = L n by unfold markL; rw [if_neg (by omega)]]
theorem cntU_mark {L : Nat → Bool} {i : Nat} (hi : L i = false) : ∀ {n : Nat}, i < n → cntU (markL L i) n + 1 = cntU L n
  | 0, h => by omega
  | n + 1, h => by
    unfold cntU
    by_cases e : i = n
    · subst e
      rw [cntU_far (Nat.le_refl _), show markL L i i = true by unfold markL; rw [if_pos rfl], hi]
      simp
    · have := cntU_mark hi (n := n) (by omega)
      rw [show markL L i n = L n by unfold markL; rw [if_neg (fun e2 => e e2.symm)]]
      omega
def depB (ops : Array Oper) (i j : Nat) : Bool :=
  match ops[i]? with
  | some o => o.after.toList.any fun e => Region.binds .any e && e.on == j
  | none => false
def ordB (ops : Array Oper) : Bool := (List.range ops.size).all fun i => match ops[i]? with
  | some o => o.after.toList.all fun e => decide (e.on < i)
  | none => true
section
variable {P : Program} {F : Fence} {n : Nat} {ops : Array Oper} {Q : Exit → Act → World → Prop}
theorem wpOpIn_run {i : Nat} {o : Oper} {a : Act} {w w' : World} {K : Act → World → Prop} (hF : Free F P) (ho : ops[i]? = some o) (hd : noDefer o = true) (hg : o.guard = none) {v : Value} (h : (execOp a.eval o).run P w = .ok (.value v) w')
    (hk : K (a.put o.dst v) w') : wpOpIn F n P ops Q i K a w := by
  have hw : Region.wanted o (yielded ops a.tmps) = true := by simp [Region.wanted, hg]
  unfold wpOpIn
  simp only [ho]
  rw [if_pos hw]
  refine ⟨fun f _ => hF.1 f, ?_⟩
  rw [Oper.semAt_plain _ _ _ (noDefer_ne hd), h]
  exact hk
theorem wpOpIn_skip {i : Nat} {o : Oper} {a : Act} {w w' : World} {K : Act → World → Prop} (hF : Free F P) (ho : ops[i]? = some o) (hd : noDefer o = true) (hg : o.guard = none) (h : (execOp a.eval o).run P w = .ok .skip w')
    (hk : K (a.put o.dst undef) w') : wpOpIn F n P ops Q i K a w := by
  have hw : Region.wanted o (yielded ops a.tmps) = true := by simp [Region.wanted, hg]
  unfold wpOpIn
  simp only [ho]
  rw [if_pos hw]
  refine ⟨fun f _ => hF.1 f, ?_⟩
  rw [Oper.semAt_plain _ _ _ (noDefer_ne hd), h]
  exact hk
/-- What holds at first and is kept by every operation whose elders are done holds at the end. -/
theorem anyIn_inv (Inv : (Nat → Bool) → Act → World → Prop) (hord : ordB ops = true)
    (hstep : ∀ (L : Nat → Bool) (a : Act) (w : World) (i : Nat), i < ops.size → Inv L a w → L i = false → (∀ j, depB ops i j = true → L j = true) → wpOpIn F n P ops Q i (Inv (markL L i)) a w)
    (hend : ∀ (L : Nat → Bool) (a : Act) (w : World), Inv L a w → (∀ i, i < ops.size → L i = true) → Q .normal a w) :
    ∀ (fuel : Nat) (listed : Array Bool) (a : Act) (w : World), listed.size = ops.size → cntU (fun j => listed.getD j false) ops.size ≤ fuel → Inv (fun j => listed.getD j false) a w → wpAnyIn F n P .any ops Q fuel listed a w := by
  intro fuel
  induction fuel with
  | zero =>
    intro listed a w hs hc hi
    have hall := cntU_zero (L := fun j => listed.getD j false) (n := ops.size) (by omega)
    refine ⟨?_, hend _ a w hi hall⟩
    unfold Region.ready
    rw [List.filter_eq_nil_iff]
    intro i hi2
    rw [List.mem_range] at hi2
    have := hall i hi2
    rw [show listed.getD i true = true by
      have h2 : listed.getD i true = listed.getD i false := by
        rw [Array.getD_eq_getD_getElem?, Array.getD_eq_getD_getElem?, Array.getElem?_eq_getElem (by omega)]
        rfl
      rw [h2]; exact this]
    simp
  | succ fuel ih =>
    intro listed a w hs hc hi
    refine ⟨fun hr => ?_, fun i hir => ?_⟩
    · refine hend _ a w hi ?_
      intro i
      induction i using Nat.strongRecOn with
      | _ i ihi =>
        intro hlt
        by_cases hl : listed.getD i false = true
        · exact hl
        · exfalso
          have hmem : i ∈ Region.ready .any ops listed := by
            unfold Region.ready
            rw [List.mem_filter, List.mem_range]
            refine ⟨hlt, ?_⟩
            have hl2 : listed.getD i true = false := by
              have h2 : listed.getD i true = listed.getD i false := by
                rw [Array.getD_eq_getD_getElem?, Array.getD_eq_getD_getElem?, Array.getElem?_eq_getElem (by omega)]
                rfl
              rw [h2]; simpa using hl
            have ho : ops[i]? = some ops[i] := Array.getElem?_eq_getElem hlt
            rw [hl2, ho]
            simp only [Bool.not_false, Bool.true_and, Option.map_some, Option.getD_some]
            rw [Array.all_eq_true]
            intro j hj
            have hord2 := hord
            unfold ordB at hord2
            rw [List.all_eq_true] at hord2
            have h3 := hord2 i (List.mem_range.2 hlt)
            rw [ho] at h3
            simp only [List.all_eq_true, decide_eq_true_eq] at h3
            have h4 := h3 (ops[i].after[j]) (by simp)
            have h5 := ihi _ h4 (by omega)
            simp only [h5, Bool.or_true]
          rw [hr] at hmem
          cases hmem
    · unfold Region.ready at hir
      rw [List.mem_filter, List.mem_range] at hir
      obtain ⟨hlt, hcond⟩ := hir
      have ho : ops[i]? = some ops[i] := Array.getElem?_eq_getElem hlt
      rw [ho] at hcond
      simp only [Option.map_some, Option.getD_some, Bool.and_eq_true, Bool.not_eq_true'] at hcond
      have hl2 : listed.getD i false = false := by
        have h2 : listed.getD i true = listed.getD i false := by
          rw [Array.getD_eq_getD_getElem?, Array.getD_eq_getD_getElem?, Array.getElem?_eq_getElem (by omega)]
          rfl
        rw [← h2]; exact hcond.1
      have hdep : ∀ j, depB ops i j = true → listed.getD j false = true := by
        intro j hj
        unfold depB at hj
        rw [ho] at hj
        simp only [List.any_eq_true, Bool.and_eq_true, beq_iff_eq] at hj
        obtain ⟨e, he, hb, rfl⟩ := hj
        have h3 := hcond.2
        rw [Array.all_eq_true] at h3
        obtain ⟨k, hk, rfl⟩ := List.getElem_of_mem he
        have h4 := h3 k (by simpa using hk)
        simp only [Array.getElem_toList] at hb ⊢
        rw [hb] at h4
        simpa using h4
      refine wpOpIn_mono (fun a' w' h' => ?_) (hstep _ a w i hlt hi hl2 hdep)
      have hfun : (fun j => (listed.setIfInBounds i true).getD j false) = markL (fun j => listed.getD j false) i := by
        funext j
        unfold markL
        rw [Array.getD_eq_getD_getElem?]
        by_cases e : j = i
        · subst e
          rw [if_pos rfl, Array.getElem?_setIfInBounds_self_of_lt (by omega)]
          rfl
        · rw [if_neg e, Array.getElem?_setIfInBounds_ne (fun e2 => e e2.symm)]
          show _ = listed.getD j false
          rw [Array.getD_eq_getD_getElem?]
      refine ih _ a' w' (by simpa using hs) ?_ (by rw [hfun]; exact h')
      rw [hfun]
      have := cntU_mark (L := fun j => listed.getD j false) hl2 hlt
      omega
theorem wpIn_region_inv {id : Nat} {a : Act} {w : World} (Inv : (Nat → Bool) → Act → World → Prop) (hm : P.follows .mixedOrders = true) (hord : ordB ops = true)
    (hstep : ∀ (L : Nat → Bool) (a : Act) (w : World) (i : Nat), i < ops.size → Inv L a w → L i = false → (∀ j, depB ops i j = true → L j = true) → wpOpIn F n P ops Q i (Inv (markL L i)) a w)
    (hend : ∀ (L : Nat → Bool) (a : Act) (w : World), Inv L a w → (∀ i, i < ops.size → L i = true) → Q .normal a w)
    (h0 : Inv (fun _ => false) a w.drew) : (Code.region id ops true).wpIn F n P Q a w := by
  refine wpIn_region_any hm (anyIn_inv Inv hord hstep hend _ _ _ _ (by simp) (cntU_le _ _) ?_)
  have hfun : (fun j => (Array.replicate ops.size false).getD j false) = fun _ => false := by
    funext j
    rw [Array.getD_eq_getD_getElem?, Array.getElem?_replicate]
    split <;> rfl
  rw [hfun]
  exact h0
end
/-! ### Slots -/
/-- What lies in the slots of operations that are done (slot m + i is operation i's, for i < r). -/
structure Slots (S m r : Nat) (L : Nat → Bool) (val : Nat → Value) (a : Act) : Prop where
  size : a.tmps.size = S
  get : ∀ i, i < r → L i = true → a.eval (.tmp (m + i)) = val i
def updV (val : Nat → Value) (i : Nat) (v : Value) : Nat → Value := fun j => if j = i then v else val j
theorem updV_same (val : Nat → Value) (i : Nat) (v : Value) : updV val i v i = v := if_pos rfl
theorem updV_ne (val : Nat → Value) {i j : Nat} (v : Value) (h : j ≠ i) : updV val i v j = val j := if_neg h
theorem Slots.put {S m r : Nat} {L : Nat → Bool} {val : Nat → Value} {a : Act} (h : Slots S m r L val a) {i : Nat} (v : Value) (hS : m + i < S) : Slots S m r (markL L i) (updV val i v) (a.put (some (m + i)) v) := by
  refine ⟨by simp [Act.put, h.size], fun j hj hl => ?_⟩
  by_cases e : j = i
  · subst e
    rw [updV_same, Act.eval_put_same _ _ _ (by rw [h.size]; exact hS)]
  · rw [updV_ne _ _ e, Act.eval_put_ne _ _ _ _ (by omega)]
    exact h.get j hj (by unfold markL at hl; rwa [if_neg e] at hl)
theorem Slots.none {S m r : Nat} {L : Nat → Bool} {val : Nat → Value} {a : Act} (h : Slots S m r L val a) {i : Nat} (v : Value) (hi : r ≤ i) : Slots S m r (markL L i) val (a.put none v) :=
  ⟨h.size, fun j hj hl => h.get j hj (by unfold markL at hl; rwa [if_neg (by omega)] at hl)⟩
end Go.Proofs.Ytbflncfhbmlibaa

namespace Go.Proofs.Ytbflncfhbmlibaa
open Go.RowKit Go.Shelf

theorem int_info2 : (Try.prog.info? 3).map (fun i => (i.zero, i.size, i.bytes)) = some (some (.int .i64 0), 1, 8) := by kernel_rfl
section
variable {a : Act} {w : World}
theorem run_ld_sl {o : Oper} {t : Tmp} {b k : Nat} {v : Value} (ho : o.op = .load 76 (.tmp t)) (he : a.eval (.tmp t) = .pointer (some ⟨b, k, none⟩)) (hc : w.cell? ⟨b, k, none⟩ = some v) :
    (execOp a.eval o).run Try.prog w = .ok (.value v) w := by
  unfold execOp
  generalize a.eval = ρ at *
  simp [ho, he, hc, go_sem]
theorem run_ld_int {o : Oper} {t : Tmp} {b k : Nat} {v : Value} (ho : o.op = .load 3 (.tmp t)) (he : a.eval (.tmp t) = .pointer (some ⟨b, k, none⟩)) (hc : w.cell? ⟨b, k, none⟩ = some v) :
    (execOp a.eval o).run Try.prog w = .ok (.value v) w := by
  unfold execOp
  generalize a.eval = ρ at *
  simp [ho, he, hc, go_sem]
theorem run_fa {o : Oper} {t : Tmp} {b k : Nat} (hk : k < 2) (ho : o.op = .fieldAddr 37 (.tmp t) k) (he : a.eval (.tmp t) = .pointer (some ⟨b, 0, none⟩)) :
    (execOp a.eval o).run Try.prog w = .ok (.value (.pointer (some ⟨b, k, none⟩))) w := by
  unfold execOp
  generalize a.eval = ρ at *
  have : k = 0 ∨ k = 1 := by omega
  rcases this with rfl | rfl <;> simp [ho, he, go_sem]
theorem run_bs {o : Oper} {t : Tmp} {x : Int} (ho : o.op = .buildSlice 76 1 #[(0, .tmp t)]) (he : a.eval (.tmp t) = .int .i64 x) :
    (execOp a.eval o).run Try.prog w = .ok (.value (.slice (some ⟨w.heap.size, 0, none⟩) 1 1)) (w.alloc (.cells #[.int .i64 x] 3)) := by
  unfold execOp
  generalize a.eval = ρ at *
  simp [ho, he, go_sem]
theorem run_st_sl {o : Oper} {t s : Tmp} {b : Nat} {u v : Value} (ho : o.op = .store 76 (.tmp t) (.tmp s)) (he : a.eval (.tmp t) = .pointer (some ⟨b, 0, none⟩)) (hv : a.eval (.tmp s) = v) (hs : ∃ A n c, v = .slice A n c) (hc : w.cell? ⟨b, 0, none⟩ = some u) (hf : w.frozen? ⟨b, 0, none⟩ = false) :
    (execOp a.eval o).run Try.prog w = .ok .skip (w.setCell ⟨b, 0, none⟩ v) := by
  unfold execOp
  generalize a.eval = ρ at *
  obtain ⟨A, n, c, rfl⟩ := hs
  simp [ho, he, hv, hc, hf, go_sem]
set_option maxRecDepth 20000 in
theorem run_ap {o : Oper} {s x : Tmp} {N : Nat} {v : Value} {n g : Nat} {xs : List Value} {z : Int} (ho : o.op = .call { callee := .builtin .append, args := #[.tmp s, .tmp x], argTypes := #[76, 76] })
    (hs : a.eval (.tmp s) = v) (hown : w.ownsRow N 3 1 v n xs) (hx : a.eval (.tmp x) = .slice (some ⟨g, 0, none⟩) 1 1) (hg : Blk w g 3 [.int .i64 z]) (hn : n ≤ 100000) (hN : N ≤ w.heap.size) :
    ∃ v' w', (execOp a.eval o).run Try.prog w = .ok (.value v') w' ∧ w'.ownsRow N 3 1 v' (n + 1) (xs ++ [.int .i64 z]) ∧ w.grownBy w' v.ownBlock ∧ (v'.ownBlock = v.ownBlock ∨ v'.ownBlock = some w.heap.size) := by
  obtain ⟨i0, hi0, hz0, hz1, hz2⟩ := info_parts int_info2
  obtain ⟨v', w', hrun, h2, h3, h4⟩ := run_append_any (P := Try.prog) w N 76 o.type 3 i0 _ 1 8 Try.underlying76 hi0 hz0 hz1 hz2 rfl (by omega) v n xs hown w.heap.size (some ⟨g, 0, none⟩) 1 1 [.int .i64 z]
    ⟨rfl, fun _ => ⟨_, rfl, hg.lt, fun j u hu => by
      cases j with
      | zero => injection hu with hu; subst hu; exact hg.cell 0
      | succ j => simp at hu⟩⟩ (by intro u hu; simp at hu; subst hu; rfl) (by unfold maxLen; omega) (by omega) hN
  refine ⟨v', w', ?_, h2, h3, h4⟩
  unfold execOp
  simp only [ho, resolve, invoke, builtin, Sem.run_bind, Sem.run_pure, Result.andThen_ok, List.map_toArray, List.map_cons, List.map_nil, hs, hx, hrun]
end

/-- What holds between the operations. -/
structure TwW (N M bx bz db : Nat) (vA vC : Value) (k : Nat) (xs ys : List Int) (x y : Int) (w0 : World) (L : Nat → Bool) (val : Nat → Value) (w : World) : Prop where
  l0 : L 0 = true → val 0 = vA
  l1 : L 1 = true → val 1 = .pointer (some ⟨db, 0, none⟩)
  l2 : L 2 = true → val 2 = .int .i64 x
  l3 : L 3 = true → ∃ g, val 3 = .slice (some ⟨g, 0, none⟩) 1 1 ∧ M ≤ g ∧ Blk w g 3 [.int .i64 x]
  l5 : L 5 = true → val 5 = vC
  l6 : L 6 = true → val 6 = .pointer (some ⟨db, 1, none⟩)
  l7 : L 7 = true → val 7 = .int .i64 y
  l8 : L 8 = true → ∃ g, val 8 = .slice (some ⟨g, 0, none⟩) 1 1 ∧ M ≤ g ∧ Blk w g 3 [.int .i64 y]
  c4 : L 4 = true → L 0 = true
  c5 : L 9 = true → L 5 = true
  c9 : L 9 = true → L 4 = true
  c10 : L 10 = true → L 9 = true
  c11 : L 11 = true → L 10 = true
  r0 : L 4 = false → w.ownsRow N 3 1 vA k (xs.map (.int .i64))
  r4 : L 4 = true → w.ownsRow N 3 1 (val 4) (k + 1) (xs.map (.int .i64) ++ [.int .i64 x]) ∧ (∀ r, (val 4).ownBlock = some r → vA.ownBlock = some r ∨ M ≤ r)
  s0 : L 9 = false → w.ownsRow N 3 1 vC k (ys.map (.int .i64))
  s9 : L 9 = true → w.ownsRow N 3 1 (val 9) (k + 1) (ys.map (.int .i64) ++ [.int .i64 y])
  ne : L 9 = true → ∀ r, (val 4).ownBlock = some r → (val 9).ownBlock ≠ some r
  b0 : L 10 = false → Blk w bx 76 [vA]
  b10 : L 10 = true → Blk w bx 76 [val 4]
  b1 : L 11 = false → Blk w bz 76 [vC]
  b11 : L 11 = true → Blk w bz 76 [val 9]
  bd : Blk w db 37 [.int .i64 x, .int .i64 y]
  keep : Below N w0 w
  oth : KeepsOthers w0 w
  le : M ≤ w.heap.size
section
variable {N M bx bz db : Nat} {vA vC : Value} {k : Nat} {xs ys : List Int} {x y : Int} {w0 : World} {L : Nat → Bool} {val : Nat → Value} {w : World}
theorem keepsOthers_grown {W W' : World} {B n s : Nat} {e : TypeId} {v : Value} {xs : List Value} (hg : W.grownBy W' v.ownBlock) (h : W.ownsRow B e s v n xs) : KeepsOthers W W' :=
  ⟨hg.size, fun k o ho hc => (hg.block k (Array.getElem?_eq_some_iff.1 ho).1 (fun e2 => by
    obtain ⟨cs, h2⟩ := own_typed h k e2.symm
    rw [ho] at h2
    injection h2 with h2
    rw [h2] at hc
    cases hc)).trans ho⟩
theorem grown_blk {W W' : World} {B n s : Nat} {e t : TypeId} {v : Value} {xs cs : List Value} {b : Nat} (hg : W.grownBy W' v.ownBlock) (h : W.ownsRow B e s v n xs) (hb : Blk W b t cs) (hne : t ≠ e) : Blk W' b t cs :=
  (hg.block _ hb.lt (fun e2 => own_blk_ne h hb hne e2.symm)).trans hb
theorem grown_far {W W' : World} {t : TypeId} {v : Value} {cs : List Value} {b : Nat} (hg : W.grownBy W' v.ownBlock) (hb : Blk W b t cs) (hne : v.ownBlock ≠ some b) : Blk W' b t cs :=
  (hg.block _ hb.lt (fun e2 => hne e2.symm)).trans hb
theorem grown_own {W W' : World} {B n s : Nat} {e : TypeId} {v u : Value} {xs : List Value} (hg : W.grownBy W' v.ownBlock) (h : W.ownsRow B e s u n xs) (hne : ∀ r, u.ownBlock = some r → v.ownBlock ≠ some r) : W'.ownsRow B e s u n xs :=
  own_keep h fun b hb => hg.block b (own_lt h b hb).2 (fun e2 => hne b hb e2.symm)
theorem set_own {W : World} {B n s b : Nat} {e t : TypeId} {u v : Value} {xs cs : List Value} (h : W.ownsRow B e s u n xs) (hb : Blk W b t cs) (hne : t ≠ e) : (W.setCell ⟨b, 0, none⟩ v).ownsRow B e s u n xs :=
  own_keep h fun k hk => Below.heap_setCell _ _ _ _ (fun e2 => own_blk_ne h hb hne (by rw [hk, e2]))
theorem TwW.o0 (h : TwW N M bx bz db vA vC k xs ys x y w0 L val w) : TwW N M bx bz db vA vC k xs ys x y w0 (markL L 0) (updV val 0 (vA)) (w) := by
  exact ⟨(fun _ => rfl),
    (h.l1),
    (h.l2),
    (h.l3),
    (h.l5),
    (h.l6),
    (h.l7),
    (h.l8),
    (fun _ => rfl),
    (h.c5),
    (h.c9),
    (h.c10),
    (h.c11),
    (h.r0),
    (h.r4),
    (h.s0),
    (h.s9),
    (h.ne),
    (h.b0),
    (h.b10),
    (h.b1),
    (h.b11),
    (h.bd),
    (h.keep),
    (h.oth),
    (h.le)⟩
theorem TwW.o1 (h : TwW N M bx bz db vA vC k xs ys x y w0 L val w) : TwW N M bx bz db vA vC k xs ys x y w0 (markL L 1) (updV val 1 (.pointer (some ⟨db, 0, none⟩))) (w) := by
  exact ⟨(h.l0),
    (fun _ => rfl),
    (h.l2),
    (h.l3),
    (h.l5),
    (h.l6),
    (h.l7),
    (h.l8),
    (h.c4),
    (h.c5),
    (h.c9),
    (h.c10),
    (h.c11),
    (h.r0),
    (h.r4),
    (h.s0),
    (h.s9),
    (h.ne),
    (h.b0),
    (h.b10),
    (h.b1),
    (h.b11),
    (h.bd),
    (h.keep),
    (h.oth),
    (h.le)⟩
theorem TwW.o2 (h : TwW N M bx bz db vA vC k xs ys x y w0 L val w) : TwW N M bx bz db vA vC k xs ys x y w0 (markL L 2) (updV val 2 (.int .i64 x)) (w) := by
  exact ⟨(h.l0),
    (h.l1),
    (fun _ => rfl),
    (h.l3),
    (h.l5),
    (h.l6),
    (h.l7),
    (h.l8),
    (h.c4),
    (h.c5),
    (h.c9),
    (h.c10),
    (h.c11),
    (h.r0),
    (h.r4),
    (h.s0),
    (h.s9),
    (h.ne),
    (h.b0),
    (h.b10),
    (h.b1),
    (h.b11),
    (h.bd),
    (h.keep),
    (h.oth),
    (h.le)⟩
theorem TwW.o5 (h : TwW N M bx bz db vA vC k xs ys x y w0 L val w) : TwW N M bx bz db vA vC k xs ys x y w0 (markL L 5) (updV val 5 (vC)) (w) := by
  exact ⟨(h.l0),
    (h.l1),
    (h.l2),
    (h.l3),
    (fun _ => rfl),
    (h.l6),
    (h.l7),
    (h.l8),
    (h.c4),
    (fun _ => rfl),
    (h.c9),
    (h.c10),
    (h.c11),
    (h.r0),
    (h.r4),
    (h.s0),
    (h.s9),
    (h.ne),
    (h.b0),
    (h.b10),
    (h.b1),
    (h.b11),
    (h.bd),
    (h.keep),
    (h.oth),
    (h.le)⟩
theorem TwW.o6 (h : TwW N M bx bz db vA vC k xs ys x y w0 L val w) : TwW N M bx bz db vA vC k xs ys x y w0 (markL L 6) (updV val 6 (.pointer (some ⟨db, 1, none⟩))) (w) := by
  exact ⟨(h.l0),
    (h.l1),
    (h.l2),
    (h.l3),
    (h.l5),
    (fun _ => rfl),
    (h.l7),
    (h.l8),
    (h.c4),
    (h.c5),
    (h.c9),
    (h.c10),
    (h.c11),
    (h.r0),
    (h.r4),
    (h.s0),
    (h.s9),
    (h.ne),
    (h.b0),
    (h.b10),
    (h.b1),
    (h.b11),
    (h.bd),
    (h.keep),
    (h.oth),
    (h.le)⟩
theorem TwW.o7 (h : TwW N M bx bz db vA vC k xs ys x y w0 L val w) : TwW N M bx bz db vA vC k xs ys x y w0 (markL L 7) (updV val 7 (.int .i64 y)) (w) := by
  exact ⟨(h.l0),
    (h.l1),
    (h.l2),
    (h.l3),
    (h.l5),
    (h.l6),
    (fun _ => rfl),
    (h.l8),
    (h.c4),
    (h.c5),
    (h.c9),
    (h.c10),
    (h.c11),
    (h.r0),
    (h.r4),
    (h.s0),
    (h.s9),
    (h.ne),
    (h.b0),
    (h.b10),
    (h.b1),
    (h.b11),
    (h.bd),
    (h.keep),
    (h.oth),
    (h.le)⟩
theorem TwW.o3 (h : TwW N M bx bz db vA vC k xs ys x y w0 L val w) (hN : N ≤ w.heap.size) : TwW N M bx bz db vA vC k xs ys x y w0 (markL L 3) (updV val 3 (.slice (some ⟨w.heap.size, 0, none⟩) 1 1)) (w.alloc (.cells #[.int .i64 x] 3)) := by
  exact ⟨(h.l0),
    (h.l1),
    (h.l2),
    (fun _ => ⟨_, rfl, h.le, Blk.new w 3 [_]⟩),
    (h.l5),
    (h.l6),
    (h.l7),
    (fun hl => let ⟨g, e, hm, hb⟩ := h.l8 hl; ⟨g, e, hm, hb.alloc _⟩),
    (h.c4),
    (h.c5),
    (h.c9),
    (h.c10),
    (h.c11),
    (fun hl => (h.r0 hl).alloc _),
    (fun hl => ⟨(h.r4 hl).1.alloc _, (h.r4 hl).2⟩),
    (fun hl => (h.s0 hl).alloc _),
    (fun hl => (h.s9 hl).alloc _),
    (h.ne),
    (fun hl => (h.b0 hl).alloc _),
    (fun hl => (h.b10 hl).alloc _),
    (fun hl => (h.b1 hl).alloc _),
    (fun hl => (h.b11 hl).alloc _),
    (h.bd.alloc _),
    (h.keep.alloc hN _),
    (h.oth.trans (keepsOthers_below ((Below.refl _ _).alloc (Nat.le_refl _) _))),
    (by rw [World.size_alloc]; exact Nat.le_succ_of_le h.le)⟩
theorem TwW.o8 (h : TwW N M bx bz db vA vC k xs ys x y w0 L val w) (hN : N ≤ w.heap.size) : TwW N M bx bz db vA vC k xs ys x y w0 (markL L 8) (updV val 8 (.slice (some ⟨w.heap.size, 0, none⟩) 1 1)) (w.alloc (.cells #[.int .i64 y] 3)) := by
  exact ⟨(h.l0),
    (h.l1),
    (h.l2),
    (fun hl => let ⟨g, e, hm, hb⟩ := h.l3 hl; ⟨g, e, hm, hb.alloc _⟩),
    (h.l5),
    (h.l6),
    (h.l7),
    (fun _ => ⟨_, rfl, h.le, Blk.new w 3 [_]⟩),
    (h.c4),
    (h.c5),
    (h.c9),
    (h.c10),
    (h.c11),
    (fun hl => (h.r0 hl).alloc _),
    (fun hl => ⟨(h.r4 hl).1.alloc _, (h.r4 hl).2⟩),
    (fun hl => (h.s0 hl).alloc _),
    (fun hl => (h.s9 hl).alloc _),
    (h.ne),
    (fun hl => (h.b0 hl).alloc _),
    (fun hl => (h.b10 hl).alloc _),
    (fun hl => (h.b1 hl).alloc _),
    (fun hl => (h.b11 hl).alloc _),
    (h.bd.alloc _),
    (h.keep.alloc hN _),
    (h.oth.trans (keepsOthers_below ((Below.refl _ _).alloc (Nat.le_refl _) _))),
    (by rw [World.size_alloc]; exact Nat.le_succ_of_le h.le)⟩
theorem TwW.o4 (h : TwW N M bx bz db vA vC k xs ys x y w0 L val w) (h0 : L 0 = true) (h4 : L 4 = false) (h9 : L 9 = false) (hN : N ≤ w.heap.size) (hA : ∀ r, vA.ownBlock = some r → r < M) (hD : ∀ r, vA.ownBlock = some r → vC.ownBlock ≠ some r) {v' : Value} {w' : World} (h1 : w'.ownsRow N 3 1 v' (k + 1) (xs.map (.int .i64) ++ [.int .i64 x])) (hg : w.grownBy w' vA.ownBlock) (hr : v'.ownBlock = vA.ownBlock ∨ v'.ownBlock = some w.heap.size) : TwW N M bx bz db vA vC k xs ys x y w0 (markL L 4) (updV val 4 v') (w') := by
  exact ⟨(h.l0),
    (h.l1),
    (h.l2),
    (fun hl => let ⟨g, e, hm, hb⟩ := h.l3 hl; ⟨g, e, hm, grown_far hg hb (fun e2 => by have := hA g e2; omega)⟩),
    (h.l5),
    (h.l6),
    (h.l7),
    (fun hl => let ⟨g, e, hm, hb⟩ := h.l8 hl; ⟨g, e, hm, grown_far hg hb (fun e2 => by have := hA g e2; omega)⟩),
    (fun _ => h0),
    (h.c5),
    (fun _ => rfl),
    (h.c10),
    (h.c11),
    (fun hl => by cases hl),
    (fun _ => ⟨h1, fun r hr2 => by
      have hr3 : v'.ownBlock = some r := hr2
      rcases hr with e | e
      · exact .inl (by rw [← e]; exact hr3)
      · rw [e] at hr3; injection hr3 with hr3; exact .inr (by rw [← hr3]; exact h.le)⟩),
    (fun hl => grown_own hg (h.s0 hl) (fun r hr2 e => hD r e hr2)),
    (fun hl => by rw [show markL L 4 9 = L 9 from rfl, h9] at hl; cases hl),
    (fun hl => by rw [show markL L 4 9 = L 9 from rfl, h9] at hl; cases hl),
    (fun hl => grown_blk hg (h.r0 h4) (h.b0 hl) (by decide)),
    (fun hl => by have := h.c10 hl; rw [h9] at this; cases this),
    (fun hl => grown_blk hg (h.r0 h4) (h.b1 hl) (by decide)),
    (fun hl => grown_blk hg (h.r0 h4) (h.b11 hl) (by decide)),
    (grown_blk hg (h.r0 h4) h.bd (by decide)),
    (h.keep.trans (grown_low hg hN (fun r e => (own_lt (h.r0 h4) r e).1))),
    (h.oth.trans (keepsOthers_grown hg (h.r0 h4))),
    (Nat.le_trans h.le hg.size)⟩
theorem TwW.o9 (h : TwW N M bx bz db vA vC k xs ys x y w0 L val w) (h5 : L 5 = true) (h4 : L 4 = true) (h9 : L 9 = false) (hN : N ≤ w.heap.size) (hC : ∀ r, vC.ownBlock = some r → r < M) (hD : ∀ r, vA.ownBlock = some r → vC.ownBlock ≠ some r) {v' : Value} {w' : World} (h1 : w'.ownsRow N 3 1 v' (k + 1) (ys.map (.int .i64) ++ [.int .i64 y])) (hg : w.grownBy w' vC.ownBlock) (hr : v'.ownBlock = vC.ownBlock ∨ v'.ownBlock = some w.heap.size) : TwW N M bx bz db vA vC k xs ys x y w0 (markL L 9) (updV val 9 v') (w') := by
  have hX : ∀ r, (val 4).ownBlock = some r → vC.ownBlock ≠ some r := fun r hr2 e => by
    rcases (h.r4 h4).2 r hr2 with e2 | e2
    · exact hD r e2 e
    · have := hC r e; omega
  exact ⟨(h.l0),
    (h.l1),
    (h.l2),
    (fun hl => let ⟨g, e, hm, hb⟩ := h.l3 hl; ⟨g, e, hm, grown_far hg hb (fun e2 => by have := hC g e2; omega)⟩),
    (h.l5),
    (h.l6),
    (h.l7),
    (fun hl => let ⟨g, e, hm, hb⟩ := h.l8 hl; ⟨g, e, hm, grown_far hg hb (fun e2 => by have := hC g e2; omega)⟩),
    (h.c4),
    (fun _ => h5),
    (fun _ => h4),
    (fun _ => rfl),
    (h.c11),
    (fun hl => by rw [show markL L 9 4 = L 4 from rfl, h4] at hl; cases hl),
    (fun hl => ⟨grown_own hg (h.r4 h4).1 hX, (h.r4 h4).2⟩),
    (fun hl => by cases hl),
    (fun _ => h1),
    (fun _ r hr2 e2 => by
      have e3 : v'.ownBlock = some r := e2
      have hr3 : (val 4).ownBlock = some r := hr2
      rcases hr with e | e
      · exact hX r hr3 (by rw [← e]; exact e3)
      · rw [e] at e3; injection e3 with e3; have := (own_lt (h.r4 h4).1 r hr3).2; omega),
    (fun hl => grown_blk hg (h.s0 h9) (h.b0 hl) (by decide)),
    (fun hl => grown_blk hg (h.s0 h9) (h.b10 hl) (by decide)),
    (fun hl => grown_blk hg (h.s0 h9) (h.b1 hl) (by decide)),
    (fun hl => by have := h.c10 (h.c11 hl); rw [h9] at this; cases this),
    (grown_blk hg (h.s0 h9) h.bd (by decide)),
    (h.keep.trans (grown_low hg hN (fun r e => (own_lt (h.s0 h9) r e).1))),
    (h.oth.trans (keepsOthers_grown hg (h.s0 h9))),
    (Nat.le_trans h.le hg.size)⟩
theorem TwW.o10 (h : TwW N M bx bz db vA vC k xs ys x y w0 L val w) (h9 : L 9 = true) (hB : Blk w bx 76 [vA]) (hb1 : N ≤ bx) (hne : bz ≠ bx) : TwW N M bx bz db vA vC k xs ys x y w0 (markL L 10) (val) (w.setCell ⟨bx, 0, none⟩ (val 4)) := by
  exact ⟨(h.l0),
    (h.l1),
    (h.l2),
    (fun hl => let ⟨g, e, hm, hb⟩ := h.l3 hl; ⟨g, e, hm, hb.far (blk_ne_type hb hB (by decide)) _⟩),
    (h.l5),
    (h.l6),
    (h.l7),
    (fun hl => let ⟨g, e, hm, hb⟩ := h.l8 hl; ⟨g, e, hm, hb.far (blk_ne_type hb hB (by decide)) _⟩),
    (h.c4),
    (h.c5),
    (h.c9),
    (fun _ => h9),
    (fun _ => rfl),
    (fun hl => set_own (h.r0 hl) hB (by decide)),
    (fun hl => ⟨set_own (h.r4 hl).1 hB (by decide), (h.r4 hl).2⟩),
    (fun hl => set_own (h.s0 hl) hB (by decide)),
    (fun hl => set_own (h.s9 hl) hB (by decide)),
    (h.ne),
    (fun hl => by cases hl),
    (fun _ => hB.set 0 _),
    (fun hl => (h.b1 hl).far hne _),
    (fun hl => (h.b11 hl).far hne _),
    (h.bd.far (blk_ne_type h.bd hB (by decide)) _),
    (Below.setOne h.keep hb1 _),
    (h.oth.trans (KeepsOthers.setCell _ _ _)),
    (by simpa [World.setCell] using h.le)⟩
theorem TwW.o11 (h : TwW N M bx bz db vA vC k xs ys x y w0 L val w) (h9 : L 10 = true) (hB : Blk w bz 76 [vC]) (hb1 : N ≤ bz) (hne : bx ≠ bz) : TwW N M bx bz db vA vC k xs ys x y w0 (markL L 11) (val) (w.setCell ⟨bz, 0, none⟩ (val 9)) := by
  exact ⟨(h.l0),
    (h.l1),
    (h.l2),
    (fun hl => let ⟨g, e, hm, hb⟩ := h.l3 hl; ⟨g, e, hm, hb.far (blk_ne_type hb hB (by decide)) _⟩),
    (h.l5),
    (h.l6),
    (h.l7),
    (fun hl => let ⟨g, e, hm, hb⟩ := h.l8 hl; ⟨g, e, hm, hb.far (blk_ne_type hb hB (by decide)) _⟩),
    (h.c4),
    (h.c5),
    (h.c9),
    (h.c10),
    (fun _ => h9),
    (fun hl => set_own (h.r0 hl) hB (by decide)),
    (fun hl => ⟨set_own (h.r4 hl).1 hB (by decide), (h.r4 hl).2⟩),
    (fun hl => set_own (h.s0 hl) hB (by decide)),
    (fun hl => set_own (h.s9 hl) hB (by decide)),
    (h.ne),
    (fun hl => (h.b0 hl).far hne _),
    (fun hl => (h.b10 hl).far hne _),
    (fun hl => by cases hl),
    (fun _ => hB.set 0 _),
    (h.bd.far (blk_ne_type h.bd hB (by decide)) _),
    (Below.setOne h.keep hb1 _),
    (h.oth.trans (KeepsOthers.setCell _ _ _)),
    (by simpa [World.setCell] using h.le)⟩
end
/-- The region's operations. -/
structure BoxOps (ops : Array Oper) : Prop where
  size : ops.size = 12
  ord : ordB ops = true
  o0 : ∃ o, ops[0]? = some o ∧ o.dst = some 20 ∧ o.guard = none ∧ o.op = .load 76 (.tmp 5)
  o1 : ∃ o, ops[1]? = some o ∧ o.dst = some 21 ∧ o.guard = none ∧ o.op = .fieldAddr 37 (.tmp 7) 0
  o2 : ∃ o, ops[2]? = some o ∧ o.dst = some 22 ∧ o.guard = none ∧ o.op = .load 3 (.tmp 21)
  o3 : ∃ o, ops[3]? = some o ∧ o.dst = some 23 ∧ o.guard = none ∧ o.op = .buildSlice 76 1 #[(0, .tmp 22)]
  o4 : ∃ o, ops[4]? = some o ∧ o.dst = some 24 ∧ o.guard = none ∧ o.op = .call { callee := .builtin .append, args := #[.tmp 20, .tmp 23], argTypes := #[76, 76] }
  o5 : ∃ o, ops[5]? = some o ∧ o.dst = some 25 ∧ o.guard = none ∧ o.op = .load 76 (.tmp 6)
  o6 : ∃ o, ops[6]? = some o ∧ o.dst = some 26 ∧ o.guard = none ∧ o.op = .fieldAddr 37 (.tmp 7) 1
  o7 : ∃ o, ops[7]? = some o ∧ o.dst = some 27 ∧ o.guard = none ∧ o.op = .load 3 (.tmp 26)
  o8 : ∃ o, ops[8]? = some o ∧ o.dst = some 28 ∧ o.guard = none ∧ o.op = .buildSlice 76 1 #[(0, .tmp 27)]
  o9 : ∃ o, ops[9]? = some o ∧ o.dst = some 29 ∧ o.guard = none ∧ o.op = .call { callee := .builtin .append, args := #[.tmp 25, .tmp 28], argTypes := #[76, 76] }
  o10 : ∃ o, ops[10]? = some o ∧ o.dst = none ∧ o.guard = none ∧ o.op = .store 76 (.tmp 5) (.tmp 24)
  o11 : ∃ o, ops[11]? = some o ∧ o.dst = none ∧ o.guard = none ∧ o.op = .store 76 (.tmp 6) (.tmp 29)
  d2_1 : depB ops 2 1 = true
  d3_2 : depB ops 3 2 = true
  d4_0 : depB ops 4 0 = true
  d4_3 : depB ops 4 3 = true
  d7_6 : depB ops 7 6 = true
  d8_7 : depB ops 8 7 = true
  d9_5 : depB ops 9 5 = true
  d9_8 : depB ops 9 8 = true
  d9_4 : depB ops 9 4 = true
  d10_4 : depB ops 10 4 = true
  d10_9 : depB ops 10 9 = true
  d11_9 : depB ops 11 9 = true
  d11_10 : depB ops 11 10 = true
/-- The slots, and the variables' addresses. -/
def BoxI (N M bx bz db : Nat) (vA vC : Value) (k : Nat) (xs ys : List Int) (x y : Int) (w0 : World) (L : Nat → Bool) (a : Act) (w : World) : Prop :=
  ∃ val, Slots 57 20 10 L val a ∧ (a.eval (.tmp 5) = .pointer (some ⟨bx, 0, none⟩) ∧ a.eval (.tmp 6) = .pointer (some ⟨bz, 0, none⟩) ∧ a.eval (.tmp 7) = .pointer (some ⟨db, 0, none⟩)) ∧ TwW N M bx bz db vA vC k xs ys x y w0 L val w
theorem own_sl {w : World} {B : Nat} {e : TypeId} {v : Value} {n : Nat} {xs : List Value} {size : Nat} (h : w.ownsRow B e size v n xs) : ∃ A m c, v = .slice A m c := by
  obtain ⟨A, c, e⟩ := own_slice h
  exact ⟨A, n, c, e⟩
theorem box_region {F : Fence} {n id : Nat} {Q : Exit → Act → World → Prop} {ops : Array Oper} {a : Act} {w : World} (hF : Free F Try.prog) (B : BoxOps ops) (hs : a.tmps.size = 57)
    {N bx bz db k : Nat} {vA vC : Value} {xs ys : List Int} {x y : Int} (e5 : a.eval (.tmp 5) = .pointer (some ⟨bx, 0, none⟩)) (e6 : a.eval (.tmp 6) = .pointer (some ⟨bz, 0, none⟩)) (e7 : a.eval (.tmp 7) = .pointer (some ⟨db, 0, none⟩))
    (hA : w.ownsRow N 3 1 vA k (xs.map (.int .i64))) (hC : w.ownsRow N 3 1 vC k (ys.map (.int .i64))) (hD : ∀ r, vA.ownBlock = some r → vC.ownBlock ≠ some r) (hbx : Blk w bx 76 [vA]) (hbz : Blk w bz 76 [vC]) (hbd : Blk w db 37 [.int .i64 x, .int .i64 y])
    (nx : N ≤ bx) (nz : N ≤ bz) (ne : bx ≠ bz) (hk : k ≤ 100000)
    (hQ : ∀ a' w' v u, w'.ownsRow N 3 1 v (k + 1) ((xs ++ [x]).map (.int .i64)) → w'.ownsRow N 3 1 u (k + 1) ((ys ++ [y]).map (.int .i64)) → (∀ r, v.ownBlock = some r → u.ownBlock ≠ some r) → Blk w' bx 76 [v] → Blk w' bz 76 [u] → Below N w w' → KeepsOthers w w' → Q .normal a' w') :
    (Code.region id ops true).wpIn F n Try.prog Q a w := by
  have hNw : N ≤ w.heap.size := by have := hbx.lt; omega
  have hA2 : ∀ r, vA.ownBlock = some r → r < w.heap.size := fun r e => (own_lt hA r e).2
  have hC2 : ∀ r, vC.ownBlock = some r → r < w.heap.size := fun r e => (own_lt hC r e).2
  refine wpIn_region_inv (BoxI N w.heap.size bx bz db vA vC k xs ys x y w) (by kernel_rfl) B.ord ?_ ?_ ?_
  · rintro L a w1 i hi ⟨val, hs, ⟨e5, e6, e7⟩, h⟩ hl hd
    rw [B.size] at hi
    have hN : N ≤ w1.heap.size := Nat.le_trans hNw h.le
    have put : ∀ (d : Nat) (v : Value), 20 ≤ d → (a.put (some d) v).eval (.tmp 5) = .pointer (some ⟨bx, 0, none⟩) ∧ (a.put (some d) v).eval (.tmp 6) = .pointer (some ⟨bz, 0, none⟩) ∧ (a.put (some d) v).eval (.tmp 7) = .pointer (some ⟨db, 0, none⟩) := fun d v hd => by
      rw [Act.eval_put_ne _ _ _ _ (by omega), Act.eval_put_ne _ _ _ _ (by omega), Act.eval_put_ne _ _ _ _ (by omega)]
      exact ⟨e5, e6, e7⟩
    have hcase : i = 0 ∨ i = 1 ∨ i = 2 ∨ i = 3 ∨ i = 4 ∨ i = 5 ∨ i = 6 ∨ i = 7 ∨ i = 8 ∨ i = 9 ∨ i = 10 ∨ i = 11 := by omega
    have slot : ∀ j, j < 10 → L j = true → a.eval (.tmp (20 + j)) = val j := hs.get
    rcases hcase with rfl | rfl | rfl | rfl | rfl | rfl | rfl | rfl | rfl | rfl | rfl | rfl
    · obtain ⟨o, ho, hdst, hg, hop⟩ := B.o0
      have h10 : L 10 = false := by
        cases h10 : L 10 with
        | false => rfl
        | true => rw [h.c4 (h.c9 (h.c10 h10))] at hl; cases hl
      refine wpOpIn_run hF ho (by unfold noDefer; rw [hop]) hg (run_ld_sl hop e5 (v := vA) ((h.b0 h10).cell 0)) ?_
      rw [hdst]
      exact ⟨_, hs.put (i := 0) _ (by omega), put _ _ (by omega), h.o0⟩
    · obtain ⟨o, ho, hdst, hg, hop⟩ := B.o1
      refine wpOpIn_run hF ho (by unfold noDefer; rw [hop]) hg (run_fa (by omega) hop e7) ?_
      rw [hdst]
      exact ⟨_, hs.put (i := 1) _ (by omega), put _ _ (by omega), h.o1⟩
    · obtain ⟨o, ho, hdst, hg, hop⟩ := B.o2
      refine wpOpIn_run hF ho (by unfold noDefer; rw [hop]) hg (run_ld_int hop ((slot 1 (by omega) (hd 1 B.d2_1)).trans (h.l1 (hd 1 B.d2_1))) (h.bd.cell 0)) ?_
      rw [hdst]
      exact ⟨_, hs.put (i := 2) _ (by omega), put _ _ (by omega), h.o2⟩
    · obtain ⟨o, ho, hdst, hg, hop⟩ := B.o3
      refine wpOpIn_run hF ho (by unfold noDefer; rw [hop]) hg (run_bs hop ((slot 2 (by omega) (hd 2 B.d3_2)).trans (h.l2 (hd 2 B.d3_2)))) ?_
      rw [hdst]
      exact ⟨_, hs.put (i := 3) _ (by omega), put _ _ (by omega), h.o3 hN⟩
    · obtain ⟨o, ho, hdst, hg, hop⟩ := B.o4
      have h9 : L 9 = false := by
        cases h9 : L 9 with
        | false => rfl
        | true => rw [h.c9 h9] at hl; cases hl
      obtain ⟨g, hg3, -, hgb⟩ := h.l3 (hd 3 B.d4_3)
      obtain ⟨v', w2, hrun, h1, h2, h3⟩ := run_ap hop ((slot 0 (by omega) (hd 0 B.d4_0)).trans (h.l0 (hd 0 B.d4_0))) (h.r0 hl) ((slot 3 (by omega) (hd 3 B.d4_3)).trans hg3) hgb hk hN
      refine wpOpIn_run hF ho (by unfold noDefer; rw [hop]) hg hrun ?_
      rw [hdst]
      exact ⟨_, hs.put (i := 4) _ (by omega), put _ _ (by omega), h.o4 (hd 0 B.d4_0) hl h9 hN hA2 hD h1 h2 h3⟩
    · obtain ⟨o, ho, hdst, hg, hop⟩ := B.o5
      have h11 : L 11 = false := by
        cases h11 : L 11 with
        | false => rfl
        | true => rw [h.c5 (h.c10 (h.c11 h11))] at hl; cases hl
      refine wpOpIn_run hF ho (by unfold noDefer; rw [hop]) hg (run_ld_sl hop e6 (v := vC) ((h.b1 h11).cell 0)) ?_
      rw [hdst]
      exact ⟨_, hs.put (i := 5) _ (by omega), put _ _ (by omega), h.o5⟩
    · obtain ⟨o, ho, hdst, hg, hop⟩ := B.o6
      refine wpOpIn_run hF ho (by unfold noDefer; rw [hop]) hg (run_fa (by omega) hop e7) ?_
      rw [hdst]
      exact ⟨_, hs.put (i := 6) _ (by omega), put _ _ (by omega), h.o6⟩
    · obtain ⟨o, ho, hdst, hg, hop⟩ := B.o7
      refine wpOpIn_run hF ho (by unfold noDefer; rw [hop]) hg (run_ld_int hop ((slot 6 (by omega) (hd 6 B.d7_6)).trans (h.l6 (hd 6 B.d7_6))) (h.bd.cell 1)) ?_
      rw [hdst]
      exact ⟨_, hs.put (i := 7) _ (by omega), put _ _ (by omega), h.o7⟩
    · obtain ⟨o, ho, hdst, hg, hop⟩ := B.o8
      refine wpOpIn_run hF ho (by unfold noDefer; rw [hop]) hg (run_bs hop ((slot 7 (by omega) (hd 7 B.d8_7)).trans (h.l7 (hd 7 B.d8_7)))) ?_
      rw [hdst]
      exact ⟨_, hs.put (i := 8) _ (by omega), put _ _ (by omega), h.o8 hN⟩
    · obtain ⟨o, ho, hdst, hg, hop⟩ := B.o9
      obtain ⟨g, hg3, -, hgb⟩ := h.l8 (hd 8 B.d9_8)
      obtain ⟨v', w2, hrun, h1, h2, h3⟩ := run_ap hop ((slot 5 (by omega) (hd 5 B.d9_5)).trans (h.l5 (hd 5 B.d9_5))) (h.s0 hl) ((slot 8 (by omega) (hd 8 B.d9_8)).trans hg3) hgb hk hN
      refine wpOpIn_run hF ho (by unfold noDefer; rw [hop]) hg hrun ?_
      rw [hdst]
      exact ⟨_, hs.put (i := 9) _ (by omega), put _ _ (by omega), h.o9 (hd 5 B.d9_5) (hd 4 B.d9_4) hl hN hC2 hD h1 h2 h3⟩
    · obtain ⟨o, ho, hdst, hg, hop⟩ := B.o10
      have hB := h.b0 hl
      refine wpOpIn_skip hF ho (by unfold noDefer; rw [hop]) hg (run_st_sl hop e5 (slot 4 (by omega) (hd 4 B.d10_4)) (own_sl (h.r4 (hd 4 B.d10_4)).1) (hB.cell 0) (hB.frozen 0)) ?_
      rw [hdst]
      exact ⟨_, hs.none _ (by omega), ⟨e5, e6, e7⟩, h.o10 (hd 9 B.d10_9) hB nx (fun e => ne e.symm)⟩
    · obtain ⟨o, ho, hdst, hg, hop⟩ := B.o11
      have hB := h.b1 hl
      refine wpOpIn_skip hF ho (by unfold noDefer; rw [hop]) hg (run_st_sl hop e6 (slot 9 (by omega) (hd 9 B.d11_9)) (own_sl (h.s9 (hd 9 B.d11_9))) (hB.cell 0) (hB.frozen 0)) ?_
      rw [hdst]
      exact ⟨_, hs.none _ (by omega), ⟨e5, e6, e7⟩, h.o11 (hd 10 B.d11_10) hB nz ne⟩
  · rintro L a w1 ⟨val, hs, _, h⟩ hall
    rw [B.size] at hall
    have := hQ a w1 (val 4) (val 9)
    rw [List.map_append, List.map_append] at this
    exact this (h.r4 (hall 4 (by omega))).1 (h.s9 (hall 9 (by omega))) (h.ne (hall 9 (by omega))) (h.b10 (hall 10 (by omega))) (h.b11 (hall 11 (by omega))) h.keep h.oth
  · have no : ∀ {p : Prop}, false = true → p := fun h => by cases h
    refine ⟨fun _ => undef, ⟨hs, fun _ _ hl => no hl⟩, ⟨e5, e6, e7⟩, no, no, no, no, no, no, no, no, no, no, no, no, no, fun _ => own_keep hA (fun _ _ => rfl), no, fun _ => own_keep hC (fun _ _ => rfl), no, no, fun _ => hbx.drew, no, fun _ => hbz.drew, no, hbd.drew, ⟨rfl, rfl, rfl, Nat.le_refl _, fun _ _ => rfl⟩, KeepsOthers.drew w, Nat.le_refl _⟩
section
end
end Go.Proofs.Ytbflncfhbmlibaa
