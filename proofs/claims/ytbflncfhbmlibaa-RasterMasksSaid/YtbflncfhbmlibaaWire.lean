/-
  A writer in memory: its bytes, its room, whether it is full; what a call may turn.
-/
import Derived.Test.YtbflncfhbmlibaaSlice
namespace Go.Proofs.Ytbflncfhbmlibaa
open Go.RowKit

def byteV (u : UInt8) : Value := .int .u8 u.toNat
theorem bytes_one (bs : List UInt8) : ∀ u ∈ bs.map byteV, u.oneCell' = true := by
  intro u hu
  obtain ⟨x, _, rfl⟩ := List.mem_map.1 hu
  rfl

/-- What a call may turn: block g, the row 'row', and what is new. -/
structure Turn (w w' : World) (g : Nat) (row : Option Nat) : Prop where
  os : w'.os = w.os
  tape : w'.tape = w.tape
  output : w'.output = w.output
  size : w.heap.size ≤ w'.heap.size
  block : ∀ k, k < w.heap.size → k ≠ g → some k ≠ row → w'.heap[k]? = w.heap[k]?

def rowOf (A : Option Addr) : Option Nat := A.map (·.block)

/-- Block g of type T is a struct of a slice of bytes, an int and a bool; the slice is the struct's own. -/
structure Wr (T : TypeId) (w : World) (g : Nat) (bs : List UInt8) (room : Int) (full : Bool) (A : Option Addr) (c : Nat) : Prop where
  blk : Blk w g T [.slice A bs.length c, .int .i64 room, .bool full]
  own : w.ownsRow 0 5 1 (.slice A bs.length c) bs.length (bs.map byteV)
  apart : rowOf A ≠ some g

section
variable {T : TypeId} {w w' w'' : World} {g : Nat} {bs : List UInt8} {room : Int} {full : Bool} {A A' : Option Addr} {c : Nat} {row row' : Option Nat}
theorem Turn.refl (w : World) (g : Nat) (row : Option Nat) : Turn w w g row := ⟨rfl, rfl, rfl, Nat.le_refl _, fun _ _ _ _ => rfl⟩
theorem Turn.of_below (h : Below w.heap.size w w') : Turn w w' g row := ⟨h.os, h.tape, h.output, h.size, fun k hk _ _ => h.block k hk⟩
/-- One turn behind another: the second one's row is the first one's, or new. -/
theorem Turn.trans (h : Turn w w' g row) (h' : Turn w' w'' g row') (hr : row' = row ∨ ∀ k, row' = some k → w.heap.size ≤ k) : Turn w w'' g row :=
  ⟨h'.os.trans h.os, h'.tape.trans h.tape, h'.output.trans h.output, Nat.le_trans h.size h'.size, fun k hk hg hr2 => by
    rw [h'.block k (Nat.lt_of_lt_of_le hk h.size) hg (fun e => by
      rcases hr with hr | hr
      · exact hr2 (e.trans hr)
      · have := hr k e.symm; omega)]
    exact h.block k hk hg hr2⟩
theorem Turn.below {B : Nat} (h : Turn w w' g row) (hB : B ≤ w.heap.size) (hg : B ≤ g) (hr : ∀ k, row = some k → B ≤ k) : Below B w w' :=
  ⟨h.os, h.tape, h.output, h.size, fun k hk => h.block k (by omega) (by omega) (fun e => by have := hr k e.symm; omega)⟩
theorem Turn.wide (h : Turn w w' g none) : Turn w w' g row := ⟨h.os, h.tape, h.output, h.size, fun k hk hg _ => h.block k hk hg (fun e => by cases e)⟩
theorem Turn.drewN (h : Turn w w' g row) (n : Nat) : Turn w (w'.drewN n) g row := ⟨h.os, h.tape, h.output, h.size, h.block⟩
theorem Turn.set (h : Turn w w' g row) (i : Nat) (v : Value) : Turn w (w'.setCell ⟨g, i, none⟩ v) g row :=
  ⟨h.os, h.tape, h.output, by simpa [World.setCell] using h.size, fun k hk hg hr => (Below.heap_setCell w' ⟨g, i, none⟩ v k hg).trans (h.block k hk hg hr)⟩
theorem Turn.alloc (h : Turn w w' g row) (o : Obj) : Turn w (w'.alloc o) g row :=
  ⟨h.os, h.tape, h.output, by have := h.size; simp; omega, fun k hk hg hr => (Below.heap_alloc w' o k (by have := h.size; omega)).trans (h.block k hk hg hr)⟩
theorem Turn.grown (h : Turn w w' g row) (hg : w'.grownBy w'' row') (hr : row' = row ∨ ∀ k, row' = some k → w.heap.size ≤ k) : Turn w w'' g row :=
  h.trans ⟨hg.os, hg.tape, hg.output, hg.size, fun k hk _ hk2 => hg.block k hk hk2⟩ hr
/-- A block that is neither is as it was. -/
theorem Turn.blk {t : TypeId} {b : Nat} {cs : List Value} (h : Turn w w' g row) (hb : Blk w b t cs) (hg : b ≠ g) (hr : some b ≠ row) : Blk w' b t cs := (h.block b hb.lt hg hr).trans hb

theorem Wr.row_lt (h : Wr T w g bs room full A c) : ∀ k, rowOf A = some k → k < w.heap.size := by
  intro k hk
  obtain ⟨_, ⟨hv, _⟩ | ⟨g', cap, cur, hv, _, hh, _⟩⟩ := h.own
  · injection hv with h1; subst h1; cases hk
  · injection hv with h1; subst h1
    simp only [rowOf, Option.map_some, Option.some.injEq] at hk
    subst hk
    rcases Nat.lt_or_ge g' w.heap.size with h' | h'
    · exact h'
    · rw [Array.getElem?_eq_none h'] at hh; cases hh
theorem Wr.frame (h : Wr T w g bs room full A c) (hs : ∀ k, (k = g ∨ rowOf A = some k) → w'.heap[k]? = w.heap[k]?) : Wr T w' g bs room full A c := by
  refine ⟨(hs g (.inl rfl)).trans h.blk, ?_, h.apart⟩
  obtain ⟨hl, ⟨hv, hn⟩ | ⟨g', cap, cur, hv, hg, hh, hrest⟩⟩ := h.own
  · exact ⟨hl, .inl ⟨hv, hn⟩⟩
  · refine ⟨hl, .inr ⟨g', cap, cur, hv, hg, ?_, hrest⟩⟩
    injection hv with h1
    exact (hs g' (.inr (by rw [h1]; rfl))).trans hh
theorem Wr.below {B : Nat} (h : Wr T w g bs room full A c) (hb : Below B w w') (hg : g < B) (hr : ∀ k, rowOf A = some k → k < B) : Wr T w' g bs room full A c :=
  h.frame fun k hk => hb.block k (hk.elim (fun e => e ▸ hg) (hr k))
theorem Wr.keep (h : Wr T w g bs room full A c) (hb : Below w.heap.size w w') : Wr T w' g bs room full A c := h.below hb h.blk.lt h.row_lt
theorem Wr.sl (h : Wr T w g bs room full A c) : SlAt w A bs.length (bs.map byteV) := by
  obtain ⟨A', c', hv, hs, _⟩ := SlAt.of_own h.own
  injection hv with h1
  subst h1
  exact hs
/-- The bool is turned. -/
theorem Wr.full_ (h : Wr T w g bs room full A c) (f : Bool) : Wr T (w.setCell ⟨g, 2, none⟩ (.bool f)) g bs room f A c := by
  refine ⟨Blk.to (h.blk.set 2 (.bool f)) rfl, ?_, h.apart⟩
  obtain ⟨hl, ⟨hv, hn⟩ | ⟨g', cap, cur, hv, hg, hh, hrest⟩⟩ := h.own
  · exact ⟨hl, .inl ⟨hv, hn⟩⟩
  · refine ⟨hl, .inr ⟨g', cap, cur, hv, hg, (Below.heap_setCell w ⟨g, 2, none⟩ (.bool f) g' (fun e => h.apart ?_)).trans hh, hrest⟩⟩
    injection hv with h1
    rw [h1, ← show g' = g from e]
    rfl
theorem Wr.drewN (h : Wr T w g bs room full A c) (n : Nat) : Wr T (w.drewN n) g bs room full A c := ⟨h.blk, h.own, h.apart⟩
end

theorem u8_info : (Try.prog.info? 5).map (fun i => (i.zero, i.size, i.bytes)) = some (some (.int .u8 0), 1, 1) := by kernel_rfl

section
variable {T : TypeId} {w w' : World} {g : Nat} {bs news : List UInt8} {room : Int} {full : Bool} {A A' : Option Addr} {c c' : Nat}
theorem ownBlock_slice (A : Option Addr) (n c : Nat) : (Value.slice A n c).ownBlock = rowOf A := by cases A <;> rfl
/-- What an append gives, stored back. -/
theorem Wr.appended (h : Wr T w g bs room full A c) (hown : w'.ownsRow 0 5 1 (.slice A' (bs.length + news.length) c') (bs.length + news.length) ((bs ++ news).map byteV)) (hgrow : w.grownBy w' (rowOf A))
    (hat : rowOf A' = rowOf A ∨ rowOf A' = some w.heap.size) :
    Wr T (w'.setCell ⟨g, 0, none⟩ (.slice A' (bs.length + news.length) c')) g (bs ++ news) room full A' c' ∧ Turn w (w'.setCell ⟨g, 0, none⟩ (.slice A' (bs.length + news.length) c')) g (rowOf A) ∧ (rowOf A' = rowOf A ∨ ∀ k, rowOf A' = some k → w.heap.size ≤ k) := by
  have hne : some g ≠ rowOf A := fun e => h.apart e.symm
  have hne' : rowOf A' ≠ some g := by
    rcases hat with e | e
    · rw [e]; exact h.apart
    · rw [e]; intro e2; injection e2 with e2; have := h.blk.lt; omega
  have hb : Blk w' g T [.slice A bs.length c, .int .i64 room, .bool full] := (hgrow.block g h.blk.lt hne).trans h.blk
  have hlen : (bs ++ news).length = bs.length + news.length := List.length_append
  refine ⟨⟨?_, ?_, hne'⟩, ?_, ?_⟩
  · rw [hlen]; exact Blk.to (hb.set 0 _) rfl
  · rw [hlen]
    exact ownsRow_setCell_other hown (by rw [ownBlock_slice]; exact hne') _
  · exact Turn.set ⟨hgrow.os, hgrow.tape, hgrow.output, hgrow.size, fun k hk _ hk2 => hgrow.block k hk hk2⟩ 0 _
  · rcases hat with e | e
    · exact .inl e
    · exact .inr fun k hk => by rw [e] at hk; injection hk with hk; omega

/-- The law at an append to a writer's bytes, in a region that draws. -/
theorem step_append_wr {ops : Array Oper} {o : Oper} {a : Act} {K : Act → World → Prop} {Q : Exit → Act → World → Prop} {E : Prop} (hgd : o.guard = none) (s x : Operand) (t : TypeId)
    (ho : o.op = .call { callee := .builtin .append, args := #[s, x], argTypes := #[t, t] }) (ht : Try.prog.underlying t = some (.slice 5))
    (h : Wr T w g bs room full A c) (L : Nat) (hL : bs.length = L) (hs : a.eval s = .slice A L c)
    (B : Nat) (Ax : Option Addr) (m cx : Nat) (hx : a.eval x = .slice Ax m cx) (vals : List Value) (hvals : vals = news.map byteV) (hr : Reads w B 1 Ax m vals) (hb : L + m ≤ 70368744177664)
    (hk : ∀ A' c' w', w'.ownsRow 0 5 1 (.slice A' (L + m) c') (L + m) ((bs ++ news).map byteV) → w.grownBy w' (rowOf A) → (rowOf A' = rowOf A ∨ rowOf A' = some w.heap.size) →
      w'.cell? ⟨g, 0, none⟩ = some (.slice A L c) → w'.frozen? ⟨g, 0, none⟩ = false → K (a.put o.dst (.slice A' (L + m) c')) w') :
    if Region.wanted o (yielded ops a.tmps) = true then Oper.wp Try.prog o a w K Q else E := by
  obtain ⟨i0, hi0, hz0, hz1, hz2⟩ := info_parts u8_info
  subst hL
  subst hvals
  refine step_append_any w hgd s x t ho 0 5 i0 _ 1 1 ht hi0 hz0 hz1 hz2 rfl (by omega) _ bs.length (bs.map byteV) hs h.own B Ax m cx (news.map byteV) hx hr (bytes_one _) (by unfold maxLen; omega) (by omega) (Nat.zero_le _) ?_
  intro v' w' hown hgrow hat
  rw [← List.map_append] at hown
  obtain ⟨A', c', rfl, _, _⟩ := SlAt.of_own hown
  rw [ownBlock_slice, ownBlock_slice] at hat
  rw [ownBlock_slice] at hgrow
  have hb : Blk w' g T [.slice A bs.length c, .int .i64 room, .bool full] := (hgrow.block g h.blk.lt (fun e => h.apart e.symm)).trans h.blk
  exact hk A' c' w' hown hgrow hat (by rw [hb.cell 0]; rfl) (hb.frozen 0)
theorem Wr.drew (h : Wr T w g bs room full A c) : Wr T w.drew g bs room full A c := ⟨h.blk, h.own, h.apart⟩
theorem Wr.alloc (h : Wr T w g bs room full A c) (o : Obj) : Wr T (w.alloc o) g bs room full A c := h.keep (bel_alloc bel_refl).below
theorem reads_one (w : World) (t : TypeId) (v : Value) : Reads (w.alloc (.cells #[v] t)) (w.heap.size + 1) 1 (some ⟨w.heap.size, 0, none⟩) 1 [v] := by
  refine ⟨rfl, fun _ => ⟨⟨w.heap.size, 0, none⟩, rfl, Nat.lt_succ_self _, fun j u hu => ?_⟩⟩
  match j, hu with
  | 0, hu => simpa [Addr.add] using hu
end

end Go.Proofs.Ytbflncfhbmlibaa
