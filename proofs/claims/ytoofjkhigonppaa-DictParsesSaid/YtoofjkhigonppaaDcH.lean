/-
  Layer 15: entries in memory.
-/
import Derived.Test.YtoofjkhigonppaaDcG
import Derived.Test.YtoofjkhigonppaaOwI
import Derived.Test.YtoofjkhigonppaaRowsAt
namespace Go.Proofs.Ytoofjkhigonppaa
open Go.RowKit

theorem wpList_append_oi2 {B : Nat} {w : World} {A : Option Addr} {L c : Nat} {xs : List Int} {ops : Array Oper} {rest : List Oper} {o : Oper} {a : Act} {Q : Exit → Act → World → Prop} (hgd : o.guard = none) (s x : Operand)
    (ho : o.op = .call { callee := .builtin .append, args := #[s, x], argTypes := #[37, 37] }) (hs : a.eval s = .slice A L c) (h : OwI B w A L c xs)
    (A2 : Option Addr) (m c2 : Nat) (hx : a.eval x = .slice A2 m c2) (news : List Int) (hr : SlAt w A2 m (news.map (Value.int .i64))) (hb : L + m ≤ 17592186044416)
    (k : ∀ A' c' w', OwI B w' A' (L + m) c' (xs ++ news) → w.grownBy w' (rowOf A) → (rowOf A' = rowOf A ∨ rowOf A' = some w.heap.size) → wpList Try.prog ops Q rest (a.put o.dst (.slice A' (L + m) c')) w') : wpList Try.prog ops Q (o :: rest) a w := by
  obtain ⟨i0, hi0, hz0, hz1, hz2⟩ := info_parts int_info
  refine wpList_append_any w hgd s x _ ho B 3 i0 _ 1 8 Try.underlying37 hi0 hz0 hz1 hz2 rfl (by omega) _ L (xs.map (Value.int .i64)) hs h.own w.heap.size A2 m c2 (news.map (Value.int .i64)) hx hr.reads (ints_one _) (by unfold maxLen; omega) (by omega) h.le ?_
  intro v' w' hown hgrow hrow
  obtain ⟨A', c', rfl, _, _, _⟩ := of_ownC hown
  rw [ownBlock_slice] at hgrow
  rw [ownBlock_slice, ownBlock_slice] at hrow
  exact k A' c' w' ⟨by rw [List.length_append, h.len]; have := hr.1; simp at this; omega, by rw [List.map_append]; exact hown, Nat.le_trans h.le hgrow.size⟩ hgrow hrow
/-- An entry: its operator, and where its operands lie. -/
structure En where
  op : Int
  A : Option Addr
  c : Nat
  xs : List Int
def enC (v : En) : List Value := [.int .i64 v.op, .slice v.A v.xs.length v.c]
def enV (v : En) : Int × List Int := (v.op, v.xs)
theorem enC_len (l : List En) : ∀ r ∈ l.map enC, r.length = 2 := fun r hr => by obtain ⟨s, _, rfl⟩ := List.mem_map.1 hr; rfl
theorem enC_one (l : List En) : ∀ u ∈ (l.map enC).flatten, u.oneCell' = true := fun u hu => by
  obtain ⟨r, hr, hu⟩ := List.mem_flatten.1 hu
  obtain ⟨s, _, rfl⟩ := List.mem_map.1 hr
  simp only [enC, List.mem_cons, List.mem_nil_iff, or_false] at hu
  rcases hu with rfl | rfl <;> rfl
theorem en_info : (Try.prog.info? 42).map (fun i => (i.zero.map (fun z => z.cells.size), i.size, i.bytes)) = some (some 2, 2, 32) := by kernel_rfl
theorem en_parts : ∃ i z, Try.prog.info? 42 = some i ∧ i.zero = some z ∧ i.size = 2 ∧ i.bytes = 32 ∧ z.cells.size = 2 := by
  have h := en_info
  cases hi : Try.prog.info? 42 with
  | none => rw [hi] at h; cases h
  | some i =>
    rw [hi] at h
    simp only [Option.map_some, Option.some.injEq, Prod.mk.injEq] at h
    obtain ⟨h1, h2, h3⟩ := h
    cases hz : i.zero with
    | none => rw [hz] at h1; cases h1
    | some z =>
      rw [hz] at h1
      exact ⟨i, z, rfl, hz, h2, h3, by simpa using h1⟩
/-- Entries that a call made, and the operands that wait. -/
structure PI (B : Nat) (w : World) (Al : Option Addr) (kl cl : Nat) (l : List En) (Aa : Option Addr) (ka ca : Nat) (args : List Int) : Prop where
  len : l.length = kl
  own : w.ownsRow B 42 2 (.slice Al kl cl) kl (l.map enC).flatten
  oi : OwI B w Aa ka ca args
  ents : ∀ v ∈ l, OwI B w v.A v.xs.length v.c v.xs
  ap1 : ∀ v ∈ l, ∀ k, rowOf v.A = some k → rowOf Aa ≠ some k
  ap2 : ∀ k, rowOf Al = some k → rowOf Aa ≠ some k
  ap3 : ∀ v ∈ l, ∀ k, rowOf v.A = some k → rowOf Al ≠ some k
  short : ∀ v ∈ l, v.xs.length ≤ 48
section
variable {B : Nat} {w w' : World} {Al : Option Addr} {kl cl : Nat} {l : List En} {Aa : Option Addr} {ka ca : Nat} {args : List Int}
theorem PI.row (h : PI B w Al kl cl l Aa ka ca args) : ∀ k, rowOf Al = some k → B ≤ k ∧ k < w.heap.size := fun k hk => own_lt h.own k (by rw [ownBlock_slice]; exact hk)
theorem PI.stay (h : PI B w Al kl cl l Aa ka ca args) (hs : w.heap.size ≤ w'.heap.size) (hk : ∀ k, B ≤ k → k < w.heap.size → w'.heap[k]? = w.heap[k]?) : PI B w' Al kl cl l Aa ka ca args :=
  ⟨h.len, own_keep h.own fun k e => hk k (own_lt h.own k e).1 (own_lt h.own k e).2, h.oi.stay hs hk, fun v hv => (h.ents v hv).stay hs hk, h.ap1, h.ap2, h.ap3, h.short⟩
theorem PI.keep (h : PI B w Al kl cl l Aa ka ca args) (hb : Below w.heap.size w w') : PI B w' Al kl cl l Aa ka ca args := h.stay hb.size fun k _ hk => hb.block k hk
theorem PI.turn (h : PI B w Al kl cl l Aa ka ca args) {r : Nat} (ht : Tn (fun i => i = r) w w') (hr : r < B) : PI B w' Al kl cl l Aa ka ca args :=
  h.stay ht.size fun k hB hk => ht.block k hk (by omega)
theorem PI.nil (h : B ≤ w.heap.size) : PI B w none 0 0 [] none 0 0 [] := ⟨rfl, World.ownsRow_nil _ _ _ _, OwI.nilB h, fun _ hv => (List.not_mem_nil hv).elim, fun _ hv => (List.not_mem_nil hv).elim, fun _ hk => (by cases hk), fun _ hv => (List.not_mem_nil hv).elim, fun _ hv => (List.not_mem_nil hv).elim⟩
/-- An operand more. -/
theorem PI.arg (h : PI B w Al kl cl l Aa ka ca args) {A' : Option Addr} {c' : Nat} {x : Int} (ho : OwI B w' A' (ka + 1) c' (args ++ [x])) (hg : w.grownBy w' (rowOf Aa)) (hrow : rowOf A' = rowOf Aa ∨ rowOf A' = some w.heap.size) : PI B w' Al kl cl l A' (ka + 1) c' (args ++ [x]) := by
  have hne : ∀ k, k < w.heap.size → rowOf Aa ≠ some k → w'.heap[k]? = w.heap[k]? := fun k hk hn => hg.block k hk (fun e => hn e.symm)
  have hn : ∀ k, k < w.heap.size → rowOf Aa ≠ some k → rowOf A' ≠ some k := fun k hk hn e => by
    rcases hrow with h1 | h1
    · rw [h1] at e; exact hn e
    · rw [h1] at e; injection e with e; omega
  refine ⟨h.len, own_keep h.own fun k e => hne k (own_lt h.own k e).2 (h.ap2 k (by rw [← ownBlock_slice]; exact e)), ho, fun v hv => ?_, fun v hv k hk => hn k ((h.ents v hv).row k hk).2 (h.ap1 v hv k hk), fun k hk => hn k (h.row k hk).2 (h.ap2 k hk), h.ap3, h.short⟩
  have hv1 := h.ents v hv
  exact ⟨hv1.len, own_keep hv1.own fun k e => hne k (own_lt hv1.own k e).2 (h.ap1 v hv k (by rw [← ownBlock_slice]; exact e)), Nat.le_trans hv1.le hg.size⟩
/-- An entry more. -/
theorem PI.entry (h : PI B w Al kl cl l Aa ka ca args) {v' : Value} {op : Int} (hsh : ka ≤ 48) (hown : w'.ownsRow B 42 2 v' (kl + 1) ((l.map enC).flatten ++ enC ⟨op, Aa, ca, args⟩)) (hg : w.grownBy w' (Value.slice Al kl cl).ownBlock) (hrow : v'.ownBlock = (Value.slice Al kl cl).ownBlock ∨ v'.ownBlock = some w.heap.size) :
    ∃ A' c', v' = .slice A' (kl + 1) c' ∧ PI B w' A' (kl + 1) c' (l ++ [⟨op, Aa, ca, args⟩]) none 0 0 [] := by
  obtain ⟨A', c', rfl, _⟩ := RowsAt.of_own (rows := (l ++ [(⟨op, Aa, ca, args⟩ : En)]).map enC) hown (by simp) (enC_len _) (by omega)
  rw [ownBlock_slice] at hg
  rw [ownBlock_slice, ownBlock_slice] at hrow
  have hne : ∀ k, k < w.heap.size → rowOf Al ≠ some k → w'.heap[k]? = w.heap[k]? := fun k hk hn => hg.block k hk (fun e => hn e.symm)
  have hn : ∀ k, k < w.heap.size → rowOf Al ≠ some k → rowOf A' ≠ some k := fun k hk hn e => by
    rcases hrow with h1 | h1
    · rw [h1] at e; exact hn e
    · rw [h1] at e; injection e with e; omega
  have hal := h.oi.len
  have keep : ∀ {A : Option Addr} {c n : Nat} {xs : List Int}, OwI B w A n c xs → (∀ k, rowOf A = some k → rowOf Al ≠ some k) → OwI B w' A n c xs := fun {A c n xs} h1 h2 =>
    ⟨h1.len, own_keep h1.own fun k e => hne k (own_lt h1.own k e).2 (h2 k (by rw [← ownBlock_slice]; exact e)), Nat.le_trans h1.le hg.size⟩
  have hap : ∀ k, rowOf Aa = some k → rowOf Al ≠ some k := fun k hk e => h.ap2 k e hk
  refine ⟨A', c', rfl, by simp [h.len], by simpa using hown, OwI.nilB (Nat.le_trans h.oi.le hg.size), ?_, (fun _ _ _ _ e => by cases e), (fun _ _ e => by cases e), ?_, ?_⟩
  · intro v hv
    rcases List.mem_append.1 hv with hv | hv
    · exact keep (h.ents v hv) (h.ap3 v hv)
    · rw [List.mem_singleton] at hv
      subst hv
      have := keep h.oi hap
      rw [← hal] at this
      exact this
  · intro v hv k hk
    rcases List.mem_append.1 hv with hv | hv
    · exact hn k ((h.ents v hv).row k hk).2 (h.ap3 v hv k hk)
    · rw [List.mem_singleton] at hv
      subst hv
      exact hn k (h.oi.row k hk).2 (hap k hk)
  · intro v hv
    rcases List.mem_append.1 hv with hv | hv
    · exact h.short v hv
    · rw [List.mem_singleton] at hv
      subst hv
      dsimp only
      omega
end
/-- Entries in memory. -/
structure EnL (w : World) (A : Option Addr) (k : Nat) (es : List En) : Prop where
  rows : RowsAt w A k 2 (es.map enC)
  args : ∀ v ∈ es, SlAt w v.A v.xs.length (v.xs.map (Value.int .i64))
  short : ∀ v ∈ es, v.xs.length ≤ 17592186044416
theorem EnL.keep {w w' : World} {A : Option Addr} {k : Nat} {es : List En} (h : EnL w A k es) (hb : Below w.heap.size w w') : EnL w' A k es := ⟨h.rows.keep hb, fun v hv => (h.args v hv).keep hb, h.short⟩
theorem PI.list {B : Nat} {w : World} {Al : Option Addr} {kl cl : Nat} {l : List En} {Aa : Option Addr} {ka ca : Nat} {args : List Int} (h : PI B w Al kl cl l Aa ka ca args) : EnL w Al kl l := by
  refine ⟨?_, fun v hv => (h.ents v hv).sl, fun v hv => by have := h.short v hv; omega⟩
  obtain ⟨A', c', e, h1, _⟩ := RowsAt.of_own h.own rfl (enC_len l) (by omega)
  injection e with e1 e2 e3
  subst e1
  exact h1
theorem Tn.grown1 {S : Nat → Prop} {A B C : World} {row : Option Nat} (h : Tn S A B) (hg : B.grownBy C row) (hr : ∀ k, row = some k → S k ∨ A.heap.size ≤ k) : Tn S A C :=
  ⟨hg.os.trans h.os, hg.tape.trans h.tape, hg.output.trans h.output, Nat.le_trans h.size hg.size, fun i hi hn => (hg.block i (Nat.lt_of_lt_of_le hi h.size) (fun e => (hr i e.symm).elim hn (fun h => absurd h (by omega)))).trans (h.block i hi hn)⟩
theorem reads_en (W : World) (v : En) : Reads (W.alloc (.cells #[.int .i64 v.op, .slice v.A v.xs.length v.c] 42)) (W.alloc (.cells #[.int .i64 v.op, .slice v.A v.xs.length v.c] 42)).heap.size 2 (some ⟨W.heap.size, 0, none⟩) 1 (enC v) := by
  rw [World.size_alloc]
  exact reads_new W (enC v) _ 2 1 rfl
end Go.Proofs.Ytoofjkhigonppaa
