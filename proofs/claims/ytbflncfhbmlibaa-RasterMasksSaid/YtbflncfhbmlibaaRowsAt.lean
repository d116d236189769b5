/-
  A slice whose elements are structs: it reads as a list of rows of cells. An operation whose run is known as a closed fact.
-/
import Derived.Test.YtbflncfhbmlibaaWire
namespace Go.Proofs.Ytbflncfhbmlibaa
open Go.RowKit

/-- The slice at A of n elements reads as these rows of k cells. -/
structure RowsAt (w : World) (A : Option Addr) (n k : Nat) (rows : List (List Value)) : Prop where
  len : rows.length = n
  cell : ∀ i r, rows[i]? = some r → r.length = k ∧ ∃ b o, A = some ⟨b, o, none⟩ ∧ b < w.heap.size ∧ ∀ j v, r[j]? = some v → w.cell? ⟨b, o + i * k + j, none⟩ = some v

theorem flatten_at {α : Type} (k : Nat) : ∀ (rows : List (List α)) (i j : Nat) (r : List α), (∀ r ∈ rows, r.length = k) → rows[i]? = some r → j < k → rows.flatten[i * k + j]? = r[j]?
  | [], i, j, r, _, h, _ => by simp at h
  | q :: rows, 0, j, r, hk, h, hj => by
    simp at h
    subst h
    rw [List.flatten_cons, List.getElem?_append_left (by rw [hk q (by simp)]; omega)]
    simp
  | q :: rows, i + 1, j, r, hk, h, hj => by
    have hq := hk q (by simp)
    rw [List.flatten_cons, List.getElem?_append_right (by rw [hq, Nat.add_mul]; omega), hq, show (i + 1) * k + j - k = i * k + j by rw [Nat.add_mul]; omega]
    exact flatten_at k rows i j r (fun x hx => hk x (by simp [hx])) (by simpa using h) hj
theorem flatten_len {α : Type} (k : Nat) : ∀ (rows : List (List α)), (∀ r ∈ rows, r.length = k) → rows.flatten.length = rows.length * k
  | [], _ => by simp
  | q :: rows, hk => by
    rw [List.flatten_cons, List.length_append, hk q (by simp), flatten_len k rows (fun x hx => hk x (by simp [hx])), List.length_cons, Nat.add_mul]
    omega

section
variable {w w' : World} {A : Option Addr} {n k : Nat} {rows : List (List Value)}
theorem RowsAt.nil (w : World) (A : Option Addr) (k : Nat) : RowsAt w A 0 k [] := ⟨rfl, fun i r h => by simp at h⟩
theorem RowsAt.at_ (h : RowsAt w A n k rows) {i : Nat} {r : List Value} (hr : rows[i]? = some r) : ∃ b o, A = some ⟨b, o, none⟩ ∧ b < w.heap.size ∧ ∀ j v, r[j]? = some v → w.cell? ⟨b, o + i * k + j, none⟩ = some v := (h.cell i r hr).2
theorem RowsAt.keep (h : RowsAt w A n k rows) (hb : Below w.heap.size w w') : RowsAt w' A n k rows :=
  ⟨h.len, fun i r hr => by
    obtain ⟨hl, b, o, hA, hlt, hc⟩ := h.cell i r hr
    exact ⟨hl, b, o, hA, Nat.lt_of_lt_of_le hlt hb.size, fun j v hv => (hb.cell (p := ⟨b, _, none⟩) hlt).trans (hc j v hv)⟩⟩
theorem RowsAt.keepB {B : Nat} (h : RowsAt w A n k rows) (hb : Below B w w') (hA : 0 < n → ∀ b, rowOf A = some b → b < B) : RowsAt w' A n k rows :=
  ⟨h.len, fun i r hr => by
    obtain ⟨hl, b, o, hA', hlt, hc⟩ := h.cell i r hr
    have hi : i < rows.length := (List.getElem?_eq_some_iff.1 hr).1
    have hB := hA (by have := h.len; omega) b (by rw [hA']; rfl)
    exact ⟨hl, b, o, hA', Nat.lt_of_lt_of_le hlt hb.size, fun j v hv => (hb.cell (p := ⟨b, _, none⟩) hB).trans (hc j v hv)⟩⟩
/-- Behind writes to blocks that are not the slice's. -/
theorem RowsAt.stay (h : RowsAt w A n k rows) (hs : w.heap.size ≤ w'.heap.size) (hb : ∀ b, b < w.heap.size → rowOf A = some b → w'.heap[b]? = w.heap[b]?) : RowsAt w' A n k rows :=
  ⟨h.len, fun i r hr => by
    obtain ⟨hl, b, o, hA', hlt, hc⟩ := h.cell i r hr
    exact ⟨hl, b, o, hA', Nat.lt_of_lt_of_le hlt hs, fun j v hv => (World.cell?_of_block (w := w) (w' := w') (hb b hlt (by rw [hA']; rfl))).trans (hc j v hv)⟩⟩
theorem RowsAt.of_blk {g : Nat} {t : TypeId} (h : Blk w g t rows.flatten) (hk : ∀ r ∈ rows, r.length = k) : RowsAt w (some ⟨g, 0, none⟩) rows.length k rows :=
  ⟨rfl, fun i r hr => ⟨hk r (List.mem_of_getElem? hr), g, 0, rfl, h.lt, fun j v hv => by
    have hj : j < k := by
      have := hk r (List.mem_of_getElem? hr)
      have := (List.getElem?_eq_some_iff.1 hv).1
      omega
    rw [Nat.zero_add, h.cell, flatten_at k rows i j r hk hr hj, hv]⟩⟩
theorem RowsAt.of_own {base : Nat} {e : TypeId} {v : Value} {xs : List Value} (h : w.ownsRow base e k v n xs) (hx : xs = rows.flatten) (hk : ∀ r ∈ rows, r.length = k) (hk0 : 0 < k) :
    ∃ A c, v = .slice A n c ∧ RowsAt w A n k rows ∧ ∀ ad, A = some ad → base ≤ ad.block := by
  subst hx
  have hfl := flatten_len k rows hk
  obtain ⟨hl, ⟨rfl, h0⟩ | ⟨g, cap, cur, rfl, hg, hh, hn, _, hc, ht⟩⟩ := h
  · have hn0 : rows.length = n := by
      have : rows.length * k = n * k := by rw [← hfl, hl]
      exact Nat.eq_of_mul_eq_mul_right hk0 this
    have hr0 : rows.length = 0 := by omega
    obtain rfl := List.eq_nil_of_length_eq_zero hr0
    subst hn0
    exact ⟨none, 0, rfl, RowsAt.nil _ _ _, fun _ h => by cases h⟩
  · have hn0 : rows.length = n := by
      have : rows.length * k = n * k := by rw [← hfl, hl]
      exact Nat.eq_of_mul_eq_mul_right hk0 this
    refine ⟨_, _, rfl, ⟨hn0, fun i r hr => ⟨hk r (List.mem_of_getElem? hr), g, 0, rfl, ?_, fun j v hv => ?_⟩⟩, fun ad h => by cases h; exact hg⟩
    · rcases Nat.lt_or_ge g w.heap.size with h' | h'
      · exact h'
      · rw [Array.getElem?_eq_none h'] at hh; cases hh
    · have hj : j < k := by
        have := hk r (List.mem_of_getElem? hr)
        have := (List.getElem?_eq_some_iff.1 hv).1
        omega
      have hi : i < n := by have := (List.getElem?_eq_some_iff.1 hr).1; omega
      have h2 := flatten_at k rows i j r hk hr hj
      rw [← ht, List.getElem?_take] at h2
      have hlt : i * k + j < n * k := by
        have : (i + 1) * k ≤ n * k := Nat.mul_le_mul_right k hi
        rw [Nat.add_mul] at this
        omega
      rw [if_pos hlt] at h2
      simp only [World.cell?, hh, Nat.zero_add]
      rw [hv] at h2
      simpa using h2
theorem RowsAt.reads (h : RowsAt w A n k rows) : Reads w w.heap.size k A n rows.flatten := by
  have hk : ∀ r ∈ rows, r.length = k := fun r hr => by
    obtain ⟨i, hi⟩ := List.getElem?_of_mem hr
    exact (h.cell i r hi).1
  refine ⟨by rw [flatten_len k rows hk, h.len], fun hn => ?_⟩
  obtain ⟨r0, hr0⟩ : ∃ r, rows[0]? = some r := ⟨rows[0]'(by have := h.len; omega), List.getElem?_eq_getElem _⟩
  obtain ⟨_, b, o, hA, hlt, _⟩ := h.cell 0 r0 hr0
  refine ⟨⟨b, o, none⟩, hA, hlt, fun q u hu => ?_⟩
  have hq : q < rows.flatten.length := (List.getElem?_eq_some_iff.1 hu).1
  rw [flatten_len k rows hk] at hq
  have hk0 : 0 < k := by
    rcases Nat.eq_zero_or_pos k with h0 | h0
    · subst h0; simp at hq
    · exact h0
  have hi : q / k < rows.length := (Nat.div_lt_iff_lt_mul hk0).2 hq
  have hqq : q / k * k + q % k = q := by rw [Nat.mul_comm]; exact Nat.div_add_mod q k
  have hj : q % k < k := Nat.mod_lt _ hk0
  obtain ⟨_, b', o', hA', _, hc⟩ := h.cell (q / k) _ (List.getElem?_eq_getElem hi)
  rw [hA] at hA'
  injection hA' with e
  injection e with e1 e2
  subst e1 e2
  have h2 := flatten_at k rows (q / k) (q % k) _ hk (List.getElem?_eq_getElem hi) hj
  rw [hqq, hu] at h2
  have h3 := hc (q % k) u h2.symm
  rw [show (⟨b, o, none⟩ : Addr).add q = ⟨b, o + q, none⟩ by unfold Addr.add; split <;> simp [*]]
  rwa [Nat.add_assoc, hqq] at h3
end

theorem own_of_blk {w : World} {g base n size : Nat} {e : TypeId} {cs : List Value} (h : Blk w g e cs) (hl : cs.length = n * size) (hb : base ≤ g) (hn : n ≤ maxLen) : w.ownsRow base e size (.slice (some ⟨g, 0, none⟩) n n) n cs :=
  ⟨hl, .inr ⟨g, n, cs.toArray, rfl, hb, h, Nat.le_refl _, hn, by simpa using hl, by simp [← hl]⟩⟩
theorem reads_new (W : World) (cs : List Value) (t : TypeId) (size m : Nat) (hl : cs.length = m * size) : Reads (W.alloc (.cells cs.toArray t)) (W.heap.size + 1) size (some ⟨W.heap.size, 0, none⟩) m cs :=
  ⟨hl, fun _ => ⟨⟨W.heap.size, 0, none⟩, rfl, by simp, fun j u hu => by
    rw [show (⟨W.heap.size, 0, none⟩ : Addr).add j = ⟨W.heap.size, j, none⟩ by unfold Addr.add; split <;> simp [*]]
    rw [(Blk.new W t cs).cell, hu]⟩⟩
/-- An operation whose run is known as a closed fact. -/
theorem wp_of_run {P : Program} {o : Oper} {a : Act} {w w' : World} {K : Act → World → Prop} {Q : Exit → Act → World → Prop} (v : Value) (h : (execOp a.eval o).run P w = .ok (.value v) w') (hk : K (a.put o.dst v) w') : o.wp P a w K Q := by
  unfold Oper.wp
  rw [h]
  exact hk
theorem wpList_of_run {P : Program} {ops : Array Oper} {rest : List Oper} {o : Oper} {a : Act} {w w' : World} {Q : Exit → Act → World → Prop} (hg : o.guard = none) (v : Value) (h : (execOp a.eval o).run P w = .ok (.value v) w')
    (hk : wpList P ops Q rest (a.put o.dst v) w') : wpList P ops Q (o :: rest) a w := wpList_plain hg fun _ hK => wp_of_run v h (hK _ _ hk)

end Go.Proofs.Ytbflncfhbmlibaa
