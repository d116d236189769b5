/-
  A slice of ints that the call made and appends to.
-/
import Derived.Test.YtlbfefdmbdjjcaaOw
import Derived.Test.YtlbfefdmbdjjcaaRead
namespace Go.Proofs.Ytlbfefdmbdjjcaa
open Go.RowKit

theorem int_info : (Try.prog.info? 3).map (fun i => (i.zero, i.size, i.bytes)) = some (some (.int .i64 0), 1, 8) := by kernel_rfl
theorem ints_one (xs : List Int) : ∀ u ∈ xs.map (Value.int .i64), u.oneCell' = true := by
  intro u hu
  obtain ⟨x, _, rfl⟩ := List.mem_map.1 hu
  rfl
theorem grown_below' {w w' : World} {B : Nat} {row : Option Nat} (h : w.grownBy w' row) (hB : B ≤ w.heap.size) (hr : ∀ k, row = some k → B ≤ k) : Below B w w' :=
  ⟨h.os, h.tape, h.output, h.size, fun k hk => h.block k (by omega) (fun e => by have := hr k e.symm; omega)⟩
theorem SlAt.keepB {w w' : World} {A : Option Addr} {n B : Nat} {vs : List Value} (h : SlAt w A n vs) (hb : Below B w w') (hB : B ≤ w.heap.size) (hA : 0 < n → ∀ b, rowOf A = some b → b < B) : SlAt w' A n vs := by
  refine ⟨h.1, fun k hk => ?_⟩
  obtain ⟨b, o, rfl, hlt, hc⟩ := h.2 k hk
  have hbB := hA (by omega) b rfl
  exact ⟨b, o, rfl, Nat.lt_of_lt_of_le hbB (Nat.le_trans hB hb.size), by rw [hb.cell (p := ⟨b, o + k, none⟩) hbB]; exact hc⟩
theorem Rd.keepB {w w' : World} {r : Nat} {bs : List UInt8} {pos : Nat} {bad : Bool} {A : Option Addr} {c B : Nat} (h : Rd w r bs pos bad A c) (hb : Below B w w') (hB : B ≤ w.heap.size) (hr : r < B) (hA : 0 < bs.length → ∀ b, rowOf A = some b → b < B) : Rd w' r bs pos bad A c :=
  ⟨h.blk.below hb hr, h.sl.keepB hb hB hA, h.apart, h.cap, h.pos_le, h.small⟩

theorem Turn.belowR {w w' w'' : World} {r B : Nat} {row : Option Nat} (h : Turn w w' r row) (hb : Below B w' w'') (hB : w.heap.size ≤ B) : Turn w w'' r row :=
  ⟨hb.os.trans h.os, hb.tape.trans h.tape, hb.output.trans h.output, Nat.le_trans h.size hb.size, fun k hk h1 h2 => (hb.block k (by omega)).trans (h.block k hk h1 h2)⟩
structure OwI (B : Nat) (w : World) (A : Option Addr) (L c : Nat) (xs : List Int) : Prop where
  len : xs.length = L
  own : w.ownsRow B 3 1 (.slice A L c) L (xs.map (Value.int .i64))
  le : B ≤ w.heap.size
section
variable {B : Nat} {w w' : World} {A : Option Addr} {L c : Nat} {xs : List Int}
theorem OwI.row (h : OwI B w A L c xs) : ∀ k, rowOf A = some k → B ≤ k ∧ k < w.heap.size := fun k hk => own_lt h.own k (by rw [ownBlock_slice]; exact hk)
theorem OwI.stay (h : OwI B w A L c xs) (hs : w.heap.size ≤ w'.heap.size) (hk : ∀ k, B ≤ k → k < w.heap.size → w'.heap[k]? = w.heap[k]?) : OwI B w' A L c xs :=
  ⟨h.len, own_keep h.own fun k e => hk k (own_lt h.own k e).1 (own_lt h.own k e).2, Nat.le_trans h.le hs⟩
theorem OwI.keep (h : OwI B w A L c xs) (hb : Below w.heap.size w w') : OwI B w' A L c xs := h.stay hb.size fun k _ hk => hb.block k hk
theorem OwI.turn (h : OwI B w A L c xs) {r : Nat} (ht : Turn w w' r none) (hr : r < B) : OwI B w' A L c xs :=
  h.stay ht.size fun k hB hk => ht.block k hk (by omega) (by intro e; cases e)
theorem OwI.sl (h : OwI B w A L c xs) : SlAt w A L (xs.map (Value.int .i64)) := by
  obtain ⟨A', c', e, h1, _, h3⟩ := of_ownC h.own
  injection e with e1 e2 e3
  subst e1
  exact h1
theorem OwI.cap (h : OwI B w A L c xs) : L ≤ c := by
  obtain ⟨A', c', e, h1, _, h3⟩ := of_ownC h.own
  injection e with e1 e2 e3
  omega
theorem OwI.nil (w : World) : OwI w.heap.size w none 0 0 [] := ⟨rfl, World.ownsRow_nil _ _ _ _, Nat.le_refl _⟩
theorem OwI.nilB (h : B ≤ w.heap.size) : OwI B w none 0 0 [] := ⟨rfl, World.ownsRow_nil _ _ _ _, h⟩
theorem wpList_append_oi {ops : Array Oper} {rest : List Oper} {o : Oper} {a : Act} {Q : Exit → Act → World → Prop} (hgd : o.guard = none) (s x : Operand)
    (ho : o.op = .call { callee := .builtin .append, args := #[s, x], argTypes := #[63, 63] }) (hs : a.eval s = .slice A L c) (h : OwI B w A L c xs)
    (A2 : Option Addr) (m c2 : Nat) (hx : a.eval x = .slice A2 m c2) (news : List Int) (hr : SlAt w A2 m (news.map (Value.int .i64))) (hb : L + m ≤ 17592186044416)
    (k : ∀ A' c' w', OwI B w' A' (L + m) c' (xs ++ news) → w.grownBy w' (rowOf A) → wpList Try.prog ops Q rest (a.put o.dst (.slice A' (L + m) c')) w') : wpList Try.prog ops Q (o :: rest) a w := by
  obtain ⟨i0, hi0, hz0, hz1, hz2⟩ := info_parts int_info
  refine wpList_append_any w hgd s x _ ho B 3 i0 _ 1 8 Try.underlying63 hi0 hz0 hz1 hz2 rfl (by omega) _ L (xs.map (Value.int .i64)) hs h.own w.heap.size A2 m c2 (news.map (Value.int .i64)) hx hr.reads (ints_one _) (by unfold maxLen; omega) (by omega) h.le ?_
  intro v' w' hown hgrow _
  obtain ⟨A', c', rfl, _, _, _⟩ := of_ownC hown
  rw [ownBlock_slice] at hgrow
  exact k A' c' w' ⟨by rw [List.length_append, h.len]; have := hr.1; simp at this; omega, by rw [List.map_append]; exact hown, Nat.le_trans h.le hgrow.size⟩ hgrow
end
theorem slat_int (w : World) (x : Int) : SlAt (w.alloc (.cells #[.int .i64 x] 3)) (some ⟨w.heap.size, 0, none⟩) 1 ([x].map (Value.int .i64)) := by
  refine ⟨rfl, fun k hk => ⟨w.heap.size, 0, rfl, by simp, ?_⟩⟩
  obtain rfl : k = 0 := by omega
  simp

end Go.Proofs.Ytlbfefdmbdjjcaa
