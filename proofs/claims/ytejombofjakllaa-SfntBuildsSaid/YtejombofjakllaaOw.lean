/-
  A slice of bytes that the call made and appends to.
-/
import Derived.Test.YtejombofjakllaaBs
import Derived.Test.YtejombofjakllaaRowsAt
import Derived.Test.YtejombofjakllaaWireA
namespace Go.Proofs.Ytejombofjakllaa
open Go.RowKit

structure OwB (B : Nat) (w0 w : World) (A : Option Addr) (L c : Nat) (bs : List UInt8) : Prop where
  len : bs.length = L
  own : w.ownsRow B 5 1 (.slice A L c) L (bs.map byteV)
  bel : Below B w0 w
  le : B ≤ w.heap.size

theorem own_keep {w w' : World} {B : Nat} {e : TypeId} {size : Nat} {v : Value} {n : Nat} {xs : List Value} (h : w.ownsRow B e size v n xs) (hs : ∀ k, v.ownBlock = some k → w'.heap[k]? = w.heap[k]?) : w'.ownsRow B e size v n xs := by
  obtain ⟨h1, h2 | ⟨g, cap, cur, h2, h3, h4, h5⟩⟩ := h
  · exact ⟨h1, .inl h2⟩
  · exact ⟨h1, .inr ⟨g, cap, cur, h2, h3, (hs g (by rw [h2]; rfl)).trans h4, h5⟩⟩
theorem own_lt {w : World} {B : Nat} {e : TypeId} {size : Nat} {v : Value} {n : Nat} {xs : List Value} (h : w.ownsRow B e size v n xs) : ∀ k, v.ownBlock = some k → B ≤ k ∧ k < w.heap.size := by
  intro k hk
  obtain ⟨h1, ⟨rfl, _⟩ | ⟨g, cap, cur, rfl, h3, h4, h5⟩⟩ := h
  · cases hk
  · simp only [Value.ownBlock, Option.some.injEq] at hk
    subst hk
    refine ⟨h3, ?_⟩
    rcases Nat.lt_or_ge g w.heap.size with h' | h'
    · exact h'
    · rw [Array.getElem?_eq_none h'] at h4; cases h4
section
variable {B : Nat} {w0 w w' : World} {A : Option Addr} {L c : Nat} {bs : List UInt8}
theorem OwB.keep (h : OwB B w0 w A L c bs) (hb : Below w.heap.size w w') : OwB B w0 w' A L c bs :=
  ⟨h.len, own_keep h.own fun k hk => hb.block k (own_lt h.own k hk).2, h.bel.trans (hb.mono h.le), Nat.le_trans h.le hb.size⟩
theorem OwB.alloc (h : OwB B w0 w A L c bs) (o : Obj) : OwB B w0 (w.alloc o) A L c bs := h.keep (bel_alloc bel_refl).below
theorem OwB.drewN (h : OwB B w0 w A L c bs) (n : Nat) : OwB B w0 (w.drewN n) A L c bs := h.keep (bel_drewN bel_refl).below
theorem OwB.drew (h : OwB B w0 w A L c bs) : OwB B w0 w.drew A L c bs := h.keep (bel_drew bel_refl).below
theorem OwB.nil (h : Bel B w0 w) : OwB B w0 w none 0 0 [] := ⟨rfl, World.ownsRow_nil _ _ _ _, h.below, h.le⟩
theorem OwB.of_blk {g n : Nat} (h : Blk w g 5 (bs.map byteV)) (hl : bs.length = n) (hg : B ≤ g) (hb : Below B w0 w) (hn : n ≤ 140737488355328) : OwB B w0 w (some ⟨g, 0, none⟩) n n bs :=
  ⟨hl, own_of_blk h (by simpa using hl) hg (by unfold maxLen; omega), hb, Nat.le_trans hg (Nat.le_of_lt h.lt)⟩
theorem OwB.row (h : OwB B w0 w A L c bs) : ∀ k, rowOf A = some k → B ≤ k ∧ k < w.heap.size := fun k hk => own_lt h.own k (by rw [ownBlock_slice]; exact hk)
theorem OwB.toBs (h : OwB B w0 w A L c bs) (hn : L ≤ 140737488355328) : Bs w A bs c := by
  obtain ⟨A', c', e, h1, _, h3⟩ := of_ownC h.own
  injection e with e1 e2 e3
  subst e1 e3
  have hl := h.len
  subst hl
  exact ⟨h1, h3, hn, fun k hk => (h.row k hk).2⟩

theorem slat_byte (w : World) (x y : Int) (h : y = x % 256) : SlAt (w.alloc (.cells #[.int .u8 y] 5)) (some ⟨w.heap.size, 0, none⟩) 1 ((beB 1 x).map byteV) := by
  subst h
  refine ⟨rfl, fun k hk => ⟨w.heap.size, 0, rfl, by simp, ?_⟩⟩
  obtain rfl : k = 0 := by omega
  rw [byteV_of]
  simp [beB, byteAt]
theorem slat_blk {w : World} {g n : Nat} {t : TypeId} {cs : List Value} (h : Blk w g t cs) (hl : cs.length = n) : SlAt w (some ⟨g, 0, none⟩) n cs :=
  ⟨hl, fun k _ => ⟨g, 0, rfl, h.lt, by rw [Nat.zero_add]; exact h.cell k⟩⟩
/-- What an append leaves. -/
theorem OwB.appended (h : OwB B w0 w A L c bs) {v' : Value} {news : List UInt8} {m : Nat} (hm : news.length = m) (hown : w'.ownsRow B 5 1 v' (L + m) (bs.map byteV ++ news.map byteV)) (hgrow : w.grownBy w' (Value.slice A L c).ownBlock) :
    ∃ A' c', v' = .slice A' (L + m) c' ∧ OwB B w0 w' A' (L + m) c' (bs ++ news) := by
  obtain ⟨A', c', rfl, _, _, _⟩ := of_ownC hown
  refine ⟨A', c', rfl, by rw [List.length_append, h.len, hm], by rw [List.map_append]; exact hown, h.bel.grown hgrow h.le fun k hk => (own_lt h.own k hk).1, Nat.le_trans h.le hgrow.size⟩

theorem wpList_append_ow {ops : Array Oper} {rest : List Oper} {o : Oper} {a : Act} {Q : Exit → Act → World → Prop} (hgd : o.guard = none) (s x : Operand)
    (ho : o.op = .call { callee := .builtin .append, args := #[s, x], argTypes := #[25, 25] }) (hs : a.eval s = .slice A L c) (h : OwB B w0 w A L c bs)
    (A2 : Option Addr) (m c2 : Nat) (hx : a.eval x = .slice A2 m c2) (news : List UInt8) (hr : SlAt w A2 m (news.map byteV)) (hb : L + m ≤ 140737488355328)
    (k : ∀ A' c' w', OwB B w0 w' A' (L + m) c' (bs ++ news) → wpList Try.prog ops Q rest (a.put o.dst (.slice A' (L + m) c')) w') : wpList Try.prog ops Q (o :: rest) a w := by
  obtain ⟨i0, hi0, hz0, hz1, hz2⟩ := info_parts u8_info
  refine wpList_append_any w hgd s x _ ho B 5 i0 _ 1 1 Try.underlying25 hi0 hz0 hz1 hz2 rfl (by omega) _ L (bs.map byteV) hs h.own w.heap.size A2 m c2 (news.map byteV) hx hr.reads (bytes_one _) (by unfold maxLen; omega) (by omega) h.le ?_
  intro v' w' hown hgrow _
  obtain ⟨A', c', rfl, h'⟩ := h.appended (by simpa using hr.1) hown hgrow
  exact k A' c' w' h'
theorem step_append_ow {ops : Array Oper} {o : Oper} {a : Act} {K : Act → World → Prop} {Q : Exit → Act → World → Prop} {E : Prop} (hgd : o.guard = none) (s x : Operand)
    (ho : o.op = .call { callee := .builtin .append, args := #[s, x], argTypes := #[25, 25] }) (hs : a.eval s = .slice A L c) (h : OwB B w0 w A L c bs)
    (A2 : Option Addr) (m c2 : Nat) (hx : a.eval x = .slice A2 m c2) (news : List UInt8) (hr : SlAt w A2 m (news.map byteV)) (hb : L + m ≤ 140737488355328)
    (k : ∀ A' c' w', OwB B w0 w' A' (L + m) c' (bs ++ news) → K (a.put o.dst (.slice A' (L + m) c')) w') :
    if Region.wanted o (yielded ops a.tmps) = true then Oper.wp Try.prog o a w K Q else E := by
  obtain ⟨i0, hi0, hz0, hz1, hz2⟩ := info_parts u8_info
  refine step_append_any w hgd s x _ ho B 5 i0 _ 1 1 Try.underlying25 hi0 hz0 hz1 hz2 rfl (by omega) _ L (bs.map byteV) hs h.own w.heap.size A2 m c2 (news.map byteV) hx hr.reads (bytes_one _) (by unfold maxLen; omega) (by omega) h.le ?_
  intro v' w' hown hgrow _
  obtain ⟨A', c', rfl, h'⟩ := h.appended (by simpa using hr.1) hown hgrow
  exact k A' c' w' h'
end

end Go.Proofs.Ytejombofjakllaa
