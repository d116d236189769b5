/-
  A slice of slices of bytes that the call made and appends to.
-/
import Derived.Test.YtbmflgcahbkdeaaOwI
import Derived.Test.YtbmflgcahbkdeaaLs
namespace Go.Proofs.Ytbmflgcahbkdeaa
open Go.RowKit

theorem sls_info : (Try.prog.info? 22).map (fun i => (i.zero, i.size, i.bytes)) = some (some (.slice none 0 0), 1, 24) := by kernel_rfl
/-- A slice of bytes whose block, if it has bytes, is one of bytes. -/
structure Bt (w : World) (A : Option Addr) (l : List UInt8) (c : Nat) : Prop where
  bw : Bw w A l c
  typed : 0 < l.length → ∀ b, rowOf A = some b → ∃ cs f, w.heap[b]? = some (.cells cs 5 f)
structure OwLs (B : Nat) (w : World) (A : Option Addr) (k c : Nat) (ls : List (List UInt8)) : Prop where
  len : ls.length = k
  le : B ≤ w.heap.size
  own : ∃ vals : List Value, w.ownsRow B 22 1 (.slice A k c) k vals ∧ (∀ u ∈ vals, u.oneCell' = true) ∧ ∀ (i : Nat) (l : List UInt8), ls[i]? = some l → ∃ Ai ci, vals[i]? = some (Value.slice Ai l.length ci) ∧ Bt w Ai l ci
section
variable {B : Nat} {w w' : World} {A : Option Addr} {k c : Nat} {ls : List (List UInt8)}
theorem Bt.stay {l : List UInt8} (h : Bt w A l c) (hs : w.heap.size ≤ w'.heap.size) (hk : ∀ b, 0 < l.length → rowOf A = some b → w'.heap[b]? = w.heap[b]?) : Bt w' A l c := by
  refine ⟨⟨⟨h.bw.sl.1, fun i hi => ?_⟩, h.bw.cap, h.bw.small, fun h0 b hb => Nat.lt_of_lt_of_le (h.bw.row h0 b hb) hs⟩, fun h0 b hb => by rw [hk b h0 hb]; exact h.typed h0 b hb⟩
  obtain ⟨b, o, rfl, hlt, hc⟩ := h.bw.sl.2 i hi
  exact ⟨b, o, rfl, Nat.lt_of_lt_of_le hlt hs, by rw [World.cell?_of_block (w := w) (w' := w') (hk b (by omega) rfl)]; exact hc⟩
theorem Bt.keep {l : List UInt8} (h : Bt w A l c) (hb : Below w.heap.size w w') : Bt w' A l c :=
  h.stay hb.size fun b h0 e => hb.block b (h.bw.row h0 b e)
theorem OwLs.keep (h : OwLs B w A k c ls) (hb : Below w.heap.size w w') : OwLs B w' A k c ls := by
  obtain ⟨h1, h2, vals, h3, h4, h5⟩ := h
  refine ⟨h1, Nat.le_trans h2 hb.size, vals, own_keep h3 fun b e => hb.block b (own_lt h3 b e).2, h4, fun i l hl => ?_⟩
  obtain ⟨Ai, ci, e, ht⟩ := h5 i l hl
  exact ⟨Ai, ci, e, ht.keep hb⟩
theorem OwLs.nil (h : B ≤ w.heap.size) : OwLs B w none 0 0 [] := ⟨rfl, h, [], World.ownsRow_nil _ _ _ _, by simp, fun i l hl => by simp at hl⟩
theorem OwLs.row (h : OwLs B w A k c ls) : ∀ b, rowOf A = some b → B ≤ b ∧ b < w.heap.size := by
  obtain ⟨_, _, vals, h3, _⟩ := h
  exact fun b hb => own_lt h3 b (by rw [ownBlock_slice]; exact hb)
theorem OwLs.toLs (h : OwLs B w A k c ls) : Ls w A ls := by
  obtain ⟨h1, h2, vals, h3, h4, h5⟩ := h
  obtain ⟨A', c', e, hs, _⟩ := SlAt.of_own h3
  injection e with e1 e2 e3
  subst e1
  intro i l hl
  obtain ⟨Ai, ci, e, ht⟩ := h5 i l hl
  have hi := (List.getElem?_eq_some_iff.1 hl).1
  obtain ⟨b, o, hA, hb, hc⟩ := hs.2 i (by omega)
  exact ⟨b, o, Ai, ci, hA, hb, by rw [hc]; exact e, ht.bw⟩
/-- The block of an owned row bears the row's type. -/
theorem own_typed {e : TypeId} {v : Value} {n : Nat} {xs : List Value} {size : Nat} (h : w.ownsRow B e size v n xs) : ∀ b, v.ownBlock = some b → ∃ cs, w.heap[b]? = some (.cells cs e (0, 0)) := by
  intro b hb
  obtain ⟨_, ⟨rfl, _⟩ | ⟨g, cap, cur, rfl, _, h4, _⟩⟩ := h
  · cases hb
  · simp only [Value.ownBlock, Option.some.injEq] at hb
    subst hb
    exact ⟨cur, h4⟩
theorem OwB.toBt {w0 : World} {L : Nat} {bs : List UInt8} (h : OwB B w0 w A L c bs) (hn : L ≤ 140737488355328) : Bt w A bs c := by
  refine ⟨(h.toBs hn).bw, fun _ b hb => ?_⟩
  obtain ⟨cs, hc⟩ := own_typed h.own b (by rw [ownBlock_slice]; exact hb)
  exact ⟨cs, _, hc⟩
/-- What an append of one slice leaves. -/
theorem OwLs.appended (h : OwLs B w A k c ls) {v' : Value} {l : List UInt8} {A2 : Option Addr} {c2 : Nat} (hne : (22 : TypeId) ≠ 5) (hl : Bt w A2 l c2) {vals : List Value} (hv : w.ownsRow B 22 1 (.slice A k c) k vals)
    (h4 : ∀ u ∈ vals, u.oneCell' = true) (h5 : ∀ (i : Nat) (l : List UInt8), ls[i]? = some l → ∃ Ai ci, vals[i]? = some (Value.slice Ai l.length ci) ∧ Bt w Ai l ci)
    (hown : w'.ownsRow B 22 1 v' (k + 1) (vals ++ [.slice A2 l.length c2])) (hgrow : w.grownBy w' (Value.slice A k c).ownBlock) :
    ∃ A' c', v' = .slice A' (k + 1) c' ∧ OwLs B w' A' (k + 1) c' (ls ++ [l]) := by
  obtain ⟨A', c', rfl, _, _, _⟩ := of_ownC hown
  have hlen : vals.length = k := by have := hv.1; omega
  have stay : ∀ {Ai : Option Addr} {m : List UInt8} {ci : Nat}, Bt w Ai m ci → Bt w' Ai m ci := fun {Ai m ci} ht => ht.stay hgrow.size fun b h0 e => hgrow.block b (ht.bw.row h0 b e) fun e2 => by
    obtain ⟨cs, hc⟩ := own_typed hv b e2.symm
    obtain ⟨cs', f, hc'⟩ := ht.typed h0 b e
    rw [hc] at hc'
    injection hc' with hc'
    injection hc' with _ hc' _
    exact hne hc'
  refine ⟨A', c', rfl, by rw [List.length_append, h.len]; rfl, Nat.le_trans h.le hgrow.size, _, hown, fun u hu => ?_, fun i m hm => ?_⟩
  · rcases List.mem_append.1 hu with hu | hu
    · exact h4 u hu
    · simp only [List.mem_cons, List.not_mem_nil, or_false] at hu
      subst hu
      rfl
  · rcases Nat.lt_or_ge i k with hi | hi
    · rw [List.getElem?_append_left (by rw [h.len]; exact hi)] at hm
      obtain ⟨Ai, ci, e, ht⟩ := h5 i m hm
      exact ⟨Ai, ci, by rw [List.getElem?_append_left (by omega)]; exact e, stay ht⟩
    · rw [List.getElem?_append_right (by rw [h.len]; exact hi), h.len] at hm
      have hik : i - k = 0 := by
        rcases Nat.eq_zero_or_pos (i - k) with e | e
        · exact e
        · rw [List.getElem?_eq_none (by simp; omega)] at hm; cases hm
      rw [hik] at hm
      simp only [List.getElem?_cons_zero, Option.some.injEq] at hm
      subst hm
      exact ⟨A2, c2, by rw [List.getElem?_append_right (by omega), hlen, hik]; rfl, stay hl⟩
theorem slat_sl (w : World) (v : Value) : SlAt (w.alloc (.cells #[v] 22)) (some ⟨w.heap.size, 0, none⟩) 1 [v] := by
  refine ⟨rfl, fun k hk => ⟨w.heap.size, 0, rfl, by simp, ?_⟩⟩
  obtain rfl : k = 0 := by omega
  simp
theorem step_append_ols {ops : Array Oper} {o : Oper} {a : Act} {K : Act → World → Prop} {Q : Exit → Act → World → Prop} {E : Prop} (hgd : o.guard = none) (s x : Operand)
    (ho : o.op = .call { callee := .builtin .append, args := #[s, x], argTypes := #[28, 28] }) (hs : a.eval s = .slice A k c) (h : OwLs B w A k c ls)
    (A2 : Option Addr) (c2 : Nat) (l : List UInt8) (hl : Bt w A2 l c2) (Ax : Option Addr) (cx : Nat) (hx : a.eval x = .slice Ax 1 cx) (hr : SlAt w Ax 1 [.slice A2 l.length c2]) (hb : k + 1 ≤ 4398046511104)
    (hk : ∀ A' c' w', OwLs B w' A' (k + 1) c' (ls ++ [l]) → w.grownBy w' (rowOf A) → K (a.put o.dst (.slice A' (k + 1) c')) w') :
    if Region.wanted o (yielded ops a.tmps) = true then Oper.wp Try.prog o a w K Q else E := by
  obtain ⟨i0, hi0, hz0, hz1, hz2⟩ := info_parts sls_info
  obtain ⟨h1, h2, vals, h3, h4, h5⟩ := h
  refine step_append_any w hgd s x _ ho B 22 i0 _ 1 24 Try.underlying28 hi0 hz0 hz1 hz2 rfl (by omega) _ k vals hs h3 w.heap.size Ax 1 cx _ hx hr.reads (by intro u hu; simp only [List.mem_cons, List.not_mem_nil, or_false] at hu; subst hu; rfl) (by unfold maxLen; omega) (by omega) h2 ?_
  intro v' w' hown hgrow _
  obtain ⟨A', c', rfl, h'⟩ := OwLs.appended ⟨h1, h2, vals, h3, h4, h5⟩ (by decide) hl h3 h4 h5 hown hgrow
  rw [ownBlock_slice] at hgrow
  exact hk A' c' w' h' hgrow
theorem wpList_append_ols {ops : Array Oper} {rest : List Oper} {o : Oper} {a : Act} {Q : Exit → Act → World → Prop} (hgd : o.guard = none) (s x : Operand)
    (ho : o.op = .call { callee := .builtin .append, args := #[s, x], argTypes := #[28, 28] }) (hs : a.eval s = .slice A k c) (h : OwLs B w A k c ls)
    (A2 : Option Addr) (c2 : Nat) (l : List UInt8) (hl : Bt w A2 l c2) (Ax : Option Addr) (cx : Nat) (hx : a.eval x = .slice Ax 1 cx) (hr : SlAt w Ax 1 [.slice A2 l.length c2]) (hb : k + 1 ≤ 4398046511104)
    (hk : ∀ A' c' w', OwLs B w' A' (k + 1) c' (ls ++ [l]) → w.grownBy w' (rowOf A) → wpList Try.prog ops Q rest (a.put o.dst (.slice A' (k + 1) c')) w') : wpList Try.prog ops Q (o :: rest) a w := by
  obtain ⟨i0, hi0, hz0, hz1, hz2⟩ := info_parts sls_info
  obtain ⟨h1, h2, vals, h3, h4, h5⟩ := h
  refine wpList_append_any w hgd s x _ ho B 22 i0 _ 1 24 Try.underlying28 hi0 hz0 hz1 hz2 rfl (by omega) _ k vals hs h3 w.heap.size Ax 1 cx _ hx hr.reads (by intro u hu; simp only [List.mem_cons, List.not_mem_nil, or_false] at hu; subst hu; rfl) (by unfold maxLen; omega) (by omega) h2 ?_
  intro v' w' hown hgrow _
  obtain ⟨A', c', rfl, h'⟩ := OwLs.appended ⟨h1, h2, vals, h3, h4, h5⟩ (by decide) hl h3 h4 h5 hown hgrow
  rw [ownBlock_slice] at hgrow
  exact hk A' c' w' h' hgrow
end

end Go.Proofs.Ytbmflgcahbkdeaa
