/-
  For every two numbers and every list of tables SfntOrders answers true and leaves its arguments as they were. No conditions.
  Layer 04: the law SfntOrders, walked.
  Layer 04: own slices of blobs.
-/
import Derived.Test.YtejombofjakllaaSfGm
import Derived.Test.YtejombofjakllaaBs
namespace Go.Proofs.Ytejombofjakllaa
open Go.RowKit Go.Shelf

/-- Blobs that a call made and appends to. -/
structure OwM (B : Nat) (w : World) (A : Option Addr) (L c : Nat) (l : List Bm) : Prop where
  len : l.length = L
  own : w.ownsRow B 36 2 (.slice A L c) L (l.map bmC).flatten
  le : B ≤ w.heap.size
section
variable {B : Nat} {w w' : World} {A : Option Addr} {L c : Nat} {l : List Bm}
theorem OwM.row (h : OwM B w A L c l) : ∀ k, rowOf A = some k → B ≤ k ∧ k < w.heap.size := fun k hk => own_lt h.own k (by rw [ownBlock_slice]; exact hk)
theorem OwM.stay (h : OwM B w A L c l) (hs : w.heap.size ≤ w'.heap.size) (hk : ∀ k, rowOf A = some k → w'.heap[k]? = w.heap[k]?) : OwM B w' A L c l :=
  ⟨h.len, own_keep h.own fun k e => hk k (by rw [← ownBlock_slice]; exact e), Nat.le_trans h.le hs⟩
theorem OwM.keep (h : OwM B w A L c l) (hb : Below w.heap.size w w') : OwM B w' A L c l := h.stay hb.size fun k hk => hb.block k (h.row k hk).2
theorem OwM.nil (h : B ≤ w.heap.size) : OwM B w none 0 0 [] := ⟨rfl, World.ownsRow_nil _ _ _ _, h⟩
theorem OwM.rows (h : OwM B w A L c l) : RowsAt w A L 2 (l.map bmC) := by
  obtain ⟨A', c', e, h1, _⟩ := RowsAt.of_own h.own rfl (bmC_lens l) (by omega)
  injection e with e1 e2 e3
  subst e1
  exact h1
theorem OwM.bl (h : OwM B w A L c l) (hd : ∀ v ∈ l, SlAt w v.A v.d.length (v.d.map byteV)) (hc : ∀ v ∈ l, v.d.length ≤ v.c) (hs : ∀ v ∈ l, v.d.length ≤ 140737488355328 ∧ v.t.length ≤ 140737488355328) : BlL w A L l := ⟨h.rows, hd, hc, hs⟩
theorem OwM.appended (h : OwM B w A L c l) {v' : Value} {s : Bm} (hown : w'.ownsRow B 36 2 v' (L + 1) ((l.map bmC).flatten ++ bmC s)) (hgrow : w.grownBy w' (Value.slice A L c).ownBlock) :
    ∃ A' c', v' = .slice A' (L + 1) c' ∧ OwM B w' A' (L + 1) c' (l ++ [s]) := by
  obtain ⟨A', c', rfl, _⟩ := RowsAt.of_own (rows := (l ++ [s]).map bmC) hown (by simp) (bmC_lens _) (by omega)
  exact ⟨A', c', rfl, by simp [h.len], by simpa using hown, Nat.le_trans h.le hgrow.size⟩
/-- What an append leaves: the slice, and all blocks but its old one. -/
def ApM (B : Nat) (A : Option Addr) (L : Nat) (l : List Bm) (s : Bm) (w : World) (A' : Option Addr) (c' : Nat) (w' : World) : Prop := OwM B w' A' (L + 1) c' (l ++ [s]) ∧ w.grownBy w' (rowOf A) ∧ (rowOf A' = rowOf A ∨ rowOf A' = some w.heap.size)
theorem wpList_append_bm {ops : Array Oper} {rest : List Oper} {o : Oper} {a : Act} {Q : Exit → Act → World → Prop} (hgd : o.guard = none) (s x : Operand)
    (ho : o.op = .call { callee := .builtin .append, args := #[s, x], argTypes := #[22, 22] }) (hs : a.eval s = .slice A L c) (h : OwM B w A L c l)
    (A2 : Option Addr) (c2 : Nat) (hx : a.eval x = .slice A2 1 c2) (sg : Bm) (hr : Reads w w.heap.size 2 A2 1 (bmC sg)) (hb : L ≤ 1000000)
    (k : ∀ A' c' w', ApM B A L l sg w A' c' w' → wpList Try.prog ops Q rest (a.put o.dst (.slice A' (L + 1) c')) w') : wpList Try.prog ops Q (o :: rest) a w := by
  obtain ⟨i0, z0, hi0, hz0, hz1, hz2, hz3⟩ := bm_parts
  refine wpList_append_any w hgd s x _ ho B 36 i0 _ 2 40 Try.underlying22 hi0 hz0 hz1 hz2 hz3 (by omega) _ L (l.map bmC).flatten hs h.own w.heap.size A2 1 c2 (bmC sg) hx hr (bmC_one sg) (by unfold maxLen; omega) (by omega) h.le ?_
  intro v' w' hown hgrow hat
  obtain ⟨A', c', rfl, h'⟩ := h.appended hown hgrow
  rw [ownBlock_slice] at hat hgrow
  rw [ownBlock_slice] at hat
  exact k A' c' w' ⟨h', hgrow, hat⟩
theorem step_append_bm {ops : Array Oper} {o : Oper} {a : Act} {K : Act → World → Prop} {Q : Exit → Act → World → Prop} {E : Prop} (hgd : o.guard = none) (s x : Operand)
    (ho : o.op = .call { callee := .builtin .append, args := #[s, x], argTypes := #[22, 22] }) (hs : a.eval s = .slice A L c) (h : OwM B w A L c l)
    (A2 : Option Addr) (c2 : Nat) (hx : a.eval x = .slice A2 1 c2) (sg : Bm) (hr : Reads w w.heap.size 2 A2 1 (bmC sg)) (hb : L ≤ 1000000)
    (k : ∀ A' c' w', ApM B A L l sg w A' c' w' → K (a.put o.dst (.slice A' (L + 1) c')) w') :
    if Region.wanted o (yielded ops a.tmps) = true then Oper.wp Try.prog o a w K Q else E := by
  obtain ⟨i0, z0, hi0, hz0, hz1, hz2, hz3⟩ := bm_parts
  refine step_append_any w hgd s x _ ho B 36 i0 _ 2 40 Try.underlying22 hi0 hz0 hz1 hz2 hz3 (by omega) _ L (l.map bmC).flatten hs h.own w.heap.size A2 1 c2 (bmC sg) hx hr (bmC_one sg) (by unfold maxLen; omega) (by omega) h.le ?_
  intro v' w' hown hgrow hat
  obtain ⟨A', c', rfl, h'⟩ := h.appended hown hgrow
  rw [ownBlock_slice] at hat hgrow
  rw [ownBlock_slice] at hat
  exact k A' c' w' ⟨h', hgrow, hat⟩
theorem reads_bm (W : World) (sg : Bm) : Reads (W.alloc (.cells #[.string (strB sg.t), .slice sg.A sg.d.length sg.c] 36)) (W.alloc (.cells #[.string (strB sg.t), .slice sg.A sg.d.length sg.c] 36)).heap.size 2 (some ⟨W.heap.size, 0, none⟩) 1 (bmC sg) := by
  rw [World.size_alloc]
  exact reads_new W (bmC sg) _ 2 1 rfl
theorem ApM.below {s : Bm} {A' : Option Addr} {c' : Nat} (h : ApM B A L l s w A' c' w') (h0 : OwM B w A L c l) : Below B w w' :=
  grown_belowF h.2.1 h0.le fun k hk => (h0.row k hk).1
/-- Another own slice stays. -/
theorem ApM.other {s : Bm} {A' : Option Addr} {c' B2 : Nat} {A2 : Option Addr} {L2 c2 : Nat} {l2 : List Bm} (h : ApM B A L l s w A' c' w') (h2 : OwM B2 w A2 L2 c2 l2) (hne : ∀ k, rowOf A = some k → rowOf A2 ≠ some k) :
    OwM B2 w' A2 L2 c2 l2 ∧ ∀ k, rowOf A' = some k → rowOf A2 ≠ some k := by
  refine ⟨h2.stay h.2.1.size fun k hk => h.2.1.block k (h2.row k hk).2 (fun e => hne k e.symm hk), fun k hk e => ?_⟩
  rcases h.2.2 with he | he
  · exact hne k (by rw [← he]; exact hk) e
  · rw [he] at hk
    injection hk with hk
    have := (h2.row k e).2
    omega
end
/-! ### Orders of a list -/
def onL (l : List Bm) (k : Nat) : List Bm := l.drop (k % l.length) ++ l.take (k % l.length)
theorem onL_len (l : List Bm) (k : Nat) (h : 0 < l.length) : (onL l k).length = l.length := by
  have := Nat.mod_lt k h
  unfold onL
  rw [List.length_append, List.length_drop, List.length_take]
  omega
theorem onL_perm (l : List Bm) (k : Nat) : (onL l k).Perm l := by
  unfold onL
  exact List.perm_append_comm.trans (by rw [List.take_append_drop])
theorem onL_at (l : List Bm) (k i : Nat) (h : i < l.length) : (onL l k)[i]? = l[(i + k) % l.length]? := by
  obtain ⟨m, hm⟩ : ∃ m, k % l.length = m := ⟨_, rfl⟩
  have hml : m < l.length := by rw [← hm]; exact Nat.mod_lt k (by omega)
  have he : (i + k) % l.length = if i + m < l.length then i + m else i + m - l.length := by
    rw [Nat.add_mod, hm, Nat.mod_eq_of_lt h]
    split
    · rename_i h1
      exact Nat.mod_eq_of_lt h1
    · rename_i h1
      rw [Nat.mod_eq_sub_mod (by omega), Nat.mod_eq_of_lt (by omega)]
  rw [he]
  unfold onL
  rw [hm]
  split
  · rw [List.getElem?_append_left (by rw [List.length_drop]; omega), List.getElem?_drop, Nat.add_comm]
  · rw [List.getElem?_append_right (by rw [List.length_drop]; omega), List.length_drop, List.getElem?_take, if_pos (by omega)]
    congr 1
    omega
theorem rev_at (l : List Bm) (i : Nat) (h : i < l.length) : l.reverse[i]? = l[l.length - 1 - i]? := List.getElem?_reverse h
end Go.Proofs.Ytejombofjakllaa

namespace Go.Proofs.Ytejombofjakllaa
open Go.RowKit Go.Shelf

set_option maxRecDepth 20000 in
set_option maxHeartbeats 2000000 in
theorem orders_law {w : World} {A : Option Addr} {n c : Nat} {es : List Bm} (v k : Int) (h : BlL w A n es) (hm : n ≤ 140737488355328) (hk : -9223372036854775808 ≤ k ∧ k ≤ 9223372036854775807) :
    Calls Try.prog 7 #[.int .i64 v, .slice A n c, .int .i64 k] w fun e w' => e = .returned (.bool true) ∧ Below w.heap.size w w' := by
  have HL := Lib.hid (large_any (c := c) h)
  by_cases hbad : largeB (es.map bmS) = true ∨ k < 0 ∨ 1000 < k
  · have hc : largeB (es.map bmS) = true ∨ (largeB (es.map bmS) = false ∧ decide (k < 0) = true) ∨ (largeB (es.map bmS) = false ∧ decide (k < 0) = false ∧ decide ((1000 : Int) < k) = true) := by
      cases hbL : largeB (es.map bmS)
      · rw [hbL] at hbad
        have hb : k < 0 ∨ 1000 < k := by simpa using hbad
        rcases Int.lt_or_le k 0 with h0 | h0
        · exact .inr (.inl ⟨rfl, by simp; omega⟩)
        · exact .inr (.inr ⟨rfl, by simp; omega, by simp; omega⟩)
      · exact .inl rfl
    clear hbad
    rcases hc with hL | ⟨hL, d1⟩ | ⟨hL, d1, d2⟩
    all_goals
      rw [hL] at HL
      clear hL h
      go_enter Try.func7, Try.ntmps7
      go_wp2_with (first
        | (go_at_call 8; (with_reducible refine HL.out.mono ?_); rintro e w1 ⟨rfl, rfl⟩)
        | (go_at_call 9; (with_reducible refine (lives_any _).mono ?_); rintro e w3 ⟨rfl, hb⟩; have HB := Lib.hid hb; clear hb)
        | fail)
      go_ret
      exact ⟨rfl, HB.out⟩
  obtain ⟨hL, k0, k1⟩ : largeB (es.map bmS) = false ∧ 0 ≤ k ∧ k ≤ 1000 := by
    refine ⟨?_, by omega, by omega⟩
    cases hL : largeB (es.map bmS)
    · rfl
    · exact absurd (Or.inl hL) hbad
  have hn : n ≤ 100 := by
    unfold largeB at hL
    rw [List.length_map, h.len] at hL
    simp only [Bool.or_eq_false_iff, decide_eq_false_iff_not] at hL
    omega
  rw [hL] at HL
  obtain ⟨k, rfl⟩ : ∃ m : Nat, k = m := ⟨k.toNat, by omega⟩
  have d1 : decide ((k : Int) < 0) = false := by simp
  have d2 : decide ((1000 : Int) < k) = false := by simp; omega
  have H := Lib.hid h
  have HN := Lib.hid h.len
  clear hL hbad h
  go_enter Try.func7, Try.ntmps7
  go_wp2_with (first
    | (go_at_call 8; (with_reducible refine HL.out.mono ?_); rintro e w1 ⟨rfl, rfl⟩)
    | fail)
  obtain ⟨R, hR⟩ : ∃ R, es.reverse = R := ⟨_, rfl⟩
  obtain ⟨Q, hQ⟩ : ∃ Q, onL es k = Q := ⟨_, rfl⟩
  have HR := Lib.hid hR
  have HQ := Lib.hid hQ
  clear hR hQ
  go_loopw [7, 8, 9] (fun b o i wr => ∃ (j : Nat) (Ab Ao : Option Addr) (cb co : Nat), j ≤ n ∧ i = .int .i64 j ∧ b = .slice Ab j cb ∧ o = .slice Ao j co ∧ Hid (OwM w.heap.size wr Ab j cb (R.take j)) ∧ Hid (OwM w.heap.size wr Ao j co (Q.take j)) ∧ Hid (∀ k, rowOf Ab = some k → rowOf Ao ≠ some k) ∧ Hid (Below w.heap.size w wr)) (fun _ _ i _ => n - (intOf i).toNat)
  case atStart => exact ⟨0, none, none, 0, 0, Nat.zero_le _, rfl, rfl, rfl, Lib.hid (OwM.nil (Nat.le_refl _)), Lib.hid (OwM.nil (Nat.le_refl _)), Lib.hid (fun k e => by cases e), Lib.hid (Below.refl _ _)⟩
  case round =>
    obtain ⟨j, Ab, Ao, cb, co, hj, rfl, rfl, rfl, HMb, HMo, HNE, HBW⟩ := hrel
    by_cases hlt : j < n
    · have d3 : decide ((j : Int) < n) = true := by simp; omega
      obtain ⟨x, hx⟩ := get_some' (l := es) (k := n - 1 - j) (by rw [HN.out]; omega)
      obtain ⟨y, hy⟩ := get_some' (l := es) (k := (j + k) % n) (by rw [HN.out]; exact Nat.mod_lt _ (by omega))
      have hxR : R[j]? = some x := by rw [← HR.out, rev_at es j (by rw [HN.out]; exact hlt), HN.out]; exact hx
      have hyQ : Q[j]? = some y := by rw [← HQ.out, onL_at es k j (by rw [HN.out]; exact hlt), HN.out]; exact hy
      have HXT := Lib.hid (take_snoc' hxR)
      have HYT := Lib.hid (take_snoc' hyQ)
      obtain ⟨b, o, rfl, hb, hx0, hx1⟩ := H.out.at_ hx
      obtain ⟨b', o', hA', -, hy0, hy1⟩ := H.out.at_ hy
      injection hA' with hA'
      injection hA' with e1 e2
      subst e1 e2
      have r0 := (HBW.out.cell (p := ⟨b, _, none⟩) hb).trans hx0
      have r1 := (HBW.out.cell (p := ⟨b, _, none⟩) hb).trans hx1
      have r2 := (HBW.out.cell (p := ⟨b, _, none⟩) hb).trans hy0
      have r3 := (HBW.out.cell (p := ⟨b, _, none⟩) hb).trans hy1
      have hbl := Nat.lt_of_lt_of_le hb HBW.out.size
      have w1 : wrap64 ((n : Int) - 1) = (n : Int) - 1 := by unfold wrap64; omega
      have w2 : wrap64 ((n : Int) - 1 - j) = ((n - 1 - j : Nat) : Int) := by unfold wrap64; omega
      have w3 : wrap64 ((j : Int) + k) = ((j + k : Nat) : Int) := by unfold wrap64; omega
      have w4 : ((j + k : Nat) : Int).tmod n = (((j + k) % n : Nat) : Int) := by rw [Int.tmod_eq_emod_of_nonneg (by omega)]; rfl
      have m1 : (j + k) % n < n := Nat.mod_lt _ (by omega)
      have d4 : decide ((n : Int) - 1 - j < n) = true := by simp; omega
      have m2 : ((j : Int) + k) % n < n := Int.emod_lt_of_pos _ (by omega)
      have m3 : 0 ≤ ((j : Int) + k) % n := Int.emod_nonneg _ (by omega)
      have HRb := Lib.hid (HMb.out.keep (bel_alloc (o := .cells #[.string (strB x.t), .slice x.A x.d.length x.c] 36) (bel_refl (a := wr))).below)
      have hj6 : j ≤ 1000000 := by omega
      clear hx hy hxR hyQ hx0 hx1
      have HBb : Hid (∀ A1 c1 w1, ApM w.heap.size Ab j (R.take j) x (wr.alloc (.cells #[.string (strB x.t), .slice x.A x.d.length x.c] 36)) A1 c1 w1 → w1.cell? ⟨b, o + (j + k) % n * 2, none⟩ = some (.string (strB y.t)) ∧ w1.cell? ⟨b, o + (j + k) % n * 2 + 1, none⟩ = some (.slice y.A y.d.length y.c) ∧ b < w1.heap.size ∧ OwM w.heap.size w1 Ao j co (Q.take j) ∧ (∀ k, rowOf A1 = some k → rowOf Ao ≠ some k) ∧ Below w.heap.size w w1 ∧ OwM w.heap.size w1 A1 (j + 1) c1 (R.take (j + 1))) := Lib.hid fun A1 c1 w1 hap => by
        have hbel := HBW.out.trans (((bel_alloc (o := .cells #[.string (strB x.t), .slice x.A x.d.length x.c] 36) (bel_refl (a := wr))).below.mono HBW.out.size).trans (hap.below HRb.out))
        have ho := hap.other (HMo.out.keep (bel_alloc (o := .cells #[.string (strB x.t), .slice x.A x.d.length x.c] 36) (bel_refl (a := wr))).below) HNE.out
        refine ⟨(hbel.cell (p := ⟨b, _, none⟩) hb).trans hy0, (hbel.cell (p := ⟨b, _, none⟩) hb).trans hy1, Nat.lt_of_lt_of_le hb hbel.size, ho.1, ho.2, hbel, ?_⟩
        rw [HXT.out]
        exact hap.1
      have HBo : Hid (∀ A1 c1 w1 A2 c2 w2, OwM w.heap.size w1 Ao j co (Q.take j) → (∀ k, rowOf A1 = some k → rowOf Ao ≠ some k) → Below w.heap.size w w1 → OwM w.heap.size w1 A1 (j + 1) c1 (R.take (j + 1)) → ApM w.heap.size Ao j (Q.take j) y (w1.alloc (.cells #[.string (strB y.t), .slice y.A y.d.length y.c] 36)) A2 c2 w2 → OwM w.heap.size w2 A1 (j + 1) c1 (R.take (j + 1)) ∧ OwM w.heap.size w2 A2 (j + 1) c2 (Q.take (j + 1)) ∧ (∀ k, rowOf A1 = some k → rowOf A2 ≠ some k) ∧ Below w.heap.size w w2) := Lib.hid fun A1 c1 w1 A2 c2 w2 g1 g2 g3 g4 hap => by
        have hal : Below w1.heap.size w1 (w1.alloc (.cells #[.string (strB y.t), .slice y.A y.d.length y.c] 36)) := (bel_alloc bel_refl).below
        have ho := hap.other (g4.keep hal) (fun k hk e => g2 k e hk)
        refine ⟨ho.1, by rw [HYT.out]; exact hap.1, fun k hk e => ho.2 k e hk, g3.trans ((hal.mono g3.size).trans (hap.below (g1.keep hal)))⟩
      clear hy0 hy1 HRb HMo HNE HXT HYT HBW r2 r3
      have HRb := Lib.hid (HMb.out.keep (bel_alloc (o := .cells #[.string (strB x.t), .slice x.A x.d.length x.c] 36) (bel_refl (a := wr))).below)
      go_wp2_with (first
        | (at_builtin; refine wpList_append_bm (by rfl) (.tmp 33) (.tmp 42) (by rfl) (by rfl) HRb.out _ _ (by rfl) x (reads_bm _ x) hj6 ?_; intro A1 c1 w1 hap; obtain ⟨q0, q1, q2, g1, g2, g3, g4⟩ := HBb.out _ _ _ hap; have G1 := Lib.hid g1; have G2 := Lib.hid g2; have G3 := Lib.hid g3; have G4 := Lib.hid g4; have HRo := Lib.hid (g1.keep (bel_alloc (o := .cells #[.string (strB y.t), .slice y.A y.d.length y.c] 36) (bel_refl (a := w1))).below); clear hap g1 g2 g3 g4 HBb HRb)
        | (at_builtin; refine wpList_append_bm (by rfl) (.tmp 44) (.tmp 54) (by rfl) (by rfl) HRo.out _ _ (by rfl) y (reads_bm _ y) hj6 ?_; intro A2 c2 w2 hap; obtain ⟨g1, g2, g3, g4⟩ := HBo.out _ _ _ _ _ _ G1.out G2.out G3.out G4.out hap; have F1 := Lib.hid g1; have F2 := Lib.hid g2; have F3 := Lib.hid g3; have F4 := Lib.hid g4; clear hap g1 g2 g3 g4 HBo HRo)
        | fail)
      go_roundw
      case rel => exact ⟨j + 1, A1, A2, c1, c2, by omega, by go_num, rfl, rfl, F1, F2, F3, F4⟩
      case measure => simp [intOf]; omega
    · obtain rfl : j = n := by omega
      have hRt : R.take j = R := List.take_of_length_le (by rw [← HR.out, List.length_reverse, HN.out]; exact Nat.le_refl _)
      have hQt : Q.take j = Q := by
        refine List.take_of_length_le ?_
        rw [← HQ.out]
        rcases Nat.eq_zero_or_pos es.length with h0 | h0
        · have := HN.out
          have he : es = [] := List.eq_nil_of_length_eq_zero h0
          rw [he]
          simp [onL]
        · rw [onL_len es k h0, HN.out]
          exact Nat.le_refl _
      rw [hRt] at HMb
      rw [hQt] at HMo
      have hRp : R.Perm es := by rw [← HR.out]; exact List.reverse_perm es
      have hQp : Q.Perm es := by rw [← HQ.out]; exact onL_perm es k
      have H1 := Lib.hid (H.out.keep HBW.out)
      have H2 := Lib.hid (HMb.out.bl (fun v hv => H1.out.data v (hRp.mem_iff.1 hv)) (fun v hv => H1.out.cap v (hRp.mem_iff.1 hv)) (fun v hv => H1.out.small v (hRp.mem_iff.1 hv)))
      have H3 := Lib.hid (HMo.out.bl (fun v hv => H1.out.data v (hQp.mem_iff.1 hv)) (fun v hv => H1.out.cap v (hQp.mem_iff.1 hv)) (fun v hv => H1.out.small v (hQp.mem_iff.1 hv)))
      have b2 := build_perm (v := v) (hRp.map bmS)
      have b3 := build_perm (v := v) (hQp.map bmS)
      have hB1 : ∀ W (h : BlL W A j es), Calls Try.prog 10 #[.int .i64 v, .slice A j c] W (BdR (buildS v (es.map bmS)) (chkS v (es.map bmS)) W) := fun W h => Build_any v h hm
      have hB2 : ∀ W (h : BlL W Ab j R), Calls Try.prog 10 #[.int .i64 v, .slice Ab j cb] W (BdR (buildS v (es.map bmS)) (chkS v (es.map bmS)) W) := fun W h => by
        have := Build_any (c := cb) v h hm
        rwa [b2.1, b2.2] at this
      have hB3 : ∀ W (h : BlL W Ao j Q), Calls Try.prog 10 #[.int .i64 v, .slice Ao j co] W (BdR (buildS v (es.map bmS)) (chkS v (es.map bmS)) W) := fun W h => by
        have := Build_any (c := co) v h hm
        rwa [b3.1, b3.2] at this
      generalize buildS v (es.map bmS) = N at hB1 hB2 hB3
      generalize chkS v (es.map bmS) = x at hB1 hB2 hB3
      have HB1 := Lib.hid hB1
      have HB2 := Lib.hid hB2
      have HB3 := Lib.hid hB3
      clear hB1 hB2 hB3 b2 b3 hRp hQp hRt hQt HMb HMo HNE HR HQ
      go_wp2_with (first
        | (go_at_call 10; (with_reducible refine (HB1.out _ H1.out).mono ?_); rintro e w1 ⟨A1, c1, rfl, hs, _, hb⟩; have HS1 := Lib.hid hs; have H2' := Lib.hid (H2.out.keep hb); have H3' := Lib.hid (H3.out.keep hb); have HBA := Lib.hid (HBW.out.trans (hb.mono HBW.out.size)); clear hs hb H1 H2 H3)
        | (go_at_call 10; (with_reducible refine (HB2.out _ H2'.out).mono ?_); rintro e w2 ⟨A2, c2, rfl, hs, _, hb⟩; have HS2 := Lib.hid hs; have HT1 := Lib.hid (HS1.out.keep hb); have H3c := Lib.hid (H3'.out.keep hb); have HBB := Lib.hid (HBA.out.trans (hb.mono HBA.out.size)); clear hs hb H2' H3' HS1)
        | (go_at_call 10; (with_reducible refine (HB3.out _ H3c.out).mono ?_); rintro e w3 ⟨A3, c3, rfl, hs, _, hb⟩; have HU3 := Lib.hid hs; have HU1 := Lib.hid (HT1.out.keep hb); have HU2 := Lib.hid (HS2.out.keep hb); have HBC := Lib.hid (HBB.out.trans (hb.mono HBB.out.size)); clear hs hb H3c HT1 HS2)
        | (go_at_call 9; (with_reducible refine (lives_any _).mono ?_); rintro e w4 ⟨rfl, hb⟩; have q1 : ∀ c, (convert 25 9 (.slice A1 N.length c)).run Try.prog w4 = .ok (.string (strB N)) w4 := (fun c => run_str (P := Try.prog) (HU1.out.keep hb).sl Try.underlying25 Try.underlying5 Try.underlying9 c); have q2 : ∀ c, (convert 25 9 (.slice A2 N.length c)).run Try.prog w4 = .ok (.string (strB N)) w4 := (fun c => run_str (P := Try.prog) (HU2.out.keep hb).sl Try.underlying25 Try.underlying5 Try.underlying9 c); have q3 : ∀ c, (convert 25 9 (.slice A3 N.length c)).run Try.prog w4 = .ok (.string (strB N)) w4 := (fun c => run_str (P := Try.prog) (HU3.out.keep hb).sl Try.underlying25 Try.underlying5 Try.underlying9 c); have HBD := Lib.hid (HBC.out.trans (hb.mono HBC.out.size)); clear hb HU1 HU2 HU3)
        | fail)
      go_ret
      exact ⟨rfl, HBD.out⟩
end Go.Proofs.Ytejombofjakllaa

namespace Go.Proofs.Ytejombofjakllaa
open Go.ChangeShapes Go.WideShapes Go.ChangeAt Go.RowKit

set_option maxRecDepth 100000 in
theorem sfntOrders_lifted (os : Os) (started : os.Started) (H : Type) (enc : TypeId × Value → H) :
    ReturnsInHanded {} Try.checked os 7 .any (Rows.sfntOrdersSpec.pre6 enc Try.prog Try.f7 Rows.sfntOrdersRow.domain false) (Rows.sfntOrdersSpec.post enc Try.prog Try.f7 false true false false) := by
  refine returnsInHanded_of_change_sized (C := Try.checked) own_none started (by kernel_rfl) Try.func7
    (ChangeSpec.witness6 (enc := enc) (C := Try.checked) false ⟨#[], #[.int .i64 0, .slice none 0 0, .int .i64 0], []⟩ 8 (by kernel_rfl) (by kernel_rfl) (by kernel_rfl) (by kernel_rfl)) ?_
  intro W base args ds gs before hval0 hW _ hwt _
  have hval : ∀ (j : Nat) t v, Try.f7.params[j]? = some t → args[j]? = some v → Value.okWide Try.prog W .any base t v := hval0
  have hW' := hW
  obtain ⟨p, q, hA0, _, _, _, _⟩ := hW
  have hA : DataW.TrodAll enc Try.prog W 0 (fun _ => true) true Try.f7.params.toList args.toList ds p := hA0
  rw [Try.params7] at hA hval
  obtain ⟨v0, v1, v2, d0, d1, d2, p0, p1, p2, rfl, rfl, rfl, h0, h1, h2⟩ := trodAll_three hA
  obtain ⟨v, rfl, wv⟩ := open_num Try.underlying3 (hval 0 _ _ rfl rfl) h0
  have bv := bounds_i64 wv
  obtain ⟨A, n, c, rfl, k1, m1, r1, s1⟩ := open_sl (eb := 40) (ks := [.str, .sl 1 [.int .u8]]) Try.underlying22 (by kernel_rfl) (hval 1 _ _ rfl rfl) h1 (reach_all (ts := [3, 22, 3]) (by kernel_rfl) hwt (j := 1) rfl rfl)
  obtain ⟨k, rfl, wk⟩ := open_num Try.underlying3 (hval 2 _ _ rfl rfl) h2
  have bk := bounds_i64 wk
  clear hA0 hval0
  obtain ⟨es, hB⟩ := blobs_of s1
  refine (orders_law v k hB (by omega) ⟨by omega, by omega⟩).mono fun e W' ⟨he, hb⟩ => ?_
  subst he
  exact ⟨_, rfl, law_post_any laid_out Try.underlying4 hW' (by kernel_rfl) rfl rfl rfl hb⟩

theorem sfntOrders_holds : Rows.SfntOrdersSaid :=
  OpenClaim.holds_of_wide 7 Try.f7 rfl rfl rfl rfl rfl rfl rfl ⟨rfl, rfl, rfl, rfl, rfl⟩ rfl rfl rfl rfl rfl (by kernel_rfl) Try.func7 (by kernel_rfl)
    (of_decide_eq_true (by kernel_rfl)) (by unfold Func.isWrapper; first | (rw [if_pos (by decide +kernel)]; kernel_rfl) | (rw [if_neg (by decide +kernel)]; exact ⟨rfl, rfl⟩))
    (fun os started H enc _ => sfntOrders_lifted os started H enc)

end Go.Proofs.Ytejombofjakllaa
