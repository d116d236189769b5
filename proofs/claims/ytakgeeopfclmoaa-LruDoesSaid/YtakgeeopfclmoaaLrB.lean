/-
  Layer 25, plain: what a cache's slots say, and what its operations make of the list of its entries.
-/
import Derived.Test.YtakgeeopfclmoaaLrA
namespace Go.Proofs.Ytakgeeopfclmoaa

def zBq : Bq := ⟨0, 0, 0, 0⟩
def zMs : Ms := ⟨zBq, []⟩
def zK4 : K4 := ⟨0, 0, 0, 0⟩
def zSl : Sl := ⟨zK4, zMs, none, 0, 0, 0⟩
def entOf (s : Sl) : En := (s.k, s.m)
def entAt (ss : List Sl) (i : Nat) : En := entOf (ss.getD i zSl)
def ents (ss : List Sl) (l : List Nat) : List En := l.map (entAt ss)
def keysE (ss : List Sl) (l : List Nat) : List (K4 × Nat) := l.map fun i => ((entAt ss i).1, i)

theorem entAt_some {ss : List Sl} {i : Nat} {s : Sl} (h : ss[i]? = some s) : entAt ss i = (s.k, s.m) := by
  unfold entAt
  rw [List.getD_eq_getElem?_getD, h]; rfl
theorem entAt_pay {ss ss' : List Sl} (h : ss'.map pay = ss.map pay) (i : Nat) : entAt ss' i = entAt ss i := by
  have h1 := at_of_pay h i
  unfold entAt
  rw [List.getD_eq_getElem?_getD, List.getD_eq_getElem?_getD]
  cases h2 : ss[i]? with
  | none => rw [h2] at h1; rw [Option.map_eq_none_iff.1 h1]
  | some s =>
    rw [h2] at h1
    obtain ⟨s', h3, h4⟩ := Option.map_eq_some_iff.1 h1
    rw [h3]
    simp only [pay, Prod.mk.injEq] at h4
    simp [entOf, h4.1, h4.2.1]
theorem ents_pay {ss ss' : List Sl} (h : ss'.map pay = ss.map pay) (l : List Nat) : ents ss' l = ents ss l := List.map_congr_left fun i _ => entAt_pay h i
theorem keysE_pay {ss ss' : List Sl} (h : ss'.map pay = ss.map pay) (l : List Nat) : keysE ss' l = keysE ss l := List.map_congr_left fun i _ => by rw [entAt_pay h]
theorem entAt_ne {ss : List Sl} {f : Sl → Sl} {i j : Nat} (h : i ≠ j) : entAt (ss.modify i f) j = entAt ss j := by
  unfold entAt
  rw [List.getD_eq_getElem?_getD, mod_ne h, ← List.getD_eq_getElem?_getD]
theorem ents_ne {ss : List Sl} {f : Sl → Sl} {i : Nat} {l : List Nat} (h : i ∉ l) : ents (ss.modify i f) l = ents ss l := List.map_congr_left fun _ hj => entAt_ne fun e => h (e ▸ hj)
theorem keysE_ne {ss : List Sl} {f : Sl → Sl} {i : Nat} {l : List Nat} (h : i ∉ l) : keysE (ss.modify i f) l = keysE ss l := List.map_congr_left fun j hj => by
  have hne : i ≠ j := fun e => h (by rw [e]; exact hj)
  rw [entAt_ne hne]
theorem ents_push {ss : List Sl} {s : Sl} {l : List Nat} (h : ∀ i ∈ l, i < ss.length) : ents (ss ++ [s]) l = ents ss l := List.map_congr_left fun j hj => by
  unfold entAt
  rw [List.getD_eq_getElem?_getD, List.getElem?_append_left (h j hj), ← List.getD_eq_getElem?_getD]
theorem keysE_push {ss : List Sl} {s : Sl} {l : List Nat} (h : ∀ i ∈ l, i < ss.length) : keysE (ss ++ [s]) l = keysE ss l := List.map_congr_left fun j hj => by
  unfold entAt
  rw [List.getD_eq_getElem?_getD, List.getElem?_append_left (h j hj), ← List.getD_eq_getElem?_getD]

/-- The slots in l are the entries L, in this order; those in fr are free; those in pend are neither. -/
structure Ok (S : Lk) (l fr pend : List Nat) (L : List En) : Prop where
  link : Linked S l
  perm : (l ++ fr ++ pend).Perm (List.range S.ss.length)
  ents : ents S.ss l = L
  keys : (L.map (·.1)).Nodup
  small : S.ss.length ≤ 262145

section
variable {S : Lk} {l fr pend : List Nat} {L : List En}
theorem Ok.lt (h : Ok S l fr pend L) {i : Nat} (hi : i ∈ l ++ fr ++ pend) : i < S.ss.length := List.mem_range.1 (h.perm.mem_iff.1 hi)
theorem Ok.nodup (h : Ok S l fr pend L) : (l ++ fr ++ pend).Nodup := h.perm.nodup_iff.2 List.nodup_range
theorem Ok.len (h : Ok S l fr pend L) : l.length + fr.length + pend.length = S.ss.length := by have := h.perm.length_eq; simp at this; omega
theorem Ok.lenL (h : Ok S l fr pend L) : L.length = l.length := by rw [← h.ents]; simp [Proofs.Ytakgeeopfclmoaa.ents]
theorem Ok.split (h : Ok S l fr pend L) {k : Nat} (hk : k < l.length) : ∃ xs ys i s, l = xs ++ i :: ys ∧ xs.length = k ∧ S.ss[i]? = some s ∧ L = Proofs.Ytakgeeopfclmoaa.ents S.ss xs ++ (s.k, s.m) :: Proofs.Ytakgeeopfclmoaa.ents S.ss ys := by
  refine ⟨l.take k, l.drop (k + 1), l[k], S.ss[l[k]]'(h.lt (by simp)), by simp, by simp; omega, List.getElem?_eq_getElem _, ?_⟩
  have e : l = l.take k ++ l[k] :: l.drop (k + 1) := by simp
  have h1 := h.ents
  rw [e] at h1
  refine h1.symm.trans ?_
  unfold Proofs.Ytakgeeopfclmoaa.ents
  rw [List.map_append, List.map_cons, entAt_some (List.getElem?_eq_getElem _)]
end

/-- One slot is taken out of the list. -/
theorem ok_unlink {S : Lk} {xs ys fr : List Nat} {i : Nat} {s : Sl} {L : List En} (h : Ok S (xs ++ i :: ys) fr [] L) (hs : S.ss[i]? = some s) :
    Ok (unlinkS S s) (xs ++ ys) fr [i] (ents S.ss xs ++ ents S.ss ys) ∧ (unlinkS S s).ss.length = S.ss.length ∧ L = ents S.ss xs ++ (s.k, s.m) :: ents S.ss ys := by
  have hL : L = ents S.ss xs ++ (s.k, s.m) :: ents S.ss ys := by
    rw [← h.ents]
    unfold ents
    rw [List.map_append, List.map_cons, entAt_some hs]
  have hp := pay_unlink S s
  have hlen := len_of_pay hp
  refine ⟨⟨linked_out h.link hs, ?_, ?_, ?_, by rw [hlen]; exact h.small⟩, hlen, hL⟩
  · rw [hlen]
    refine List.Perm.trans ?_ h.perm
    simp only [List.append_nil, List.append_assoc]
    refine List.Perm.append_left xs ?_
    rw [← List.append_assoc]
    exact (List.perm_append_singleton i (ys ++ fr))
  · rw [ents_pay hp]; simp [ents]
  · have := h.keys
    rw [hL] at this
    simp only [List.map_append, List.map_cons] at this ⊢
    exact (List.nodup_cons.1 ((List.perm_middle).nodup_iff.1 this)).2
/-- One slot is put ahead. -/
theorem ok_lead {S : Lk} {l fr : List Nat} {i : Nat} {s : Sl} {L : List En} (h : Ok S l fr [i] L) (hs : S.ss[i]? = some s) (hk : s.k ∉ L.map (·.1)) :
    Ok (leadS S i) (i :: l) fr [] ((s.k, s.m) :: L) ∧ (leadS S i).ss.length = S.ss.length := by
  have hp := pay_lead S i
  have hlen := len_of_pay hp
  have hnd := h.nodup
  have hi : i ∉ l := fun hm => by
    have := (List.nodup_append.1 hnd).2.2 i (by simp [hm]) i (by simp)
    exact this rfl
  refine ⟨⟨linked_in h.link hi (List.getElem?_eq_some_iff.1 hs).1, ?_, ?_, ?_, by rw [hlen]; exact h.small⟩, hlen⟩
  · rw [hlen]
    refine List.Perm.trans ?_ h.perm
    simp only [List.append_nil, List.cons_append]
    exact (List.perm_append_singleton i (l ++ fr)).symm
  · rw [ents_pay hp, ← h.ents]
    unfold ents
    rw [List.map_cons, entAt_some hs]
  · rw [List.map_cons]
    exact List.nodup_cons.2 ⟨hk, h.keys⟩
/-- A slot that is neither becomes free, and is emptied. -/
theorem ok_free {S : Lk} {l fr : List Nat} {i : Nat} {f : Sl → Sl} {L : List En} (h : Ok S l fr [i] L) : Ok { S with ss := S.ss.modify i f } l (fr ++ [i]) [] L := by
  have hnd := h.nodup
  have hi : i ∉ l := fun hm => by
    have := (List.nodup_append.1 hnd).2.2 i (by simp [hm]) i (by simp)
    exact this rfl
  refine ⟨⟨seg_mod h.link.seg hi, h.link.first, h.link.last, h.link.nodup⟩, ?_, ?_, h.keys, by simpa using h.small⟩
  · have := h.perm
    simpa using this
  · show ents (S.ss.modify i f) l = L
    rw [ents_ne hi]; exact h.ents
/-- The last free slot is taken. -/
theorem ok_take {S : Lk} {l fr : List Nat} {i : Nat} {L : List En} (h : Ok S l (fr ++ [i]) [] L) : Ok S l fr [i] L :=
  ⟨h.link, by have := h.perm; simpa using this, h.ents, h.keys, h.small⟩
/-- A new slot. -/
theorem ok_push {S : Lk} {l : List Nat} {s : Sl} {L : List En} (h : Ok S l [] [] L) (hs : S.ss.length ≤ 262144) : Ok { S with ss := S.ss ++ [s] } l [] [S.ss.length] L := by
  have hlt : ∀ i ∈ l, i < S.ss.length := fun i hi => h.lt (by simp [hi])
  refine ⟨⟨seg_congr h.link.seg fun i hi => List.getElem?_append_left (hlt i hi), h.link.first, h.link.last, h.link.nodup⟩, ?_, ?_, h.keys, by simp; omega⟩
  · have h1 := h.perm
    simp only [List.append_nil] at h1 ⊢
    rw [show (S.ss ++ [s]).length = S.ss.length + 1 by simp, List.range_succ]
    exact List.Perm.append_right _ h1
  · show ents (S.ss ++ [s]) l = L
    rw [ents_push hlt]; exact h.ents
/-- What a pending slot holds does not matter. -/
theorem ok_pend {S : Lk} {l fr : List Nat} {i : Nat} {f : Sl → Sl} {L : List En} (h : Ok S l fr [i] L) : Ok { S with ss := S.ss.modify i f } l fr [i] L := by
  have hnd := h.nodup
  have hi : i ∉ l := fun hm => by
    have := (List.nodup_append.1 hnd).2.2 i (by simp [hm]) i (by simp)
    exact this rfl
  refine ⟨⟨seg_mod h.link.seg hi, h.link.first, h.link.last, h.link.nodup⟩, ?_, ?_, h.keys, by simpa using h.small⟩
  · have := h.perm
    simpa using this
  · show ents (S.ss.modify i f) l = L
    rw [ents_ne hi]; exact h.ents

/-! ### Lists of entries -/
theorem dropL_none {k : K4} {L : List En} (h : k ∉ L.map (·.1)) : dropL k L = L := by
  unfold dropL
  refine List.eraseP_of_forall_not fun e he => ?_
  intro hh
  exact h (List.mem_map.2 ⟨e, he, by simpa using hh⟩)
theorem findL_none {k : K4} {L : List En} (h : k ∉ L.map (·.1)) : findL k L = none := by
  unfold findL
  refine List.find?_eq_none.2 fun e he => ?_
  intro hh
  exact h (List.mem_map.2 ⟨e, he, by simpa using hh⟩)
theorem dropL_mid {k : K4} {m : Ms} {X Y : List En} (h : k ∉ X.map (·.1)) : dropL k (X ++ (k, m) :: Y) = X ++ Y := by
  induction X with
  | nil => simp [dropL]
  | cons e X ih =>
    simp only [List.map_cons, List.mem_cons, not_or] at h
    have h1 := ih h.2
    unfold dropL at h1 ⊢
    rw [List.cons_append, List.eraseP_cons_of_neg (by simpa using fun e => h.1 e.symm), h1]
    rfl
theorem findL_mid {k : K4} {m : Ms} {X Y : List En} (h : k ∉ X.map (·.1)) : findL k (X ++ (k, m) :: Y) = some (k, m) := by
  induction X with
  | nil => simp [findL]
  | cons e X ih =>
    simp only [List.map_cons, List.mem_cons, not_or] at h
    have h1 := ih h.2
    unfold findL at h1 ⊢
    rw [List.cons_append, List.find?_cons_of_neg (by simpa using fun e => h.1 e.symm), h1]
theorem heldL_mid {e : En} {X Y : List En} : heldL (X ++ e :: Y) = heldL (X ++ Y) + costM e.2 := by
  rw [heldL_append, heldL_append]
  simp only [heldL]; omega
/-- Down to the budget: the last ones go. -/
def shrinkL (budget : Int) (L : List En) : List En :=
  if h : budget < heldL L ∧ L ≠ [] then shrinkL budget L.dropLast else L
  termination_by L.length
  decreasing_by
    have := List.length_pos_iff.2 h.2
    simp; omega
def putL (budget : Int) (k : K4) (m : Ms) (L : List En) : List En := if budget < costM m then dropL k L else shrinkL budget ((k, m) :: dropL k L)
def getL (k : K4) (L : List En) : List En :=
  match findL k L with
  | none => L
  | some e => e :: dropL k L
theorem shrinkL_fit {budget : Int} {L : List En} (h : heldL L ≤ budget) : shrinkL budget L = L := by
  rw [shrinkL, dif_neg (by omega)]
theorem shrinkL_snoc {budget : Int} {L : List En} {e : En} (h : budget < heldL (L ++ [e])) : shrinkL budget (L ++ [e]) = shrinkL budget L := by
  rw [shrinkL, dif_pos ⟨h, by simp⟩]; simp
theorem snoc_ind {α : Type} {P : List α → Prop} (h0 : P []) (h1 : ∀ l a, P l → P (l ++ [a])) (l : List α) : P l := by
  have key : ∀ m : List α, P m.reverse := by
    intro m
    induction m with
    | nil => exact h0
    | cons a m ih => rw [List.reverse_cons]; exact h1 _ _ ih
  have := key l.reverse
  rwa [List.reverse_reverse] at this
theorem shrinkL_le {budget : Int} (hb : 0 ≤ budget) (L : List En) : heldL (shrinkL budget L) ≤ budget := by
  induction L using snoc_ind with
  | h0 => rw [shrinkL_fit (by simp [heldL]; omega)]; simp [heldL]; omega
  | h1 L e ih =>
    rcases Int.lt_or_le budget (heldL (L ++ [e])) with h | h
    · rw [shrinkL_snoc h]; exact ih
    · rw [shrinkL_fit h]; exact h
theorem shrinkL_sub (budget : Int) (L : List En) : (shrinkL budget L).Sublist L := by
  induction L using snoc_ind with
  | h0 => rw [shrinkL]; simp
  | h1 L e ih =>
    rcases Int.lt_or_le budget (heldL (L ++ [e])) with h | h
    · rw [shrinkL_snoc h]; exact ih.trans (List.sublist_append_left _ _)
    · rw [shrinkL_fit h]; exact List.Sublist.refl _
theorem dropL_sub (k : K4) (L : List En) : (dropL k L).Sublist L := List.eraseP_sublist ..

end Go.Proofs.Ytakgeeopfclmoaa
