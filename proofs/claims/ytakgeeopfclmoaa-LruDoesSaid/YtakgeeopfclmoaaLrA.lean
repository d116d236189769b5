/-
  Layer 25, plain: entries, a list that is linked by places; what taking one out and putting one ahead make of it. No program in sight.
-/
import Derived.Test.YtakgeeopfclmoaaBase
namespace Go.Proofs.Ytakgeeopfclmoaa

structure K4 where
  g : Int
  p : Int
  x : Int
  y : Int
  deriving DecidableEq
structure Bq where
  a : Int
  b : Int
  c : Int
  d : Int
  deriving DecidableEq
structure Ms where
  box : Bq
  bs : List UInt8
  deriving DecidableEq
abbrev En := K4 × Ms
def costM (m : Ms) : Int := 64 + m.bs.length
def heldL : List En → Int
  | [] => 0
  | e :: L => costM e.2 + heldL L
def dropL (k : K4) (L : List En) : List En := L.eraseP (fun e => decide (e.1 = k))
def findL (k : K4) (L : List En) : Option En := L.find? (fun e => decide (e.1 = k))
theorem heldL_append (L M : List En) : heldL (L ++ M) = heldL L + heldL M := by
  induction L with
  | nil => simp [heldL]
  | cons e L ih => simp only [List.cons_append, heldL, ih]; omega
theorem heldL_lo (L : List En) : 64 * (L.length : Int) ≤ heldL L := by
  induction L with
  | nil => simp [heldL]
  | cons e L ih => simp only [heldL, costM, List.length_cons]; omega

/-- A slot: its key, its mask, where the mask's bytes lie, the slots ahead and behind. -/
structure Sl where
  k : K4
  m : Ms
  A : Option Addr
  c : Nat
  ahead : Int
  next : Int

def hd (l : List Nat) (b : Int) : Int :=
  match l with
  | [] => b
  | i :: _ => i
def lst (l : List Nat) (a : Int) : Int :=
  match l with
  | [] => a
  | i :: l => lst l i
theorem lst_append (l m : List Nat) (a : Int) : lst (l ++ m) a = lst m (lst l a) := by
  induction l generalizing a with
  | nil => rfl
  | cons i l ih => simp only [List.cons_append, lst]; exact ih _
theorem hd_append (l m : List Nat) (b : Int) : hd (l ++ m) b = hd l (hd m b) := by cases l <;> rfl

/-- The slots of a list of places hang together: ahead of the first one is a, behind the last one is b. -/
def Seg (ss : List Sl) (a : Int) (l : List Nat) (b : Int) : Prop :=
  match l with
  | [] => True
  | i :: l => (∃ s, ss[i]? = some s ∧ s.ahead = a ∧ s.next = hd l b) ∧ Seg ss i l b

theorem seg_append {ss : List Sl} {l m : List Nat} {a b : Int} : Seg ss a (l ++ m) b ↔ Seg ss a l (hd m b) ∧ Seg ss (lst l a) m b := by
  induction l generalizing a with
  | nil => simp [Seg, lst]
  | cons i l ih => simp only [List.cons_append, Seg, lst, ih, hd_append]; exact and_assoc.symm
theorem seg_congr {ss ss' : List Sl} {l : List Nat} {a b : Int} (h : Seg ss a l b) (hs : ∀ i ∈ l, ss'[i]? = ss[i]?) : Seg ss' a l b := by
  induction l generalizing a with
  | nil => trivial
  | cons i l ih =>
    obtain ⟨⟨s, h1, h2⟩, h3⟩ := h
    exact ⟨⟨s, (hs i (by simp)).trans h1, h2⟩, ih h3 fun j hj => hs j (by simp [hj])⟩
theorem seg_lt {ss : List Sl} {l : List Nat} {a b : Int} (h : Seg ss a l b) : ∀ i ∈ l, i < ss.length := by
  induction l generalizing a with
  | nil => simp
  | cons i l ih =>
    obtain ⟨⟨s, h1, h2⟩, h3⟩ := h
    intro j hj
    rcases List.mem_cons.1 hj with rfl | hj
    · exact (List.getElem?_eq_some_iff.1 h1).1
    · exact ih h3 j hj
def setA (v : Int) (s : Sl) : Sl := { s with ahead := v }
def setN (v : Int) (s : Sl) : Sl := { s with next := v }
theorem mod_ne {ss : List Sl} {f : Sl → Sl} {i j : Nat} (h : i ≠ j) : (ss.modify i f)[j]? = ss[j]? := by
  rw [List.getElem?_modify]; simp [h]
theorem mod_eq {ss : List Sl} {f : Sl → Sl} {i : Nat} {s : Sl} (h : ss[i]? = some s) : (ss.modify i f)[i]? = some (f s) := by
  rw [List.getElem?_modify, h]; simp
theorem seg_mod {ss : List Sl} {f : Sl → Sl} {l : List Nat} {a b : Int} {i : Nat} (h : Seg ss a l b) (hi : i ∉ l) : Seg (ss.modify i f) a l b :=
  seg_congr h fun _ hj => mod_ne fun e => hi (e ▸ hj)
/-- The first one has another one ahead. -/
theorem seg_setA {ss : List Sl} {l : List Nat} {a a' b : Int} {i : Nat} (h : Seg ss a (i :: l) b) (hi : i ∉ l) : Seg (ss.modify i (setA a')) a' (i :: l) b := by
  obtain ⟨⟨s, h1, h2, h3⟩, h4⟩ := h
  exact ⟨⟨setA a' s, mod_eq h1, rfl, h3⟩, seg_mod h4 hi⟩
/-- The last one has another one behind. -/
theorem seg_setN {ss : List Sl} {l : List Nat} {a b b' : Int} {i : Nat} (h : Seg ss a (l ++ [i]) b) (hi : i ∉ l) : Seg (ss.modify i (setN b')) a (l ++ [i]) b' := by
  rw [seg_append] at h ⊢
  refine ⟨seg_mod h.1 hi, ?_⟩
  obtain ⟨⟨s, h1, h2, h3⟩, h4⟩ := h.2
  exact ⟨⟨setN b' s, mod_eq h1, h2, rfl⟩, trivial⟩

structure Lk where
  ss : List Sl
  first : Int
  last : Int
/-- One slot is taken out. -/
def unlinkA (S : Lk) (s : Sl) : Lk := if s.ahead = -1 then { S with first := s.next } else { S with ss := S.ss.modify s.ahead.toNat (setN s.next) }
def unlinkB (S : Lk) (s : Sl) : Lk := if s.next = -1 then { S with last := s.ahead } else { S with ss := S.ss.modify s.next.toNat (setA s.ahead) }
def unlinkS (S : Lk) (s : Sl) : Lk := unlinkB (unlinkA S s) s
/-- One slot is put ahead. -/
def leadS (S : Lk) (i : Nat) : Lk :=
  let ss1 := (S.ss.modify i (setA (-1))).modify i (setN S.first)
  if S.first = -1 then { ss := ss1, first := i, last := i } else { ss := ss1.modify S.first.toNat (setA i), first := i, last := S.last }
/-- The slots of l, in this order, are linked. -/
structure Linked (S : Lk) (l : List Nat) : Prop where
  seg : Seg S.ss (-1) l (-1)
  first : S.first = hd l (-1)
  last : S.last = lst l (-1)
  nodup : l.Nodup

theorem hd_ne (l : List Nat) (i : Nat) : hd (i :: l) (-1) ≠ -1 := by simp only [hd]; omega
theorem lst_snoc (l : List Nat) (i : Nat) (a : Int) : lst (l ++ [i]) a = i := by rw [lst_append]; rfl
theorem linked_at {S : Lk} {xs ys : List Nat} {i : Nat} (h : Linked S (xs ++ i :: ys)) : ∃ s, S.ss[i]? = some s ∧ s.ahead = lst xs (-1) ∧ s.next = hd ys (-1) := (seg_append.1 h.seg).2.1
theorem linked_out {S : Lk} {xs ys : List Nat} {i : Nat} {s : Sl} (h : Linked S (xs ++ i :: ys)) (hs : S.ss[i]? = some s) : Linked (unlinkS S s) (xs ++ ys) := by
  obtain ⟨s', hs', ha, hn⟩ := linked_at h
  rw [hs] at hs'
  injection hs' with hs'
  subst hs'
  have hseg := seg_append.1 h.seg
  obtain ⟨h1, -, h3⟩ := hseg
  have h1 : Seg S.ss (-1) xs (i : Int) := h1
  have hnd := List.nodup_append.1 h.nodup
  obtain ⟨n1, n2, n3⟩ := hnd
  obtain ⟨n4, n5⟩ := List.nodup_cons.1 n2
  have hfirst : S.first = hd xs (i : Int) := by have := h.first; rw [hd_append] at this; exact this
  have hlast : S.last = lst ys (i : Int) := by have := h.last; rw [lst_append] at this; exact this
  have nd : (xs ++ ys).Nodup := List.nodup_append.2 ⟨n1, n5, fun a ha b hb => n3 a ha b (List.mem_cons_of_mem _ hb)⟩
  rcases List.eq_nil_or_concat xs with rfl | ⟨xs, p, rfl⟩
  · simp only [lst] at ha
    have eA : unlinkA S s = { S with first := s.next } := if_pos ha
    cases ys with
    | nil =>
      simp only [hd] at hn
      have eB : unlinkS S s = { S with first := s.next, last := s.ahead } := by unfold unlinkS; rw [eA]; exact if_pos hn
      rw [eB]
      exact ⟨trivial, hn, ha, nd⟩
    | cons j ys =>
      have hnn : s.next ≠ -1 := by rw [hn]; exact hd_ne _ _
      have eB : unlinkS S s = { S with first := s.next, ss := S.ss.modify s.next.toNat (setA s.ahead) } := by unfold unlinkS; rw [eA]; exact if_neg hnn
      rw [eB]
      have hj : s.next.toNat = j := by rw [hn]; simp [hd]
      refine ⟨?_, hn, hlast, nd⟩
      show Seg (S.ss.modify s.next.toNat (setA s.ahead)) (-1) (j :: ys) (-1)
      rw [hj, ha]
      exact seg_setA h3 (List.nodup_cons.1 n5).1
  · rw [List.concat_eq_append] at *
    rw [lst_snoc] at ha
    have hna : s.ahead ≠ -1 := by rw [ha]; omega
    have hp : s.ahead.toNat = p := by rw [ha]; simp
    have eA : unlinkA S s = { S with ss := S.ss.modify p (setN s.next) } := by unfold unlinkA; rw [if_neg hna, hp]
    have hpx : p ∉ xs := fun hm => by
      have := (List.nodup_append.1 n1).2.2 p hm p (by simp)
      exact this rfl
    have hpy : p ∉ ys := fun hm => n3 p (by simp) p (List.mem_cons_of_mem _ hm) rfl
    have h1' := seg_setN (b' := s.next) h1 hpx
    have hf2 : S.first = hd (xs ++ [p] ++ ys) (-1) := by rw [hd_append, hfirst, hd_append, hd_append]; rfl
    cases ys with
    | nil =>
      simp only [hd] at hn
      have eB : unlinkS S s = { S with ss := S.ss.modify p (setN s.next), last := s.ahead } := by unfold unlinkS; rw [eA]; exact if_pos hn
      rw [eB, List.append_nil]
      refine ⟨?_, by rw [← List.append_nil (xs ++ [p])]; exact hf2, by rw [lst_snoc]; exact ha, n1⟩
      rw [hn] at h1'
      show Seg (S.ss.modify p (setN s.next)) (-1) (xs ++ [p]) (-1)
      rw [hn]
      exact h1'
    | cons j ys =>
      have hnn : s.next ≠ -1 := by rw [hn]; exact hd_ne _ _
      have hj : s.next.toNat = j := by rw [hn]; simp [hd]
      have eB : unlinkS S s = { S with ss := (S.ss.modify p (setN s.next)).modify j (setA s.ahead) } := by unfold unlinkS; rw [eA]; unfold unlinkB; rw [if_neg hnn, hj]
      rw [eB]
      have hjx : j ∉ xs ++ [p] := fun hm => n3 j hm j (by simp) rfl
      refine ⟨?_, hf2, ?_, nd⟩
      · rw [seg_append]
        refine ⟨seg_mod ?_ hjx, ?_⟩
        · rw [hn] at h1'
          rw [hn]
          exact h1'
        · rw [lst_snoc, ha]
          exact seg_setA (seg_mod h3 hpy) (List.nodup_cons.1 n5).1
      · show S.last = _
        rw [hlast, lst_append]; rfl

theorem linked_in {S : Lk} {l : List Nat} {i : Nat} (h : Linked S l) (hi : i ∉ l) (hlt : i < S.ss.length) : Linked (leadS S i) (i :: l) := by
  have hnd : (i :: l).Nodup := List.nodup_cons.2 ⟨hi, h.nodup⟩
  obtain ⟨s, hs⟩ : ∃ s, S.ss[i]? = some s := ⟨_, List.getElem?_eq_getElem hlt⟩
  have h1 : ((S.ss.modify i (setA (-1))).modify i (setN S.first))[i]? = some (setN S.first (setA (-1) s)) := mod_eq (mod_eq hs)
  have h2 := seg_mod (f := setN S.first) (seg_mod (f := setA (-1)) h.seg hi) hi
  cases l with
  | nil =>
    have hf : S.first = -1 := h.first
    unfold leadS
    simp only [hf, if_true]
    rw [hf] at h1
    exact ⟨⟨⟨_, h1, rfl, rfl⟩, trivial⟩, rfl, rfl, hnd⟩
  | cons j l =>
    have hf : S.first = j := h.first
    have hf1 : S.first ≠ -1 := by rw [hf]; omega
    have hf2 : S.first.toNat = j := by rw [hf]; simp
    have hij : j ≠ i := fun e => hi (by simp [e])
    unfold leadS
    simp only [if_neg hf1, hf2]
    refine ⟨⟨⟨_, (mod_ne hij).trans h1, rfl, ?_⟩, ?_⟩, rfl, h.last, hnd⟩
    · exact hf
    · exact seg_setA h2 (List.nodup_cons.1 h.nodup).1

/-! ### What linking leaves alone -/
def pay (s : Sl) : K4 × Ms × Option Addr × Nat := (s.k, s.m, s.A, s.c)
theorem map_mod {α : Type} (f : Sl → Sl) (g : Sl → α) (hf : ∀ s, g (f s) = g s) (ss : List Sl) (i : Nat) : (ss.modify i f).map g = ss.map g := by
  apply List.ext_getElem?
  intro j
  rw [List.getElem?_map, List.getElem?_map, List.getElem?_modify]
  cases h : ss[j]? with
  | none => simp
  | some s =>
    by_cases e : i = j
    · simp [e, hf]
    · simp [e]
theorem pay_setA (ss : List Sl) (i : Nat) (v : Int) : (ss.modify i (setA v)).map pay = ss.map pay := map_mod (setA v) pay (fun _ => rfl) ss i
theorem pay_setN (ss : List Sl) (i : Nat) (v : Int) : (ss.modify i (setN v)).map pay = ss.map pay := map_mod (setN v) pay (fun _ => rfl) ss i
theorem pay_unlink (S : Lk) (s : Sl) : (unlinkS S s).ss.map pay = S.ss.map pay := by
  unfold unlinkS unlinkB unlinkA
  split <;> split <;> simp only [pay_setA, pay_setN]
theorem pay_lead (S : Lk) (i : Nat) : (leadS S i).ss.map pay = S.ss.map pay := by
  unfold leadS
  split <;> simp only [pay_setA, pay_setN]
theorem len_of_pay {ss ss' : List Sl} (h : ss'.map pay = ss.map pay) : ss'.length = ss.length := by simpa using congrArg List.length h
theorem at_of_pay {ss ss' : List Sl} (h : ss'.map pay = ss.map pay) (i : Nat) : (ss'[i]?).map pay = (ss[i]?).map pay := by
  rw [← List.getElem?_map, ← List.getElem?_map, h]

end Go.Proofs.Ytakgeeopfclmoaa
