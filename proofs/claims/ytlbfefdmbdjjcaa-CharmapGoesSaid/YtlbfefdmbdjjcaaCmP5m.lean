/-
  For every format, all pairs and every number CharmapGoes answers true and leaves its arguments as they were. No conditions.
  Layer 08: CharmapGoes.
  Layer 08: what All hands over of a made map, plainly.
  Layer 08: CharmapAlike.
  Layer 08: pairs that came in.
  Layer 08: what was made is loaded.
  Layer 08: what was made, read again, plainly: formats 6 and 0; all formats.
  Layer 08: what was made in format 4, read again, plainly.
  Layer 08: what was made, read again, plainly: formats 12 and 4.
  Layer 08: runs follow one another, plainly; a pair's glyph.
  Layer 08: where runs begin, plainly.
-/
import Derived.Test.YtlbfefdmbdjjcaaCmGm
import Derived.Test.YtlbfefdmbdjjcaaCmJ
import Derived.Test.YtlbfefdmbdjjcaaFlatB
import Derived.Test.YtlbfefdmbdjjcaaFrame
import Derived.Test.YtlbfefdmbdjjcaaFlat
namespace Go.Proofs.Ytlbfefdmbdjjcaa
open Go.RowKit

/-- Where each run begins and ends; where the one under way began. -/
def runE (l : List Pr) : Nat → List (Nat × Nat) × Nat
  | 0 => ([], 0)
  | i + 1 => if brk l i = true then ((runE l i).1 ++ [((runE l i).2, i + 1)], i + 1) else runE l i
def pcE (l : List Pr) (p : Nat × Nat) : List Pr := (l.drop p.1).take (p.2 - p.1)
theorem runE_N (l : List Pr) : ∀ i, runN l i = ((runE l i).1.map (pcE l), (runE l i).2)
  | 0 => rfl
  | i + 1 => by
    unfold runN runE
    rw [runE_N l i]
    split
    · simp [pcE]
    · rfl
theorem runE_le (l : List Pr) (i : Nat) : (runE l i).2 ≤ i := by
  have := runN_le l i
  rw [runE_N] at this
  exact this
def stN (l : List Pr) : Nat → List Nat
  | 0 => []
  | i + 1 => if i = 0 ∨ brk l (i - 1) = true then stN l i ++ [i] else stN l i
def stL (l : List Pr) : List Nat := stN l l.length
theorem runE_at (l : List Pr) : ∀ i, (runE l i).2 = i ↔ (i = 0 ∨ brk l (i - 1) = true)
  | 0 => by simp [runE]
  | i + 1 => by
    unfold runE
    rw [Nat.add_sub_cancel]
    split
    · rename_i h
      simp [h]
    · rename_i h
      have := runE_le l i
      simp only [h]
      constructor
      · intro e; omega
      · rintro (e | e)
        · omega
        · cases e
theorem stN_E (l : List Pr) : ∀ i, stN l i = (runE l i).1.map Prod.fst ++ (if (runE l i).2 < i then [(runE l i).2] else [])
  | 0 => rfl
  | i + 1 => by
    have ih := stN_E l i
    have ha := runE_at l i
    have hle := runE_le l i
    have hst : stN l (i + 1) = (runE l i).1.map Prod.fst ++ [(runE l i).2] := by
      show (if i = 0 ∨ brk l (i - 1) = true then stN l i ++ [i] else stN l i) = _
      by_cases h : (runE l i).2 = i
      · rw [if_pos (ha.1 h), ih, if_neg (by omega), h, List.append_nil]
      · rw [if_neg (fun e => h (ha.2 e)), ih, if_pos (by omega)]
    rw [hst]
    by_cases hb : brk l i = true
    · have hr : runE l (i + 1) = ((runE l i).1 ++ [((runE l i).2, i + 1)], i + 1) := by
        show (if brk l i = true then _ else _) = _
        rw [if_pos hb]
      rw [hr]
      simp
    · have hr : runE l (i + 1) = runE l i := by
        show (if brk l i = true then _ else _) = _
        rw [if_neg hb]
      rw [hr, if_pos (by omega)]
/-- Each one ends where the next one begins. -/
theorem runE_chain (l : List Pr) : ∀ i, ∀ (k : Nat) (p : Nat × Nat), (runE l i).1[k]? = some p → p.1 < p.2 ∧ p.2 ≤ i ∧ (((runE l i).1.map Prod.fst)[k + 1]? = some p.2 ∨ (k + 1 = (runE l i).1.length ∧ p.2 = (runE l i).2))
  | 0, k, p, h => by simp [runE] at h
  | i + 1, k, p, h => by
    have hle := runE_le l i
    by_cases hb : brk l i = true
    · have hr : runE l (i + 1) = ((runE l i).1 ++ [((runE l i).2, i + 1)], i + 1) := by
        show (if brk l i = true then _ else _) = _
        rw [if_pos hb]
      rw [hr] at h ⊢
      dsimp only at h ⊢
      rw [List.map_append]
      by_cases hk : k < (runE l i).1.length
      · rw [List.getElem?_append_left hk] at h
        obtain ⟨h1, h2, h3⟩ := runE_chain l i k p h
        refine ⟨h1, by omega, ?_⟩
        rcases h3 with h3 | ⟨h3, h4⟩
        · left
          rw [List.getElem?_append_left (List.getElem?_eq_some_iff.1 h3).1]
          exact h3
        · left
          rw [List.getElem?_append_right (by simp; omega), List.length_map, h3, Nat.sub_self, h4]
          rfl
      · rw [List.getElem?_append_right (by omega)] at h
        obtain ⟨m, hm⟩ : ∃ m, k - (runE l i).1.length = m := ⟨_, rfl⟩
        rw [hm] at h
        cases m with
        | zero =>
          simp only [List.getElem?_cons_zero, Option.some.injEq] at h
          subst h
          refine ⟨by dsimp only; omega, Nat.le_refl _, .inr ⟨by simp; omega, rfl⟩⟩
        | succ m => simp at h
    · have hr : runE l (i + 1) = runE l i := by
        show (if brk l i = true then _ else _) = _
        rw [if_neg hb]
      rw [hr] at h ⊢
      obtain ⟨h1, h2, h3⟩ := runE_chain l i k p h
      exact ⟨h1, by omega, h3⟩
theorem runE_end {l : List Pr} (h : 0 < l.length) : (runE l l.length).2 = l.length := by
  rw [runE_at]
  right
  unfold brk
  simp
  left
  omega
/-- The k-th run's first pair and its last one, by where runs begin. -/
theorem run_pair {l : List Pr} {k s : Nat} (h : (stL l)[k]? = some s) : ∃ ps e, (runL l)[k]? = some ps ∧ s < e ∧ e ≤ l.length ∧ l[s]? = some (hdP ps) ∧ l[e - 1]? = some (ltP ps) ∧ (((stL l)[k + 1]? = some e ∧ k + 1 < (stL l).length) ∨ (k + 1 = (stL l).length ∧ e = l.length)) := by
  have h0 : 0 < l.length := by
    rcases Nat.eq_zero_or_pos l.length with h0 | h0
    · unfold stL at h
      rw [h0] at h
      simp [stN] at h
    · exact h0
  have hst : stL l = (runE l l.length).1.map Prod.fst := by
    unfold stL
    rw [stN_E, runE_end h0, if_neg (by omega), List.append_nil]
  have hrl : runL l = (runE l l.length).1.map (pcE l) := by unfold runL; rw [runE_N]
  rw [hst, List.getElem?_map] at h
  obtain ⟨p, hp, rfl⟩ := Option.map_eq_some_iff.1 h
  obtain ⟨h1, h2, h3⟩ := runE_chain l l.length k p hp
  have hlen : (pcE l p).length = p.2 - p.1 := by unfold pcE; rw [List.length_take, List.length_drop]; omega
  refine ⟨pcE l p, p.2, by rw [hrl, List.getElem?_map, hp]; rfl, h1, h2, ?_, ?_, ?_⟩
  · have := hd_at (ps := pcE l p) (by omega)
    rw [← this]
    unfold pcE
    rw [List.getElem?_take, if_pos (by omega), List.getElem?_drop, Nat.add_zero]
  · have := lt_at (ps := pcE l p) (by omega)
    rw [← this, hlen]
    unfold pcE
    rw [List.getElem?_take, if_pos (by omega), List.getElem?_drop]
    congr 1
    omega
  · rw [hst]
    rcases h3 with h3 | ⟨h3, h4⟩
    · exact .inl ⟨h3, (List.getElem?_eq_some_iff.1 h3).1⟩
    · rw [runE_end h0] at h4
      exact .inr ⟨by rw [List.length_map]; exact h3, h4⟩
theorem stL_len (l : List Pr) : (stL l).length = (runL l).length := by
  rcases Nat.eq_zero_or_pos l.length with h0 | h0
  · unfold stL runL
    rw [h0]
    rfl
  · unfold stL runL
    rw [stN_E, runE_end h0, if_neg (by omega), List.append_nil, runE_N]
    simp
end Go.Proofs.Ytlbfefdmbdjjcaa

namespace Go.Proofs.Ytlbfefdmbdjjcaa
open Go.RowKit

theorem runE_in (l : List Pr) : ∀ i, i ≤ l.length → (∀ p ∈ (runE l i).1, ∀ j, p.1 ≤ j → j + 1 < p.2 → brk l j = false) ∧ (∀ j, (runE l i).2 ≤ j → j < i → brk l j = false) ∧ (∀ j, j < (runE l i).2 → ∃ p ∈ (runE l i).1, p.1 ≤ j ∧ j < p.2)
  | 0, _ => ⟨fun p hp => (List.not_mem_nil hp).elim, fun j _ h => absurd h (by omega), fun j h => absurd h (by simp [runE])⟩
  | i + 1, hi => by
    obtain ⟨h1, h2, h3⟩ := runE_in l i (by omega)
    by_cases hb : brk l i = true
    · have hr : runE l (i + 1) = ((runE l i).1 ++ [((runE l i).2, i + 1)], i + 1) := by
        show (if brk l i = true then _ else _) = _
        rw [if_pos hb]
      rw [hr]
      refine ⟨fun p hp j hj1 hj2 => ?_, fun j hj1 hj2 => absurd hj2 (by dsimp only at hj1; omega), fun j hj => ?_⟩
      · rcases List.mem_append.1 hp with hp | hp
        · exact h1 p hp j hj1 hj2
        · rw [List.mem_singleton] at hp
          subst hp
          exact h2 j hj1 (by dsimp only at hj2; omega)
      · by_cases h : j < (runE l i).2
        · obtain ⟨p, hp, hp2⟩ := h3 j h
          exact ⟨p, List.mem_append_left _ hp, hp2⟩
        · exact ⟨_, List.mem_append_right _ List.mem_cons_self, by dsimp only; omega, by dsimp only at hj ⊢; exact hj⟩
    · have hr : runE l (i + 1) = runE l i := by
        show (if brk l i = true then _ else _) = _
        rw [if_neg hb]
      rw [hr]
      refine ⟨h1, fun j hj1 hj2 => ?_, h3⟩
      rcases Nat.lt_or_ge j i with h | h
      · exact h2 j hj1 h
      · obtain rfl : j = i := by omega
        simpa using hb
theorem brk_next {l : List Pr} {j : Nat} {p : Pr} (hj : j + 1 < l.length) (hp : l[j]? = some p) (h : brk l j = false) : l[j + 1]? = some (p.1 + 1, p.2 + 1) := by
  obtain ⟨q, hq⟩ := get_some' hj
  unfold brk at h
  rw [decide_eq_false_iff_not, List.getD_eq_getElem?_getD, List.getD_eq_getElem?_getD, hp, hq] at h
  simp only [Option.getD_some, not_or, Classical.not_not] at h
  obtain ⟨_, h1, h2⟩ := h
  rw [hq, ← h1, ← h2]
theorem run_vals {l : List Pr} {s e : Nat} {p : Pr} (hs : l[s]? = some p) (he : e ≤ l.length) (h : ∀ j, s ≤ j → j + 1 < e → brk l j = false) : ∀ t, s + t < e → l[s + t]? = some (p.1 + (t : Nat), p.2 + (t : Nat))
  | 0, _ => by simpa using hs
  | t + 1, ht => by
    have ih := run_vals hs he h t (by omega)
    have := brk_next (j := s + t) (by omega) ih (h _ (by omega) (by omega))
    rw [← Nat.add_assoc, this]
    simp only [Option.some.injEq, Prod.mk.injEq]
    omega
/-- The k-th run, told whole. -/
theorem run_whole {l : List Pr} {k : Nat} {ps : List Pr} (h : (runL l)[k]? = some ps) : ∃ s e, (stL l)[k]? = some s ∧ s < e ∧ e ≤ l.length ∧ (ltP ps).1 = (hdP ps).1 + ((e - 1 - s : Nat) : Int) ∧ ∀ t, s + t < e → l[s + t]? = some ((hdP ps).1 + (t : Nat), (hdP ps).2 + (t : Nat)) := by
  have hk : k < (stL l).length := by rw [stL_len]; exact (List.getElem?_eq_some_iff.1 h).1
  have h0 : 0 < l.length := by
    rcases Nat.eq_zero_or_pos l.length with h0 | h0
    · unfold stL at hk
      rw [h0] at hk
      simp [stN] at hk
    · exact h0
  have hrl : runL l = (runE l l.length).1.map (pcE l) := by unfold runL; rw [runE_N]
  have h' := h
  rw [hrl, List.getElem?_map] at h'
  obtain ⟨p, hp, hps⟩ := Option.map_eq_some_iff.1 h'
  have hst : stL l = (runE l l.length).1.map Prod.fst := by
    unfold stL
    rw [stN_E, runE_end h0, if_neg (by omega), List.append_nil]
  have hs : (stL l)[k]? = some p.1 := by rw [hst, List.getElem?_map, hp]; rfl
  obtain ⟨ps', e, h1, h2, h3, h4, h5, _⟩ := run_pair hs
  rw [h] at h1
  injection h1 with h1
  subst h1
  obtain ⟨c1, c2, _⟩ := runE_chain l l.length k p hp
  have hlen : ps.length = p.2 - p.1 := by rw [← hps]; unfold pcE; rw [List.length_take, List.length_drop]; omega
  have hv := run_vals h4 c2 (fun j hj1 hj2 => (runE_in l l.length (Nat.le_refl _)).1 p (List.mem_of_getElem? hp) j hj1 hj2)
  refine ⟨p.1, p.2, hs, c1, c2, ?_, hv⟩
  have hl := hv (p.2 - 1 - p.1) (by omega)
  rw [show p.1 + (p.2 - 1 - p.1) = p.2 - 1 by omega] at hl
  have hlt := lt_at (ps := ps) (by omega)
  rw [hlen, ← hps] at hlt
  unfold pcE at hlt
  rw [List.getElem?_take, if_pos (by omega), List.getElem?_drop, show p.1 + (p.2 - p.1 - 1) = p.2 - 1 by omega, hl] at hlt
  injection hlt with hlt
  have := congrArg Prod.fst hlt
  dsimp only at this
  rw [show (List.take (p.2 - p.1) (List.drop p.1 l)) = ps from hps] at this
  rw [← this]
/-- Each pair stands in a run. -/
theorem run_cover {l : List Pr} {j : Nat} (hj : j < l.length) : ∃ (k : Nat) (ps : List Pr) (t : Nat), (runL l)[k]? = some ps ∧ (hdP ps).1 + (t : Int) ≤ (ltP ps).1 ∧ l[j]? = some ((hdP ps).1 + (t : Nat), (hdP ps).2 + (t : Nat)) := by
  obtain ⟨_, _, h3⟩ := runE_in l l.length (Nat.le_refl _)
  obtain ⟨p, hp, hp1, hp2⟩ := h3 j (by rw [runE_end (by omega)]; exact hj)
  obtain ⟨k, hk⟩ := List.getElem?_of_mem hp
  have hrl : runL l = (runE l l.length).1.map (pcE l) := by unfold runL; rw [runE_N]
  have hr : (runL l)[k]? = some (pcE l p) := by rw [hrl, List.getElem?_map, hk]; rfl
  obtain ⟨s, e, h4, h5, h6, h7, h8⟩ := run_whole hr
  have hst : stL l = (runE l l.length).1.map Prod.fst := by
    unfold stL
    rw [stN_E, runE_end (by omega), if_neg (by omega), List.append_nil]
  rw [hst, List.getElem?_map, hk] at h4
  injection h4 with h4
  obtain ⟨c1, c2, c3⟩ := runE_chain l l.length k p hk
  have he : e = p.2 := by
    have hlen : (pcE l p).length = p.2 - p.1 := by unfold pcE; rw [List.length_take, List.length_drop]; omega
    have hv := run_vals (l := l) (s := p.1) (e := p.2) (p := hdP (pcE l p)) (by have := h8 0 (by omega); rw [← h4] at this; simpa using this) c2 (fun j hj1 hj2 => (runE_in l l.length (Nat.le_refl _)).1 p hp j hj1 hj2)
    have hl := hv (p.2 - 1 - p.1) (by omega)
    rw [show p.1 + (p.2 - 1 - p.1) = p.2 - 1 by omega] at hl
    have hlt := lt_at (ps := pcE l p) (by omega)
    rw [hlen] at hlt
    have hu : (pcE l p)[p.2 - p.1 - 1]? = l[p.2 - 1]? := by
      unfold pcE
      rw [List.getElem?_take, if_pos (by omega), List.getElem?_drop, show p.1 + (p.2 - p.1 - 1) = p.2 - 1 by omega]
    rw [hu, hl] at hlt
    injection hlt with hlt
    have := congrArg Prod.fst hlt
    dsimp only at this
    omega
  subst he
  refine ⟨k, _, j - p.1, hr, by omega, ?_⟩
  have := h8 (j - s) (by omega)
  rw [show s + (j - s) = j by omega, ← h4] at this
  exact this
/-- A pair's glyph. -/
def lookP (l : List Pr) (code : Int) : Int := match l.find? (fun p => decide (p.1 = code)) with
  | some p => p.2
  | none => 0
def Asc (l : List Pr) : Prop := ∀ (i j : Nat) (a b : Pr), l[i]? = some a → l[j]? = some b → i < j → a.1 < b.1
theorem look_some {l : List Pr} (ha : Asc l) {j : Nat} {p : Pr} (hp : l[j]? = some p) : lookP l p.1 = p.2 := by
  unfold lookP
  have hd : l.find? (fun q => decide (q.1 = p.1)) = some p := by
    rw [List.find?_eq_some_iff_getElem]
    obtain ⟨h1, h2⟩ := List.getElem?_eq_some_iff.1 hp
    refine ⟨by simp, j, h1, h2, fun i hi => ?_⟩
    have := ha i j _ _ (List.getElem?_eq_getElem (by omega)) hp hi
    simp
    omega
  rw [hd]
theorem look_none {l : List Pr} {code : Int} (h : ∀ (j : Nat) (p : Pr), l[j]? = some p → p.1 ≠ code) : lookP l code = 0 := by
  unfold lookP
  rw [List.find?_eq_none.2 fun p hp => by
    obtain ⟨j, hj⟩ := List.getElem?_of_mem hp
    simpa using h j p hj]
theorem look_mem {l : List Pr} {code : Int} (h : lookP l code ≠ 0) : ∃ p ∈ l, p.1 = code ∧ lookP l code = p.2 := by
  unfold lookP at h ⊢
  cases hf : l.find? (fun p => decide (p.1 = code)) with
  | none => rw [hf] at h; exact absurd rfl h
  | some p => exact ⟨p, List.mem_of_find?_eq_some hf, by simpa using List.find?_some hf, rfl⟩
/-- Segments that say of each code point what pairs say. -/
theorem look_segs {l : List Pr} {S : List Sv} {sg : List Pr → Sv} (ha : Asc l) (hr : SvRise S) (hS : ∀ (k : Nat) (s : Sv), S[k]? = some s → (∃ ps, (runL l)[k]? = some ps ∧ s = sg ps) ∨ (∀ code, s.f ≤ code → code ≤ s.l → atV s code = 0 ∧ ∀ (j : Nat) (p : Pr), l[j]? = some p → p.1 ≠ code))
    (hS2 : ∀ (k : Nat) (ps : List Pr), (runL l)[k]? = some ps → S[k]? = some (sg ps)) (hsg : ∀ (k : Nat) (ps : List Pr), (runL l)[k]? = some ps → (sg ps).f = (hdP ps).1 ∧ (sg ps).l = (ltP ps).1 ∧ ∀ t : Nat, (hdP ps).1 + t ≤ (ltP ps).1 → atV (sg ps) ((hdP ps).1 + t) = (hdP ps).2 + t) {n : Int} (hn : 0 < n) (code : Int) :
    glV S n code = if lookP l code < n then lookP l code else 0 := by
  by_cases hc : ∃ (j : Nat) (p : Pr), l[j]? = some p ∧ p.1 = code
  · obtain ⟨j, p, hp, rfl⟩ := hc
    obtain ⟨k, ps, t, h1, h2, h3⟩ := run_cover (List.getElem?_eq_some_iff.1 hp).1
    rw [hp] at h3
    injection h3 with h3
    obtain ⟨g1, g2, g3⟩ := hsg k ps h1
    rw [look_some ha hp, h3]
    dsimp only
    rw [gl_in hr (hS2 k ps h1) (by rw [g1]; omega) (by rw [g2]; exact h2), g3 t h2]
  · have hno : ∀ (j : Nat) (p : Pr), l[j]? = some p → p.1 ≠ code := fun j p hp e => hc ⟨j, p, hp, e⟩
    rw [look_none hno, if_pos hn]
    by_cases hs : ∃ (k : Nat) (s : Sv), S[k]? = some s ∧ s.f ≤ code ∧ code ≤ s.l
    · obtain ⟨k, s, h1, h2, h3⟩ := hs
      rcases hS k s h1 with ⟨ps, h4, rfl⟩ | h4
      · obtain ⟨g1, g2, g3⟩ := hsg k ps h4
        rw [g1] at h2
        rw [g2] at h3
        obtain ⟨s0, e0, k1, k2, k3, k4, k5⟩ := run_whole h4
        have := k5 (code - (hdP ps).1).toNat (by omega)
        exact absurd (by dsimp only; omega) (hno _ _ this)
      · rw [gl_in hr h1 h2 h3, (h4 code h2 h3).1, if_pos hn]
    · exact gl_out fun k s hk => by
        rcases Int.lt_or_le code s.f with h | h
        · exact .inl h
        · exact .inr (by
            rcases Int.lt_or_le s.l code with h2 | h2
            · exact h2
            · exact absurd ⟨k, s, hk, h, h2⟩ hs)
end Go.Proofs.Ytlbfefdmbdjjcaa

namespace Go.Proofs.Ytlbfefdmbdjjcaa
open Go.RowKit

theorem be16_at {bs A C : List UInt8} {x : Int} {p : Nat} (h : bs = A ++ beB 2 x ++ C) (hp : A.length = p) : be16 bs p = x % 65536 := by
  subst h hp
  unfold be16
  rw [List.append_assoc, List.drop_left, List.take_left' (beB_length 2 x)]
  exact numB_be2 x
theorem be32_at {bs A C : List UInt8} {x : Int} {p : Nat} (h : bs = A ++ beB 4 x ++ C) (hp : A.length = p) : be32 bs p = x % 4294967296 := by
  subst h hp
  unfold be32
  rw [List.append_assoc, List.drop_left, List.take_left' (beB_length 4 x)]
  exact numB_be4 x
theorem flat_split {α : Type} {B : α → List UInt8} {w : Nat} (hB : ∀ a, (B a).length = w) {L : List α} {i : Nat} {a : α} (h : L[i]? = some a) : ∃ A C, L.flatMap B = A ++ B a ++ C ∧ A.length = i * w := by
  refine ⟨(L.take i).flatMap B, (L.drop (i + 1)).flatMap B, ?_, ?_⟩
  · have h1 : L = L.take i ++ (a :: L.drop (i + 1)) := by
      have h2 := List.take_append_drop (i + 1) L
      rw [take_snoc' h, List.append_assoc] at h2
      exact h2.symm
    conv => lhs; rw [h1]
    rw [List.flatMap_append, List.flatMap_cons, ← List.append_assoc]
  · rw [flat_len hB, List.length_take]
    have := (List.getElem?_eq_some_iff.1 h).1
    rw [Nat.min_eq_left (by omega)]
/-- Runs that rise. -/
structure PQ (Q : List (List Pr)) (lim : Int) : Prop where
  bd : ∀ ps ∈ Q, 0 ≤ (hdP ps).1 ∧ (hdP ps).1 ≤ (ltP ps).1 ∧ (ltP ps).1 ≤ lim ∧ 0 ≤ (hdP ps).2 ∧ (hdP ps).2 ≤ 65536
  up : ∀ (i : Nat) (a b : List Pr), Q[i]? = some a → Q[i + 1]? = some b → (ltP a).1 < (hdP b).1
theorem up_take {Q : List (List Pr)} {lim : Int} (h : PQ Q lim) (sg : List Pr → Sv) (hsg : ∀ ps, (sg ps).f = (hdP ps).1 ∧ (sg ps).l = (ltP ps).1) : ∀ i, i ≤ Q.length → upB lim (-1) ((Q.take i).map sg) = true ∧ lastL (-1) ((Q.take i).map sg) = if i = 0 then -1 else (ltP (Q.getD (i - 1) [])).1
  | 0, _ => ⟨rfl, rfl⟩
  | i + 1, hi => by
    obtain ⟨h1, h2⟩ := up_take h sg hsg i (by omega)
    obtain ⟨ps, hps⟩ := get_some' (l := Q) (k := i) (by omega)
    obtain ⟨b1, b2, b3, b4, b5⟩ := h.bd ps (List.mem_of_getElem? hps)
    obtain ⟨g1, g2⟩ := hsg ps
    rw [take_snoc' hps, List.map_append, upB_append, h1, h2]
    refine ⟨?_, ?_⟩
    · show (true && upB lim _ [sg ps]) = true
      rw [upB_one, g1, g2, Bool.true_and, decide_eq_true_eq]
      refine ⟨b2, ?_, b3⟩
      rcases Nat.eq_zero_or_pos i with h0 | h0
      · rw [if_pos h0]; omega
      · rw [if_neg (by omega)]
        obtain ⟨qs, hqs⟩ := get_some' (l := Q) (k := i - 1) (by omega)
        have := h.up (i - 1) qs ps hqs (by rw [show i - 1 + 1 = i by omega]; exact hps)
        rw [List.getD_eq_getElem?_getD, hqs]
        exact this
    · show lastL (-1) ((Q.take i).map sg ++ [sg ps]) = _
      rw [lastL_snoc, g2, if_neg (by omega), Nat.add_sub_cancel, List.getD_eq_getElem?_getD, hps]
      rfl
theorem up_all {Q : List (List Pr)} {lim : Int} (h : PQ Q lim) (sg : List Pr → Sv) (hsg : ∀ ps, (sg ps).f = (hdP ps).1 ∧ (sg ps).l = (ltP ps).1) : upB lim (-1) (Q.map sg) = true := by
  have := (up_take h sg hsg Q.length (Nat.le_refl _)).1
  rwa [List.take_length] at this
def sg12 (ps : List Pr) : Sv := ⟨(hdP ps).1, (ltP ps).1, (hdP ps).2, false, none, 0⟩
def sg4 (ps : List Pr) : Sv := ⟨(hdP ps).1, (ltP ps).1, (hdP ps).1 + ((hdP ps).2 - (hdP ps).1) % 65536, true, none, ((hdP ps).2 - (hdP ps).1) % 65536⟩
theorem m12_fmt (Q : List (List Pr)) : be16 (m12 Q) 0 = 12 := by
  rw [be16_at (bs := m12 Q) (p := 0) (A := []) (x := 12) (C := beB 2 0 ++ beB 4 (16 + 12 * (Q.length : Int)) ++ beB 4 0 ++ beB 4 (Q.length : Int) ++ Q.flatMap g12) (by unfold m12; simp) rfl]
  decide
theorem m12_size {Q : List (List Pr)} (hQ : Q.length ≤ 8192) : be32 (m12 Q) 4 = 16 + 12 * (Q.length : Int) := by
  rw [be32_at (bs := m12 Q) (p := 4) (A := beB 2 12 ++ beB 2 0) (x := 16 + 12 * (Q.length : Int)) (C := beB 4 0 ++ beB 4 (Q.length : Int) ++ Q.flatMap g12) (by unfold m12; simp) rfl]
  omega
theorem m12_cnt {Q : List (List Pr)} (hQ : Q.length ≤ 8192) : be32 (m12 Q) 12 = (Q.length : Int) := by
  rw [be32_at (bs := m12 Q) (A := beB 2 12 ++ beB 2 0 ++ beB 4 (16 + 12 * (Q.length : Int)) ++ beB 4 0) (x := (Q.length : Int)) (C := Q.flatMap g12) (by unfold m12; simp) (by simp [beB_length])]
  omega
theorem m12_seg {Q : List (List Pr)} {i : Nat} {ps : List Pr} (h : Q[i]? = some ps) (hb : PQ Q 1114111) : seg12 (m12 Q) i = sg12 ps := by
  obtain ⟨A, C, h1, h2⟩ := flat_split g12_len h
  obtain ⟨b1, b2, b3, b4, b5⟩ := hb.bd ps (List.mem_of_getElem? h)
  have hm : m12 Q = (beB 2 12 ++ beB 2 0 ++ beB 4 (16 + 12 * (Q.length : Int)) ++ beB 4 0 ++ beB 4 (Q.length : Int) ++ A) ++ (beB 4 (hdP ps).1 ++ (beB 4 (ltP ps).1 ++ (beB 4 (hdP ps).2 ++ C))) := by
    unfold m12
    rw [h1]
    unfold g12
    simp
  have hl : (beB 2 12 ++ beB 2 0 ++ beB 4 (16 + 12 * (Q.length : Int)) ++ beB 4 0 ++ beB 4 (Q.length : Int) ++ A).length = 16 + 12 * i := by
    simp only [List.length_append, beB_length, h2]
    omega
  unfold seg12 sg12
  rw [be32_at (bs := m12 Q) (p := 16 + 12 * i) (x := (hdP ps).1) (by rw [hm, ← List.append_assoc]) hl]
  rw [be32_at (bs := m12 Q) (p := 20 + 12 * i) (x := (ltP ps).1) (A := (beB 2 12 ++ beB 2 0 ++ beB 4 (16 + 12 * (Q.length : Int)) ++ beB 4 0 ++ beB 4 (Q.length : Int) ++ A) ++ beB 4 (hdP ps).1) (C := beB 4 (hdP ps).2 ++ C) (by rw [hm]; simp) (by rw [List.length_append, hl, beB_length]; omega)]
  rw [be32_at (bs := m12 Q) (p := 24 + 12 * i) (x := (hdP ps).2) (A := (beB 2 12 ++ beB 2 0 ++ beB 4 (16 + 12 * (Q.length : Int)) ++ beB 4 0 ++ beB 4 (Q.length : Int) ++ A) ++ beB 4 (hdP ps).1 ++ beB 4 (ltP ps).1) (C := C) (by rw [hm]; simp) (by rw [List.length_append, List.length_append, hl, beB_length, beB_length]; omega)]
  rw [Int.emod_eq_of_lt b1 (by omega), Int.emod_eq_of_lt (by omega) (by omega), Int.emod_eq_of_lt b4 (by omega)]
theorem m12_load {Q : List (List Pr)} (hQ : Q.length ≤ 8192) (hb : PQ Q 1114111) {n : Int} (hn : 1 ≤ n ∧ n ≤ 65535) : ldV (m12 Q) n = .ok 12 (Q.map sg12) := by
  have hlen := m12_len Q
  have hs : segs12 (m12 Q) Q.length = Q.map sg12 := by
    unfold segs12
    refine List.ext_getElem? fun i => ?_
    rw [List.getElem?_map, List.getElem?_map]
    by_cases hi : i < Q.length
    · obtain ⟨ps, hps⟩ := get_some' hi
      rw [List.getElem?_range hi, hps]
      simp only [Option.map_some]
      rw [m12_seg hps hb]
    · rw [List.getElem?_eq_none (by simp; omega), List.getElem?_eq_none (by omega)]
      rfl
  have hld : load12S (m12 Q) = some (Q.map sg12) := by
    unfold load12S
    rw [if_neg (by omega), m12_cnt hQ, Int.toNat_natCast, hs, if_neg (by omega), if_pos (up_all hb sg12 fun ps => ⟨rfl, rfl⟩)]
  have hsz : sizeS (m12 Q) 12 = 16 + 12 * (Q.length : Int) := by
    unfold sizeS
    rw [if_pos rfl, if_neg (by omega), m12_size hQ]
  unfold ldV
  rw [if_neg (by omega), if_neg (by omega), m12_fmt, if_neg (by decide), hsz, if_neg (by omega), List.take_of_length_le (by omega)]
  have : loadS (m12 Q) 12 = some (Q.map sg12) := by
    unfold loadS
    rw [if_neg (by decide), if_neg (by decide), if_neg (by decide)]
    exact hld
  rw [this]
  rfl
/-- Runs of pairs that may be made. -/
theorem runs_pq {l : List Pr} {lc lg lim : Int} (h : mayL lc lg (-1) l = true) (hl : lc ≤ lim) (hg : lg ≤ 65535) : PQ (runL l) lim := by
  have hall := mayL_all h
  have hasc := mayL_pair h
  refine ⟨fun ps hps => ?_, fun i a b ha hb => ?_⟩
  · obtain ⟨k, hk⟩ := List.getElem?_of_mem hps
    obtain ⟨s, e, h1, h2, h3, h4, h5⟩ := run_whole hk
    have v0 := hall _ (List.mem_of_getElem? (h5 0 (by omega)))
    have v1 := hall _ (List.mem_of_getElem? (h5 (e - 1 - s) (by omega)))
    dsimp only at v0 v1
    omega
  · obtain ⟨s, e, h1, h2, h3, h4, h5⟩ := run_whole ha
    obtain ⟨s', e', h1', h2', h3', h4', h5'⟩ := run_whole hb
    obtain ⟨ps, e0, r1, r2, r3, r4, r5, r6⟩ := run_pair h1
    rw [ha] at r1
    injection r1 with r1
    subst r1
    have hs' : s' = e0 := by
      rcases r6 with ⟨r6, _⟩ | ⟨r6, _⟩
      · rw [h1'] at r6
        injection r6
      · have := (List.getElem?_eq_some_iff.1 h1').1
        omega
    have hq := h5' 0 (by omega)
    have := hasc (e0 - 1) s' _ _ r5 hq (by omega)
    dsimp only at this
    omega
end Go.Proofs.Ytlbfefdmbdjjcaa

namespace Go.Proofs.Ytlbfefdmbdjjcaa
open Go.RowKit

def ltW (ps : List Pr) : List UInt8 := beB 2 (ltP ps).1
def hdW (ps : List Pr) : List UInt8 := beB 2 (hdP ps).1
def dlW (ps : List Pr) : List UInt8 := beB 2 ((hdP ps).2 - (hdP ps).1)
def zeW (_ : List Pr) : List UInt8 := beB 2 0
theorem ltW_len (ps : List Pr) : (ltW ps).length = 2 := beB_length _ _
theorem hdW_len (ps : List Pr) : (hdW ps).length = 2 := beB_length _ _
theorem dlW_len (ps : List Pr) : (dlW ps).length = 2 := beB_length _ _
theorem zeW_len (ps : List Pr) : (zeW ps).length = 2 := beB_length _ _
/-- The head, and the four columns. -/
theorem m4_parts (Q : List (List Pr)) : ∃ T, T.length = 6 ∧ m4 Q = (beB 2 4 ++ beB 2 (16 + 8 * (Q.length : Int)) ++ beB 2 0 ++ beB 2 (2 * (Q.length : Int)) ++ T) ++ Q.flatMap ltW ++ beB 2 0 ++ Q.flatMap hdW ++ Q.flatMap dlW ++ Q.flatMap zeW :=
  ⟨beB 2 (2 * ((2 ^ Nat.log2 Q.length : Nat) : Int)) ++ beB 2 (Nat.log2 Q.length : Nat) ++ beB 2 (2 * ((Q.length : Int) - ((2 ^ Nat.log2 Q.length : Nat) : Int))), by simp [beB_length], by
    unfold m4
    dsimp only
    simp only [List.append_assoc]
    rfl⟩
structure Is4 (bs : List UInt8) (Q : List (List Pr)) : Prop where
  fmt : be16 bs 0 = 4
  size : be16 bs 2 = 16 + 8 * (Q.length : Int)
  twice : be16 bs 6 = 2 * (Q.length : Int)
  row : ∀ (i : Nat) (ps : List Pr), Q[i]? = some ps → be16 bs (14 + 2 * i) = (ltP ps).1 ∧ be16 bs (16 + 2 * Q.length + 2 * i) = (hdP ps).1 ∧ be16 bs (16 + 4 * Q.length + 2 * i) = ((hdP ps).2 - (hdP ps).1) % 65536 ∧ be16 bs (16 + 6 * Q.length + 2 * i) = 0
theorem m4_is {Q : List (List Pr)} (hQ : Q.length ≤ 8189) (hb : PQ Q 65535) : Is4 (m4 Q) Q := by
  obtain ⟨T, hT, hm⟩ := m4_parts Q
  obtain ⟨H, hH⟩ : ∃ H, beB 2 4 ++ beB 2 (16 + 8 * (Q.length : Int)) ++ beB 2 0 ++ beB 2 (2 * (Q.length : Int)) ++ T = H := ⟨_, rfl⟩
  have hHl : H.length = 14 := by rw [← hH]; simp [beB_length, hT]
  have hlt : (Q.flatMap ltW).length = 2 * Q.length := by rw [flat_len ltW_len]; omega
  have hhd : (Q.flatMap hdW).length = 2 * Q.length := by rw [flat_len hdW_len]; omega
  have hdl : (Q.flatMap dlW).length = 2 * Q.length := by rw [flat_len dlW_len]; omega
  refine ⟨?_, ?_, ?_, fun i ps hps => ?_⟩
  · rw [be16_at (bs := m4 Q) (p := 0) (A := []) (x := 4) (C := beB 2 (16 + 8 * (Q.length : Int)) ++ beB 2 0 ++ beB 2 (2 * (Q.length : Int)) ++ T ++ Q.flatMap ltW ++ beB 2 0 ++ Q.flatMap hdW ++ Q.flatMap dlW ++ Q.flatMap zeW) (by rw [hm]; simp) rfl]
    decide
  · rw [be16_at (bs := m4 Q) (p := 2) (A := beB 2 4) (x := 16 + 8 * (Q.length : Int)) (C := beB 2 0 ++ beB 2 (2 * (Q.length : Int)) ++ T ++ Q.flatMap ltW ++ beB 2 0 ++ Q.flatMap hdW ++ Q.flatMap dlW ++ Q.flatMap zeW) (by rw [hm]; simp) rfl]
    omega
  · rw [be16_at (bs := m4 Q) (A := beB 2 4 ++ beB 2 (16 + 8 * (Q.length : Int)) ++ beB 2 0) (x := 2 * (Q.length : Int)) (C := T ++ Q.flatMap ltW ++ beB 2 0 ++ Q.flatMap hdW ++ Q.flatMap dlW ++ Q.flatMap zeW) (by rw [hm]; simp) (by simp [beB_length])]
    omega
  · rw [hH] at hm
    obtain ⟨b1, b2, b3, b4, b5⟩ := hb.bd ps (List.mem_of_getElem? hps)
    obtain ⟨A1, C1, e1, l1⟩ := flat_split ltW_len hps
    obtain ⟨A2, C2, e2, l2⟩ := flat_split hdW_len hps
    obtain ⟨A3, C3, e3, l3⟩ := flat_split dlW_len hps
    obtain ⟨A4, C4, e4, l4⟩ := flat_split zeW_len hps
    refine ⟨?_, ?_, ?_, ?_⟩
    · rw [be16_at (bs := m4 Q) (A := H ++ A1) (x := (ltP ps).1) (C := C1 ++ beB 2 0 ++ Q.flatMap hdW ++ Q.flatMap dlW ++ Q.flatMap zeW) (by rw [hm, e1]; unfold ltW; simp) (by rw [List.length_append, hHl, l1]; omega)]
      exact Int.emod_eq_of_lt (by omega) (by omega)
    · rw [be16_at (bs := m4 Q) (A := H ++ Q.flatMap ltW ++ beB 2 0 ++ A2) (x := (hdP ps).1) (C := C2 ++ Q.flatMap dlW ++ Q.flatMap zeW) (by rw [hm, e2]; unfold hdW; simp) (by simp only [List.length_append, hHl, hlt, beB_length, l2]; omega)]
      exact Int.emod_eq_of_lt (by omega) (by omega)
    · rw [be16_at (bs := m4 Q) (A := H ++ Q.flatMap ltW ++ beB 2 0 ++ Q.flatMap hdW ++ A3) (x := (hdP ps).2 - (hdP ps).1) (C := C3 ++ Q.flatMap zeW) (by rw [hm, e3]; unfold dlW; simp) (by simp only [List.length_append, hHl, hlt, hhd, beB_length, l3]; omega)]
    · rw [be16_at (bs := m4 Q) (A := H ++ Q.flatMap ltW ++ beB 2 0 ++ Q.flatMap hdW ++ Q.flatMap dlW ++ A4) (x := 0) (C := C4) (by rw [hm, e4]; unfold zeW; simp) (by simp only [List.length_append, hHl, hlt, hhd, hdl, beB_length, l4]; omega)]
      decide
theorem is4_segs {bs : List UInt8} {Q : List (List Pr)} (h : Is4 bs Q) (hb : PQ Q 65535) : ∀ i, i ≤ Q.length → segs4 bs Q.length i = some ((Q.take i).map sg4)
  | 0, _ => rfl
  | i + 1, hi => by
    obtain ⟨ps, hps⟩ := get_some' (l := Q) (k := i) (by omega)
    obtain ⟨r1, r2, r3, r4⟩ := h.row i ps hps
    obtain ⟨b1, b2, b3, b4, b5⟩ := hb.bd ps (List.mem_of_getElem? hps)
    have ih := is4_segs h hb i (by omega)
    have hsg : seg4 bs Q.length i = some (sg4 ps) := by
      unfold seg4
      simp only [r1, r2, r3, r4, true_or, if_true]
      rfl
    have hup := (up_take hb sg4 (fun ps => ⟨rfl, rfl⟩) (i + 1) hi).1
    rw [take_snoc' hps, List.map_append, upB_append, Bool.and_eq_true] at hup
    have h1 := upB_one (lim := 65535) (last := lastL (-1) ((Q.take i).map sg4)) (s := sg4 ps)
    have h2 : upB 65535 (lastL (-1) ((Q.take i).map sg4)) [sg4 ps] = true := hup.2
    rw [h1, decide_eq_true_eq] at h2
    obtain ⟨h3, h4, _⟩ := h2
    unfold segs4
    rw [ih, Option.bind_some, r1, r2, if_neg (by rintro (h | h) <;> (simp only [sg4] at h3 h4; omega)), hsg, take_snoc' hps, List.map_append]
    rfl
theorem m4_load {Q : List (List Pr)} (hQ : (Q ++ [sent]).length ≤ 8189) (hb : PQ (Q ++ [sent]) 65535) {n : Int} (hn : 1 ≤ n ∧ n ≤ 65535) : ldV (m4 (Q ++ [sent])) n = .ok 4 ((Q ++ [sent]).map sg4) := by
  have hlen := m4_len (Q ++ [sent])
  have his := m4_is hQ hb
  have hlast : lastL (-1) ((Q ++ [sent]).map sg4) = 65535 := by rw [List.map_append]; exact lastL_snoc _ _ _
  have hpos : 1 ≤ (Q ++ [sent]).length := by simp
  generalize Q ++ [sent] = P at hQ hb hlen his hlast hpos ⊢
  have hsg := is4_segs his hb P.length (Nat.le_refl _)
  rw [List.take_length] at hsg
  have hld : load4S (m4 P) = some (P.map sg4) := by
    unfold load4S
    rw [if_neg (by omega), his.twice, if_neg (by omega), show (2 * (P.length : Int) / 2) = (P.length : Int) by omega, Int.toNat_natCast, hsg, Option.bind_some, if_pos hlast]
  have hsz : sizeS (m4 P) 4 = 16 + 8 * (P.length : Int) := by
    unfold sizeS
    rw [if_neg (by decide), if_neg (by omega), his.size]
  unfold ldV
  rw [if_neg (by omega), if_neg (by omega), his.fmt, if_neg (by decide), hsz, if_neg (by omega), List.take_of_length_le (by omega)]
  have : loadS (m4 P) 4 = some (P.map sg4) := by
    unfold loadS
    rw [if_neg (by decide), if_pos rfl]
    exact hld
  rw [this]
  rfl
theorem sent_pq {Q : List (List Pr)} (h : PQ Q 65534) : PQ (Q ++ [sent]) 65535 := by
  refine ⟨fun ps hps => ?_, fun i a b ha hb => ?_⟩
  · rcases List.mem_append.1 hps with hps | hps
    · have := h.bd ps hps
      omega
    · rw [List.mem_singleton] at hps
      subst hps
      decide
  · by_cases hi : i + 1 < Q.length
    · rw [List.getElem?_append_left (by omega)] at ha
      rw [List.getElem?_append_left hi] at hb
      exact h.up i a b ha hb
    · have hj := (List.getElem?_eq_some_iff.1 hb).1
      rw [List.length_append] at hj
      have he : i + 1 = Q.length := by simp at hj; omega
      rw [List.getElem?_append_left (by omega)] at ha
      rw [he, List.getElem?_append_right (Nat.le_refl _), Nat.sub_self] at hb
      injection hb with hb
      subst hb
      have := (h.bd a (List.mem_of_getElem? ha)).2.2.1
      show (ltP a).1 < 65535
      omega
end Go.Proofs.Ytlbfefdmbdjjcaa

namespace Go.Proofs.Ytlbfefdmbdjjcaa
open Go.RowKit

theorem look_cons (p : Pr) (l : List Pr) (c : Int) : lookP (p :: l) c = if p.1 = c then p.2 else lookP l c := by
  unfold lookP
  rw [List.find?_cons]
  by_cases h : p.1 = c
  · simp [h]
  · simp [h]
theorem asc_tail {p : Pr} {l : List Pr} (h : Asc (p :: l)) : Asc l := fun i j a b ha hb hij => h (i + 1) (j + 1) a b (by rw [List.getElem?_cons_succ]; exact ha) (by rw [List.getElem?_cons_succ]; exact hb) (by omega)
theorem asc_head {p : Pr} {l : List Pr} (h : Asc (p :: l)) : ∀ q ∈ l, p.1 < q.1 := fun q hq => by
  obtain ⟨j, hj⟩ := List.getElem?_of_mem hq
  exact h 0 (j + 1) p q rfl (by rw [List.getElem?_cons_succ]; exact hj) (by omega)
theorem fold_look {f : Int} {x : Nat} : ∀ (l : List Pr) (g : List Int), Asc l → (∀ p ∈ l, f ≤ p.1 ∧ p.1 - f < g.length ∧ 1 ≤ p.2) → (l.foldl (setP f) g).getD x 0 = if lookP l (f + x) ≠ 0 then lookP l (f + x) else g.getD x 0
  | [], g, _, _ => by
    have : lookP [] (f + x) = 0 := rfl
    rw [this]
    rfl
  | p :: l, g, ha, hp => by
    show (l.foldl (setP f) (setP f g p)).getD x 0 = _
    have hsl : (setP f g p).length = g.length := by unfold setP; rw [List.length_set]
    rw [fold_look l (setP f g p) (asc_tail ha) (fun q hq => by rw [hsl]; exact hp q (List.mem_cons_of_mem _ hq)), look_cons]
    obtain ⟨h1, h2, h3⟩ := hp p List.mem_cons_self
    by_cases hc : p.1 = f + x
    · rw [if_pos hc]
      have hno : lookP l (f + x) = 0 := look_none fun j q hq e => by
        have := asc_head ha q (List.mem_of_getElem? hq)
        omega
      rw [hno, if_pos (show p.2 ≠ 0 by omega)]
      have hs : (setP f g p).getD x 0 = p.2 := by
        unfold setP
        rw [List.getD_eq_getElem?_getD, show (p.1 - f).toNat = x by omega, List.getElem?_set_self (by omega)]
        rfl
      rw [hs]
      simp
    · rw [if_neg hc]
      have hs : (setP f g p).getD x 0 = g.getD x 0 := by
        unfold setP
        rw [List.getD_eq_getElem?_getD, List.getElem?_set_ne (by omega), ← List.getD_eq_getElem?_getD]
      rw [hs]
theorem glP_look {l : List Pr} {f : Int} {k x : Nat} (ha : Asc l) (hp : ∀ p ∈ l, f ≤ p.1 ∧ p.1 - f < k ∧ 1 ≤ p.2) : (glP l f k).getD x 0 = lookP l (f + x) := by
  unfold glP
  rw [fold_look l (List.replicate k 0) ha (by simpa using hp)]
  by_cases h : lookP l (f + x) ≠ 0
  · rw [if_pos h]
  · rw [if_neg h]
    simp only [ne_eq, Classical.not_not] at h
    rw [h, List.getD_eq_getElem?_getD]
    by_cases hx : x < k
    · rw [List.getElem?_replicate, if_pos hx]; rfl
    · rw [List.getElem?_replicate, if_neg hx]; rfl
theorem glP_bd {l : List Pr} {f : Int} {k : Nat} (hp : ∀ p ∈ l, 0 ≤ p.2 ∧ p.2 ≤ 65535) : ∀ y ∈ glP l f k, 0 ≤ y ∧ y ≤ 65535 :=
  setP_bd f l _ hp fun y hy => by rw [List.mem_replicate] at hy; omega
theorem glP_len (l : List Pr) (f : Int) (k : Nat) : (glP l f k).length = k := by unfold glP; rw [setP_len, List.length_replicate]
/-- A list of glyphs as the one segment. -/
theorem one_look {l : List Pr} {f : Int} {k : Nat} {g _d : Int} {rn : Bool} (ha : Asc l) (_hk : 0 < k) (hp : ∀ p ∈ l, f ≤ p.1 ∧ p.1 - f < k ∧ 1 ≤ p.2 ∧ p.2 ≤ 65535) {n : Int} (hn : 0 < n) (code : Int) :
    glV [⟨f, f + k - 1, g, rn, some (glP l f k), 0⟩] n code = if lookP l code < n then lookP l code else 0 := by
  have hlk := fun x => glP_look (x := x) ha (fun p h => ⟨(hp p h).1, (hp p h).2.1, (hp p h).2.2.1⟩)
  have hbd := glP_bd (f := f) (k := k) (fun p h => ⟨by have := hp p h; omega, (hp p h).2.2.2⟩)
  have hlen := glP_len l f k
  unfold glV
  rw [List.find?_cons]
  by_cases hc : f ≤ code ∧ code ≤ f + k - 1
  · rw [show (decide (f ≤ code) && decide (code ≤ f + k - 1)) = true by simp; exact hc]
    have hv : atV ⟨f, f + k - 1, g, rn, some (glP l f k), 0⟩ code = lookP l code := by
      show (let v := (glP l f k).getD (code - f).toNat 0; if v = 0 then 0 else (v + 0) % 65536) = _
      have h1 := hlk (code - f).toNat
      rw [show f + (((code - f).toNat : Nat) : Int) = code by omega] at h1
      dsimp only
      rw [h1]
      by_cases h0 : lookP l code = 0
      · rw [if_pos h0, h0]
      · rw [if_neg h0, Int.add_zero]
        obtain ⟨p, hp1, hp2, hp3⟩ := look_mem h0
        have := hp p hp1
        rw [hp3]
        exact Int.emod_eq_of_lt (by omega) (by omega)
    simp only [hv]
  · rw [show (decide (f ≤ code) && decide (code ≤ f + k - 1)) = false by simp; omega]
    rw [look_none fun j p hj e => hc (by have := hp p (List.mem_of_getElem? hj); omega), if_pos hn]
    rfl
theorem none_look (n code : Int) : glV [] n code = 0 := rfl
theorem flat_at {gs : List Int} {w : Nat} {A : List UInt8} {i : Nat} {y : Int} (h : gs[i]? = some y) : ∃ B C, A ++ gs.flatMap (beB w) = B ++ beB w y ++ C ∧ B.length = A.length + i * w := by
  obtain ⟨B, C, h1, h2⟩ := flat_split (fun a => beB_length w a) h
  exact ⟨A ++ B, C, by rw [h1]; simp, by rw [List.length_append, h2]⟩
theorem n6_case {l : List Pr} (hi : InP l (f6 l) (n6 l)) : (l = [] ∧ f6 l = 0 ∧ n6 l = 0) ∨ (0 < l.length ∧ (hdP l).1 = f6 l ∧ (ltP l).1 - f6 l + 1 = n6 l) := by
  by_cases h0 : l = []
  · exact .inl ⟨h0, if_pos h0, if_pos h0⟩
  · have h1 : 0 < l.length := List.length_pos_iff.2 h0
    have h2 : f6 l = (hdP l).1 := if_neg h0
    have h3 : n6 l = ((ltP l).1 - (hdP l).1 + 1).toNat := if_neg h0
    have h4 := hi _ (List.mem_of_getElem? (lt_at h1))
    rw [h2] at h4
    exact .inr ⟨h1, h2.symm, by rw [h3, h2]; omega⟩
theorem m6_load {l : List Pr} (h : mayS 6 l = true) (hk : n6 l ≤ 8192) {n : Int} (hn : 1 ≤ n ∧ n ≤ 65535) : ∃ S, ldV (m6 l) n = .ok 6 S ∧ ∀ code, glV S n code = if lookP l code < n then lookP l code else 0 := by
  obtain ⟨hin, hf, hk2⟩ := may_in6 h
  have hall := mayL_all h
  have hasc : Asc l := mayL_pair h
  have hg6 : mostG 6 = 65535 := rfl
  have hc6 : mostC 6 = 65535 := rfl
  have hp : ∀ p ∈ l, f6 l ≤ p.1 ∧ p.1 - f6 l < n6 l ∧ 1 ≤ p.2 ∧ p.2 ≤ 65535 := fun p hp => by
    have h1 := hin p hp
    have h2 := hall p hp
    omega
  have hfk : f6 l + n6 l ≤ 65536 := by
    rcases n6_case hin with ⟨_, e2, e3⟩ | ⟨e1, e2, e3⟩
    · omega
    · have := hall _ (List.mem_of_getElem? (lt_at e1))
      omega
  have hlen := m6_len l
  have hbd := glP_bd (f := f6 l) (k := n6 l) (fun p h => ⟨by have := hp p h; omega, (hp p h).2.2.2⟩)
  have hgl := glP_len l (f6 l) (n6 l)
  have hm : m6 l = beB 2 6 ++ beB 2 (10 + 2 * (n6 l : Int)) ++ beB 2 0 ++ beB 2 (f6 l) ++ beB 2 (n6 l : Int) ++ (glP l (f6 l) (n6 l)).flatMap (beB 2) := rfl
  have hone := fun (hk : 0 < n6 l) code => one_look (g := 0) (_d := 0) (rn := false) hasc hk hp (show 0 < n by omega) code
  have hnone : n6 l = 0 → ∀ code, lookP l code = 0 := fun e code => look_none fun j p hj _ => by have := hp p (List.mem_of_getElem? hj); omega
  generalize m6 l = N at hlen hm ⊢
  generalize glP l (f6 l) (n6 l) = gs at hbd hgl hm hone
  generalize f6 l = f at hf hfk hm hone
  generalize n6 l = k at hk hfk hlen hgl hm hone hnone
  have b0 : be16 N 0 = 6 := by
    rw [be16_at (bs := N) (p := 0) (A := []) (x := 6) (C := beB 2 (10 + 2 * (k : Int)) ++ beB 2 0 ++ beB 2 f ++ beB 2 (k : Int) ++ gs.flatMap (beB 2)) (by rw [hm]; simp) rfl]
    decide
  have b2 : be16 N 2 = 10 + 2 * (k : Int) := by
    rw [be16_at (bs := N) (p := 2) (A := beB 2 6) (x := 10 + 2 * (k : Int)) (C := beB 2 0 ++ beB 2 f ++ beB 2 (k : Int) ++ gs.flatMap (beB 2)) (by rw [hm]; simp) rfl]
    omega
  have b6 : be16 N 6 = f := by
    rw [be16_at (bs := N) (A := beB 2 6 ++ beB 2 (10 + 2 * (k : Int)) ++ beB 2 0) (x := f) (C := beB 2 (k : Int) ++ gs.flatMap (beB 2)) (by rw [hm]; simp) (by simp [beB_length])]
    omega
  have b8 : be16 N 8 = (k : Int) := by
    rw [be16_at (bs := N) (A := beB 2 6 ++ beB 2 (10 + 2 * (k : Int)) ++ beB 2 0 ++ beB 2 f) (x := (k : Int)) (C := gs.flatMap (beB 2)) (by rw [hm]) (by simp [beB_length])]
    omega
  have hw : wL N (10, false) k = gs := by
    refine List.ext_getElem? fun i => ?_
    by_cases hi : i < k
    · obtain ⟨y, hy⟩ := get_some' (l := gs) (k := i) (by omega)
      rw [wL_at (by omega) hi, hy]
      obtain ⟨B, C, e1, e2⟩ := flat_at (w := 2) (A := beB 2 6 ++ beB 2 (10 + 2 * (k : Int)) ++ beB 2 0 ++ beB 2 f ++ beB 2 (k : Int)) hy
      have := hbd y (List.mem_of_getElem? hy)
      rw [be16_at (bs := N) (A := B) (x := y) (C := C) (by rw [hm, e1]) (by rw [e2]; simp [beB_length]; omega)]
      simp only [Option.some.injEq]
      omega
    · rw [List.getElem?_eq_none (by rw [wL_len]; omega), List.getElem?_eq_none (by omega)]
  have hsz : sizeS N 6 = 10 + 2 * (k : Int) := by
    unfold sizeS
    rw [if_neg (by decide), if_neg (by omega), b2]
  have hld : ldV N n = ldM (loadS N 6) 6 := by
    unfold ldV
    rw [if_neg (by omega), if_neg (by omega), b0, if_neg (by decide), hsz, if_neg (by omega), List.take_of_length_le (by omega)]
  have hl6 : loadS N 6 = if (k : Int) = 0 then some [] else some [⟨f, f + (k : Int) - 1, 0, false, some gs, 0⟩] := by
    unfold loadS load6S
    rw [if_neg (by decide), if_neg (by decide), if_pos rfl, if_neg (by omega), b6, b8, Int.toNat_natCast, hw, if_neg (by omega)]
  by_cases hk0 : k = 0
  · refine ⟨[], by rw [hld, hl6, if_pos (by omega)]; rfl, fun code => ?_⟩
    rw [hnone hk0, if_pos (by omega)]
    rfl
  · exact ⟨_, by rw [hld, hl6, if_neg (by omega)]; rfl, hone (by omega)⟩
theorem m0_load {l : List Pr} (h : mayS 0 l = true) {n : Int} (hn : 1 ≤ n ∧ n ≤ 65535) : ∃ S, ldV (m0 l) n = .ok 0 S ∧ ∀ code, glV S n code = if lookP l code < n then lookP l code else 0 := by
  have hall := mayL_all h
  have hasc : Asc l := mayL_pair h
  have hg0 : mostG 0 = 255 := rfl
  have hc0 : mostC 0 = 255 := rfl
  have hp : ∀ p ∈ l, 0 ≤ p.1 ∧ p.1 - 0 < ((256 : Nat) : Int) ∧ 1 ≤ p.2 ∧ p.2 ≤ 65535 := fun p hp => by
    have h2 := hall p hp
    omega
  have hlen := m0_len l
  have hbd := setP_b8 0 l (List.replicate 256 0) (fun p hp => by have := hall p hp; omega) (fun y hy => by rw [List.mem_replicate] at hy; omega)
  have hgd : l.foldl (setP 0) (List.replicate 256 0) = glP l 0 256 := rfl
  rw [hgd] at hbd
  have hgl := glP_len l 0 256
  have hm : m0 l = beB 2 0 ++ beB 2 262 ++ beB 2 0 ++ byG (glP l 0 256) := rfl
  have hone := fun code => one_look (g := 0) (_d := 0) (rn := false) hasc (show 0 < 256 by omega) hp (show 0 < n by omega) code
  generalize m0 l = N at hlen hm ⊢
  generalize glP l 0 256 = gs at hbd hgl hm hone
  have b0 : be16 N 0 = 0 := by
    rw [be16_at (bs := N) (p := 0) (A := []) (x := 0) (C := beB 2 262 ++ beB 2 0 ++ byG gs) (by rw [hm]; simp) rfl]
    decide
  have b2 : be16 N 2 = 262 := by
    rw [be16_at (bs := N) (p := 2) (A := beB 2 0) (x := 262) (C := beB 2 0 ++ byG gs) (by rw [hm]; simp) rfl]
    decide
  have hgb : (byG gs).length = 256 := by rw [byG_map, List.length_map, hgl]
  have hd : (N.drop 6).take 256 = byG gs := by
    rw [hm, List.drop_left' (by simp [beB_length]), List.take_of_length_le (by omega)]
  have hints : ints (byG gs) = gs := by
    rw [byG_map]
    unfold ints
    rw [List.map_map]
    conv => rhs; rw [← List.map_id gs]
    refine List.map_congr_left fun y hy => ?_
    have hb := byV_at y (hbd y hy).1 (hbd y hy).2
    unfold byteV at hb
    injection hb with _ hb
  have hsz : sizeS N 0 = 262 := by
    unfold sizeS
    rw [if_neg (by decide), if_neg (by omega), b2]
  have hl0 : loadS N 0 = some [⟨0, 0 + ((256 : Nat) : Int) - 1, 0, false, some gs, 0⟩] := by
    unfold loadS load0S
    rw [if_pos rfl, if_neg (by omega), hd, hints]
    rfl
  refine ⟨_, ?_, hone⟩
  unfold ldV
  rw [if_neg (by omega), if_neg (by omega), b0, if_neg (by decide), hsz, if_neg (by omega), List.take_of_length_le (by omega), hl0]
  rfl
end Go.Proofs.Ytlbfefdmbdjjcaa

namespace Go.Proofs.Ytlbfefdmbdjjcaa
open Go.RowKit

def lkN (l : List Pr) (n code : Int) : Int := if lookP l code < n then lookP l code else 0
theorem mk_ok {f : Int} {l : List Pr} {N : List UInt8} (h : mkS f l = .ok N) : isFmtB f = true ∧ mayS f l = true ∧ l.length ≤ 8192 ∧ ((f = 0 ∧ N = m0 l) ∨ (f = 4 ∧ N = m4 (runL l ++ [sent]) ∧ (runL l ++ [sent]).length ≤ 8189) ∨ (f = 6 ∧ N = m6 l ∧ n6 l ≤ 8192) ∨ (f = 12 ∧ N = m12 (runL l))) := by
  unfold mkS at h
  split at h
  · cases h
  · rename_i h1
    split at h
    · cases h
    · rename_i h2
      split at h
      · cases h
      · rename_i h3
        have h1' : isFmtB f = true := by simpa using h1
        refine ⟨h1', by simpa using h2, by omega, ?_⟩
        split at h
        · rename_i h4
          injection h with h
          exact .inl ⟨h4, h.symm⟩
        · split at h
          · rename_i h4
            split at h
            · cases h
            · injection h with h
              exact .inr (.inl ⟨h4, h.symm, by omega⟩)
          · split at h
            · rename_i h4
              split at h
              · cases h
              · injection h with h
                exact .inr (.inr (.inl ⟨h4, h.symm, by omega⟩))
            · injection h with h
              refine .inr (.inr (.inr ⟨?_, h.symm⟩))
              unfold isFmtB at h1'
              simp only [decide_eq_true_eq] at h1'
              omega
theorem mk_err3 {f : Int} {l : List Pr} {x : Int} (h : mkS f l = .error x) : x = 81 ∨ x = 1 ∨ x = 3 := by
  unfold mkS at h
  split at h
  · injection h with h; omega
  · split at h
    · injection h with h; omega
    · split at h
      · injection h with h; omega
      · split at h
        · cases h
        · split at h
          · split at h
            · injection h with h; omega
            · cases h
          · split at h
            · split at h
              · injection h with h; omega
              · cases h
            · cases h
theorem mk_len {f : Int} {l : List Pr} {N : List UInt8} (h : mkS f l = .ok N) : N.length ≤ 98320 := by
  obtain ⟨_, _, h3, h4⟩ := mk_ok h
  have hr := runN_len l l.length
  change (runL l).length ≤ l.length at hr
  rcases h4 with ⟨_, rfl⟩ | ⟨_, rfl, h5⟩ | ⟨_, rfl, h5⟩ | ⟨_, rfl⟩
  · rw [m0_len]; omega
  · rw [m4_len]; omega
  · rw [m6_len]; omega
  · rw [m12_len]; omega
theorem rise12 {Q : List (List Pr)} (h : PQ Q 1114111) : SvRise (Q.map sg12) :=
  upB_rise (up_all h sg12 fun ps => ⟨rfl, rfl⟩) (by omega) fun s hs => by
    obtain ⟨ps, hps, rfl⟩ := List.mem_map.1 hs
    have := h.bd ps hps
    exact ⟨by show 0 ≤ (hdP ps).2; omega, by show (hdP ps).2 ≤ _; omega, by show (0 : Int) ≤ 0; omega, by show (0 : Int) ≤ 65535; omega, fun xs hx => by cases hx⟩
theorem rise4 {Q : List (List Pr)} (h : PQ Q 65535) : SvRise (Q.map sg4) :=
  upB_rise (up_all h sg4 fun ps => ⟨rfl, rfl⟩) (by omega) fun s hs => by
    obtain ⟨ps, hps, rfl⟩ := List.mem_map.1 hs
    have := h.bd ps hps
    exact ⟨by show 0 ≤ (hdP ps).1 + ((hdP ps).2 - (hdP ps).1) % 65536; omega, by show (hdP ps).1 + ((hdP ps).2 - (hdP ps).1) % 65536 ≤ _; omega, by show (0 : Int) ≤ ((hdP ps).2 - (hdP ps).1) % 65536; omega, by show ((hdP ps).2 - (hdP ps).1) % 65536 ≤ 65535; omega, fun xs hx => by cases hx⟩
theorem back_all {f : Int} {l : List Pr} {N : List UInt8} (h : mkS f l = .ok N) {n : Int} (hn : 1 ≤ n ∧ n ≤ 65535) : ∃ S, ldV N n = .ok f S ∧ ∀ code, glS S n code = lkN l n code := by
  obtain ⟨h1, h2, h3, h4⟩ := mk_ok h
  have hpb := may_pb h2
  have hasc : Asc l := mayL_pair h2
  have hall := mayL_all h2
  have hrl := runN_len l l.length
  change (runL l).length ≤ l.length at hrl
  have key : ∃ S, ldV N n = .ok f S ∧ ∀ code, glV S n code = if lookP l code < n then lookP l code else 0 := by
    rcases h4 with ⟨rfl, rfl⟩ | ⟨rfl, rfl, h5⟩ | ⟨rfl, rfl, h5⟩ | ⟨rfl, rfl⟩
    · exact m0_load h2 hn
    · have hq := runs_pq (lim := 65534) h2 (by decide) (by decide)
      have hq5 := sent_pq hq
      refine ⟨_, m4_load h5 hq5 hn, fun code => look_segs hasc (rise4 hq5) (sg := sg4) (fun k s hs => ?_) (fun k ps hk => ?_) (fun k ps hk => ⟨rfl, rfl, fun t ht => ?_⟩) (by omega) code⟩
      · rw [List.getElem?_map] at hs
        obtain ⟨ps, hps, rfl⟩ := Option.map_eq_some_iff.1 hs
        by_cases hk : k < (runL l).length
        · rw [List.getElem?_append_left hk] at hps
          exact .inl ⟨ps, hps, rfl⟩
        · right
          have hj := (List.getElem?_eq_some_iff.1 hps).1
          rw [List.length_append] at hj
          rw [List.getElem?_append_right (by omega), show k - (runL l).length = 0 by simp at hj; omega] at hps
          injection hps with hps
          subst hps
          intro code hc1 hc2
          have hc1' : (65535 : Int) ≤ code := hc1
          have hc2' : code ≤ 65535 := hc2
          obtain rfl : code = 65535 := by omega
          refine ⟨by decide, fun j p hj e => ?_⟩
          have := hall p (List.mem_of_getElem? hj)
          have hm4 : mostC 4 = 65534 := rfl
          omega
      · rw [List.getElem?_map, List.getElem?_append_left (List.getElem?_eq_some_iff.1 hk).1, hk]
        rfl
      · obtain ⟨s, e, k1, k2, k3, k4, k5⟩ := run_whole hk
        have := hall _ (List.mem_of_getElem? (k5 t (by omega)))
        have hm4 : mostG 4 = 65535 := rfl
        dsimp only at this
        show ((hdP ps).1 + ((hdP ps).2 - (hdP ps).1) % 65536 + ((hdP ps).1 + (t : Int)) - (hdP ps).1) % 65536 = _
        omega
    · exact m6_load h2 h5 hn
    · have hq := runs_pq (lim := 1114111) h2 (by decide) (by decide)
      refine ⟨_, m12_load (by omega) hq hn, fun code => look_segs hasc (rise12 hq) (sg := sg12) (fun k s hs => ?_) (fun k ps hk => ?_) (fun k ps hk => ⟨rfl, rfl, fun t ht => ?_⟩) (by omega) code⟩
      · rw [List.getElem?_map] at hs
        obtain ⟨ps, hps, rfl⟩ := Option.map_eq_some_iff.1 hs
        exact .inl ⟨ps, hps, rfl⟩
      · rw [List.getElem?_map, hk]
        rfl
      · show (hdP ps).2 + ((hdP ps).1 + (t : Int)) - (hdP ps).1 = _
        omega
  obtain ⟨S, k1, k2⟩ := key
  refine ⟨S, k1, fun code => ?_⟩
  unfold glS lkN
  by_cases hc : code < 0 ∨ 1114111 < code
  · rw [if_pos hc, look_none fun j p hj e => by have := hpb p (List.mem_of_getElem? hj); omega, if_pos (by omega)]
  · rw [if_neg hc]
    exact k2 code
theorem look_take {l : List Pr} {k : Nat} {p : Pr} (ha : Asc l) (hp : l[k]? = some p) (c : Int) : lookP (l.take (k + 1)) c = if p.1 = c then p.2 else lookP (l.take k) c := by
  have hat : ∀ m, Asc (l.take m) := fun m i j a b h1 h2 hij => by
    rw [List.getElem?_take] at h1 h2
    split at h1
    · split at h2
      · exact ha i j a b h1 h2 hij
      · cases h2
    · cases h1
  have hk : (l.take (k + 1))[k]? = some p := by rw [List.getElem?_take, if_pos (by omega)]; exact hp
  by_cases hc : p.1 = c
  · rw [if_pos hc, ← hc]
    exact look_some (hat _) hk
  · rw [if_neg hc]
    by_cases hx : ∃ (j : Nat) (q : Pr), (l.take k)[j]? = some q ∧ q.1 = c
    · obtain ⟨j, q, hq, rfl⟩ := hx
      rw [look_some (hat k) hq]
      rw [List.getElem?_take] at hq
      split at hq
      · exact look_some (hat (k + 1)) (j := j) (by rw [List.getElem?_take, if_pos (by omega)]; exact hq)
      · cases hq
    · rw [look_none (l := l.take k) fun j q hq e => hx ⟨j, q, hq, e⟩]
      refine look_none fun j q hq e => ?_
      rw [List.getElem?_take] at hq
      split at hq
      · by_cases hj : j < k
        · exact hx ⟨j, q, by rw [List.getElem?_take, if_pos hj]; exact hq, e⟩
        · obtain rfl : j = k := by omega
          rw [hp] at hq
          injection hq with hq
          subst hq
          exact hc e
      · cases hq
theorem lkN_take {l : List Pr} {k : Nat} {p : Pr} (ha : Asc l) (hp : l[k]? = some p) (n c : Int) : lkN (l.take (k + 1)) n c = if p.1 = c then (if p.2 < n then p.2 else 0) else lkN (l.take k) n c := by
  unfold lkN
  rw [look_take ha hp]
  split <;> rfl
theorem lkN_at {l : List Pr} {k : Nat} {p : Pr} (ha : Asc l) (hp : l[k]? = some p) (n : Int) : lkN l n p.1 = if p.2 < n then p.2 else 0 := by
  unfold lkN
  rw [look_some ha hp]
end Go.Proofs.Ytlbfefdmbdjjcaa

namespace Go.Proofs.Ytlbfefdmbdjjcaa
open Go.RowKit

theorem pr_info : (Try.prog.info? 43).map (fun i => (i.zero.map (fun z => z.cells.size), i.size, i.bytes)) = some (some 2, 2, 16) := by kernel_rfl
theorem pr_parts : ∃ i z, Try.prog.info? 43 = some i ∧ i.zero = some z ∧ i.size = 2 ∧ i.bytes = 16 ∧ z.cells.size = 2 := by
  have h := pr_info
  cases hi : Try.prog.info? 43 with
  | none => rw [hi] at h; cases h
  | some i =>
    rw [hi] at h
    simp only [Option.map_some, Option.some.injEq, Prod.mk.injEq] at h
    obtain ⟨h1, h2, h3⟩ := h
    cases hz : i.zero with
    | none => rw [hz] at h1; cases h1
    | some z =>
      rw [hz] at h1
      exact ⟨i, z, rfl, hz, h2, h3, by simpa using h1⟩
theorem own_empty2 (w : World) (e : TypeId) (s : Nat) : (w.alloc (.cells #[] e)).ownsRow w.heap.size e s (.slice (some ⟨w.heap.size, 0, none⟩) 0 0) 0 [] :=
  ⟨by simp, .inr ⟨w.heap.size, 0, #[], rfl, Nat.le_refl _, heap_alloc_new w _, Nat.le_refl _, Nat.zero_le _, by simp, by simp⟩⟩
theorem own_cap {w : World} {base n k : Nat} {e : TypeId} {v : Value} {xs : List Value} (h : w.ownsRow base e k v n xs) : ∃ A c, v = .slice A n c ∧ n ≤ c := by
  obtain ⟨hl, ⟨rfl, h0⟩ | ⟨g, cap, cur, rfl, hg, hh, hn, _⟩⟩ := h
  · subst h0
    exact ⟨none, 0, rfl, Nat.le_refl _⟩
  · exact ⟨_, _, rfl, hn⟩
theorem pr_one (l : List Pr) : ∀ u ∈ (l.map prC).flatten, u.oneCell' = true := fun u hu => by
  obtain ⟨r, hr, hu⟩ := List.mem_flatten.1 hu
  obtain ⟨s, _, rfl⟩ := List.mem_map.1 hr
  simp only [prC, List.mem_cons, List.mem_nil_iff, or_false] at hu
  rcases hu with rfl | rfl <;> rfl
/-- What append([]api.Pair{}, l...) has made. -/
theorem pr_cloned {w w' : World} {v : Value} {n : Nat} {l : List Pr} (_hn : l.length = n) (h : w'.ownsRow w.heap.size 43 2 v (0 + n) ([] ++ (l.map prC).flatten)) (hg : (w.alloc (.cells #[] 43)).grownBy w' (Value.slice (some ⟨w.heap.size, 0, none⟩) 0 0).ownBlock) : ∃ A c, v = .slice A n c ∧ n ≤ c ∧ RowsAt w' A n 2 (l.map prC) ∧ Below w.heap.size w w' := by
  rw [Nat.zero_add, List.nil_append] at h
  obtain ⟨A, c, rfl, hc⟩ := own_cap h
  obtain ⟨A', c', e, hr, _⟩ := RowsAt.of_own (rows := l.map prC) h rfl (fun r hr => by obtain ⟨p, _, rfl⟩ := List.mem_map.1 hr; rfl) (by omega)
  injection e with e1 e2 e3
  subst e1
  refine ⟨A, c, rfl, hc, hr, (bel_alloc bel_refl).below.trans ⟨hg.os, hg.tape, hg.output, hg.size, fun k hk => hg.block k (by simp; omega) (by simp [Value.ownBlock]; omega)⟩⟩
theorem pairs_of {w : World} {A : Option Addr} {n : Nat} (h : ∀ i, i < n → ∃ b o, A = some ⟨b, o, none⟩ ∧ b < w.heap.size ∧ CellsOk w [.int .i64, .int .i64] (fun j => w.cell? ⟨b, o + (i * [CK.int .i64, .int .i64].length + j), none⟩)) :
    ∃ l : List Pr, RowsAt w A n 2 (l.map prC) := by
  obtain ⟨l, hl, hq⟩ := list_of (p := fun k (d : Pr) => ∃ b o, A = some ⟨b, o, none⟩ ∧ b < w.heap.size ∧ w.cell? ⟨b, o + k * 2, none⟩ = some (.int .i64 d.1) ∧ w.cell? ⟨b, o + k * 2 + 1, none⟩ = some (.int .i64 d.2)) n (fun k hk => by
    obtain ⟨b', o', hA', hb', hc'⟩ := h k hk
    simp only [CellsOk, and_true, Nat.add_zero, List.length_cons, List.length_nil, Nat.zero_add] at hc'
    obtain ⟨⟨u, hu, ku⟩, v, hv', kv⟩ := hc'
    simp only [CellOk] at ku kv
    obtain ⟨x, rfl, -⟩ := ku
    obtain ⟨y, rfl, -⟩ := kv
    exact ⟨(x, y), b', o', hA', hb', hu, by rw [Nat.add_assoc]; exact hv'⟩)
  refine ⟨l, by rw [List.length_map]; exact hl, fun i r hr => ?_⟩
  rw [List.getElem?_map] at hr
  obtain ⟨p, hp, rfl⟩ := Option.map_eq_some_iff.1 hr
  obtain ⟨b, o, hA, hb, h1, h2⟩ := hq i p hp
  refine ⟨rfl, b, o, hA, hb, fun j v hv => ?_⟩
  rcases j with _ | _ | j
  · simp only [prC, List.getElem?_cons_zero, Option.some.injEq] at hv
    subst hv
    exact h1
  · simp only [prC, List.getElem?_cons_succ, List.getElem?_cons_zero, Option.some.injEq] at hv
    subst hv
    exact h2
  · simp [prC] at hv
end Go.Proofs.Ytlbfefdmbdjjcaa

namespace Go.Proofs.Ytlbfefdmbdjjcaa
open Go.RowKit

section
open Go.ChangeShapes
/-- The arguments of a function with five parameters, apart. -/
theorem trodAll_five {H : Type} {enc : TypeId × Value → H} {P : Program} {w : World} {base : Nat} {spare : Nat → Bool} {held : Bool} {t t' t'' t3 t4 : TypeId} {args : Array Value} {ds : List (DataW H)} {ps : List MemPlace} (h : DataW.TrodAll enc P w base spare held [t, t', t'', t3, t4] args.toList ds ps) :
    ∃ v v' v'' v3 v4 d d' d'' d3 d4 p p' p'' p3 p4, args = #[v, v', v'', v3, v4] ∧ ds = [d, d', d'', d3, d4] ∧ ps = p ++ p' ++ p'' ++ p3 ++ p4 ∧ DataW.Trod enc P w base spare held t v d p ∧ DataW.Trod enc P w base spare held t' v' d' p' ∧ DataW.Trod enc P w base spare held t'' v'' d'' p'' ∧ DataW.Trod enc P w base spare held t3 v3 d3 p3 ∧ DataW.Trod enc P w base spare held t4 v4 d4 p4 := by
  obtain ⟨v, vs, d, ds', p, q, hargs, rfl, rfl, hd, hrest⟩ := trodAll_cons h
  obtain ⟨v', vs', d', ds'', p', q', rfl, rfl, rfl, hd', hrest'⟩ := trodAll_cons hrest
  obtain ⟨v'', vs'', d'', e3, p'', q'', rfl, rfl, rfl, hd'', hrest''⟩ := trodAll_cons hrest'
  obtain ⟨v3, vs3, d3, e4, p3, q3, rfl, rfl, rfl, hd3, hrest3⟩ := trodAll_cons hrest''
  obtain ⟨v4, vs4, d4, e5, p4, q4, rfl, rfl, rfl, hd4, hrest4⟩ := trodAll_cons hrest3
  obtain ⟨rfl, rfl, rfl⟩ := trodAll_nil hrest4
  exact ⟨v, v', v'', v3, v4, d, d', d'', d3, d4, p, p', p'', p3, p4, by cases args; simp_all, rfl, by simp, hd, hd', hd'', hd3, hd4⟩
end

/-- The error that a maker tells. -/
def mxE : Except Int (List UInt8) → Int
  | .error x => x
  | .ok _ => 0
theorem mk_weak {w : World} {A : Option Addr} {m c : Nat} {l : List Pr} (f : Int) (h : RowsAt w A m 2 (l.map prC)) (hm : m ≤ 1000000) (hc : m ≤ c) :
    Calls Try.prog 15 #[.int .i64 f, .slice A m c] w fun e w' => ∃ A n c, e = .returned (.tuple #[.slice A n c, .int .i64 (mxE (mkS f l))]) ∧ Below w.heap.size w w' := by
  refine (Make_any f h hm hc).mono fun e w' hq => ?_
  cases hV : mkS f l with
  | error x =>
    rw [hV] at hq
    obtain ⟨rfl, hb⟩ := hq
    exact ⟨_, _, _, rfl, hb⟩
  | ok N =>
    rw [hV] at hq
    obtain ⟨A, c, rfl, _, hb⟩ := hq
    exact ⟨_, _, _, rfl, hb⟩

set_option maxRecDepth 20000 in
set_option maxHeartbeats 4000000 in
theorem charmapAlike_any {w : World} {A : Option Addr} {m c : Nat} {l : List Pr} (f g n code : Int) (h : RowsAt w A m 2 (l.map prC)) (hm : m ≤ 281474976710656) :
    Calls Try.prog 8 #[.int .i64 f, .int .i64 g, .slice A m c, .int .i64 n, .int .i64 code] w fun e w' => e = .returned (.bool true) ∧ Below w.heap.size w w' := by
  have hl := h.len
  rw [List.length_map] at hl
  by_cases hbad : 3000 < m ∨ n < 1 ∨ 65535 < n
  · have hcs : decide ((3000 : Int) < m) = true ∨ (decide ((3000 : Int) < m) = false ∧ decide (n < 1) = true) ∨ (decide ((3000 : Int) < m) = false ∧ decide (n < 1) = false ∧ decide (65535 < n) = true) := by
      simp only [decide_eq_true_eq, decide_eq_false_iff_not]
      omega
    clear h hbad
    rcases hcs with q1 | ⟨q1, q2⟩ | ⟨q1, q2, q3⟩
    all_goals
      go_enter Try.func8, Try.ntmps8
      go_wp2_with (first
        | (go_at_call 9; (with_reducible refine (lives_any _).mono ?_); rintro e w1 ⟨rfl, hb1⟩; have HB1 := Lib.hid hb1; clear hb1)
        | fail)
      go_ret
      exact ⟨rfl, HB1.out⟩
  have q1 : decide ((3000 : Int) < m) = false := by simp only [decide_eq_false_iff_not]; omega
  have q2 : decide (n < 1) = false := by simp only [decide_eq_false_iff_not]; omega
  have q3 : decide (65535 < n) = false := by simp only [decide_eq_false_iff_not]; omega
  have HRD := Lib.hid fun (u : World) (hu : Below w.heap.size w u) => (h.keep (w' := u.alloc (.cells #[] 43)) (hu.trans (Below.mono (bel_alloc bel_refl).below hu.size))).reads
  have H := Lib.hid h
  have HL := Lib.hid hl
  have hm3 : m ≤ 3000 := by omega
  obtain ⟨i0, zz, hi0, hzz0, hzz1, hzz2, hzz3⟩ := pr_parts
  by_cases hok : mxE (mkS f l) = 0 ∧ mxE (mkS g l) = 0
  case neg =>
    have HMK : Hid (∀ f wi A' c', RowsAt wi A' m 2 (l.map prC) → m ≤ c' → Calls Try.prog 15 #[.int .i64 f, .slice A' m c'] wi fun e w' => ∃ A n c, e = .returned (.tuple #[.slice A n c, .int .i64 (mxE (mkS f l))]) ∧ Below wi.heap.size wi w') := Lib.hid fun f wi A' c' hr hc' => mk_weak f hr (by omega) hc'
    have HF := Lib.hid (HMK.out f)
    have HG := Lib.hid (HMK.out g)
    obtain ⟨x, hx⟩ : ∃ x, mxE (mkS f l) = x := ⟨_, rfl⟩
    obtain ⟨y, hy⟩ : ∃ y, mxE (mkS g l) = y := ⟨_, rfl⟩
    have HF2 := HF.out
    have HG2 := HG.out
    rw [hx] at HF2 hok
    rw [hy] at HG2 hok
    have HF3 := Lib.hid HF2
    have HG3 := Lib.hid HG2
    have hcs : (x != 0) = true ∨ ((x != 0) = false ∧ (y != 0) = true) := by
      by_cases hx0 : x = 0
      · right
        refine ⟨by simpa using hx0, ?_⟩
        have : y ≠ 0 := fun hy0 => hok ⟨hx0, hy0⟩
        simpa using this
      · left
        simpa using hx0
    clear h hl hbad HMK HF HG HF2 HG2 hx hy hok
    rcases hcs with q4 | ⟨q4, q5⟩
    all_goals
      go_enter Try.func8, Try.ntmps8
      go_wp2_with (first
        | (at_builtin; refine wpList_append_any _ (by rfl) (.tmp 35) (.tmp 36) _ (by rfl) w.heap.size 43 i0 zz 2 16 Try.underlying34 hi0 hzz0 hzz1 hzz2 hzz3 (by omega) _ 0 [] (by rfl) (own_empty2 w _ 2) _ _ m _ _ (by rfl) (HRD.out w (Below.refl _ _)) (pr_one l) (by unfold maxLen; omega) (by omega) (by simp) ?_; intro v' w1 hown hgrow hat; obtain ⟨A1, c1, rfl, hc1, hr1, hb1⟩ := pr_cloned HL.out hown hgrow; have HR1 := Lib.hid hr1; have HB1 := Lib.hid hb1; clear hown hgrow hat hr1 hb1)
        | (go_at_call 15; (with_reducible refine (HF3.out _ _ _ HR1.out hc1).mono ?_); rintro e w2 ⟨A2, n2, c2, rfl, hb2⟩; have HB2 := Lib.hid (HB1.out.trans (hb2.mono HB1.out.size)); clear hb2 HR1)
        | (at_builtin; refine wpList_append_any _ (by rfl) (.tmp 43) (.tmp 44) _ (by rfl) w2.heap.size 43 i0 zz 2 16 Try.underlying34 hi0 hzz0 hzz1 hzz2 hzz3 (by omega) _ 0 [] (by rfl) (own_empty2 w2 _ 2) _ _ m _ _ (by rfl) (HRD.out w2 HB2.out) (pr_one l) (by unfold maxLen; omega) (by omega) (by simp) ?_; intro v' w3 hown hgrow hat; obtain ⟨A3, c3, rfl, hc3, hr3, hb3⟩ := pr_cloned HL.out hown hgrow; have HR3 := Lib.hid hr3; have HB3 := Lib.hid (HB2.out.trans (hb3.mono HB2.out.size)); clear hown hgrow hat hr3 hb3)
        | (go_at_call 15; (with_reducible refine (HG3.out _ _ _ HR3.out hc3).mono ?_); rintro e w4 ⟨A4, n4, c4, rfl, hb4⟩; have HB4 := Lib.hid (HB3.out.trans (hb4.mono HB3.out.size)); clear hb4 HR3)
        | (go_at_call 9; (with_reducible refine (lives_any w4).mono ?_); rintro e w5 ⟨rfl, hb5⟩; have HB5 := Lib.hid (HB4.out.trans (hb5.mono HB4.out.size)); clear hb5)
        | (go_at_call 9; (with_reducible refine (lives_any w5).mono ?_); rintro e w6 ⟨rfl, hb6⟩; have HB6 := Lib.hid (HB5.out.trans (hb6.mono HB5.out.size)); clear hb6)
        | fail)
      go_ret
      exact ⟨rfl, HB6.out⟩
  case pos =>
    obtain ⟨hok1, hok2⟩ := hok
    obtain ⟨N1, hV1⟩ : ∃ N, mkS f l = .ok N := by
      cases hV : mkS f l with
      | ok N => exact ⟨N, rfl⟩
      | error x =>
        have := mk_err3 hV
        rw [hV] at hok1
        change x = 0 at hok1
        omega
    obtain ⟨N2, hV2⟩ : ∃ N, mkS g l = .ok N := by
      cases hV : mkS g l with
      | ok N => exact ⟨N, rfl⟩
      | error x =>
        have := mk_err3 hV
        rw [hV] at hok2
        change x = 0 at hok2
        omega
    obtain ⟨S1, hld1, hgl1⟩ := back_all hV1 (n := n) (by omega)
    obtain ⟨S2, hld2, hgl2⟩ := back_all hV2 (n := n) (by omega)
    have hNl1 := mk_len hV1
    have hNl2 := mk_len hV2
    have HGL1 := Lib.hid hgl1
    have HGL2 := Lib.hid hgl2
    obtain ⟨nl1, hnl1⟩ : ∃ nl, N1.length = nl := ⟨_, rfl⟩
    obtain ⟨nl2, hnl2⟩ : ∃ nl, N2.length = nl := ⟨_, rfl⟩
    have hlc1 := fun (wi : World) (A' : Option Addr) (c' : Nat) (hb : Bs wi A' N1 c') => Load_any (m := nl1) n hnl1 (by rw [← hnl1]; exact hb.sl) (by rw [← hnl1]; exact hb.cap) (by omega) hb.row
    have hlc2 := fun (wi : World) (A' : Option Addr) (c' : Nat) (hb : Bs wi A' N2 c') => Load_any (m := nl2) n hnl2 (by rw [← hnl2]; exact hb.sl) (by rw [← hnl2]; exact hb.cap) (by omega) hb.row
    rw [hld1] at hlc1
    rw [hld2] at hlc2
    have HLC1 := Lib.hid hlc1
    have HLC2 := Lib.hid hlc2
    have hmk1 : ∀ wi A' c', RowsAt wi A' m 2 (l.map prC) → m ≤ c' → Calls Try.prog 15 #[.int .i64 f, .slice A' m c'] wi fun e w' => ∃ A c, e = .returned (.tuple #[.slice A nl1 c, .int .i64 0]) ∧ Bs w' A N1 c ∧ Below wi.heap.size wi w' := fun wi A' c' hr hc' => by
      have h1 := Make_any f hr (by omega) hc'
      rw [hV1] at h1
      rw [← hnl1]
      exact h1
    have hmk2 : ∀ wi A' c', RowsAt wi A' m 2 (l.map prC) → m ≤ c' → Calls Try.prog 15 #[.int .i64 g, .slice A' m c'] wi fun e w' => ∃ A c, e = .returned (.tuple #[.slice A nl2 c, .int .i64 0]) ∧ Bs w' A N2 c ∧ Below wi.heap.size wi w' := fun wi A' c' hr hc' => by
      have h1 := Make_any g hr (by omega) hc'
      rw [hV2] at h1
      rw [← hnl2]
      exact h1
    have HMK1 := Lib.hid hmk1
    have HMK2 := Lib.hid hmk2
    clear h hl hbad hld1 hgl1 hNl1 hnl1 hlc1 hmk1 hld2 hgl2 hNl2 hnl2 hlc2 hmk2 hV1 hV2 hok1 hok2
    go_enter Try.func8, Try.ntmps8
    go_wp2_with (first
      | (at_builtin; refine wpList_append_any _ (by rfl) (.tmp 35) (.tmp 36) _ (by rfl) w.heap.size 43 i0 zz 2 16 Try.underlying34 hi0 hzz0 hzz1 hzz2 hzz3 (by omega) _ 0 [] (by rfl) (own_empty2 w _ 2) _ _ m _ _ (by rfl) (HRD.out w (Below.refl _ _)) (pr_one l) (by unfold maxLen; omega) (by omega) (by simp) ?_; intro v' w1 hown hgrow hat; obtain ⟨A1, c1, rfl, hc1, hr1, hb1⟩ := pr_cloned HL.out hown hgrow; have HR1 := Lib.hid hr1; have HB1 := Lib.hid hb1; clear hown hgrow hat hr1 hb1)
      | (go_at_call 15; (with_reducible refine (HMK1.out _ _ _ HR1.out hc1).mono ?_); rintro e w2 ⟨A2, c2, rfl, hs2, hb2⟩; have HS2 := Lib.hid hs2; have HB2 := Lib.hid (HB1.out.trans (hb2.mono HB1.out.size)); clear hb2 hs2 HR1)
      | (at_builtin; refine wpList_append_any _ (by rfl) (.tmp 43) (.tmp 44) _ (by rfl) w2.heap.size 43 i0 zz 2 16 Try.underlying34 hi0 hzz0 hzz1 hzz2 hzz3 (by omega) _ 0 [] (by rfl) (own_empty2 w2 _ 2) _ _ m _ _ (by rfl) (HRD.out w2 HB2.out) (pr_one l) (by unfold maxLen; omega) (by omega) (by simp) ?_; intro v' w3 hown hgrow hat; obtain ⟨A3, c3, rfl, hc3, hr3, hb3⟩ := pr_cloned HL.out hown hgrow; have HR3 := Lib.hid hr3; have HS3 := Lib.hid (HS2.out.keep hb3); have HB3 := Lib.hid (HB2.out.trans (hb3.mono HB2.out.size)); clear hown hgrow hat hr3 hb3 HS2)
      | (go_at_call 15; (with_reducible refine (HMK2.out _ _ _ HR3.out hc3).mono ?_); rintro e w4 ⟨A4, c4, rfl, ht4, hb4⟩; have HT4 := Lib.hid ht4; have HS4 := Lib.hid (HS3.out.keep hb4); have HB4 := Lib.hid (HB3.out.trans (hb4.mono HB3.out.size)); clear hb4 ht4 HR3 HS3)
      | (go_at_call 9; (with_reducible refine (lives_any w4).mono ?_); rintro e w5 ⟨rfl, hb5⟩; have HS5 := Lib.hid (HS4.out.keep hb5); have HT5 := Lib.hid (HT4.out.keep hb5); have HB5 := Lib.hid (HB4.out.trans (hb5.mono HB4.out.size)); clear hb5 HS4 HT4)
      | (go_at_call 10; (with_reducible refine (HLC1.out _ _ _ HS5.out).mono ?_); rintro e w6 ⟨⟨mp1, A6, k6, c6, es6, rfl, he6, hmw6, hp6⟩, hb6⟩; have HE1 := Lib.hid he6; have HP6 := Lib.hid hp6; have HT6 := Lib.hid (HT5.out.keep hb6); have HB6 := Lib.hid (HB5.out.trans (hb6.mono HB5.out.size)); clear he6 hmw6 hp6 hb6 HS5 HT5)
      | (go_at_call 10; (with_reducible refine (HLC2.out _ _ _ HT6.out).mono ?_); rintro e w7 ⟨⟨mp2, A7, k7, c7, es7, rfl, he7, hmw7, hp7⟩, hb7⟩; have HB7 := Lib.hid (HB6.out.trans (hb7.mono HB6.out.size)); have HGA : Hid (∀ u code, Below w7.heap.size w7 u → Calls Try.prog 12 #[.pointer (some ⟨mp1, 0, none⟩), .int .i64 code] u fun e w' => e = .returned (.int .i64 (lkN l n code)) ∧ Below u.heap.size u w') := Lib.hid (fun u code hu => gl_is HE1.out (HGL1.out code) ((HP6.out.keep hb7).keep hu)); have HGB : Hid (∀ u code, Below w7.heap.size w7 u → Calls Try.prog 12 #[.pointer (some ⟨mp2, 0, none⟩), .int .i64 code] u fun e w' => e = .returned (.int .i64 (lkN l n code)) ∧ Below u.heap.size u w') := Lib.hid (fun u code hu => gl_is he7 (HGL2.out code) (hp7.keep hu)); have HC : Hid (Below w7.heap.size w7 w7) := Lib.hid (Below.refl _ _); clear he7 hmw7 hp7 hb7 HT6 HP6 HE1)
      | (go_at_call 12; (with_reducible refine (HGA.out _ _ HC.out).mono ?_); rintro e wg ⟨rfl, hg⟩; replace HC := Lib.hid (HC.out.trans (hg.mono HC.out.size)); clear hg)
      | (go_at_call 12; (with_reducible refine (HGB.out _ _ HC.out).mono ?_); rintro e wg ⟨rfl, hg⟩; replace HC := Lib.hid (HC.out.trans (hg.mono HC.out.size)); clear hg)
      | fail)
    clear q1 q2 q3
    have HB := Lib.hid (HB7.out.trans (HC.out.mono HB7.out.size))
    have hz7 := HB7.out.size
    go_loopw [19] (fun i wr => ∃ k : Nat, k ≤ m ∧ i = .int .i64 k ∧ Hid (Below w7.heap.size w7 wr)) (fun i _ => m - (intOf i).toNat)
    case atStart => exact ⟨0, Nat.zero_le _, rfl, HC⟩
    case round =>
      obtain ⟨k, hk, rfl, HC'⟩ := hrel
      replace HC := HC'
      clear HC'
      by_cases hlt : k < m
      · have hkm : (k : Int) < m := by omega
        obtain ⟨⟨p1, p2⟩, hp⟩ := get_some' (l := l) (k := k) (by rw [HL.out]; exact hlt)
        obtain ⟨b, o, rfl, hb, hc⟩ := H.out.at_ (i := k) (r := prC (p1, p2)) (by rw [List.getElem?_map, hp]; rfl)
        have hcell : ∀ (u : World) (x : Nat) (v : Value), Below w7.heap.size w7 u → w.cell? ⟨b, x, none⟩ = some v → u.cell? ⟨b, x, none⟩ = some v := fun u x v hu hv => ((hu.cell (p := ⟨b, x, none⟩) (Nat.lt_of_lt_of_le hb hz7)).trans (HB7.out.cell (p := ⟨b, x, none⟩) hb)).trans hv
        have r0 : wr.cell? ⟨b, o + k * 2, none⟩ = some (.int .i64 p1) := hcell wr _ _ HC.out (hc 0 _ rfl)
        clear hc hcell hp
        go_wp2_with (first
          | (go_at_call 12; (with_reducible refine (HGA.out _ _ HC.out).mono ?_); rintro e wg ⟨rfl, hg⟩; replace HC := Lib.hid (HC.out.trans (hg.mono HC.out.size)); clear hg)
          | (go_at_call 12; (with_reducible refine (HGB.out _ _ HC.out).mono ?_); rintro e wg ⟨rfl, hg⟩; replace HC := Lib.hid (HC.out.trans (hg.mono HC.out.size)); clear hg)
          | fail)
        go_roundw
        case rel => exact ⟨k + 1, by omega, by go_num, HC⟩
        case measure => simp [intOf]; omega
      · obtain rfl : k = m := by omega
        go_wp2_with (first | fail)
        go_ret
        exact ⟨rfl, HB7.out.trans (HC.out.mono hz7)⟩
end Go.Proofs.Ytlbfefdmbdjjcaa

namespace Go.Proofs.Ytlbfefdmbdjjcaa
open Go.RowKit

/-- The pairs whose glyph is less than n. -/
def flN (l : List Pr) (n : Int) : List Pr := l.filter fun p => decide (p.2 < n)
theorem fl_succ {l : List Pr} {k : Nat} {p : Pr} (hp : l[k]? = some p) (n : Int) : flN (l.take (k + 1)) n = flN (l.take k) n ++ (if p.2 < n then [p] else []) := by
  unfold flN
  rw [List.take_add_one, hp, List.filter_append]
  by_cases h : p.2 < n
  · simp [h]
  · simp [h]
theorem fl_skip {l : List Pr} {k : Nat} {p : Pr} (hp : l[k]? = some p) {n : Int} (h : ¬ p.2 < n) : flN (l.take (k + 1)) n = flN (l.take k) n := by
  rw [fl_succ hp, if_neg h, List.append_nil]
theorem fl_hit {l : List Pr} {k : Nat} {p : Pr} (hp : l[k]? = some p) {n : Int} (h : p.2 < n) : flN (l.take (k + 1)) n = flN (l.take k) n ++ [p] := by
  rw [fl_succ hp, if_pos h]
theorem fl_pre (l : List Pr) (k : Nat) (n : Int) : flN (l.take k) n <+: flN l n := by
  unfold flN
  exact (List.take_prefix k l).filter _
theorem fl_next {l : List Pr} {k : Nat} {p x : Pr} {n : Int} {pre : List Pr} (hp : l[k]? = some p) (h : p.2 < n) (hk : flN (l.take k) n = pre) (hx : pre ++ [x] <+: flN l n) : p = x := by
  have h1 : pre ++ [p] <+: flN l n := by
    have := fl_pre l (k + 1) n
    rw [fl_hit hp h, hk] at this
    exact this
  have h2 := List.prefix_of_prefix_length_le h1 hx (by simp)
  have h3 := h2.eq_of_length (by simp)
  have h4 := List.append_cancel_left h3
  injection h4
theorem fl_full {l : List Pr} {k : Nat} {n : Int} {pre : List Pr} {x : Pr} (hk : flN (l.take k) n = pre) (hl : l.length ≤ k) (hx : pre ++ [x] <+: flN l n) : False := by
  rw [List.take_of_length_le hl] at hk
  rw [hk] at hx
  have := hx.length_le
  simp at this
  omega
theorem fl_last {l : List Pr} {k : Nat} {n : Int} {p : Pr} (hp : l[k]? = some p) (h : p.2 < n) (hk : flN (l.take k) n = flN l n) : False := by
  have h1 := fl_pre l (k + 1) n
  rw [fl_hit hp h, hk] at h1
  have := h1.length_le
  simp at this
  omega
theorem fl_none {l : List Pr} {c n : Int} (h : ∀ q ∈ l, c ≤ q.1) : l.filter (fun p => decide (p.1 < c) && decide (p.2 < n)) = [] := by
  rw [List.filter_eq_nil_iff]
  intro q hq
  have := h q hq
  simp only [Bool.and_eq_true, decide_eq_true_eq]
  omega
/-- One code more. -/
theorem fl_code {n : Int} : ∀ {l : List Pr}, Asc l → (∀ p ∈ l, 1 ≤ p.2) → ∀ (c : Int),
    l.filter (fun p => decide (p.1 < c + 1) && decide (p.2 < n)) = l.filter (fun p => decide (p.1 < c) && decide (p.2 < n)) ++ (if lkN l n c = 0 then none else some (c, lkN l n c)).toList
  | [], _, _, c => by
    have : lkN [] n c = 0 := by unfold lkN lookP; by_cases h : (0 : Int) < n <;> simp [h]
    rw [if_pos this]
    rfl
  | p :: l, ha, h1, c => by
    have hh := asc_head ha
    rcases Int.lt_trichotomy p.1 c with hc | hc | hc
    · have ih := fl_code (n := n) (asc_tail ha) (fun q hq => h1 q (List.mem_cons_of_mem _ hq)) c
      have hlk : lkN (p :: l) n c = lkN l n c := by
        unfold lkN lookP
        rw [List.find?_cons_of_neg (by simp; omega)]
      rw [hlk, List.filter_cons, List.filter_cons, ih]
      by_cases hn : p.2 < n
      · rw [if_pos (show (decide (p.1 < c + 1) && decide (p.2 < n)) = true by simp; omega), if_pos (show (decide (p.1 < c) && decide (p.2 < n)) = true by simp; omega), List.cons_append]
      · rw [if_neg (show ¬ (decide (p.1 < c + 1) && decide (p.2 < n)) = true by simp; omega), if_neg (show ¬ (decide (p.1 < c) && decide (p.2 < n)) = true by simp; omega)]
    · have hl1 : l.filter (fun p => decide (p.1 < c + 1) && decide (p.2 < n)) = [] := fl_none fun q hq => by have := hh q hq; omega
      have hl2 : l.filter (fun p => decide (p.1 < c) && decide (p.2 < n)) = [] := fl_none fun q hq => by have := hh q hq; omega
      have hlk : lkN (p :: l) n c = if p.2 < n then p.2 else 0 := by
        unfold lkN lookP
        rw [List.find?_cons_of_pos (by simp; omega)]
      have hp1 := h1 p (List.mem_cons_self ..)
      rw [hlk, List.filter_cons, List.filter_cons, hl1, hl2, if_neg (show ¬ (decide (p.1 < c) && decide (p.2 < n)) = true by simp; omega)]
      by_cases hn : p.2 < n
      · rw [if_pos (show (decide (p.1 < c + 1) && decide (p.2 < n)) = true by simp; omega), if_pos hn, if_neg (by omega)]
        obtain ⟨p1, p2⟩ := p
        dsimp only at hc
        subst hc
        rfl
      · rw [if_neg (show ¬ (decide (p.1 < c + 1) && decide (p.2 < n)) = true by simp; omega), if_neg hn, if_pos rfl]
        rfl
    · have hl1 : (p :: l).filter (fun p => decide (p.1 < c + 1) && decide (p.2 < n)) = [] := fl_none fun q hq => by
        rcases List.mem_cons.1 hq with rfl | hq
        · omega
        · have := hh q hq; omega
      have hl2 : (p :: l).filter (fun p => decide (p.1 < c) && decide (p.2 < n)) = [] := fl_none fun q hq => by
        rcases List.mem_cons.1 hq with rfl | hq
        · omega
        · have := hh q hq; omega
      have hlk : lkN (p :: l) n c = 0 := by
        unfold lkN
        rw [look_none fun j q hq => by
          have hm := List.mem_of_getElem? hq
          rcases List.mem_cons.1 hm with rfl | hm
          · omega
          · have := hh q hm; omega]
        split <;> rfl
      rw [hl1, hl2, hlk, if_pos rfl]
      rfl
theorem pp_fl {S : List Sv} {l : List Pr} {n : Int} (ha : Asc l) (h1 : ∀ p ∈ l, 0 ≤ p.1 ∧ 1 ≤ p.2) (hg : ∀ code, 0 ≤ code → code ≤ 1114111 → glV S n code = lkN l n code) : ∀ (c : Nat), c ≤ 1114112 →
    ppV S n 0 c = l.filter (fun p => decide (p.1 < (c : Int)) && decide (p.2 < n))
  | 0, _ => by
    rw [pp_nil _ (by omega)]
    exact (fl_none fun q hq => by have := h1 q hq; omega).symm
  | c + 1, hc => by
    have ih := pp_fl ha h1 hg c (by omega)
    rw [show ((c + 1 : Nat) : Int) = (c : Int) + 1 by omega, pp_succ _ (by omega), ih, fl_code ha (fun p hp => (h1 p hp).2) c]
    unfold prV
    rw [hg c (by omega) (by omega)]
/-- What All hands over of a made map is what was made, but for the glyphs that are not there. -/
theorem pp_all {S : List Sv} {l : List Pr} {n : Int} (ha : Asc l) (h1 : ∀ p ∈ l, 0 ≤ p.1 ∧ p.1 ≤ 1114111 ∧ 1 ≤ p.2) (hg : ∀ code, glS S n code = lkN l n code) : ppV S n (max 0 0) (min 1114112 1114112) = flN l n := by
  have hg' : ∀ code, 0 ≤ code → code ≤ 1114111 → glV S n code = lkN l n code := fun code h2 h3 => by
    rw [← hg code]
    unfold glS
    rw [if_neg (by omega)]
  have h := pp_fl ha (fun p hp => ⟨(h1 p hp).1, (h1 p hp).2.2⟩) hg' 1114112 (Nat.le_refl _)
  refine h.trans ?_
  unfold flN
  refine List.filter_congr fun p hp => ?_
  have := h1 p hp
  rw [decide_eq_true (show p.1 < ((1114112 : Nat) : Int) by omega), Bool.true_and]
end Go.Proofs.Ytlbfefdmbdjjcaa

namespace Go.Proofs.Ytlbfefdmbdjjcaa
open Go.RowKit Go.Shelf

attribute [local go_sem] Oper.semAt_some

/-- What a round leaves: so many pairs are gone by, those below n were handed over. -/
def GoI (w5 : World) (l : List Pr) (n : Int) (m : Nat) (pre : List (Int × Int)) (W : World) : Prop :=
  ∃ k : Nat, k ≤ m ∧ flN (l.take k) n = pre ∧ Blk W w5.heap.size 3 [.int .i64 k] ∧ Below w5.heap.size w5 W
theorem goI_stable {w5 : World} {l : List Pr} {n : Int} {m N : Nat} (h : w5.heap.size < N) : BStable N (GoI w5 l n m) := fun _ _ _ ⟨k, h1, h2, h3, h4⟩ hb => ⟨k, h1, h2, h3.below hb h, h4.trans (hb.mono (by omega))⟩

/-- Within a round: those that are not below n are gone by. -/
def GoJ (w5 : World) (l : List Pr) (n : Int) (m : Nat) (pre : List (Int × Int)) (Wb : World) (r : Nat) (W : World) : Prop :=
  ∃ k : Nat, k ≤ m ∧ flN (l.take k) n = pre ∧ Blk W w5.heap.size 3 [.int .i64 k] ∧ Below w5.heap.size w5 W ∧ m - k = r ∧ KeepsOthers Wb W ∧ KpU w5.heap.size (fun b => b = w5.heap.size) Wb W

/-- Behind the rounds. -/
def GoK (w5 : World) (l : List Pr) (n : Int) (m D : Nat) (r : Nat) (W : World) : Prop :=
  ∃ k : Nat, k ≤ m ∧ flN (l.take k) n = flN l n ∧ Blk W w5.heap.size 3 [.int .i64 k] ∧ Below w5.heap.size w5 W ∧ m - k = r ∧ W.heap[D]? = some (.deferred (some []))

set_option maxRecDepth 100000 in
set_option maxHeartbeats 4000000 in
theorem charmapGoes_any {w : World} {A : Option Addr} {m c : Nat} {l : List Pr} (f n : Int) (h : RowsAt w A m 2 (l.map prC)) (hm : m ≤ 281474976710656) :
    Calls Try.prog 6 #[.int .i64 f, .slice A m c, .int .i64 n] w fun e w' => e = .returned (.bool true) ∧ Below w.heap.size w w' := by
  have hl := h.len
  rw [List.length_map] at hl
  by_cases hbad : 500 < m ∨ n < 1 ∨ 65535 < n
  · have hcs : decide ((500 : Int) < m) = true ∨ (decide ((500 : Int) < m) = false ∧ decide (n < 1) = true) ∨ (decide ((500 : Int) < m) = false ∧ decide (n < 1) = false ∧ decide (65535 < n) = true) := by
      simp only [decide_eq_true_eq, decide_eq_false_iff_not]
      omega
    have hba : ∀ u, ((w.alloc (.cells #[.slice A m c] 34)).alloc (.cells #[.int .i64 n] 3)).alloc (.cells #[.bool false] 4) = u → Below w.heap.size w u := fun u hu => by rw [← hu]; exact (bel_alloc (bel_alloc (bel_alloc bel_refl))).below
    have HBA := Lib.hid hba
    clear h hbad hba
    rcases hcs with q1 | ⟨q1, q2⟩ | ⟨q1, q2, q3⟩
    all_goals
      go_enter Try.func6, Try.ntmps6
      go_wp2_with (first
        | (go_at_call 9; (with_reducible refine (lives_any _).mono ?_); rintro e w1 ⟨rfl, hb1⟩; obtain ⟨hc1, hf1, hz1⟩ := bcell hb1; (try simp at hz1); have HB1 := Lib.hid hb1; clear hb1)
        | fail)
      refine bodyPost_ret (v := .bool true) (by simp [results, Try.results6, go_sem, hc1]) rfl ?_
      exact ⟨rfl, ((HBA.out _ rfl).trans (HB1.out.mono (by simp; omega))).setCell (by simp; omega) _⟩
  have q1 : decide ((500 : Int) < m) = false := by simp only [decide_eq_false_iff_not]; omega
  have q2 : decide (n < 1) = false := by simp only [decide_eq_false_iff_not]; omega
  have q3 : decide (65535 < n) = false := by simp only [decide_eq_false_iff_not]; omega
  have HRD := Lib.hid fun (u : World) (hu : Below w.heap.size w u) => (h.keep (w' := u.alloc (.cells #[] 43)) (hu.trans (Below.mono (bel_alloc bel_refl).below hu.size))).reads
  have H := Lib.hid h
  have HL := Lib.hid hl
  have hm5 : m ≤ 500 := by omega
  obtain ⟨i0, zz, hi0, hzz0, hzz1, hzz2, hzz3⟩ := pr_parts
  by_cases hok : mxE (mkS f l) = 0
  case neg =>
    have hmk : ∀ wi A' c', RowsAt wi A' m 2 (l.map prC) → m ≤ c' → Calls Try.prog 15 #[.int .i64 f, .slice A' m c'] wi fun e w' => ∃ A n c, e = .returned (.tuple #[.slice A n c, .int .i64 (mxE (mkS f l))]) ∧ Below wi.heap.size wi w' := fun wi A' c' hr hc' => mk_weak f hr (by omega) hc'
    obtain ⟨x, hx⟩ : ∃ x, mxE (mkS f l) = x := ⟨_, rfl⟩
    rw [hx] at hmk hok
    have q4 : (x != 0) = true := by simpa using hok
    have HMK := Lib.hid hmk
    clear h hl hbad hmk hx hok
    go_enter Try.func6, Try.ntmps6
    go_upto_region 3 with fail
    obtain ⟨W0, hW0⟩ : ∃ W0, ((w.alloc (.cells #[.slice A m c] 34)).alloc (.cells #[.int .i64 n] 3)).alloc (.cells #[.bool false] 4) = W0 := ⟨_, rfl⟩
    have hal : Below w.heap.size w W0 := by rw [← hW0]; exact (bel_alloc (bel_alloc (bel_alloc bel_refl))).below
    have hz0 : W0.heap.size = w.heap.size + 3 := by rw [← hW0]; simp
    have h4 : Blk W0 w.heap.size 34 [.slice A m c] := by rw [← hW0]; exact ((Blk.new w 34 [_]).alloc _).alloc _
    have h6 : Blk W0 (w.heap.size + 1 + 1) 4 [.bool false] := by rw [← hW0]; exact Blk.newAt _ 4 [_] (by simp)
    rw [hW0]
    have r4 : W0.cell? ⟨w.heap.size, 0, none⟩ = some (.slice A m c) := h4.cell 0
    have l4 := h4.lt
    have H6 := Lib.hid fun u (hu : Below W0.heap.size W0 u) => h6.keepB hu
    have HAL := Lib.hid hal
    have hzl : w.heap.size + 3 ≤ W0.heap.size := by omega
    clear hal h4 h6 hW0 hz0 q1 q2 q3
    go_wp2_with (first
      | (at_builtin; refine wpList_append_any _ (by rfl) (.tmp 28) (.tmp 29) _ (by rfl) W0.heap.size 43 i0 zz 2 16 Try.underlying34 hi0 hzz0 hzz1 hzz2 hzz3 (by omega) _ 0 [] (by rfl) (own_empty2 W0 _ 2) _ _ m _ _ (by rfl) (HRD.out W0 HAL.out) (pr_one l) (by unfold maxLen; omega) (by omega) (by simp) ?_; intro v' w1 hown hgrow hat; obtain ⟨A1, c1, rfl, hc1, hr1, hb1⟩ := pr_cloned HL.out hown hgrow; have HR1 := Lib.hid hr1; have HB1 := Lib.hid hb1; clear hown hgrow hat hr1 hb1)
      | (go_at_call 15; (with_reducible refine (HMK.out _ _ _ HR1.out hc1).mono ?_); rintro e w2 ⟨A2, n2, c2, rfl, hb2⟩; have HB2 := Lib.hid (HB1.out.trans (hb2.mono HB1.out.size)); clear hb2 HR1)
      | (go_at_call 9; (with_reducible refine (lives_any w2).mono ?_); rintro e w3 ⟨rfl, hb3⟩; have HB3 := Lib.hid (HB2.out.trans (hb3.mono HB2.out.size)); clear hb3)
      | (go_at_call 9; (with_reducible refine (lives_any w3).mono ?_); rintro e w4 ⟨rfl, hb4⟩; have hb5 := HB3.out.trans (hb4.mono HB3.out.size); have r6 := (H6.out _ hb5).cell 0; have f6 := (H6.out _ hb5).frozen 0; have l6 := (H6.out _ hb5).lt; have HB4 := Lib.hid hb5; clear hb4 hb5)
      | fail)
    refine bodyPost_ret (v := .bool true) (by simp [results, Try.results6, go_sem, *]) rfl ?_
    exact ⟨rfl, (HAL.out.trans (HB4.out.mono HAL.out.size)).setCell (by simp; omega) _⟩
  case pos =>
    obtain ⟨N, hV⟩ : ∃ N, mkS f l = .ok N := by
      cases hV : mkS f l with
      | ok N => exact ⟨N, rfl⟩
      | error x =>
        have := mk_err3 hV
        rw [hV] at hok
        change x = 0 at hok
        omega
    obtain ⟨S, hld, hgl⟩ := back_all hV (n := n) (by omega)
    have hNl := mk_len hV
    obtain ⟨_, hmay, _, _⟩ := mk_ok hV
    have hasc : Asc l := mayL_pair hmay
    have hpp : ppV S n (max 0 0) (min 1114112 1114112) = flN l n := pp_all hasc (fun p hp => by have h1 := mayL_all hmay p hp; have h2 := most_bd f; omega) hgl
    have HPP := Lib.hid hpp
    obtain ⟨nl, hnl⟩ : ∃ nl, N.length = nl := ⟨_, rfl⟩
    have hlc := fun (wi : World) (A' : Option Addr) (c' : Nat) (hb : Bs wi A' N c') => Load_any (m := nl) n hnl (by rw [← hnl]; exact hb.sl) (by rw [← hnl]; exact hb.cap) (by omega) hb.row
    rw [hld] at hlc
    have HLC := Lib.hid hlc
    have hmk2 : ∀ wi A' c', RowsAt wi A' m 2 (l.map prC) → m ≤ c' → Calls Try.prog 15 #[.int .i64 f, .slice A' m c'] wi fun e w' => ∃ A c, e = .returned (.tuple #[.slice A nl c, .int .i64 0]) ∧ Bs w' A N c ∧ Below wi.heap.size wi w' := fun wi A' c' hr hc' => by
      have h1 := Make_any f hr (by omega) hc'
      rw [hV] at h1
      rw [← hnl]
      exact h1
    have HMK2 := Lib.hid hmk2
    clear h hl hbad hld hgl hasc hmay hNl hnl hlc hmk2 hV hpp hok
    refine (callsIn_wide (n := 9)).1 (callsIn_of_wp_marks Try.func6 rfl trivial ?_ rfl)
    simp only [Try.ntmps6, List.size_toArray, List.length_cons, List.length_nil, Nat.reduceAdd, Nat.reduceSub, Array.replicate_succ, Array.replicate_zero, List.push_toArray, List.append_toArray, List.nil_append, List.cons_append]
    refine wpIn_wide.2 ?_
    go_upto_region 3 with fail
    obtain ⟨W0, hW0⟩ : ∃ W0, ((w.alloc (.cells #[.slice A m c] 34)).alloc (.cells #[.int .i64 n] 3)).alloc (.cells #[.bool false] 4) = W0 := ⟨_, rfl⟩
    have hal : Below w.heap.size w W0 := by rw [← hW0]; exact (bel_alloc (bel_alloc (bel_alloc bel_refl))).below
    have hz0 : W0.heap.size = w.heap.size + 3 := by rw [← hW0]; simp
    have h4 : Blk W0 w.heap.size 34 [.slice A m c] := by rw [← hW0]; exact ((Blk.new w 34 [_]).alloc _).alloc _
    have h5 : Blk W0 (w.heap.size + 1) 3 [.int .i64 n] := by rw [← hW0]; exact (Blk.newAt _ 3 [_] (by simp)).alloc _
    have h6 : Blk W0 (w.heap.size + 1 + 1) 4 [.bool false] := by rw [← hW0]; exact Blk.newAt _ 4 [_] (by simp)
    rw [hW0]
    have r4 : W0.cell? ⟨w.heap.size, 0, none⟩ = some (.slice A m c) := h4.cell 0
    have l4 := h4.lt
    have H4 := Lib.hid fun u (hu : Below W0.heap.size W0 u) => h4.keepB hu
    have H5 := Lib.hid fun u (hu : Below W0.heap.size W0 u) => h5.keepB hu
    have H6 := Lib.hid fun u (hu : Below W0.heap.size W0 u) => h6.keepB hu
    have HAL := Lib.hid hal
    have hzl : w.heap.size + 3 ≤ W0.heap.size := by omega
    clear hal h4 h5 h6 hW0 hz0 q1 q2 q3
    go_wp2_with (first
      | (at_builtin; refine wpList_append_any _ (by rfl) (.tmp 28) (.tmp 29) _ (by rfl) W0.heap.size 43 i0 zz 2 16 Try.underlying34 hi0 hzz0 hzz1 hzz2 hzz3 (by omega) _ 0 [] (by rfl) (own_empty2 W0 _ 2) _ _ m _ _ (by rfl) (HRD.out W0 HAL.out) (pr_one l) (by unfold maxLen; omega) (by omega) (by simp) ?_; intro v' w1 hown hgrow hat; obtain ⟨A1, c1, rfl, hc1, hr1, hb1⟩ := pr_cloned HL.out hown hgrow; have HR1 := Lib.hid hr1; have HB1 := Lib.hid hb1; clear hown hgrow hat hr1 hb1)
      | (go_at_call 15; (with_reducible refine (HMK2.out _ _ _ HR1.out hc1).mono ?_); rintro e w2 ⟨A2, c2, rfl, hs2, hb2⟩; have HS2 := Lib.hid hs2; have HB2 := Lib.hid (HB1.out.trans (hb2.mono HB1.out.size)); clear hb2 hs2 HR1)
      | (go_at_call 9; (with_reducible refine (lives_any w2).mono ?_); rintro e w3 ⟨rfl, hb3⟩; have HS3 := Lib.hid (HS2.out.keep hb3); have hb4 := HB2.out.trans (hb3.mono HB2.out.size); have r5 := (H5.out _ hb4).cell 0; have l5 := (H5.out _ hb4).lt; have HB3 := Lib.hid hb4; clear hb3 hb4 HS2)
      | (go_at_call 10; (with_reducible refine (HLC.out _ _ _ HS3.out).mono ?_); rintro e w4 ⟨⟨mp, A4, k4, c4, es, rfl, he, hmw, hp⟩, hb4⟩; have HE := Lib.hid he; have HP := Lib.hid hp; have HB4 := Lib.hid (HB3.out.trans (hb4.mono HB3.out.size)); clear he hmw hp hb4 HS3)
      | (go_at_call 20; (with_reducible refine (all_exp _ (.inl ⟨mp, rfl⟩) _ _ _).mono ?_); rintro e w5 ⟨rfl, hw5⟩; have HW5 := Lib.hid hw5; clear hw5)
      | fail)
    have hb45 : Below w4.heap.size w4 w5 := by rw [← HW5.out]; exact (bel_alloc (bel_alloc (bel_alloc bel_refl))).below
    have hz5 : w4.heap.size + 3 = w5.heap.size := by rw [← HW5.out]; simp
    have hpb : Blk w5 w4.heap.size 24 [.pointer (some ⟨mp, 0, none⟩)] := by rw [← HW5.out]; exact ((Blk.new w4 24 [_]).alloc _).alloc _
    have hp1 : Blk w5 (w4.heap.size + 1) 3 [.int .i64 0] := by rw [← HW5.out]; exact (Blk.newAt _ 3 [_] (by simp)).alloc _
    have hp2 : Blk w5 (w4.heap.size + 2) 3 [.int .i64 1114112] := by rw [← HW5.out]; exact Blk.newAt _ 3 [_] (by simp)
    obtain ⟨W6, hW6⟩ : ∃ W6, w5.alloc (.cells #[.int .i64 0] 3) = W6 := ⟨_, rfl⟩
    have hb56 : Below w5.heap.size w5 W6 := by rw [← hW6]; exact (bel_alloc bel_refl).below
    have hk6 : Blk W6 w5.heap.size 3 [.int .i64 0] := by rw [← hW6]; exact Blk.new w5 3 [_]
    have hz6 : W6.heap.size = w5.heap.size + 1 := by rw [← hW6]; simp
    have HB5 := Lib.hid (HB4.out.trans (hb45.mono HB4.out.size))
    have hgv := all_gives 8 (HP.out.keep hb45) hpb hp1 hp2 hb56 (fun b => b = w5.heap.size) (fun b hb => by rw [hb]; omega)
    rw [HE.out, HPP.out] at hgv
    have HGV := Lib.hid hgv
    have HK6 := Lib.hid hk6
    have HB56 := Lib.hid hb56
    have hz05 := HB5.out.size
    rw [hW6]
    clear hb45 hpb hp1 hp2 hb56 hk6 hgv hW6 HW5 HB4 HP HPP HLC HMK2 HRD hi0 hzz0 hzz1 hzz2 hzz3 HE r4 l4 r5 l5 HB1 HB2 HB3 hz5
    refine (wpIn_wide (n := 9)).1 ?_
    refine wpIn_range_b (P := Try.prog) (n := 9) (gf := 44) (lb := #[.pointer (some ⟨w4.heap.size, 0, none⟩), .pointer (some ⟨w4.heap.size + 1, 0, none⟩), .pointer (some ⟨w4.heap.size + 2, 0, none⟩)]) rfl (enters_of Try.func44 (by kernel_rfl) rfl)
      HGV.out (fun h h' => KpU.trans h h') (fun W l o o' hl h h1 _ => KpU.put (w := W6) (by omega) W l o o' hl h h1) (Below.refl _ _) (fun _ => rfl)
      (GoI w5 l n m) (fun _ _ _ => False) (goI_stable (by omega)) (fun _ _ _ _ h _ => h) ⟨0, Nat.zero_le _, by rw [List.take_zero]; rfl, HK6.out, HB56.out⟩
      ?a1 (fun x W => W.alloc (.cells #[.int .i64 x.1, .int .i64 x.2] 43)) (fun _ _ => (bel_alloc bel_refl).below) (fun _ _ h => .of_below (bel_alloc bel_refl).below (by omega)) ?assign ?body ?done (fun _ _ _ _ _ _ h _ => h.elim)
    case assign =>
      intro l x W K hK
      simp only [ppR, List.zip_toArray, List.zip_cons_cons, List.zip_nil_right, List.foldl_toArray, List.foldl_cons, List.foldl_nil, List.setIfInBounds_toArray, List.set_cons_succ, List.set_cons_zero]
      gi_wp2
      exact hK
    case body =>
      rintro l0 pre ⟨x1, x2⟩ W Wb hl0 hrec hge hsb hcells ⟨k, hk, hfl, hkb, hbw⟩ hpre
      have bp : Blk Wb W.heap.size 43 [.int .i64 x1, .int .i64 x2] := hcells _ _ (Blk.newAt (n := W.heap.size) _ 43 [_, _] rfl) rfl
      have hbw0 := HB5.out.trans (hbw.mono hz05)
      have HPRE := Lib.hid hpre
      have HFL := Lib.hid hfl
      have HBP := Lib.hid bp
      have HWB := Lib.hid hbw
      have HWB0 := Lib.hid hbw0
      have HKB := Lib.hid hkb
      have hkl := hkb.lt
      have hpl := bp.lt
      clear hrec hcells hpre hfl bp hbw hbw0 hkb
      gi_wp2
      gi_loopg [] (m - k) (fun r wr => GoJ w5 l n m pre Wb r wr)
      case atStart => exact ⟨k, hk, HFL.out, HKB.out, HWB.out, rfl, KeepsOthers.refl _, KpU.of_below (Below.refl _ _) (by omega)⟩
      case round =>
        obtain ⟨k', hk', hfl', hkb', hbw', hr, hko, hkp⟩ := hrel
        have hb0 := HB5.out.trans (hbw'.mono hz05)
        have hz0 := hb0.size
        have c12 : wr.cell? ⟨w5.heap.size, 0, none⟩ = some (.int .i64 k') := hkb'.cell 0
        have f12 := hkb'.frozen 0
        have l12 := hkb'.lt
        have c4 : wr.cell? ⟨w.heap.size, 0, none⟩ = some (.slice A m c) := (H4.out _ hb0).cell 0
        have c5 : wr.cell? ⟨w.heap.size + 1, 0, none⟩ = some (.int .i64 n) := (H5.out _ hb0).cell 0
        have HFL' := Lib.hid hfl'
        have HKB' := Lib.hid hkb'
        have HBW' := Lib.hid hbw'
        have HR := Lib.hid hr
        have HKO := Lib.hid hko
        have HKP := Lib.hid hkp
        clear hfl' hkb' hbw' hr hko hkp
        by_cases hlt : k' < m
        · have hkm : decide ((k' : Int) < m) = true := by simp; omega
          have hkm2 : decide ((m : Int) ≤ k') = false := by simp; omega
          have hkm3 : decide (m ≤ k') = false := by simp; omega
          obtain ⟨⟨p1, p2⟩, hp⟩ := get_some' (l := l) (k := k') (by rw [HL.out]; exact hlt)
          obtain ⟨b, o, rfl, hb, hc⟩ := H.out.at_ (i := k') (r := prC (p1, p2)) (by rw [List.getElem?_map, hp]; rfl)
          have hcell : ∀ (u : World) (x : Nat) (v : Value), Below W0.heap.size W0 u → w.cell? ⟨b, x, none⟩ = some v → u.cell? ⟨b, x, none⟩ = some v := fun u x v hu hv => ((hu.cell (p := ⟨b, x, none⟩) (Nat.lt_of_lt_of_le hb HAL.out.size)).trans (HAL.out.cell (p := ⟨b, x, none⟩) hb)).trans hv
          have q0 : wr.cell? ⟨b, o + k' * 2, none⟩ = some (.int .i64 p1) := hcell _ _ _ hb0 (hc 0 _ rfl)
          have q1 : wr.cell? ⟨b, o + k' * 2 + 1, none⟩ = some (.int .i64 p2) := hcell _ _ _ hb0 (hc 1 _ rfl)
          have HPP := Lib.hid hp
          clear hc hcell hp hb0
          by_cases hge2 : n ≤ p2
          · have hd : decide (n ≤ p2) = true := by simp; omega
            gi_wp2
            refine wpIn_region_free (free_round _) (by kernel_rfl) (by kernel_rfl) (by kernel_rfl) ?_
            repeat (go_big_quiet_step (fail))
            refine wpQuiet_nil ?_
            rintro _ ⟨nq, rfl⟩
            gi_wp2
            have hN := (HKB'.out.drewN nq).set 0 (.int .i64 ((k' : Int) + 1))
            have hst : GoJ w5 l n m pre Wb (m - (k' + 1)) ((wr.drewN nq).setCell ⟨w5.heap.size, 0, none⟩ (.int .i64 ((k' : Int) + 1))) :=
              ⟨k' + 1, by omega, by rw [fl_skip HPP.out (by dsimp only; omega)]; exact HFL'.out, hN, (HBW'.out.trans ((bel_drewN (n := nq) bel_refl).below.mono HBW'.out.size)).setCell (Nat.le_refl _) _, rfl,
                (HKO.out.trans (⟨Nat.le_refl _, fun _ _ h _ => h⟩ : KeepsOthers wr (wr.drewN nq))).trans (KeepsOthers.setCell _ _ _), (HKP.out.trans (KpU.of_below (bel_drewN (n := nq) bel_refl).below (by have := HBW'.out.size; omega))).set (p := ⟨w5.heap.size, 0, none⟩) rfl (Nat.le_refl _) _⟩
            have HST := Lib.hid hst
            clear hN hst
            gi_roundg (m - (k' + 1))
            case rel => exact HST.out
            case measure => have := HR.out; omega
          · have hxe := fl_next HPP.out (by dsimp only; omega) HFL'.out HPRE.out
            have HXE := Lib.hid hxe
            injection hxe with e1 e2
            have hd : decide (n ≤ x2) = false := by simp; omega
            rw [e1] at q0
            rw [e2] at q1
            have hpx := HKP.out.cells _ _ _ (show ¬ W.heap.size = w5.heap.size by omega) HBP.out
            have x0 : wr.cell? ⟨W.heap.size, 0, none⟩ = some (.int .i64 x1) := hpx.cell 0
            have x1' : wr.cell? ⟨W.heap.size, 1, none⟩ = some (.int .i64 x2) := hpx.cell 1
            have hpl' := hpx.lt
            have hbl : b < wr.heap.size := by have := HAL.out.size; omega
            clear hpx e1 e2
            gi_wp2
            refine wpIn_region_free (free_round _) (by kernel_rfl) (by kernel_rfl) (by kernel_rfl) ?_
            repeat (go_big_quiet_step (fail))
            refine wpQuiet_nil ?_
            rintro _ ⟨nq, rfl⟩
            gi_wp2
            refine wpIn_region_free (free_round _) (by kernel_rfl) (by kernel_rfl) (by kernel_rfl) ?_
            repeat (go_big_quiet_step (fail))
            refine wpQuiet_nil ?_
            rintro _ ⟨nr, rfl⟩
            gi_wp2
            have hN := (HKB'.out.drewN (nq + nr)).set 0 (.int .i64 ((k' : Int) + 1))
            have hdb : Below wr.heap.size wr (wr.drewN (nq + nr)) := (bel_drewN (n := nq + nr) bel_refl).below
            refine ⟨(HKO.out.trans (⟨Nat.le_refl _, fun _ _ h _ => h⟩ : KeepsOthers wr (wr.drewN (nq + nr)))).trans (KeepsOthers.setCell _ _ _), (HKP.out.trans (KpU.of_below hdb (by have := HBW'.out.size; omega))).set (p := ⟨w5.heap.size, 0, none⟩) rfl (Nat.le_refl _) _, k' + 1, by omega, ?_, hN, (HBW'.out.trans (hdb.mono HBW'.out.size)).setCell (Nat.le_refl _) _⟩
            rw [fl_hit HPP.out (by dsimp only; omega), HFL'.out, HXE.out]
        · obtain rfl : k' = m := by omega
          exfalso
          exact fl_full HFL'.out (by rw [HL.out]; exact Nat.le_refl _) HPRE.out
    case' done =>
      intro D xs W hD hS hI hDW
      obtain ⟨k, hk, hfl, hkb, hbw⟩ := hI
      rw [hS] at hfl
      have HFL := Lib.hid hfl
      have HKB := Lib.hid hkb
      have HWB := Lib.hid hbw
      have HD := Lib.hid hDW
      clear hS hfl hkb hbw hDW
      go_wp2_with fail
      go_loopg [] (m - k) (fun r wr => GoK w5 l n m D r wr)
      case atStart => exact ⟨k, hk, HFL.out, HKB.out, HWB.out, rfl, HD.out⟩
      case round =>
        obtain ⟨k', hk', hfl', hkb', hbw', hr, hdw⟩ := hrel
        have hb0 := HB5.out.trans (hbw'.mono hz05)
        have hz0 := hb0.size
        have c12 : wr.cell? ⟨w5.heap.size, 0, none⟩ = some (.int .i64 k') := hkb'.cell 0
        have f12 := hkb'.frozen 0
        have l12 := hkb'.lt
        have c4 : wr.cell? ⟨w.heap.size, 0, none⟩ = some (.slice A m c) := (H4.out _ hb0).cell 0
        have c5 : wr.cell? ⟨w.heap.size + 1, 0, none⟩ = some (.int .i64 n) := (H5.out _ hb0).cell 0
        have H6' := Lib.hid (H6.out _ hb0)
        have c6 : wr.cell? ⟨w.heap.size + 1 + 1, 0, none⟩ = some (.bool false) := H6'.out.cell 0
        have f6 := H6'.out.frozen 0
        have HFL' := Lib.hid hfl'
        have HKB' := Lib.hid hkb'
        have HBW' := Lib.hid hbw'
        have HR := Lib.hid hr
        have HDW := Lib.hid hdw
        clear hfl' hkb' hbw' hr hdw
        by_cases hlt : k' < m
        · have hkm : decide ((k' : Int) < m) = true := by simp; omega
          obtain ⟨⟨p1, p2⟩, hp⟩ := get_some' (l := l) (k := k') (by rw [HL.out]; exact hlt)
          by_cases hge2 : n ≤ p2
          · obtain ⟨b, o, rfl, hb, hc⟩ := H.out.at_ (i := k') (r := prC (p1, p2)) (by rw [List.getElem?_map, hp]; rfl)
            have hcell : ∀ (u : World) (x : Nat) (v : Value), Below W0.heap.size W0 u → w.cell? ⟨b, x, none⟩ = some v → u.cell? ⟨b, x, none⟩ = some v := fun u x v hu hv => ((hu.cell (p := ⟨b, x, none⟩) (Nat.lt_of_lt_of_le hb HAL.out.size)).trans (HAL.out.cell (p := ⟨b, x, none⟩) hb)).trans hv
            have q1 : wr.cell? ⟨b, o + k' * 2 + 1, none⟩ = some (.int .i64 p2) := hcell _ _ _ hb0 (hc 1 _ rfl)
            have HPP := Lib.hid hp
            have hd : decide (n ≤ p2) = true := by simp; omega
            clear hc hcell hp hb0
            go_wp2_with fail
            go_region
            go_wp2_with fail
            have hdb : Below wr.heap.size wr wr.drew := (bel_drew bel_refl).below
            have hst : GoK w5 l n m D (m - (k' + 1)) (wr.drew.setCell ⟨w5.heap.size, 0, none⟩ (.int .i64 ((k' : Int) + 1))) :=
              ⟨k' + 1, by omega, by rw [fl_skip HPP.out (by dsimp only; omega)]; exact HFL'.out, (HKB'.out.keepB hdb).set 0 _, (HBW'.out.trans (hdb.mono HBW'.out.size)).setCell (Nat.le_refl _) _, rfl, (Below.heap_setCell _ _ _ _ (show D ≠ w5.heap.size by omega)).trans HDW.out⟩
            have HST := Lib.hid hst
            clear hst hdb
            go_roundg (m - (k' + 1))
            case rel => exact HST.out
            case measure => have := HR.out; omega
          · exfalso
            exact fl_last hp (by dsimp only; omega) HFL'.out
        · obtain rfl : k' = m := by omega
          have hkm : decide ((k' : Int) < k') = false := by simp
          go_wp2_with fail
          go_region
          go_wp2_with fail
          have hne : D ≠ w.heap.size + 1 + 1 := by omega
          have hB0 : Below w.heap.size w wr := HAL.out.trans (hb0.mono HAL.out.size)
          have hX : Below w.heap.size w (wr.setCell ⟨w.heap.size + 1 + 1, 0, none⟩ (.bool true)).drew := (hB0.setCell (p := ⟨w.heap.size + 1 + 1, 0, none⟩) (show w.heap.size ≤ w.heap.size + 1 + 1 by omega) _).trans ((bel_drew bel_refl).below.mono (by have := hB0.size; simp; omega))
          have hR6 : Blk (wr.setCell ⟨w.heap.size + 1 + 1, 0, none⟩ (.bool true)).drew (w.heap.size + 1 + 1) 4 [.bool true] := (H6'.out.set 0 (.bool true)).keepB (bel_drew bel_refl).below
          have hD6 : (wr.setCell ⟨w.heap.size + 1 + 1, 0, none⟩ (.bool true)).drew.heap[D]? = some (.deferred (some [])) := (Below.heap_setCell _ _ _ _ hne).trans HDW.out
          generalize (wr.setCell ⟨w.heap.size + 1 + 1, 0, none⟩ (.bool true)).drew = X at *
          have hpb : Below w5.heap.size X (X.putObj D (.deferred none)) := belowK_b (w := w5) (Nat.le_refl _) _ D _ _ (by omega) hD6 rfl rfl
          have hR7 := hR6.below hpb (show w.heap.size + 1 + 1 < w5.heap.size by omega)
          have c7 : (X.putObj D (.deferred none)).cell? ⟨w.heap.size + 1 + 1, 0, none⟩ = some (.bool true) := hR7.cell 0
          refine ⟨by simp, .inl ⟨_, _, rfl, run_takeDeferred hD6, ?_⟩⟩
          refine ⟨.bool true, ?_, rfl, hX.trans (hpb.mono (by omega))⟩
          simp [results, Try.f6, go_sem, c7]
end Go.Proofs.Ytlbfefdmbdjjcaa

namespace Go.Proofs.Ytlbfefdmbdjjcaa
open Go.ChangeShapes Go.WideShapes Go.ChangeAt Go.RowKit

set_option maxRecDepth 100000 in
theorem charmapGoes_lifted (os : Os) (started : os.Started) (H : Type) (enc : TypeId × Value → H) :
    ReturnsInHanded {} Try.checked os 6 .any (Rows.charmapGoesSpec.pre6 enc Try.prog Try.f6 Rows.charmapGoesRow.domain false) (Rows.charmapGoesSpec.post enc Try.prog Try.f6 false true false false) := by
  refine returnsInHanded_of_change_sized (C := Try.checked) own_none started (by kernel_rfl) Try.func6
    (ChangeSpec.witness6 (enc := enc) (C := Try.checked) false ⟨#[], #[.int .i64 0, .slice none 0 0, .int .i64 0], []⟩ 8 (by kernel_rfl) (by kernel_rfl) (by kernel_rfl) (by kernel_rfl)) ?_
  intro W base args ds gs before hval0 hW _ hwt _
  have hval : ∀ (j : Nat) t v, Try.f6.params[j]? = some t → args[j]? = some v → Value.okWide Try.prog W .any base t v := hval0
  have hW' := hW
  obtain ⟨p, q, hA0, _, _, _, _⟩ := hW
  have hA : DataW.TrodAll enc Try.prog W 0 (fun _ => true) true Try.f6.params.toList args.toList ds p := hA0
  rw [Try.params6] at hA hval
  obtain ⟨v0, v1, v2, d0, d1, d2, p0, p1, p2, rfl, rfl, rfl, h0, h1, h2⟩ := trodAll_three hA
  obtain ⟨px0, rfl, wpx0⟩ := open_num Try.underlying3 (hval 0 _ _ rfl rfl) h0
  have bpx0 := bounds_i64 wpx0
  obtain ⟨A, n, c, rfl, k1, m1, r1, s1⟩ := open_sl (eb := 16) (ks := [.int .i64, .int .i64]) Try.underlying34 (by kernel_rfl) (hval 1 _ _ rfl rfl) h1 (reach_all (ts := [3, 34, 3]) (by kernel_rfl) hwt (j := 1) rfl rfl)
  obtain ⟨px2, rfl, wpx2⟩ := open_num Try.underlying3 (hval 2 _ _ rfl rfl) h2
  have bpx2 := bounds_i64 wpx2
  clear hA0 hval0
  obtain ⟨l, hl⟩ := pairs_of s1
  refine (charmapGoes_any (c := c) px0 px2 hl (by omega)).mono fun e W' ⟨he, hb⟩ => ?_
  subst he
  exact ⟨_, rfl, law_post_any laid_out Try.underlying4 hW' (by kernel_rfl) rfl rfl rfl hb⟩

theorem charmapGoes_holds : Rows.CharmapGoesSaid :=
  OpenClaim.holds_of_wide 6 Try.f6 rfl rfl rfl rfl rfl rfl rfl ⟨rfl, rfl, rfl, rfl, rfl⟩ rfl rfl rfl rfl rfl (by kernel_rfl) Try.func6 (by kernel_rfl)
    (of_decide_eq_true (by kernel_rfl)) (by unfold Func.isWrapper; first | (rw [if_pos (by decide +kernel)]; kernel_rfl) | (rw [if_neg (by decide +kernel)]; exact ⟨rfl, rfl⟩))
    (fun os started H enc _ => charmapGoes_lifted os started H enc)

end Go.Proofs.Ytlbfefdmbdjjcaa
