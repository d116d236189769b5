/-
  For all bytes, every number of glyphs, every code point and every number of rounds CharmapLoads answers true and leaves its arguments as they were. No conditions.
  Layer 08: CharmapLoads.
  Layer 08: the law's window.
  Layer 08: the document's Glyph.
  Layer 08: own slices of pairs; the pairs of a window, one code point more.
  Layer 08: pairs that came in.
  Layer 08: the document's find and Glyph.
  Layer 08: the document's find, plainly, in formats 0 and 6.
  Layer 08: the document's find4.
  Layer 08: plain: what the document's find looks for, one segment behind the other.
  Layer 08: the document's Load.
  Layer 08: the document's may4, walked.
  Layer 08: the document's may4.
  Layer 08: the document's may12.
  Layer 08: the document's length.
  Layer 08: the document's u16, u32, length.
  Layer 08: the document's writer; which pairs it may make; where runs begin; a list of glyphs.
  Layer 08: where runs begin, plainly.
-/
import Derived.Test.YtlbfefdmbdjjcaaCmGm
import Derived.Test.YtlbfefdmbdjjcaaCmI
import Derived.Test.YtlbfefdmbdjjcaaCmC
import Derived.Test.YtlbfefdmbdjjcaaCmJ
import Derived.Test.YtlbfefdmbdjjcaaFlatB
import Derived.Test.YtlbfefdmbdjjcaaOw
import Derived.Test.YtlbfefdmbdjjcaaBs
import Derived.Test.YtlbfefdmbdjjcaaFrame
import Derived.Test.YtlbfefdmbdjjcaaFlat
namespace Go.Proofs.Ytlbfefdmbdjjcaa
open Go.RowKit

/-- Where each run begins and ends; where the one under way began. -/
def runE (l : List Pr) : Nat → List (Nat × Nat) × Nat
  | 0 => ([], 0)
  | i + 1 => if brk l i = true then ((runE l i).1 ++ [((runE l i).2, i + 1)], i + 1) else runE l i
def pcE (l : List Pr) (p : Nat × Nat) : List Pr := (l.drop p.1).take (p.2 - p.1)
theorem runE_N (l : List Pr) : ∀ i, runN l i = ((runE l i).1.map (pcE l), (runE l i).2)
  | 0 => rfl
  | i + 1 => by
    unfold runN runE
    rw [runE_N l i]
    split
    · simp [pcE]
    · rfl
theorem runE_le (l : List Pr) (i : Nat) : (runE l i).2 ≤ i := by
  have := runN_le l i
  rw [runE_N] at this
  exact this
def stN (l : List Pr) : Nat → List Nat
  | 0 => []
  | i + 1 => if i = 0 ∨ brk l (i - 1) = true then stN l i ++ [i] else stN l i
def stL (l : List Pr) : List Nat := stN l l.length
theorem runE_at (l : List Pr) : ∀ i, (runE l i).2 = i ↔ (i = 0 ∨ brk l (i - 1) = true)
  | 0 => by simp [runE]
  | i + 1 => by
    unfold runE
    rw [Nat.add_sub_cancel]
    split
    · rename_i h
      simp [h]
    · rename_i h
      have := runE_le l i
      simp only [h]
      constructor
      · intro e; omega
      · rintro (e | e)
        · omega
        · cases e
theorem stN_E (l : List Pr) : ∀ i, stN l i = (runE l i).1.map Prod.fst ++ (if (runE l i).2 < i then [(runE l i).2] else [])
  | 0 => rfl
  | i + 1 => by
    have ih := stN_E l i
    have ha := runE_at l i
    have hle := runE_le l i
    have hst : stN l (i + 1) = (runE l i).1.map Prod.fst ++ [(runE l i).2] := by
      show (if i = 0 ∨ brk l (i - 1) = true then stN l i ++ [i] else stN l i) = _
      by_cases h : (runE l i).2 = i
      · rw [if_pos (ha.1 h), ih, if_neg (by omega), h, List.append_nil]
      · rw [if_neg (fun e => h (ha.2 e)), ih, if_pos (by omega)]
    rw [hst]
    by_cases hb : brk l i = true
    · have hr : runE l (i + 1) = ((runE l i).1 ++ [((runE l i).2, i + 1)], i + 1) := by
        show (if brk l i = true then _ else _) = _
        rw [if_pos hb]
      rw [hr]
      simp
    · have hr : runE l (i + 1) = runE l i := by
        show (if brk l i = true then _ else _) = _
        rw [if_neg hb]
      rw [hr, if_pos (by omega)]
/-- Each one ends where the next one begins. -/
theorem runE_chain (l : List Pr) : ∀ i, ∀ (k : Nat) (p : Nat × Nat), (runE l i).1[k]? = some p → p.1 < p.2 ∧ p.2 ≤ i ∧ (((runE l i).1.map Prod.fst)[k + 1]? = some p.2 ∨ (k + 1 = (runE l i).1.length ∧ p.2 = (runE l i).2))
  | 0, k, p, h => by simp [runE] at h
  | i + 1, k, p, h => by
    have hle := runE_le l i
    by_cases hb : brk l i = true
    · have hr : runE l (i + 1) = ((runE l i).1 ++ [((runE l i).2, i + 1)], i + 1) := by
        show (if brk l i = true then _ else _) = _
        rw [if_pos hb]
      rw [hr] at h ⊢
      dsimp only at h ⊢
      rw [List.map_append]
      by_cases hk : k < (runE l i).1.length
      · rw [List.getElem?_append_left hk] at h
        obtain ⟨h1, h2, h3⟩ := runE_chain l i k p h
        refine ⟨h1, by omega, ?_⟩
        rcases h3 with h3 | ⟨h3, h4⟩
        · left
          rw [List.getElem?_append_left (List.getElem?_eq_some_iff.1 h3).1]
          exact h3
        · left
          rw [List.getElem?_append_right (by simp; omega), List.length_map, h3, Nat.sub_self, h4]
          rfl
      · rw [List.getElem?_append_right (by omega)] at h
        obtain ⟨m, hm⟩ : ∃ m, k - (runE l i).1.length = m := ⟨_, rfl⟩
        rw [hm] at h
        cases m with
        | zero =>
          simp only [List.getElem?_cons_zero, Option.some.injEq] at h
          subst h
          refine ⟨by dsimp only; omega, Nat.le_refl _, .inr ⟨by simp; omega, rfl⟩⟩
        | succ m => simp at h
    · have hr : runE l (i + 1) = runE l i := by
        show (if brk l i = true then _ else _) = _
        rw [if_neg hb]
      rw [hr] at h ⊢
      obtain ⟨h1, h2, h3⟩ := runE_chain l i k p h
      exact ⟨h1, by omega, h3⟩
theorem runE_end {l : List Pr} (h : 0 < l.length) : (runE l l.length).2 = l.length := by
  rw [runE_at]
  right
  unfold brk
  simp
  left
  omega
/-- The k-th run's first pair and its last one, by where runs begin. -/
theorem run_pair {l : List Pr} {k s : Nat} (h : (stL l)[k]? = some s) : ∃ ps e, (runL l)[k]? = some ps ∧ s < e ∧ e ≤ l.length ∧ l[s]? = some (hdP ps) ∧ l[e - 1]? = some (ltP ps) ∧ (((stL l)[k + 1]? = some e ∧ k + 1 < (stL l).length) ∨ (k + 1 = (stL l).length ∧ e = l.length)) := by
  have h0 : 0 < l.length := by
    rcases Nat.eq_zero_or_pos l.length with h0 | h0
    · unfold stL at h
      rw [h0] at h
      simp [stN] at h
    · exact h0
  have hst : stL l = (runE l l.length).1.map Prod.fst := by
    unfold stL
    rw [stN_E, runE_end h0, if_neg (by omega), List.append_nil]
  have hrl : runL l = (runE l l.length).1.map (pcE l) := by unfold runL; rw [runE_N]
  rw [hst, List.getElem?_map] at h
  obtain ⟨p, hp, rfl⟩ := Option.map_eq_some_iff.1 h
  obtain ⟨h1, h2, h3⟩ := runE_chain l l.length k p hp
  have hlen : (pcE l p).length = p.2 - p.1 := by unfold pcE; rw [List.length_take, List.length_drop]; omega
  refine ⟨pcE l p, p.2, by rw [hrl, List.getElem?_map, hp]; rfl, h1, h2, ?_, ?_, ?_⟩
  · have := hd_at (ps := pcE l p) (by omega)
    rw [← this]
    unfold pcE
    rw [List.getElem?_take, if_pos (by omega), List.getElem?_drop, Nat.add_zero]
  · have := lt_at (ps := pcE l p) (by omega)
    rw [← this, hlen]
    unfold pcE
    rw [List.getElem?_take, if_pos (by omega), List.getElem?_drop]
    congr 1
    omega
  · rw [hst]
    rcases h3 with h3 | ⟨h3, h4⟩
    · exact .inl ⟨h3, (List.getElem?_eq_some_iff.1 h3).1⟩
    · rw [runE_end h0] at h4
      exact .inr ⟨by rw [List.length_map]; exact h3, h4⟩
theorem stL_len (l : List Pr) : (stL l).length = (runL l).length := by
  rcases Nat.eq_zero_or_pos l.length with h0 | h0
  · unfold stL runL
    rw [h0]
    rfl
  · unfold stL runL
    rw [stN_E, runE_end h0, if_neg (by omega), List.append_nil, runE_N]
    simp
end Go.Proofs.Ytlbfefdmbdjjcaa

namespace Go.Proofs.Ytlbfefdmbdjjcaa
open Go.RowKit

/-- The document's writer, made by the call; it is never full. -/
def RW (W w : World) (g : Nat) (N : List UInt8) : Prop := ∃ A c, Wr 70 w g N 1048576 false A c ∧ Below W.heap.size W w ∧ W.heap.size ≤ g ∧ (∀ k, rowOf A = some k → W.heap.size ≤ k) ∧ (N.length : Int) ≤ 1048576
section
variable {W w w' : World} {g : Nat} {N : List UInt8}
theorem RW.below (h : RW W w g N) : Below W.heap.size W w := by obtain ⟨_, _, _, h, _⟩ := h; exact h
theorem RW.aft (h : RW W w g N) : Aft W w := h.below
theorem RW.lt (h : RW W w g N) : g < w.heap.size := by obtain ⟨_, _, h, _⟩ := h; exact h.blk.lt
theorem RW.keep (h : RW W w g N) (hb : Below w.heap.size w w') : RW W w' g N := by
  have hz := h.below.size
  obtain ⟨A, c, h1, h2, h3, h4, h5⟩ := h
  exact ⟨A, c, h1.keep hb, h2.trans (hb.mono hz), h3, h4, h5⟩
theorem RW.new (W : World) : RW W (W.alloc (.cells #[.slice none 0 0, .int .i64 1048576, .bool false] 70)) W.heap.size [] :=
  ⟨none, 0, ⟨heap_alloc_new W _, World.ownsRow_nil _ _ _ _, by intro e; cases e⟩, (bel_alloc bel_refl).below, Nat.le_refl _, fun k e => (by cases e), by decide⟩
theorem RW.next {M : List UInt8} {A A' : Option Addr} {c' : Nat} (h3 : Below W.heap.size W w) (h4 : W.heap.size ≤ g) (h5 : ∀ k, rowOf A = some k → W.heap.size ≤ k) (_hg : g < w.heap.size) (hx : WrN 70 w w' g (putF 1048576 (N, false) M) 1048576 A A' c') (hf : ((N ++ M).length : Int) ≤ 1048576) : RW W w' g (N ++ M) := by
  rw [List.length_append] at hf
  have hz := h3.size
  rw [putF_fit (by omega)] at hx
  refine ⟨A', c', hx.wr, h3.trans (hx.turn.below hz h4 (fun k e => (by cases e))), h4, fun k hk => ?_, by rw [List.length_append]; exact hf⟩
  rcases hx.row with e | e
  · exact h5 k (e ▸ hk)
  · exact Nat.le_trans hz (e k hk)
theorem rw_u (h : RW W w g N) (n : Nat) (x : Int) (hn : 0 < n) (hn8 : n ≤ 8) (hf : (N.length : Int) + n ≤ 1048576) {y : Int} (hy : y = n) :
    Calls Try.prog 42 #[.pointer (some ⟨g, 0, none⟩), .int .i64 y, .int .i64 x] w fun e w' => e = .returned (.tuple #[]) ∧ RW W w' g (N ++ beB n x) := by
  subst hy
  have hg := h.lt
  obtain ⟨A, c, h1, h2, h3, h4, h5⟩ := h
  exact (u_W w g (N, false) 1048576 A c n x h1 (by decide) (by decide) h5 hn hn8).mono fun _ _ ⟨he, A', c', hx⟩ => ⟨he, RW.next h2 h3 h4 hg hx (by rw [List.length_append, beB_length]; omega)⟩
theorem rw_data (h : RW W w g N) {bs : List UInt8} {A0 : Option Addr} {n c0 : Nat} (hn : bs.length = n) (hs : SlAt w A0 n (bs.map byteV)) (hf : (N.length : Int) + n ≤ 1048576) :
    Calls Try.prog 72 #[.pointer (some ⟨g, 0, none⟩), .slice A0 n c0] w fun e w' => e = .returned (.tuple #[]) ∧ RW W w' g (N ++ bs) := by
  subst hn
  have hg := h.lt
  obtain ⟨A, c, h1, h2, h3, h4, h5⟩ := h
  exact (rdata_W w g (N, false) 1048576 A c bs A0 c0 h1 (by decide) (by decide) h5 hs).mono fun _ _ ⟨he, A', c', hx⟩ => ⟨he, RW.next h2 h3 h4 hg hx (by rw [List.length_append]; omega)⟩
/-- The writer's bytes. -/
theorem RW.bytes (h : RW W w g N) : ∃ A c, w.cell? ⟨g, 0, none⟩ = some (.slice A N.length c) ∧ SlAt w A N.length (N.map byteV) := by
  obtain ⟨A, c, h1, _⟩ := h
  exact ⟨A, c, by rw [h1.blk.cell 0]; rfl, h1.sl⟩
end
theorem nat1 : (1 : Int) = ((1 : Nat) : Int) := rfl
theorem formats_any (f : Int) (w : World) : Calls Try.prog 16 #[.int .i64 f] w fun e w' => e = .returned (.bool (isFmtB f)) ∧ w = w' := by
  have hcs : ((f == 0) = true ∧ isFmtB f = true) ∨ ((f == 0) = false ∧ (f == 4) = true ∧ isFmtB f = true) ∨ ((f == 0) = false ∧ (f == 4) = false ∧ (f == 6) = true ∧ isFmtB f = true) ∨ ((f == 0) = false ∧ (f == 4) = false ∧ (f == 6) = false ∧ (f == 12) = true ∧ isFmtB f = true) ∨ ((f == 0) = false ∧ (f == 4) = false ∧ (f == 6) = false ∧ (f == 12) = false ∧ isFmtB f = false) := by
    unfold isFmtB
    simp only [beq_iff_eq, beq_eq_false_iff_ne, decide_eq_true_eq, decide_eq_false_iff_not]
    omega
  rcases hcs with ⟨e0, hv⟩ | ⟨e0, e4, hv⟩ | ⟨e0, e4, e6, hv⟩ | ⟨e0, e4, e6, e12, hv⟩ | ⟨e0, e4, e6, e12, hv⟩
  all_goals
    rw [hv]
    clear hv
    go_enter Try.func16, Try.ntmps16
    go_wp2_with fail
    go_ret
    exact ⟨rfl, rfl⟩
theorem rmost_any (f : Int) (w : World) : Calls Try.prog 39 #[.int .i64 f] w fun e w' => e = .returned (.int .i64 (mostC f)) ∧ w = w' := by
  have hcs : ((f == 0) = true ∧ mostC f = 255) ∨ ((f == 0) = false ∧ (f == 4) = true ∧ mostC f = 65534) ∨ ((f == 0) = false ∧ (f == 4) = false ∧ (f == 6) = true ∧ mostC f = 65535) ∨ ((f == 0) = false ∧ (f == 4) = false ∧ (f == 6) = false ∧ mostC f = 1114111) := by
    unfold mostC
    by_cases h0 : f = 0
    · subst h0; simp
    · by_cases h4 : f = 4
      · subst h4; simp
      · by_cases h6 : f = 6
        · subst h6; simp
        · simp [h0, h4, h6]
  rcases hcs with ⟨e0, hc⟩ | ⟨e0, e4, hc⟩ | ⟨e0, e4, e6, hc⟩ | ⟨e0, e4, e6, hc⟩
  all_goals
    rw [hc]
    clear hc
    go_enter Try.func39, Try.ntmps39
    go_wp2_with fail
    go_ret
    exact ⟨rfl, rfl⟩
/-- Pair k may stand behind those ahead of it. -/
def okP (lc lg : Int) (l : List Pr) (k : Nat) : Prop := 0 ≤ (l.getD k (0, 0)).1 ∧ (l.getD k (0, 0)).1 ≤ lc ∧ 1 ≤ (l.getD k (0, 0)).2 ∧ (l.getD k (0, 0)).2 ≤ lg ∧ (0 < k → (l.getD (k - 1) (0, 0)).1 < (l.getD k (0, 0)).1)
theorem may_take {lc lg : Int} {l : List Pr} {k : Nat} (hk : k < l.length) (h : mayL lc lg (-1) (l.take k) = true) : mayL lc lg (-1) (l.take (k + 1)) = true ↔ okP lc lg l k := by
  obtain ⟨p, hp⟩ := get_some' hk
  have hl : lastP (-1) (l.take k) = if k = 0 then -1 else (l.getD (k - 1) (0, 0)).1 := by
    cases k with
    | zero => rfl
    | succ k =>
      obtain ⟨q, hq⟩ := get_some' (l := l) (k := k) (by omega)
      rw [take_snoc' hq, lastP_snoc, if_neg (by omega), Nat.add_sub_cancel, List.getD_eq_getElem?_getD, hq]
      rfl
  rw [take_snoc' hp, mayL_append, h, mayL_one, hl]
  unfold okP
  rw [List.getD_eq_getElem?_getD (i := k), hp]
  simp only [Bool.true_and, decide_eq_true_eq, Option.getD_some]
  by_cases h0 : k = 0
  · subst h0
    simp
    omega
  · rw [if_neg h0]
    constructor
    · rintro ⟨h1, h2, h3, h4⟩
      have hall : 0 ≤ (l.getD (k - 1) (0, 0)).1 := by
        obtain ⟨q, hq⟩ := get_some' (l := l) (k := k - 1) (by omega)
        rw [List.getD_eq_getElem?_getD, hq]
        have := mayL_all h q (by rw [List.mem_iff_getElem?]; exact ⟨k - 1, by rw [List.getElem?_take, if_pos (by omega)]; exact hq⟩)
        simp only [Option.getD_some]
        omega
      exact ⟨by omega, h2, h3, h4, fun _ => h1⟩
    · rintro ⟨h1, h2, h3, h4, h5⟩
      exact ⟨h5 (by omega), h2, h3, h4⟩
theorem may_drop {lc lg : Int} {l : List Pr} {k : Nat} (hk : k < l.length) (h : mayL lc lg (-1) (l.take k) = true) (hn : ¬ okP lc lg l k) : mayL lc lg (-1) l = false := by
  have h2 : ¬ mayL lc lg (-1) (l.take (k + 1)) = true := fun e => hn ((may_take hk h).1 e)
  rw [← List.take_append_drop (k + 1) l, mayL_append]
  simp only [Bool.not_eq_true] at h2
  rw [h2]
  rfl
set_option maxRecDepth 20000 in
set_option maxHeartbeats 4000000 in
theorem rmay_any {w : World} {A : Option Addr} {n c : Nat} {l : List Pr} (f : Int) (h : RowsAt w A n 2 (l.map prC)) (hn : n ≤ 1000000) :
    Calls Try.prog 17 #[.int .i64 f, .slice A n c] w fun e w' => e = .returned (.bool (mayS f l)) ∧ Below w.heap.size w w' := by
  have hl := h.len
  rw [List.length_map] at hl
  subst hl
  have hv : mayS f l = mayL (mostC f) (mostG f) (-1) l := rfl
  have hm := rmost_any f
  have hg : ((f == 0) = true ∧ mostG f = 255) ∨ ((f == 0) = false ∧ mostG f = 65535) := by
    unfold mostG
    by_cases h0 : f = 0
    · exact .inl ⟨by simpa using h0, if_pos h0⟩
    · exact .inr ⟨by simpa using h0, if_neg h0⟩
  generalize mostC f = lc at hv hm
  generalize mostG f = lg at hv hg
  have HV := Lib.hid hv
  have HM := Lib.hid hm
  have H := Lib.hid h
  clear hv hm h
  go_enter Try.func17, Try.ntmps17
  go_wp2_with fail
  go_loopw [5] (fun i wr => ∃ k : Nat, k ≤ l.length ∧ i = .int .i64 k ∧ Hid (mayL lc lg (-1) (l.take k) = true) ∧ Hid (Below w.heap.size w wr)) (fun i _ => l.length - (intOf i).toNat)
  case atStart => exact ⟨0, Nat.zero_le _, rfl, Lib.hid rfl, Lib.hid (Below.refl _ _)⟩
  case round =>
    obtain ⟨k, hk, rfl, HE, HB⟩ := hrel
    by_cases hlt : k < l.length
    · have hkl : (k : Int) < l.length := by omega
      obtain ⟨⟨p1, p2⟩, hp⟩ := get_some' hlt
      obtain ⟨b, o, rfl, hb, hc⟩ := H.out.at_ (i := k) (r := prC (p1, p2)) (by rw [List.getElem?_map, hp]; rfl)
      have r0 : wr.cell? ⟨b, o + k * 2, none⟩ = some (.int .i64 p1) := (HB.out.cell (p := ⟨b, _, none⟩) hb).trans (hc 0 _ rfl)
      have r1 : wr.cell? ⟨b, o + k * 2 + 1, none⟩ = some (.int .i64 p2) := (HB.out.cell (p := ⟨b, _, none⟩) hb).trans (hc 1 _ rfl)
      have hgp : l.getD k (0, 0) = (p1, p2) := by rw [List.getD_eq_getElem?_getD, hp]; rfl
      have hbz := HB.out.size
      have hbl : b < wr.heap.size := by omega
      have htk := may_take hlt HE.out
      have hdr := may_drop hlt HE.out
      unfold okP at htk hdr
      rw [hgp] at htk hdr
      dsimp only at htk hdr
      have HTK := Lib.hid htk
      have HDR := Lib.hid hdr
      clear htk hdr hgp hc hp
      rcases Nat.eq_zero_or_pos k with hk0 | hk0
      · have HK0 := Lib.hid hk0
        have hk1 : decide ((0 : Int) < k) = false := by simp; omega
        have hk2 : decide (0 < k) = false := by simp; omega
        clear hk0
        have hcs : p1 < 0 ∨ (¬ p1 < 0 ∧ decide (lc < p1) = true) ∨ (¬ p1 < 0 ∧ decide (lc < p1) = false ∧ p2 < 1) ∨ (¬ p1 < 0 ∧ decide (lc < p1) = false ∧ ¬ p2 < 1 ∧ decide (lg < p2) = true) ∨ (¬ p1 < 0 ∧ decide (lc < p1) = false ∧ ¬ p2 < 1 ∧ decide (lg < p2) = false) := by
          simp only [decide_eq_true_eq, decide_eq_false_iff_not]
          omega
        rcases hcs with o1 | ⟨o1, o2⟩ | ⟨o1, o2, o3⟩ | ⟨o1, o2, o3, o4⟩ | ⟨o1, o2, o3, o4⟩
        rotate_right
        · have hok := HTK.out.2 ⟨by omega, by simp at o2; omega, by omega, by simp at o4; omega, fun h => absurd h (by have := HK0.out; omega)⟩
          have HOK := Lib.hid hok
          clear hok
          rcases hg with ⟨e0, rfl⟩ | ⟨e0, rfl⟩
          all_goals
            go_upto_region 7 with fail
            refine wp_region_bw_lit (by kernel_rfl) (by kernel_rfl) ?_
            repeat (go_big_quiet_step ((go_at_call 39; with_reducible exact Calls.bw_of_same (HM.out _))))
            refine wpQuiet_nil ?_
            rintro _ ⟨u, rfl⟩
            have hbu := u.prop
            have hzu := u.prop.size
            try simp at hzu
            go_wp2_with fail
            go_roundw
            case rel => exact ⟨k + 1, by omega, by go_num, HOK, Lib.hid (HB.out.trans (hbu.mono hbz))⟩
            case measure => simp [intOf]; omega
        all_goals
          have hno := HDR.out (fun h => by obtain ⟨h1, h2, h3, h4, _⟩ := h; simp only [decide_eq_true_eq, decide_eq_false_iff_not] at *; omega)
          rw [← HV.out] at hno
          have HNO := Lib.hid hno
          clear hno
          rcases hg with ⟨e0, rfl⟩ | ⟨e0, rfl⟩
          all_goals
            go_upto_region 7 with fail
            refine wp_region_bw_lit (by kernel_rfl) (by kernel_rfl) ?_
            repeat (go_big_quiet_step ((go_at_call 39; with_reducible exact Calls.bw_of_same (HM.out _))))
            refine wpQuiet_nil ?_
            rintro _ ⟨u, rfl⟩
            have hbu := u.prop
            have hzu := u.prop.size
            try simp at hzu
            go_wp2_with fail
            go_ret
            exact ⟨by rw [HNO.out]; rfl, HB.out.trans (hbu.mono hbz)⟩
      · obtain ⟨j, rfl⟩ : ∃ j, k = j + 1 := ⟨k - 1, by omega⟩
        obtain ⟨⟨q1, q2⟩, hq⟩ := get_some' (l := l) (k := j) (by omega)
        obtain ⟨b', o', hA', hbl', hcl'⟩ := H.out.at_ (i := j) (r := prC (q1, q2)) (by rw [List.getElem?_map, hq]; rfl)
        injection hA' with hA'
        injection hA' with hA1 hA2
        subst hA1 hA2
        have r2 : wr.cell? ⟨b, o + j * 2, none⟩ = some (.int .i64 q1) := (HB.out.cell (p := ⟨b, _, none⟩) hbl').trans (hcl' 0 _ rfl)
        have hjj : ((j + 1 : Nat) : Int) - 1 = j := by omega
        have hj0 : (0 : Int) < ((j + 1 : Nat) : Int) := by omega
        have hjl : (j : Int) < l.length := by omega
        have hgq : l.getD (j + 1 - 1) (0, 0) = (q1, q2) := by rw [Nat.add_sub_cancel, List.getD_eq_getElem?_getD, hq]; rfl
        rw [hgq] at HTK HDR
        obtain ⟨kk, hkk⟩ : ∃ kk : Nat, j + 1 = kk := ⟨_, rfl⟩
        have HKK := Lib.hid hkk
        rw [hkk] at r0 r1 hkl hjj hj0 HTK HDR hlt HE ⊢
        have hk1 : decide ((0 : Int) < kk) = true := by simp; omega
        have hk2 : decide (0 < kk) = true := by simp; omega
        have hcs : p1 < 0 ∨ (¬ p1 < 0 ∧ decide (lc < p1) = true) ∨ (¬ p1 < 0 ∧ decide (lc < p1) = false ∧ p2 < 1) ∨ (¬ p1 < 0 ∧ decide (lc < p1) = false ∧ ¬ p2 < 1 ∧ decide (lg < p2) = true) ∨ (¬ p1 < 0 ∧ decide (lc < p1) = false ∧ ¬ p2 < 1 ∧ decide (lg < p2) = false ∧ p1 ≤ q1) ∨ (¬ p1 < 0 ∧ decide (lc < p1) = false ∧ ¬ p2 < 1 ∧ decide (lg < p2) = false ∧ ¬ p1 ≤ q1) := by
          simp only [decide_eq_true_eq, decide_eq_false_iff_not]
          omega
        clear hcl' hbl' hq hgq hk0 hkk hk
        rcases hcs with o1 | ⟨o1, o2⟩ | ⟨o1, o2, o3⟩ | ⟨o1, o2, o3, o4⟩ | ⟨o1, o2, o3, o4, o5⟩ | ⟨o1, o2, o3, o4, o5⟩
        rotate_right
        · have hok := HTK.out.2 ⟨by omega, by simp at o2; omega, by omega, by simp at o4; omega, fun _ => by omega⟩
          have HOK := Lib.hid hok
          clear hok
          rcases hg with ⟨e0, rfl⟩ | ⟨e0, rfl⟩
          all_goals
            go_upto_region 7 with fail
            refine wp_region_bw_lit (by kernel_rfl) (by kernel_rfl) ?_
            repeat (go_big_quiet_step ((go_at_call 39; with_reducible exact Calls.bw_of_same (HM.out _))))
            refine wpQuiet_nil ?_
            rintro _ ⟨u, rfl⟩
            have hbu := u.prop
            have hzu := u.prop.size
            try simp at hzu
            go_wp2_with fail
            go_roundw
            case rel => exact ⟨kk + 1, by omega, by go_num, HOK, Lib.hid (HB.out.trans (hbu.mono hbz))⟩
            case measure => simp [intOf]; omega
        all_goals
          have hno := HDR.out (fun h => by obtain ⟨h1, h2, h3, h4, h5⟩ := h; have h6 := h5 (by omega); simp only [decide_eq_true_eq, decide_eq_false_iff_not] at *; omega)
          rw [← HV.out] at hno
          have HNO := Lib.hid hno
          clear hno
          rcases hg with ⟨e0, rfl⟩ | ⟨e0, rfl⟩
          all_goals
            go_upto_region 7 with fail
            refine wp_region_bw_lit (by kernel_rfl) (by kernel_rfl) ?_
            repeat (go_big_quiet_step ((go_at_call 39; with_reducible exact Calls.bw_of_same (HM.out _))))
            refine wpQuiet_nil ?_
            rintro _ ⟨u, rfl⟩
            have hbu := u.prop
            have hzu := u.prop.size
            try simp at hzu
            go_wp2_with fail
            go_ret
            exact ⟨by rw [HNO.out]; rfl, HB.out.trans (hbu.mono hbz)⟩
    · obtain rfl : k = l.length := by omega
      have hfin := HE.out
      rw [List.take_length, ← HV.out] at hfin
      have HF := Lib.hid hfin
      clear hfin
      go_wp2_with fail
      go_ret
      exact ⟨by rw [HF.out]; rfl, HB.out⟩
end Go.Proofs.Ytlbfefdmbdjjcaa

namespace Go.Proofs.Ytlbfefdmbdjjcaa
open Go.RowKit Go.Shelf

theorem be16_at {bs : List UInt8} {p : Nat} {a b : UInt8} (ha : bs[p]? = some a) (hb : bs[p + 1]? = some b) : be16 bs p = (a.toNat : Int) * 256 + b.toNat := by
  have h1 : (bs.drop p).take 2 = [a, b] := by
    obtain ⟨ha1, ha2⟩ := List.getElem?_eq_some_iff.1 ha
    obtain ⟨hb1, hb2⟩ := List.getElem?_eq_some_iff.1 hb
    rw [List.drop_eq_getElem_cons ha1, List.drop_eq_getElem_cons hb1, ha2, hb2]
    rfl
  unfold be16
  rw [h1]
  simp [numB]
set_option maxHeartbeats 1000000 in
/-- The document's number of two bytes. -/
theorem ru16_any {w : World} {A : Option Addr} {n c : Nat} {bs : List UInt8} (h : SlAt w A n (bs.map byteV)) (hn : bs.length = n) {p : Nat} {q : Int} (hq : q = p) (hp : p + 2 ≤ n) (hm : n ≤ 1000000) :
    Calls Try.prog 27 #[.slice A n c, .int .i64 q] w fun e w' => e = .returned (.int .i64 (be16 bs p)) ∧ Below w.heap.size w w' := by
  subst hq
  obtain ⟨x, hx⟩ := get_some' (l := bs) (k := p) (by omega)
  obtain ⟨y, hy⟩ := get_some' (l := bs) (k := p + 1) (by omega)
  obtain ⟨b, o, rfl, hb, c0⟩ := sl_byte h hx
  obtain ⟨b', o', he, _, c1⟩ := sl_byte h hy
  injection he with he
  injection he with he1 he2
  subst he1 he2
  rw [be16_at hx hy]
  have hx1 := x.toNat_lt
  have hy1 := y.toNat_lt
  have hp1 : (p : Int) < n := by omega
  have hp2 : ((p : Int) + 1) < n := by omega
  have c1' : w.cell? ⟨b, o + (p + 1), none⟩ = some (.int .u8 y.toNat) := c1
  have c0' : w.cell? ⟨b, o + p, none⟩ = some (.int .u8 x.toNat) := c0
  clear h hx hy c0 c1
  go_enter Try.func27, Try.ntmps27
  go_wp2_with fail
  go_region
  go_wp2_with fail
  go_ret
  exact ⟨rfl, (bel_drew bel_refl).below⟩
theorem be32_two {bs : List UInt8} {p : Nat} (hp : p + 4 ≤ bs.length) : be32 bs p = be16 bs p * 65536 + be16 bs (p + 2) := by
  obtain ⟨x0, h0⟩ := get_some' (l := bs) (k := p) (by omega)
  obtain ⟨x1, h1⟩ := get_some' (l := bs) (k := p + 1) (by omega)
  obtain ⟨x2, h2⟩ := get_some' (l := bs) (k := p + 2) (by omega)
  obtain ⟨x3, h3⟩ := get_some' (l := bs) (k := p + 2 + 1) (by omega)
  rw [be16_at h0 h1, be16_at h2 h3]
  have hd : (bs.drop p).take 4 = [x0, x1, x2, x3] := by
    obtain ⟨a0, b0⟩ := List.getElem?_eq_some_iff.1 h0
    obtain ⟨a1, b1⟩ := List.getElem?_eq_some_iff.1 h1
    obtain ⟨a2, b2⟩ := List.getElem?_eq_some_iff.1 h2
    obtain ⟨a3, b3⟩ := List.getElem?_eq_some_iff.1 h3
    rw [List.drop_eq_getElem_cons a0, List.drop_eq_getElem_cons a1, List.drop_eq_getElem_cons a2, List.drop_eq_getElem_cons a3, b0, b1, b2, b3]
    rfl
  unfold be32
  rw [hd]
  simp [numB]
  omega
theorem slat_kept {w w' : World} {A : Option Addr} {n : Nat} {vs : List Value} (h : SlAt w A n vs) (hb : Below w.heap.size w w') : SlAt w' A n vs := by
  refine ⟨h.1, fun k hk => ?_⟩
  obtain ⟨b, o, rfl, hlt, hc⟩ := h.2 k hk
  exact ⟨b, o, rfl, Nat.lt_of_lt_of_le hlt hb.size, by rw [hb.cell (p := ⟨b, o + k, none⟩) hlt]; exact hc⟩
set_option maxHeartbeats 1000000 in
/-- The document's number of four bytes. -/
theorem ru32_any {w : World} {A : Option Addr} {n c : Nat} {bs : List UInt8} (h : SlAt w A n (bs.map byteV)) (hn : bs.length = n) {p : Nat} {q : Int} (hq : q = p) (hp : p + 4 ≤ n) (hm : n ≤ 1000000) :
    Calls Try.prog 54 #[.slice A n c, .int .i64 q] w fun e w' => e = .returned (.int .i64 (be32 bs p)) ∧ Below w.heap.size w w' := by
  subst hq
  rw [be32_two (by omega)]
  have H := Lib.hid h
  have h0 := be16_bd bs p
  have h2 := be16_bd bs (p + 2)
  have HN := Lib.hid hn
  clear h hn
  go_enter Try.func54, Try.ntmps54
  go_wp2_with (first
    | (go_at_call 27; (with_reducible refine (ru16_any H.out HN.out (p := p) rfl (by omega) hm).mono ?_); rintro e w1 ⟨rfl, hb1⟩; have HB1 := Lib.hid hb1; clear hb1)
    | (go_at_call 27; (with_reducible refine (ru16_any (slat_kept H.out HB1.out) HN.out (p := p + 2) (q := (p : Int) + 2) (by omega) (by omega) hm).mono ?_); rintro e w2 ⟨rfl, hb2⟩; have HB2 := Lib.hid (HB1.out.trans (hb2.mono HB1.out.size)); clear hb2)
    | fail)
  go_ret
  exact ⟨rfl, HB2.out⟩
end Go.Proofs.Ytlbfefdmbdjjcaa

namespace Go.Proofs.Ytlbfefdmbdjjcaa
open Go.RowKit Go.Shelf

set_option maxHeartbeats 2000000 in
theorem rlength_any {w : World} {A : Option Addr} {n c : Nat} {bs : List UInt8} (h : SlAt w A n (bs.map byteV)) (hn : bs.length = n) (h2 : 2 ≤ n) (hm : n ≤ 1000000) :
    Calls Try.prog 28 #[.slice A n c] w fun e w' => e = .returned (.int .i64 (sizeS bs (be16 bs 0))) ∧ Below w.heap.size w w' := by
  have HU := Lib.hid fun (u : World) (hu : Below w.heap.size w u) (p : Nat) (hp : p + 2 ≤ n) => ru16_any (c := c) (slat_kept h hu) hn (p := p) rfl hp hm
  have HV := Lib.hid fun (u : World) (hu : Below w.heap.size w u) (p : Nat) (hp : p + 4 ≤ n) => ru32_any (c := c) (slat_kept h hu) hn (p := p) rfl hp hm
  obtain ⟨x, hx⟩ : ∃ x, be16 bs 0 = x := ⟨_, rfl⟩
  have hu0 : ∀ u, Below w.heap.size w u → Calls Try.prog 27 #[.slice A n c, .int .i64 0] u fun e w' => e = .returned (.int .i64 x) ∧ Below u.heap.size u w' := fun u hu => by rw [← hx]; exact HU.out u hu 0 (by omega)
  have HU0 := Lib.hid hu0
  obtain ⟨z, hz⟩ : ∃ z, sizeS bs x = z := ⟨_, rfl⟩
  rw [hx, hz]
  unfold sizeS at hz
  rw [hn] at hz
  have HB : Hid (Below w.heap.size w w) := Lib.hid (Below.refl _ _)
  by_cases hf : x = 12
  · rw [if_pos hf] at hz
    have hxe : (x == 12) = true := by simpa using hf
    have hxn : (x != 12) = false := by simpa using hf
    by_cases h16 : n < 16
    · rw [if_pos h16] at hz
      have d1 : decide ((16 : Int) ≤ n) = false := by simp; omega
      have d1' : decide (16 ≤ n) = false := by simp; omega
      by_cases h4 : n < 4
      · have d2 : decide ((4 : Int) ≤ n) = false := by simp; omega
        have d2' : decide (4 ≤ n) = false := by simp; omega
        clear h hn hx hu0 hf HU HV
        go_enter Try.func28, Try.ntmps28
        go_wp2_with (first | fail)
        go_ret
        exact ⟨by rw [← hz]; rfl, HB.out⟩
      · have d2 : decide ((4 : Int) ≤ n) = true := by simp; omega
        have d2' : decide (4 ≤ n) = true := by simp; omega
        clear h hn hx hu0 hf HU HV
        go_enter Try.func28, Try.ntmps28
        go_wp2_with (first
          | (go_at_call 27; (with_reducible refine (HU0.out _ HB.out).mono ?_); rintro e w1 ⟨rfl, hb1⟩; replace HB := Lib.hid (HB.out.trans (hb1.mono HB.out.size)); clear hb1)
          | fail)
        go_ret
        exact ⟨by rw [← hz]; rfl, HB.out⟩
    · rw [if_neg h16] at hz
      have d1 : decide ((16 : Int) ≤ n) = true := by simp; omega
      have d1' : decide (16 ≤ n) = true := by simp; omega
      have hv : ∀ u, Below w.heap.size w u → Calls Try.prog 54 #[.slice A n c, .int .i64 4] u fun e w' => e = .returned (.int .i64 z) ∧ Below u.heap.size u w' := fun u hu => by rw [← hz]; exact HV.out u hu 4 (by omega)
      have HV4 := Lib.hid hv
      clear h hn hx hu0 hf HU HV hv
      go_enter Try.func28, Try.ntmps28
      go_wp2_with (first
        | (go_at_call 27; (with_reducible refine (HU0.out _ HB.out).mono ?_); rintro e w1 ⟨rfl, hb1⟩; replace HB := Lib.hid (HB.out.trans (hb1.mono HB.out.size)); clear hb1)
        | (go_at_call 54; (with_reducible refine (HV4.out _ HB.out).mono ?_); rintro e w1 ⟨rfl, hb1⟩; replace HB := Lib.hid (HB.out.trans (hb1.mono HB.out.size)); clear hb1)
        | fail)
      go_ret
      exact ⟨rfl, HB.out⟩
  · rw [if_neg hf] at hz
    have hxe : (x == 12) = false := by simpa using hf
    have hxn : (x != 12) = true := by simpa using hf
    by_cases h4 : n < 4
    · rw [if_pos h4] at hz
      have d1 : decide ((16 : Int) ≤ n) = false := by simp; omega
      have d1' : decide (16 ≤ n) = false := by simp; omega
      have d2 : decide ((4 : Int) ≤ n) = false := by simp; omega
      have d2' : decide (4 ≤ n) = false := by simp; omega
      clear h hn hx hu0 hf HU HV
      go_enter Try.func28, Try.ntmps28
      go_wp2_with (first | fail)
      go_ret
      exact ⟨by rw [← hz]; rfl, HB.out⟩
    · rw [if_neg h4] at hz
      have d2 : decide ((4 : Int) ≤ n) = true := by simp; omega
      have d2' : decide (4 ≤ n) = true := by simp; omega
      have hv : ∀ u, Below w.heap.size w u → Calls Try.prog 27 #[.slice A n c, .int .i64 2] u fun e w' => e = .returned (.int .i64 z) ∧ Below u.heap.size u w' := fun u hu => by rw [← hz]; exact HU.out u hu 2 (by omega)
      have HV2 := Lib.hid hv
      by_cases h16 : n < 16
      all_goals
        first
          | (have d1 : decide ((16 : Int) ≤ n) = false := by simp; omega
             have d1' : decide (16 ≤ n) = false := by simp; omega)
          | (have d1 : decide ((16 : Int) ≤ n) = true := by simp; omega
             have d1' : decide (16 ≤ n) = true := by simp; omega)
        clear h hn hx hu0 hf HU HV hv
        go_enter Try.func28, Try.ntmps28
        go_wp2_with (first
          | (go_at_call 27; (with_reducible refine (HU0.out _ HB.out).mono ?_); rintro e w1 ⟨rfl, hb1⟩; replace HB := Lib.hid (HB.out.trans (hb1.mono HB.out.size)); clear hb1)
          | (go_at_call 27; (with_reducible refine (HV2.out _ HB.out).mono ?_); rintro e w1 ⟨rfl, hb1⟩; replace HB := Lib.hid (HB.out.trans (hb1.mono HB.out.size)); clear hb1)
          | fail)
        go_ret
        exact ⟨rfl, HB.out⟩
end Go.Proofs.Ytlbfefdmbdjjcaa

namespace Go.Proofs.Ytlbfefdmbdjjcaa
open Go.RowKit Go.Shelf

theorem upB_part {lim last : Int} {a b : List Sv} (h : upB lim last a = false) : upB lim last (a ++ b) = false := by rw [upB_append, h, Bool.false_and]
set_option maxRecDepth 20000 in
set_option maxHeartbeats 2000000 in
theorem rmay12_any {w : World} {A : Option Addr} {n c : Nat} {bs : List UInt8} (h : SlAt w A n (bs.map byteV)) (hn : bs.length = n) (h16 : 16 ≤ n) (hm : n ≤ 1000000) :
    Calls Try.prog 30 #[.slice A n c] w fun e w' => e = .returned (.bool (load12S bs).isSome) ∧ Below w.heap.size w w' := by
  have HV := Lib.hid fun (u : World) (hu : Below w.heap.size w u) (p : Nat) (q : Int) (hq : q = p) (hp : p + 4 ≤ n) => ru32_any (c := c) (slat_kept h hu) hn (p := p) hq hp hm
  have hbd := be32_bd bs 12
  obtain ⟨G, hG⟩ : ∃ G : Nat, be32 bs 12 = G := ⟨(be32 bs 12).toNat, by omega⟩
  have hg : ∀ u, Below w.heap.size w u → Calls Try.prog 54 #[.slice A n c, .int .i64 12] u fun e w' => e = .returned (.int .i64 G) ∧ Below u.heap.size u w' := fun u hu => by rw [← hG]; exact HV.out u hu 12 12 rfl (by omega)
  have HG := Lib.hid hg
  have HB : Hid (Below w.heap.size w w) := Lib.hid (Below.refl _ _)
  have hld : load12S bs = if ((n : Int) - 16) / 12 < G then none else if upB 1114111 (-1) (segs12 bs G) = true then some (segs12 bs G) else none := by
    unfold load12S
    rw [hn, if_neg (by omega), hG, Int.toNat_natCast]
  obtain ⟨v, hv⟩ : ∃ v, (load12S bs).isSome = v := ⟨_, rfl⟩
  rw [hv]
  rw [hld] at hv
  rw [hG] at hbd
  by_cases hbad : ((n : Int) - 16) / 12 < G
  · rw [if_pos hbad] at hv
    have hq : decide ((n : Int) / 12 < G) = true ∨ (decide ((n : Int) / 12 < G) = false ∧ decide ((n : Int) < 16 + 12 * G) = true) := by
      simp only [decide_eq_true_eq, decide_eq_false_iff_not]; omega
    clear h hn hG hg hld hbad
    rcases hq with q1 | ⟨q1, q2⟩
    all_goals
      go_enter Try.func30, Try.ntmps30
      go_wp2_with (first
        | (go_at_call 54; (with_reducible refine (HG.out _ HB.out).mono ?_); rintro e w1 ⟨rfl, hb1⟩; replace HB := Lib.hid (HB.out.trans (hb1.mono HB.out.size)); clear hb1)
        | fail)
      go_ret
      exact ⟨by rw [← hv]; rfl, HB.out⟩
  · rw [if_neg hbad] at hv
    have q1 : decide ((n : Int) / 12 < G) = false := by simp only [decide_eq_false_iff_not]; omega
    have q2 : decide ((n : Int) < 16 + 12 * G) = false := by simp only [decide_eq_false_iff_not]; omega
    have hgn : 16 + 12 * G ≤ n := by omega
    have hv2 : upB 1114111 (-1) (segs12 bs G) = v := by
      rw [← hv]
      cases upB 1114111 (-1) (segs12 bs G) <;> rfl
    have HV2 := Lib.hid hv2
    clear h hn hG hg hld hbad hv hv2
    go_enter Try.func30, Try.ntmps30
    go_wp2_with (first
      | (go_at_call 54; (with_reducible refine (HG.out _ HB.out).mono ?_); rintro e w1 ⟨rfl, hb1⟩; replace HB := Lib.hid (HB.out.trans (hb1.mono HB.out.size)); clear hb1)
      | fail)
    clear q1 q2 HG
    go_loopw [4, 5] (fun la i wr => ∃ (k : Nat) (y : Int), k ≤ G ∧ i = .int .i64 k ∧ la = .int .i64 y ∧ Hid (lastL (-1) (segs12 bs k) = y ∧ upB 1114111 (-1) (segs12 bs k) = true) ∧ Hid (Below w.heap.size w wr)) (fun _ i _ => G - (intOf i).toNat)
    case atStart => exact ⟨0, -1, Nat.zero_le _, rfl, rfl, Lib.hid ⟨rfl, rfl⟩, HB⟩
    case round =>
      obtain ⟨k, y, hk, rfl, rfl, HY, HB'⟩ := hrel
      replace HB := HB'
      clear HB'
      by_cases hlt : k < G
      · have hkm : (k : Int) < G := by omega
        have hsuc := segs12_succ bs k
        obtain ⟨f, hf⟩ : ∃ f, be32 bs (16 + 12 * k) = f := ⟨_, rfl⟩
        obtain ⟨l, hl⟩ : ∃ l, be32 bs (20 + 12 * k) = l := ⟨_, rfl⟩
        have hu1 : ∀ u, Below w.heap.size w u → Calls Try.prog 54 #[.slice A n c, .int .i64 (16 + 12 * (k : Int))] u fun e w' => e = .returned (.int .i64 f) ∧ Below u.heap.size u w' := fun u hu => by rw [← hf]; exact HV.out u hu (16 + 12 * k) _ (by omega) (by omega)
        have hu2 : ∀ u, Below w.heap.size w u → Calls Try.prog 54 #[.slice A n c, .int .i64 (20 + 12 * (k : Int))] u fun e w' => e = .returned (.int .i64 l) ∧ Below u.heap.size u w' := fun u hu => by rw [← hl]; exact HV.out u hu (20 + 12 * k) _ (by omega) (by omega)
        have HU1 := Lib.hid hu1
        have HU2 := Lib.hid hu2
        have hup : upB 1114111 (-1) (segs12 bs (k + 1)) = decide (f ≤ l ∧ y < f ∧ l ≤ 1114111) := by
          rw [hsuc, upB_append, HY.out.1, HY.out.2, upB_one, Bool.true_and]
          unfold seg12
          dsimp only
          rw [hf, hl]
        have hla : lastL (-1) (segs12 bs (k + 1)) = l := by rw [hsuc, lastL_snoc]; exact hl
        have HUP := Lib.hid hup
        have HLA := Lib.hid hla
        clear hsuc hf hl hu1 hu2 hup hla
        have hcs : decide (l < f) = true ∨ (decide (l < f) = false ∧ decide (1114111 < l) = true) ∨ (decide (l < f) = false ∧ decide (1114111 < l) = false ∧ decide (f ≤ y) = true) ∨ (decide (l < f) = false ∧ decide (1114111 < l) = false ∧ decide (f ≤ y) = false) := by
          simp only [decide_eq_true_eq, decide_eq_false_iff_not]; omega
        rcases hcs with d1 | ⟨d1, d2⟩ | ⟨d1, d2, d3⟩ | ⟨d1, d2, d3⟩
        case inr.inr.inr =>
          have HN : Hid (lastL (-1) (segs12 bs (k + 1)) = l ∧ upB 1114111 (-1) (segs12 bs (k + 1)) = true) := Lib.hid ⟨HLA.out, by
            rw [HUP.out]
            simp only [decide_eq_true_eq, decide_eq_false_iff_not] at d1 d2 d3 ⊢
            omega⟩
          clear HUP HLA HY
          go_wp2_with (first
            | (go_at_call 54; (with_reducible refine (HU1.out _ HB.out).mono ?_); rintro e w1 ⟨rfl, hb1⟩; replace HB := Lib.hid (HB.out.trans (hb1.mono HB.out.size)); clear hb1)
            | (go_at_call 54; (with_reducible refine (HU2.out _ HB.out).mono ?_); rintro e w1 ⟨rfl, hb1⟩; replace HB := Lib.hid (HB.out.trans (hb1.mono HB.out.size)); clear hb1)
            | fail)
          go_roundw
          case rel => exact ⟨k + 1, _, by omega, by go_num, rfl, HN, HB⟩
          case measure => simp [intOf]; omega
        all_goals
          have hno : v = false := by
            rw [← HV2.out]
            obtain ⟨t, ht⟩ := segs12_split bs (show k + 1 ≤ G by omega)
            rw [ht]
            refine upB_part ?_
            rw [HUP.out]
            simp only [decide_eq_true_eq, decide_eq_false_iff_not] at *
            omega
          have HNO := Lib.hid hno
          clear HUP HLA HY hno
          go_wp2_with (first
            | (go_at_call 54; (with_reducible refine (HU1.out _ HB.out).mono ?_); rintro e w1 ⟨rfl, hb1⟩; replace HB := Lib.hid (HB.out.trans (hb1.mono HB.out.size)); clear hb1)
            | (go_at_call 54; (with_reducible refine (HU2.out _ HB.out).mono ?_); rintro e w1 ⟨rfl, hb1⟩; replace HB := Lib.hid (HB.out.trans (hb1.mono HB.out.size)); clear hb1)
            | fail)
          go_ret
          exact ⟨by rw [HNO.out]; rfl, HB.out⟩
      · obtain rfl : k = G := by omega
        have HT : Hid (v = true) := Lib.hid (HV2.out.symm.trans HY.out.2)
        go_wp2_with (first | fail)
        go_ret
        exact ⟨by rw [HT.out]; rfl, HB.out⟩
end Go.Proofs.Ytlbfefdmbdjjcaa

namespace Go.Proofs.Ytlbfefdmbdjjcaa
open Go.RowKit Go.Shelf

/-- One segment more. -/
theorem segs4_bad {bs : List UInt8} {n i : Nat} {l : List Sv} (h : segs4 bs n i = some l) (hb : be16 bs (14 + 2 * i) < be16 bs (16 + 2 * n + 2 * i) ∨ be16 bs (16 + 2 * n + 2 * i) ≤ lastL (-1) l) : segs4 bs n (i + 1) = none := by
  show (segs4 bs n i).bind _ = none
  rw [h]
  show (if _ then none else _) = none
  rw [if_pos hb]
theorem segs4_good {bs : List UInt8} {n i : Nat} {l : List Sv} (h : segs4 bs n i = some l) (hb : ¬ (be16 bs (14 + 2 * i) < be16 bs (16 + 2 * n + 2 * i) ∨ be16 bs (16 + 2 * n + 2 * i) ≤ lastL (-1) l)) : segs4 bs n (i + 1) = (seg4 bs n i).map fun s => l ++ [s] := by
  show (segs4 bs n i).bind _ = _
  rw [h]
  show (if _ then none else _) = _
  rw [if_neg hb]
theorem seg4_plain {bs : List UInt8} {n i : Nat} {e f o : Int} (he : be16 bs (14 + 2 * i) = e) (hf : be16 bs (16 + 2 * n + 2 * i) = f) (ho : be16 bs (16 + 6 * n + 2 * i) = o) (h : o = 0 ∨ (o = 65535 ∧ f = 65535)) : ∃ s, seg4 bs n i = some s ∧ s.l = e := by
  unfold seg4
  simp only [he, hf, ho]
  rw [if_pos h]
  exact ⟨_, rfl, rfl⟩
theorem seg4_list {bs : List UInt8} {n i : Nat} {e f o : Int} (he : be16 bs (14 + 2 * i) = e) (hf : be16 bs (16 + 2 * n + 2 * i) = f) (ho : be16 bs (16 + 6 * n + 2 * i) = o) (h : ¬ (o = 0 ∨ (o = 65535 ∧ f = 65535))) (h2 : o.toNat % 2 = 0) (h3 : 16 + 6 * n + 2 * i + o.toNat + 2 * (e - f + 1).toNat ≤ bs.length) : ∃ s, seg4 bs n i = some s ∧ s.l = e := by
  unfold seg4
  simp only [he, hf, ho]
  rw [if_neg h]
  unfold lisS
  rw [if_neg (by omega), if_neg (by omega)]
  exact ⟨_, rfl, rfl⟩
theorem seg4_odd {bs : List UInt8} {n i : Nat} {f o : Int} (hf : be16 bs (16 + 2 * n + 2 * i) = f) (ho : be16 bs (16 + 6 * n + 2 * i) = o) (h : ¬ (o = 0 ∨ (o = 65535 ∧ f = 65535))) (h2 : o.toNat % 2 ≠ 0) : seg4 bs n i = none := by
  unfold seg4
  simp only [hf, ho]
  rw [if_neg h]
  unfold lisS
  rw [if_pos h2]
  rfl
theorem seg4_far {bs : List UInt8} {n i : Nat} {e f o : Int} (he : be16 bs (14 + 2 * i) = e) (hf : be16 bs (16 + 2 * n + 2 * i) = f) (ho : be16 bs (16 + 6 * n + 2 * i) = o) (h : ¬ (o = 0 ∨ (o = 65535 ∧ f = 65535))) (h3 : bs.length < 16 + 6 * n + 2 * i + o.toNat + 2 * (e - f + 1).toNat) : seg4 bs n i = none := by
  unfold seg4
  simp only [he, hf, ho]
  rw [if_neg h]
  unfold lisS
  by_cases h2 : o.toNat % 2 ≠ 0
  · rw [if_pos h2]
    rfl
  · rw [if_neg h2, if_pos h3]
    rfl
end Go.Proofs.Ytlbfefdmbdjjcaa

namespace Go.Proofs.Ytlbfefdmbdjjcaa
open Go.RowKit Go.Shelf

set_option maxRecDepth 20000 in
set_option maxHeartbeats 2000000 in
theorem rmay4_any {w : World} {A : Option Addr} {n c : Nat} {bs : List UInt8} (h : SlAt w A n (bs.map byteV)) (hn : bs.length = n) (h16 : 24 ≤ n) (hm : n ≤ 1000000) :
    Calls Try.prog 29 #[.slice A n c] w fun e w' => e = .returned (.bool (load4S bs).isSome) ∧ Below w.heap.size w w' := by
  have HV := Lib.hid fun (u : World) (hu : Below w.heap.size w u) (p : Nat) (q : Int) (hq : q = p) (hp : p + 2 ≤ n) => ru16_any (c := c) (slat_kept h hu) hn (p := p) hq hp hm
  have hbd := be16_bd bs 6
  obtain ⟨G, hG⟩ : ∃ G : Nat, be16 bs 6 = G := ⟨(be16 bs 6).toNat, by omega⟩
  have hg : ∀ u, Below w.heap.size w u → Calls Try.prog 27 #[.slice A n c, .int .i64 6] u fun e w' => e = .returned (.int .i64 G) ∧ Below u.heap.size u w' := fun u hu => by rw [← hG]; exact HV.out u hu 6 6 rfl (by omega)
  have HG := Lib.hid hg
  have HB : Hid (Below w.heap.size w w) := Lib.hid (Below.refl _ _)
  obtain ⟨v, hv⟩ : ∃ v, (load4S bs).isSome = v := ⟨_, rfl⟩
  rw [hv]
  rw [hG] at hbd
  clear h hg
  by_cases hbad : (n : Int) % 2 ≠ 0 ∨ (G : Int) % 2 ≠ 0 ∨ (G : Int) / 2 < 1 ∨ (n : Int) < 16 + 8 * ((G : Int) / 2)
  · have hno : v = false := by
      rw [← hv]
      unfold load4S
      rw [hn, hG, if_neg (by omega), if_pos (by omega)]
      rfl
    have hcs : ((G : Int) % 2 != 0) = true ∨ (((G : Int) % 2 != 0) = false ∧ decide ((G : Int) / 2 < 1) = true) ∨ (((G : Int) % 2 != 0) = false ∧ decide ((G : Int) / 2 < 1) = false ∧ decide ((n : Int) < 16 + 8 * ((G : Int) / 2)) = true) ∨ (((G : Int) % 2 != 0) = false ∧ decide ((G : Int) / 2 < 1) = false ∧ decide ((n : Int) < 16 + 8 * ((G : Int) / 2)) = false ∧ ((n : Int) % 2 != 0) = true) := by
      simp only [decide_eq_true_eq, decide_eq_false_iff_not, bne_iff_ne, bne_eq_false_iff_eq]
      omega
    have HNO := Lib.hid hno
    clear hn hG hv hbad hno HV
    rcases hcs with q1 | ⟨q1, q2⟩ | ⟨q1, q2, q3⟩ | ⟨q1, q2, q3, q4⟩
    all_goals
      go_enter Try.func29, Try.ntmps29
      go_wp2_with (first
        | (go_at_call 27; (with_reducible refine (HG.out _ HB.out).mono ?_); rintro e w1 ⟨rfl, hb1⟩; replace HB := Lib.hid (HB.out.trans (hb1.mono HB.out.size)); clear hb1)
        | fail)
      go_ret
      exact ⟨by rw [HNO.out]; rfl, HB.out⟩
  · have q1 : ((G : Int) % 2 != 0) = false := by simp only [bne_eq_false_iff_eq]; omega
    have q2 : decide ((G : Int) / 2 < 1) = false := by simp only [decide_eq_false_iff_not]; omega
    have q3 : decide ((n : Int) < 16 + 8 * ((G : Int) / 2)) = false := by simp only [decide_eq_false_iff_not]; omega
    have q4 : ((n : Int) % 2 != 0) = false := by simp only [bne_eq_false_iff_eq]; omega
    obtain ⟨s, hs⟩ : ∃ s : Nat, (G : Int) / 2 = s := ⟨G / 2, by omega⟩
    have hsn : 16 + 8 * s ≤ n := by omega
    have hv2 : ((segs4 bs s s).bind fun l => if lastL (-1) l = 65535 then some l else none).isSome = v := by
      rw [← hv]
      unfold load4S
      rw [hn, hG, if_neg (by omega), if_neg (by omega), hs, Int.toNat_natCast]
    have q5 : decide ((s : Int) < 1) = false := by simp only [decide_eq_false_iff_not]; omega
    have q6 : decide ((n : Int) < 16 + 8 * (s : Int)) = false := by simp only [decide_eq_false_iff_not]; omega
    have HV2 := Lib.hid hv2
    have HN := Lib.hid hn
    clear hn hG hbad hv hv2
    go_enter Try.func29, Try.ntmps29
    go_wp2_with (first
      | (go_at_call 27; (with_reducible refine (HG.out _ HB.out).mono ?_); rintro e w1 ⟨rfl, hb1⟩; replace HB := Lib.hid (HB.out.trans (hb1.mono HB.out.size)); clear hb1)
      | fail)
    clear q1 q2 q3 q4 q5 q6 HG hs
    go_loopw [5, 6] (fun la i wr => ∃ (k : Nat) (y : Int) (l : List Sv), k ≤ s ∧ i = .int .i64 k ∧ la = .int .i64 y ∧ Hid (segs4 bs s k = some l ∧ lastL (-1) l = y) ∧ Hid (Below w.heap.size w wr)) (fun _ i _ => s - (intOf i).toNat)
    case atStart => exact ⟨0, -1, [], Nat.zero_le _, rfl, rfl, Lib.hid ⟨rfl, rfl⟩, HB⟩
    case round =>
      obtain ⟨k, y, l, hk, rfl, rfl, HY, HB'⟩ := hrel
      replace HB := HB'
      clear HB'
      by_cases hlt : k < s
      · have hkm : (k : Int) < s := by omega
        obtain ⟨e, he⟩ : ∃ e, be16 bs (14 + 2 * k) = e := ⟨_, rfl⟩
        obtain ⟨f, hf⟩ : ∃ f, be16 bs (16 + 2 * s + 2 * k) = f := ⟨_, rfl⟩
        obtain ⟨o, ho⟩ : ∃ o, be16 bs (16 + 6 * s + 2 * k) = o := ⟨_, rfl⟩
        have hobd := be16_bd bs (16 + 6 * s + 2 * k)
        rw [ho] at hobd
        have hebd := be16_bd bs (14 + 2 * k)
        rw [he] at hebd
        have hfbd := be16_bd bs (16 + 2 * s + 2 * k)
        rw [hf] at hfbd
        obtain ⟨ob1, ob2⟩ := hobd
        obtain ⟨eb1, eb2⟩ := hebd
        obtain ⟨fb1, fb2⟩ := hfbd
        have hu1 : ∀ u, Below w.heap.size w u → Calls Try.prog 27 #[.slice A n c, .int .i64 (14 + 2 * (k : Int))] u fun e' w' => e' = .returned (.int .i64 e) ∧ Below u.heap.size u w' := fun u hu => by rw [← he]; exact HV.out u hu (14 + 2 * k) _ (by omega) (by omega)
        have hu2 : ∀ u, Below w.heap.size w u → Calls Try.prog 27 #[.slice A n c, .int .i64 (16 + 2 * (s : Int) + 2 * (k : Int))] u fun e' w' => e' = .returned (.int .i64 f) ∧ Below u.heap.size u w' := fun u hu => by rw [← hf]; exact HV.out u hu (16 + 2 * s + 2 * k) _ (by omega) (by omega)
        have hu3 : ∀ u, Below w.heap.size w u → Calls Try.prog 27 #[.slice A n c, .int .i64 (16 + 6 * (s : Int) + 2 * (k : Int))] u fun e' w' => e' = .returned (.int .i64 o) ∧ Below u.heap.size u w' := fun u hu => by rw [← ho]; exact HV.out u hu (16 + 6 * s + 2 * k) _ (by omega) (by omega)
        have HU1 := Lib.hid hu1
        have HU2 := Lib.hid hu2
        have HU3 := Lib.hid hu3
        clear hu1 hu2 hu3
        have hpaths : (decide (e < f) = true ∧ Hid (segs4 bs s (k + 1) = none)) ∨ (decide (e < f) = false ∧ decide (f ≤ y) = true ∧ Hid (segs4 bs s (k + 1) = none)) ∨ (decide (e < f) = false ∧ decide (f ≤ y) = false ∧ (o % 2 != 0) = true ∧ (f == 65535) = false ∧ Hid (segs4 bs s (k + 1) = none)) ∨ (decide (e < f) = false ∧ decide (f ≤ y) = false ∧ (o % 2 != 0) = true ∧ (f == 65535) = true ∧ (o == 65535) = false ∧ Hid (segs4 bs s (k + 1) = none)) ∨ (decide (e < f) = false ∧ decide (f ≤ y) = false ∧ (o % 2 != 0) = true ∧ (o != 0) = true ∧ (f == 65535) = true ∧ (o == 65535) = true ∧ Hid ((∃ l', segs4 bs s (k + 1) = some l' ∧ lastL (-1) l' = e))) ∨ (decide (e < f) = false ∧ decide (f ≤ y) = false ∧ (o % 2 != 0) = false ∧ (o != 0) = false ∧ Hid ((∃ l', segs4 bs s (k + 1) = some l' ∧ lastL (-1) l' = e))) ∨ (decide (e < f) = false ∧ decide (f ≤ y) = false ∧ (o % 2 != 0) = false ∧ (o != 0) = true ∧ (f == 65535) = false ∧ decide ((n : Int) < 16 + 6 * (s : Int) + 2 * (k : Int) + o + 2 * (e - f) + 2) = true ∧ Hid (segs4 bs s (k + 1) = none)) ∨ (decide (e < f) = false ∧ decide (f ≤ y) = false ∧ (o % 2 != 0) = false ∧ (o != 0) = true ∧ (f == 65535) = false ∧ decide ((n : Int) < 16 + 6 * (s : Int) + 2 * (k : Int) + o + 2 * (e - f) + 2) = false ∧ Hid ((∃ l', segs4 bs s (k + 1) = some l' ∧ lastL (-1) l' = e))) ∨ (decide (e < f) = false ∧ decide (f ≤ y) = false ∧ (o % 2 != 0) = false ∧ (o != 0) = true ∧ (f == 65535) = true ∧ (o == 65535) = false ∧ decide ((n : Int) < 16 + 6 * (s : Int) + 2 * (k : Int) + o + 2 * (e - f) + 2) = true ∧ Hid (segs4 bs s (k + 1) = none)) ∨ (decide (e < f) = false ∧ decide (f ≤ y) = false ∧ (o % 2 != 0) = false ∧ (o != 0) = true ∧ (f == 65535) = true ∧ (o == 65535) = false ∧ decide ((n : Int) < 16 + 6 * (s : Int) + 2 * (k : Int) + o + 2 * (e - f) + 2) = false ∧ Hid ((∃ l', segs4 bs s (k + 1) = some l' ∧ lastL (-1) l' = e))) := by
          have hlast := HY.out.2
          have hnn := HN.out
          by_cases a1 : e < f
          · exact .inl ⟨by simp; omega, Lib.hid (segs4_bad HY.out.1 (.inl (by rw [he, hf]; exact a1)))⟩
          have b1 : decide (e < f) = false := by simp; omega
          by_cases a2 : f ≤ y
          · exact .inr (.inl ⟨b1, by simp; omega, Lib.hid (segs4_bad HY.out.1 (.inr (by rw [hf, hlast]; exact a2)))⟩)
          have b2 : decide (f ≤ y) = false := by simp; omega
          have hgo := segs4_good HY.out.1 (show ¬ _ by rw [he, hf, hlast]; omega)
          have hbd : seg4 bs s k = none → Hid (segs4 bs s (k + 1) = none) := fun hq => Lib.hid (by rw [hgo, hq]; rfl)
          have hgd : (∃ sg, seg4 bs s k = some sg ∧ sg.l = e) → Hid (∃ l', segs4 bs s (k + 1) = some l' ∧ lastL (-1) l' = e) := fun ⟨sg, hq, hq2⟩ => Lib.hid ⟨l ++ [sg], by rw [hgo, hq]; rfl, by rw [lastL_snoc]; exact hq2⟩
          by_cases a3 : o % 2 = 0
          · have b3 : (o % 2 != 0) = false := by simpa using a3
            by_cases a4 : o = 0
            · exact .inr (.inr (.inr (.inr (.inr (.inl ⟨b1, b2, b3, by simpa using a4, hgd (seg4_plain he hf ho (.inl a4))⟩)))))
            have b4 : (o != 0) = true := by simpa using a4
            have b6 : (o == 65535) = false := by simp; omega
            by_cases a7 : (n : Int) < 16 + 6 * (s : Int) + 2 * (k : Int) + o + 2 * (e - f) + 2
            · have hR := hbd (seg4_far he hf ho (by omega) (by omega))
              by_cases a5 : f = 65535
              · exact .inr (.inr (.inr (.inr (.inr (.inr (.inr (.inr (.inl ⟨b1, b2, b3, b4, by simpa using a5, b6, by simpa using a7, hR⟩))))))))
              · exact .inr (.inr (.inr (.inr (.inr (.inr (.inl ⟨b1, b2, b3, b4, by simpa using a5, by simpa using a7, hR⟩))))))
            · have hR := hgd (seg4_list he hf ho (by omega) (by omega) (by omega))
              have b7 : decide ((n : Int) < 16 + 6 * (s : Int) + 2 * (k : Int) + o + 2 * (e - f) + 2) = false := by simp only [decide_eq_false_iff_not]; exact a7
              by_cases a5 : f = 65535
              · exact .inr (.inr (.inr (.inr (.inr (.inr (.inr (.inr (.inr ⟨b1, b2, b3, b4, by simpa using a5, b6, b7, hR⟩))))))))
              · exact .inr (.inr (.inr (.inr (.inr (.inr (.inr (.inl ⟨b1, b2, b3, b4, by simpa using a5, b7, hR⟩)))))))
          · have b3 : (o % 2 != 0) = true := by simpa using a3
            have b4 : (o != 0) = true := by simp; omega
            by_cases a5 : f = 65535
            · have b5 : (f == 65535) = true := by simpa using a5
              by_cases a6 : o = 65535
              · exact .inr (.inr (.inr (.inr (.inl ⟨b1, b2, b3, b4, b5, by simpa using a6, hgd (seg4_plain he hf ho (.inr ⟨a6, a5⟩))⟩))))
              · exact .inr (.inr (.inr (.inl ⟨b1, b2, b3, b5, by simpa using a6, hbd (seg4_odd hf ho (by omega) (by omega))⟩)))
            · exact .inr (.inr (.inl ⟨b1, b2, b3, by simpa using a5, hbd (seg4_odd hf ho (by omega) (by omega))⟩))
        have HK := Lib.hid (segs4_none (bs := bs) (n := s) (i := k + 1))
        clear he hf ho HY
        rcases hpaths with ⟨z1, HR⟩ | ⟨z1, z2, HR⟩ | ⟨z1, z2, z3, z4, HR⟩ | ⟨z1, z2, z3, z4, z5, HR⟩ | ⟨z1, z2, z3, z4, z5, z6, HR⟩ | ⟨z1, z2, z3, z4, HR⟩ | ⟨z1, z2, z3, z4, z5, z6, HR⟩ | ⟨z1, z2, z3, z4, z5, z6, HR⟩ | ⟨z1, z2, z3, z4, z5, z6, z7, HR⟩ | ⟨z1, z2, z3, z4, z5, z6, z7, HR⟩
        · have hno : v = false := by
            have h1 := HV2.out
            rw [HK.out HR.out s (by omega)] at h1
            exact h1.symm
          have HNO := Lib.hid hno
          clear hno HV2 HK
          go_wp2_with (first
            | (go_at_call 27; (with_reducible refine (HU1.out _ HB.out).mono ?_); rintro _ w1 ⟨rfl, hb1⟩; replace HB := Lib.hid (HB.out.trans (hb1.mono HB.out.size)); clear hb1)
            | (go_at_call 27; (with_reducible refine (HU2.out _ HB.out).mono ?_); rintro _ w1 ⟨rfl, hb1⟩; replace HB := Lib.hid (HB.out.trans (hb1.mono HB.out.size)); clear hb1)
            | (go_at_call 27; (with_reducible refine (HU3.out _ HB.out).mono ?_); rintro _ w1 ⟨rfl, hb1⟩; replace HB := Lib.hid (HB.out.trans (hb1.mono HB.out.size)); clear hb1)
            | fail)
          go_ret
          exact ⟨by rw [HNO.out]; rfl, HB.out⟩
        · have hno : v = false := by
            have h1 := HV2.out
            rw [HK.out HR.out s (by omega)] at h1
            exact h1.symm
          have HNO := Lib.hid hno
          clear hno HV2 HK
          go_wp2_with (first
            | (go_at_call 27; (with_reducible refine (HU1.out _ HB.out).mono ?_); rintro _ w1 ⟨rfl, hb1⟩; replace HB := Lib.hid (HB.out.trans (hb1.mono HB.out.size)); clear hb1)
            | (go_at_call 27; (with_reducible refine (HU2.out _ HB.out).mono ?_); rintro _ w1 ⟨rfl, hb1⟩; replace HB := Lib.hid (HB.out.trans (hb1.mono HB.out.size)); clear hb1)
            | (go_at_call 27; (with_reducible refine (HU3.out _ HB.out).mono ?_); rintro _ w1 ⟨rfl, hb1⟩; replace HB := Lib.hid (HB.out.trans (hb1.mono HB.out.size)); clear hb1)
            | fail)
          go_ret
          exact ⟨by rw [HNO.out]; rfl, HB.out⟩
        · have hno : v = false := by
            have h1 := HV2.out
            rw [HK.out HR.out s (by omega)] at h1
            exact h1.symm
          have HNO := Lib.hid hno
          clear hno HV2 HK
          go_wp2_with (first
            | (go_at_call 27; (with_reducible refine (HU1.out _ HB.out).mono ?_); rintro _ w1 ⟨rfl, hb1⟩; replace HB := Lib.hid (HB.out.trans (hb1.mono HB.out.size)); clear hb1)
            | (go_at_call 27; (with_reducible refine (HU2.out _ HB.out).mono ?_); rintro _ w1 ⟨rfl, hb1⟩; replace HB := Lib.hid (HB.out.trans (hb1.mono HB.out.size)); clear hb1)
            | (go_at_call 27; (with_reducible refine (HU3.out _ HB.out).mono ?_); rintro _ w1 ⟨rfl, hb1⟩; replace HB := Lib.hid (HB.out.trans (hb1.mono HB.out.size)); clear hb1)
            | fail)
          go_ret
          exact ⟨by rw [HNO.out]; rfl, HB.out⟩
        · have hno : v = false := by
            have h1 := HV2.out
            rw [HK.out HR.out s (by omega)] at h1
            exact h1.symm
          have HNO := Lib.hid hno
          clear hno HV2 HK
          go_wp2_with (first
            | (go_at_call 27; (with_reducible refine (HU1.out _ HB.out).mono ?_); rintro _ w1 ⟨rfl, hb1⟩; replace HB := Lib.hid (HB.out.trans (hb1.mono HB.out.size)); clear hb1)
            | (go_at_call 27; (with_reducible refine (HU2.out _ HB.out).mono ?_); rintro _ w1 ⟨rfl, hb1⟩; replace HB := Lib.hid (HB.out.trans (hb1.mono HB.out.size)); clear hb1)
            | (go_at_call 27; (with_reducible refine (HU3.out _ HB.out).mono ?_); rintro _ w1 ⟨rfl, hb1⟩; replace HB := Lib.hid (HB.out.trans (hb1.mono HB.out.size)); clear hb1)
            | fail)
          go_ret
          exact ⟨by rw [HNO.out]; rfl, HB.out⟩
        · obtain ⟨l', hl1, hl2⟩ := HR.out
          have HN := Lib.hid (And.intro hl1 hl2)
          clear hl1 hl2 HR
          go_wp2_with (first
            | (go_at_call 27; (with_reducible refine (HU1.out _ HB.out).mono ?_); rintro _ w1 ⟨rfl, hb1⟩; replace HB := Lib.hid (HB.out.trans (hb1.mono HB.out.size)); clear hb1)
            | (go_at_call 27; (with_reducible refine (HU2.out _ HB.out).mono ?_); rintro _ w1 ⟨rfl, hb1⟩; replace HB := Lib.hid (HB.out.trans (hb1.mono HB.out.size)); clear hb1)
            | (go_at_call 27; (with_reducible refine (HU3.out _ HB.out).mono ?_); rintro _ w1 ⟨rfl, hb1⟩; replace HB := Lib.hid (HB.out.trans (hb1.mono HB.out.size)); clear hb1)
            | fail)
          go_roundw
          case rel => exact ⟨k + 1, _, l', by omega, by go_num, rfl, HN, HB⟩
          case measure => simp [intOf]; omega
        · obtain ⟨l', hl1, hl2⟩ := HR.out
          have HN := Lib.hid (And.intro hl1 hl2)
          clear hl1 hl2 HR
          go_wp2_with (first
            | (go_at_call 27; (with_reducible refine (HU1.out _ HB.out).mono ?_); rintro _ w1 ⟨rfl, hb1⟩; replace HB := Lib.hid (HB.out.trans (hb1.mono HB.out.size)); clear hb1)
            | (go_at_call 27; (with_reducible refine (HU2.out _ HB.out).mono ?_); rintro _ w1 ⟨rfl, hb1⟩; replace HB := Lib.hid (HB.out.trans (hb1.mono HB.out.size)); clear hb1)
            | (go_at_call 27; (with_reducible refine (HU3.out _ HB.out).mono ?_); rintro _ w1 ⟨rfl, hb1⟩; replace HB := Lib.hid (HB.out.trans (hb1.mono HB.out.size)); clear hb1)
            | fail)
          go_roundw
          case rel => exact ⟨k + 1, _, l', by omega, by go_num, rfl, HN, HB⟩
          case measure => simp [intOf]; omega
        · have hno : v = false := by
            have h1 := HV2.out
            rw [HK.out HR.out s (by omega)] at h1
            exact h1.symm
          have HNO := Lib.hid hno
          clear hno HV2 HK
          go_wp2_with (first
            | (go_at_call 27; (with_reducible refine (HU1.out _ HB.out).mono ?_); rintro _ w1 ⟨rfl, hb1⟩; replace HB := Lib.hid (HB.out.trans (hb1.mono HB.out.size)); clear hb1)
            | (go_at_call 27; (with_reducible refine (HU2.out _ HB.out).mono ?_); rintro _ w1 ⟨rfl, hb1⟩; replace HB := Lib.hid (HB.out.trans (hb1.mono HB.out.size)); clear hb1)
            | (go_at_call 27; (with_reducible refine (HU3.out _ HB.out).mono ?_); rintro _ w1 ⟨rfl, hb1⟩; replace HB := Lib.hid (HB.out.trans (hb1.mono HB.out.size)); clear hb1)
            | fail)
          go_ret
          exact ⟨by rw [HNO.out]; rfl, HB.out⟩
        · obtain ⟨l', hl1, hl2⟩ := HR.out
          have HN := Lib.hid (And.intro hl1 hl2)
          clear hl1 hl2 HR
          go_wp2_with (first
            | (go_at_call 27; (with_reducible refine (HU1.out _ HB.out).mono ?_); rintro _ w1 ⟨rfl, hb1⟩; replace HB := Lib.hid (HB.out.trans (hb1.mono HB.out.size)); clear hb1)
            | (go_at_call 27; (with_reducible refine (HU2.out _ HB.out).mono ?_); rintro _ w1 ⟨rfl, hb1⟩; replace HB := Lib.hid (HB.out.trans (hb1.mono HB.out.size)); clear hb1)
            | (go_at_call 27; (with_reducible refine (HU3.out _ HB.out).mono ?_); rintro _ w1 ⟨rfl, hb1⟩; replace HB := Lib.hid (HB.out.trans (hb1.mono HB.out.size)); clear hb1)
            | fail)
          go_roundw
          case rel => exact ⟨k + 1, _, l', by omega, by go_num, rfl, HN, HB⟩
          case measure => simp [intOf]; omega
        · have hno : v = false := by
            have h1 := HV2.out
            rw [HK.out HR.out s (by omega)] at h1
            exact h1.symm
          have HNO := Lib.hid hno
          clear hno HV2 HK
          go_wp2_with (first
            | (go_at_call 27; (with_reducible refine (HU1.out _ HB.out).mono ?_); rintro _ w1 ⟨rfl, hb1⟩; replace HB := Lib.hid (HB.out.trans (hb1.mono HB.out.size)); clear hb1)
            | (go_at_call 27; (with_reducible refine (HU2.out _ HB.out).mono ?_); rintro _ w1 ⟨rfl, hb1⟩; replace HB := Lib.hid (HB.out.trans (hb1.mono HB.out.size)); clear hb1)
            | (go_at_call 27; (with_reducible refine (HU3.out _ HB.out).mono ?_); rintro _ w1 ⟨rfl, hb1⟩; replace HB := Lib.hid (HB.out.trans (hb1.mono HB.out.size)); clear hb1)
            | fail)
          go_ret
          exact ⟨by rw [HNO.out]; rfl, HB.out⟩
        · obtain ⟨l', hl1, hl2⟩ := HR.out
          have HN := Lib.hid (And.intro hl1 hl2)
          clear hl1 hl2 HR
          go_wp2_with (first
            | (go_at_call 27; (with_reducible refine (HU1.out _ HB.out).mono ?_); rintro _ w1 ⟨rfl, hb1⟩; replace HB := Lib.hid (HB.out.trans (hb1.mono HB.out.size)); clear hb1)
            | (go_at_call 27; (with_reducible refine (HU2.out _ HB.out).mono ?_); rintro _ w1 ⟨rfl, hb1⟩; replace HB := Lib.hid (HB.out.trans (hb1.mono HB.out.size)); clear hb1)
            | (go_at_call 27; (with_reducible refine (HU3.out _ HB.out).mono ?_); rintro _ w1 ⟨rfl, hb1⟩; replace HB := Lib.hid (HB.out.trans (hb1.mono HB.out.size)); clear hb1)
            | fail)
          go_roundw
          case rel => exact ⟨k + 1, _, l', by omega, by go_num, rfl, HN, HB⟩
          case measure => simp [intOf]; omega
      · obtain rfl : k = s := by omega
        have hve := HV2.out
        rw [HY.out.1] at hve
        have HT : Hid ((y == 65535) = v) := Lib.hid (by
          rw [← hve, ← HY.out.2]
          show _ = (if lastL (-1) l = 65535 then some l else none).isSome
          by_cases h1 : lastL (-1) l = 65535
          · rw [if_pos h1]; simp [h1]
          · rw [if_neg h1]; simp [h1])
        clear hve
        go_wp2_with (first | fail)
        go_ret
        exact ⟨by rw [← HT.out]; rfl, HB.out⟩
end Go.Proofs.Ytlbfefdmbdjjcaa

namespace Go.Proofs.Ytlbfefdmbdjjcaa
open Go.RowKit Go.Shelf

/-- The document's map in memory. -/
def RmP (w : World) (g : Nat) (bs : List UInt8) (f n : Int) : Prop :=
  ∃ A m c, Blk w g 62 [.slice A m c, .int .i64 f, .int .i64 n] ∧ SlAt w A m (bs.map byteV) ∧ bs.length = m
def RLoadR (v : LdV) (bs : List UInt8) (n : Int) (w : World) (e : Ending) (w' : World) : Prop :=
  (match v with
    | .err x => e = .returned (.tuple #[.pointer none, .int .i64 x])
    | .ok f _ => ∃ g, e = .returned (.tuple #[.pointer (some ⟨g, 0, none⟩), .int .i64 0]) ∧ w.heap.size ≤ g ∧ RmP w' g (bs.take (sizeS bs f).toNat) f n) ∧ Below w.heap.size w w'
theorem load6_some {bs : List UInt8} : (load6S bs).isSome = (decide (10 ≤ bs.length) && decide (10 + 2 * be16 bs 8 ≤ bs.length) && decide (be16 bs 6 + be16 bs 8 ≤ 65536)) := by
  have h8 := be16_bd bs 8
  unfold load6S
  by_cases h1 : bs.length < 10
  · rw [if_pos h1]
    simp
    omega
  · rw [if_neg h1]
    by_cases h2 : bs.length < 10 + 2 * (be16 bs 8).toNat ∨ 65536 < be16 bs 6 + be16 bs 8
    · rw [if_pos h2]
      simp
      omega
    · rw [if_neg h2]
      have h3 : (decide (10 ≤ bs.length) && decide (10 + 2 * be16 bs 8 ≤ bs.length) && decide (be16 bs 6 + be16 bs 8 ≤ 65536)) = true := by
        simp
        omega
      rw [h3]
      split <;> rfl
theorem rlo_err {v : LdV} {bs : List UInt8} {n x : Int} {w w' : World} (h : v = .err x) (hb : Below w.heap.size w w') : RLoadR v bs n w (.returned (.tuple #[.pointer none, .int .i64 x])) w' := by subst h; exact ⟨rfl, hb⟩
theorem rlo_ok {v : LdV} {bs xs : List UInt8} {n f : Int} {S : List Sv} {g : Nat} {w w' : World} (h : v = .ok f S) (hx : bs.take (sizeS bs f).toNat = xs) (hg : w.heap.size ≤ g) (hp : RmP w' g xs f n) (hb : Below w.heap.size w w') : RLoadR v bs n w (.returned (.tuple #[.pointer (some ⟨g, 0, none⟩), .int .i64 0])) w' := by
  subst h hx
  exact ⟨⟨g, rfl, hg, hp⟩, hb⟩
theorem load4_short {bs : List UInt8} (h : bs.length < 24) : load4S bs = none := by
  unfold load4S
  by_cases h8 : bs.length < 8
  · rw [if_pos h8]
  · rw [if_neg h8, if_pos (by omega)]
set_option maxRecDepth 20000 in
set_option maxHeartbeats 8000000 in
theorem rLoad_any {w : World} {A : Option Addr} {n c : Nat} {bs : List UInt8} (nn : Int) (h : SlAt w A n (bs.map byteV)) (hn : bs.length = n) (hc : n ≤ c) (hm : n ≤ 1000000) (hnn : 1 ≤ nn ∧ nn ≤ 65535) :
    Calls Try.prog 11 #[.slice A n c, .int .i64 nn] w (RLoadR (ldV bs nn) bs nn w) := by
  obtain ⟨V, hV⟩ : ∃ V, ldV bs nn = V := ⟨_, rfl⟩
  rw [hV]
  unfold ldV at hV
  rw [if_neg (by omega), hn] at hV
  have HB : Hid (Below w.heap.size w w) := Lib.hid (Below.refl _ _)
  by_cases h2 : n < 2
  · rw [if_pos h2] at hV
    have d1 : decide ((n : Int) < 2) = true := by simp; omega
    have HR := Lib.hid (rlo_err (bs := bs) (n := nn) hV.symm HB.out)
    clear hV h hn
    generalize RLoadR V bs nn w = R at *
    go_enter Try.func11, Try.ntmps11
    go_wp2_with (first | fail)
    exact HR.out
  rw [if_neg h2] at hV
  have d1 : decide ((n : Int) < 2) = false := by simp; omega
  obtain ⟨f, hf⟩ : ∃ f, be16 bs 0 = f := ⟨_, rfl⟩
  have HF := Lib.hid fun (u : World) (hu : Below w.heap.size w u) => (ru16_any (c := c) (slat_kept h hu) hn (p := 0) (q := 0) rfl (by omega) hm)
  have hle := fun (u : World) (hu : Below w.heap.size w u) => rlength_any (c := c) (slat_kept h hu) hn (by omega) hm
  rw [hf] at hV hle HF
  obtain ⟨z, hz⟩ : ∃ z, sizeS bs f = z := ⟨_, rfl⟩
  rw [hz] at hle hV
  have HL := Lib.hid hle
  clear hle
  by_cases hfm : isFmtB f = false
  · rw [if_pos hfm] at hV
    have HR := Lib.hid fun (u : World) (hu : Below w.heap.size w u) => (rlo_err (bs := bs) (n := nn) hV.symm hu)
    clear hV h hn HL
    generalize RLoadR V bs nn w = R at *
    have hfa := formats_any f
    rw [hfm] at hfa
    have HFA := Lib.hid hfa
    clear hfa hfm
    go_enter Try.func11, Try.ntmps11
    go_wp2_with (first
      | (go_at_call 27; (with_reducible refine (HF.out _ HB.out).mono ?_); rintro e w1 ⟨rfl, hb1⟩; replace HB := Lib.hid (HB.out.trans (hb1.mono HB.out.size)); clear hb1)
      | (go_at_call 16; (with_reducible refine (HFA.out _).mono ?_); rintro e w2 ⟨rfl, rfl⟩)
      | fail)
    exact HR.out _ HB.out
  rw [Bool.not_eq_false] at hfm
  rw [if_neg (by rw [hfm]; simp)] at hV
  have hfa := formats_any f
  rw [hfm] at hfa
  have HFA := Lib.hid hfa
  clear hfa
  by_cases hzb : z < 0 ∨ (n : Int) < z
  · rw [if_pos hzb] at hV
    have HR := Lib.hid fun (u : World) (hu : Below w.heap.size w u) => (rlo_err (bs := bs) (n := nn) hV.symm hu)
    have hcs : decide (z < 0) = true ∨ (decide (z < 0) = false ∧ decide ((n : Int) < z) = true) := by simp; omega
    clear hV h hn hzb
    generalize RLoadR V bs nn w = R at *
    rcases hcs with d2 | ⟨d2, d3⟩
    all_goals
      go_enter Try.func11, Try.ntmps11
      go_wp2_with (first
        | (go_at_call 27; (with_reducible refine (HF.out _ HB.out).mono ?_); rintro e w1 ⟨rfl, hb1⟩; replace HB := Lib.hid (HB.out.trans (hb1.mono HB.out.size)); clear hb1)
        | (go_at_call 28; (with_reducible refine (HL.out _ HB.out).mono ?_); rintro e w1 ⟨rfl, hb1⟩; replace HB := Lib.hid (HB.out.trans (hb1.mono HB.out.size)); clear hb1)
        | (go_at_call 16; (with_reducible refine (HFA.out _).mono ?_); rintro e w2 ⟨rfl, rfl⟩)
        | fail)
      exact HR.out _ HB.out
  rw [if_neg hzb] at hV
  obtain ⟨m, rfl⟩ : ∃ m : Nat, z = m := ⟨z.toNat, by omega⟩
  rw [Int.toNat_natCast] at hV
  have hmn : m ≤ n := by omega
  have d2 : decide ((m : Int) < 0) = false := by simp
  have d3 : decide ((n : Int) < m) = false := by simp; omega
  have H := Lib.hid h
  obtain ⟨i0, hi0, hz0, hz1, hz2⟩ := info_parts u8_info
  obtain ⟨xs, hxs⟩ : ∃ xs, bs.take m = xs := ⟨_, rfl⟩
  have hxl : xs.length = m := by rw [← hxs, List.length_take]; omega
  rw [hxs] at hV
  have hkey : ∀ u, Below w.heap.size w u → SlAt (u.alloc (.cells #[] 5)) A m (xs.map byteV) := fun u hu => by
    have h1 := (slat_kept h hu).sub 0 m (by omega)
    have h2 : Option.map (fun x => x.add 0) A = A := by cases A <;> rfl
    rw [h2, List.drop_zero, ← List.map_take, hxs] at h1
    exact h1.keep (bel_alloc bel_refl).below
  have HK := Lib.hid hkey
  have d4 : decide (n < m) = false := by simp; omega
  have hnew : ∀ u : World, (u.alloc (.cells #[] 5)).heap[u.heap.size]? = some (.cells #[] 5 (0, 0)) := fun u => heap_alloc_new u _
  have HNW := Lib.hid hnew
  have hAL : ∀ (u u' : World), Below w.heap.size w u → Below u.heap.size (u.alloc (.cells #[] 5)) u' → Below w.heap.size w u' := fun u u' hu hb => hu.trans (((bel_alloc bel_refl).below.trans hb).mono hu.size)
  have HAL := Lib.hid hAL
  have hxt : bs.take (sizeS bs f).toNat = xs := by rw [hz, Int.toNat_natCast]; exact hxs
  have hU : ∀ (u : World) (A2 : Option Addr) (c2 : Nat), SlAt u A2 m (xs.map byteV) → ∀ (p : Nat) (q : Int), q = p → p + 2 ≤ m → Calls Try.prog 27 #[.slice A2 m c2, .int .i64 q] u fun e w' => e = .returned (.int .i64 (be16 xs p)) ∧ Below u.heap.size u w' := fun u A2 c2 hs p q hq hp => ru16_any (c := c2) hs hxl (p := p) hq hp (by omega)
  have HU := Lib.hid hU
  have hERR : loadS xs f = none → ∀ u, Below w.heap.size w u → RLoadR V bs nn w (.returned (.tuple #[.pointer none, .int .i64 80])) u := fun hno u hu => rlo_err (by rw [← hV, hno]; rfl) hu
  have hOK : (loadS xs f).isSome = true → ∀ (u : World) (A2 : Option Addr) (c2 : Nat), Below w.heap.size w u → SlAt u A2 m (xs.map byteV) → RLoadR V bs nn w (.returned (.tuple #[.pointer (some ⟨u.heap.size, 0, none⟩), .int .i64 0])) (u.alloc (.cells #[.slice A2 m c2, .int .i64 f, .int .i64 nn] 62)) := fun hsome u A2 c2 hu hs => by
    obtain ⟨S, hS⟩ := Option.isSome_iff_exists.1 hsome
    have hal : Below u.heap.size u (u.alloc (.cells #[.slice A2 m c2, .int .i64 f, .int .i64 nn] 62)) := (bel_alloc bel_refl).below
    exact rlo_ok (by rw [← hV, hS]; rfl) hxt hu.size ⟨A2, m, c2, Blk.new u _ [_, _, _], hs.keep hal, hxl⟩ (hu.trans (hal.mono hu.size))
  generalize RLoadR V bs nn w = R at *
  have hfs : f = 0 ∨ f = 4 ∨ f = 6 ∨ f = 12 := by unfold isFmtB at hfm; simpa using hfm
  clear h hkey hnew hAL hV hxs hfm hn hU hf hz hxt
  rcases hfs with rfl | rfl | rfl | rfl
  · by_cases h5 : 262 ≤ m
    · have HO := Lib.hid (hOK (by unfold loadS load0S; rw [if_pos rfl, if_neg (by omega)]; rfl))
      have d5 : decide ((262 : Int) ≤ m) = true := by simp; omega
      have d5' : decide (262 ≤ m) = true := by simp; omega
      clear hOK hERR
      go_enter Try.func11, Try.ntmps11
      go_wp2_with (first
          | (go_at_call 27; (with_reducible refine (HF.out _ HB.out).mono ?_); rintro e w1 ⟨rfl, hb1⟩; replace HB := Lib.hid (HB.out.trans (hb1.mono HB.out.size)); clear hb1)
          | (go_at_call 28; (with_reducible refine (HL.out _ HB.out).mono ?_); rintro e w1 ⟨rfl, hb1⟩; replace HB := Lib.hid (HB.out.trans (hb1.mono HB.out.size)); clear hb1)
          | (go_at_call 16; (with_reducible refine (HFA.out _).mono ?_); rintro e w2 ⟨rfl, rfl⟩)
          | (at_builtin; refine wpList_append_fresh (by rfl) (.tmp 27) (.tmp 30) _ (by rfl) 5 i0 _ 1 Try.underlying22 hi0 hz0 hz1 hz2 rfl w1.heap.size (by rfl) (HNW.out w1) A m c _ (by rfl) (HK.out w1 HB.out) (bytes_one _) (by unfold maxLen; omega) (by omega) ?_; intro A2 c2 w2 hs2 hb2 hl2; have HS := Lib.hid hs2; replace HB := Lib.hid (HAL.out _ _ HB.out hb2); clear hs2 hb2 hl2)
          | fail)
      exact HO.out _ _ _ HB.out HS.out
    · have HE := Lib.hid (hERR (by unfold loadS load0S; rw [if_pos rfl, if_pos (by omega)]))
      have d5 : decide ((262 : Int) ≤ m) = false := by simp; omega
      have d5' : decide (262 ≤ m) = false := by simp; omega
      clear hOK hERR
      go_enter Try.func11, Try.ntmps11
      go_wp2_with (first
          | (go_at_call 27; (with_reducible refine (HF.out _ HB.out).mono ?_); rintro e w1 ⟨rfl, hb1⟩; replace HB := Lib.hid (HB.out.trans (hb1.mono HB.out.size)); clear hb1)
          | (go_at_call 28; (with_reducible refine (HL.out _ HB.out).mono ?_); rintro e w1 ⟨rfl, hb1⟩; replace HB := Lib.hid (HB.out.trans (hb1.mono HB.out.size)); clear hb1)
          | (go_at_call 16; (with_reducible refine (HFA.out _).mono ?_); rintro e w2 ⟨rfl, rfl⟩)
          | (at_builtin; refine wpList_append_fresh (by rfl) (.tmp 27) (.tmp 30) _ (by rfl) 5 i0 _ 1 Try.underlying22 hi0 hz0 hz1 hz2 rfl w1.heap.size (by rfl) (HNW.out w1) A m c _ (by rfl) (HK.out w1 HB.out) (bytes_one _) (by unfold maxLen; omega) (by omega) ?_; intro A2 c2 w2 hs2 hb2 hl2; have HS := Lib.hid hs2; replace HB := Lib.hid (HAL.out _ _ HB.out hb2); clear hs2 hb2 hl2)
          | fail)
      exact HE.out _ HB.out
  · have hls : loadS xs 4 = load4S xs := by unfold loadS; rw [if_neg (by decide), if_pos rfl]
    by_cases h5 : 24 ≤ m
    · have d5 : decide ((24 : Int) ≤ m) = true := by simp; omega
      have d5' : decide (24 ≤ m) = true := by simp; omega
      obtain ⟨v, hv⟩ : ∃ v, (load4S xs).isSome = v := ⟨_, rfl⟩
      have hm' : ∀ (u : World) (A2 : Option Addr) (c2 : Nat), SlAt u A2 m (xs.map byteV) → Calls Try.prog 29 #[.slice A2 m c2] u fun e w' => e = .returned (.bool v) ∧ Below u.heap.size u w' := fun u A2 c2 hs => by rw [← hv]; exact rmay4_any hs hxl h5 (by omega)
      have HM := Lib.hid hm'
      clear hm'
      cases v with
      | true =>
        have HO := Lib.hid (hOK (by rw [hls]; exact hv))
        clear hOK hERR hls hv
        go_enter Try.func11, Try.ntmps11
        go_wp2_with (first
          | (go_at_call 27; (with_reducible refine (HF.out _ HB.out).mono ?_); rintro e w1 ⟨rfl, hb1⟩; replace HB := Lib.hid (HB.out.trans (hb1.mono HB.out.size)); clear hb1)
          | (go_at_call 28; (with_reducible refine (HL.out _ HB.out).mono ?_); rintro e w1 ⟨rfl, hb1⟩; replace HB := Lib.hid (HB.out.trans (hb1.mono HB.out.size)); clear hb1)
          | (go_at_call 16; (with_reducible refine (HFA.out _).mono ?_); rintro e w2 ⟨rfl, rfl⟩)
          | (at_builtin; refine wpList_append_fresh (by rfl) (.tmp 27) (.tmp 30) _ (by rfl) 5 i0 _ 1 Try.underlying22 hi0 hz0 hz1 hz2 rfl w1.heap.size (by rfl) (HNW.out w1) A m c _ (by rfl) (HK.out w1 HB.out) (bytes_one _) (by unfold maxLen; omega) (by omega) ?_; intro A2 c2 w2 hs2 hb2 hl2; have HS := Lib.hid hs2; replace HB := Lib.hid (HAL.out _ _ HB.out hb2); clear hs2 hb2 hl2)
          | (go_at_call 29; (with_reducible refine (HM.out _ _ _ HS.out).mono ?_); rintro e w3 ⟨rfl, hb3⟩; replace HB := Lib.hid (HB.out.trans (hb3.mono HB.out.size)); replace HS := Lib.hid (slat_kept HS.out hb3); clear hb3)
          | fail)
        exact HO.out _ _ _ HB.out HS.out
      | false =>
        have HE := Lib.hid (hERR (by rw [hls]; exact Option.not_isSome_iff_eq_none.1 (by rw [hv]; simp)))
        clear hOK hERR hls hv
        go_enter Try.func11, Try.ntmps11
        go_wp2_with (first
          | (go_at_call 27; (with_reducible refine (HF.out _ HB.out).mono ?_); rintro e w1 ⟨rfl, hb1⟩; replace HB := Lib.hid (HB.out.trans (hb1.mono HB.out.size)); clear hb1)
          | (go_at_call 28; (with_reducible refine (HL.out _ HB.out).mono ?_); rintro e w1 ⟨rfl, hb1⟩; replace HB := Lib.hid (HB.out.trans (hb1.mono HB.out.size)); clear hb1)
          | (go_at_call 16; (with_reducible refine (HFA.out _).mono ?_); rintro e w2 ⟨rfl, rfl⟩)
          | (at_builtin; refine wpList_append_fresh (by rfl) (.tmp 27) (.tmp 30) _ (by rfl) 5 i0 _ 1 Try.underlying22 hi0 hz0 hz1 hz2 rfl w1.heap.size (by rfl) (HNW.out w1) A m c _ (by rfl) (HK.out w1 HB.out) (bytes_one _) (by unfold maxLen; omega) (by omega) ?_; intro A2 c2 w2 hs2 hb2 hl2; have HS := Lib.hid hs2; replace HB := Lib.hid (HAL.out _ _ HB.out hb2); clear hs2 hb2 hl2)
          | (go_at_call 29; (with_reducible refine (HM.out _ _ _ HS.out).mono ?_); rintro e w3 ⟨rfl, hb3⟩; replace HB := Lib.hid (HB.out.trans (hb3.mono HB.out.size)); replace HS := Lib.hid (slat_kept HS.out hb3); clear hb3)
          | fail)
        exact HE.out _ HB.out
    · have d5 : decide ((24 : Int) ≤ m) = false := by simp; omega
      have d5' : decide (24 ≤ m) = false := by simp; omega
      have HE := Lib.hid (hERR (by rw [hls]; exact load4_short (by omega)))
      clear hOK hERR hls
      go_enter Try.func11, Try.ntmps11
      go_wp2_with (first
          | (go_at_call 27; (with_reducible refine (HF.out _ HB.out).mono ?_); rintro e w1 ⟨rfl, hb1⟩; replace HB := Lib.hid (HB.out.trans (hb1.mono HB.out.size)); clear hb1)
          | (go_at_call 28; (with_reducible refine (HL.out _ HB.out).mono ?_); rintro e w1 ⟨rfl, hb1⟩; replace HB := Lib.hid (HB.out.trans (hb1.mono HB.out.size)); clear hb1)
          | (go_at_call 16; (with_reducible refine (HFA.out _).mono ?_); rintro e w2 ⟨rfl, rfl⟩)
          | (at_builtin; refine wpList_append_fresh (by rfl) (.tmp 27) (.tmp 30) _ (by rfl) 5 i0 _ 1 Try.underlying22 hi0 hz0 hz1 hz2 rfl w1.heap.size (by rfl) (HNW.out w1) A m c _ (by rfl) (HK.out w1 HB.out) (bytes_one _) (by unfold maxLen; omega) (by omega) ?_; intro A2 c2 w2 hs2 hb2 hl2; have HS := Lib.hid hs2; replace HB := Lib.hid (HAL.out _ _ HB.out hb2); clear hs2 hb2 hl2)
          | fail)
      exact HE.out _ HB.out
  · have hls : (loadS xs 6).isSome = (decide (10 ≤ m) && decide (10 + 2 * be16 xs 8 ≤ m) && decide (be16 xs 6 + be16 xs 8 ≤ 65536)) := by
      unfold loadS
      rw [if_neg (by decide), if_neg (by decide), if_pos rfl, load6_some, hxl]
    obtain ⟨f6, h6⟩ : ∃ f6, be16 xs 6 = f6 := ⟨_, rfl⟩
    obtain ⟨k8, h8⟩ : ∃ k8, be16 xs 8 = k8 := ⟨_, rfl⟩
    have b6 := be16_bd xs 6
    have b8 := be16_bd xs 8
    rw [h6, h8] at hls
    rw [h6] at b6
    rw [h8] at b8
    obtain ⟨b61, b62⟩ := b6
    obtain ⟨b81, b82⟩ := b8
    have hcs : (decide ((10 : Int) ≤ m) = false ∧ (loadS xs 6).isSome = false) ∨ (decide ((10 : Int) ≤ m) = true ∧ ((decide (10 + 2 * k8 ≤ m) = false ∧ (loadS xs 6).isSome = false) ∨ (decide (10 + 2 * k8 ≤ m) = true ∧ ((decide (f6 + k8 ≤ 65536) = false ∧ (loadS xs 6).isSome = false) ∨ (decide (f6 + k8 ≤ 65536) = true ∧ (loadS xs 6).isSome = true))))) := by
      rw [hls]
      by_cases c1 : 10 ≤ m
      · by_cases c2 : 10 + 2 * k8 ≤ m
        · by_cases c3 : f6 + k8 ≤ 65536
          · refine .inr ⟨by simp; omega, .inr ⟨by simp; omega, .inr ⟨by simp; omega, by simp; omega⟩⟩⟩
          · refine .inr ⟨by simp; omega, .inr ⟨by simp; omega, .inl ⟨by simp; omega, by simp; omega⟩⟩⟩
        · refine .inr ⟨by simp; omega, .inl ⟨by simp; omega, by simp; omega⟩⟩
      · refine .inl ⟨by simp; omega, by simp; omega⟩
    have hu6 : 10 ≤ m → ∀ (u : World) (A2 : Option Addr) (c2 : Nat), SlAt u A2 m (xs.map byteV) → Calls Try.prog 27 #[.slice A2 m c2, .int .i64 6] u fun e w' => e = .returned (.int .i64 f6) ∧ Below u.heap.size u w' := fun hm u A2 c2 hs => by rw [← h6]; exact HU.out u A2 c2 hs 6 6 rfl (by omega)
    have hu8 : 10 ≤ m → ∀ (u : World) (A2 : Option Addr) (c2 : Nat), SlAt u A2 m (xs.map byteV) → Calls Try.prog 27 #[.slice A2 m c2, .int .i64 8] u fun e w' => e = .returned (.int .i64 k8) ∧ Below u.heap.size u w' := fun hm u A2 c2 hs => by rw [← h8]; exact HU.out u A2 c2 hs 8 8 rfl (by omega)
    clear hls h6 h8
    rcases hcs with ⟨d5, hno⟩ | ⟨d5, hcs⟩
    · have HE := Lib.hid (hERR (Option.not_isSome_iff_eq_none.1 (by rw [hno]; simp)))
      have d5' : decide (10 ≤ m) = false := by simp at d5 ⊢; omega
      clear hOK hERR hno
      go_enter Try.func11, Try.ntmps11
      go_wp2_with (first
          | (go_at_call 27; (with_reducible refine (HF.out _ HB.out).mono ?_); rintro e w1 ⟨rfl, hb1⟩; replace HB := Lib.hid (HB.out.trans (hb1.mono HB.out.size)); clear hb1)
          | (go_at_call 28; (with_reducible refine (HL.out _ HB.out).mono ?_); rintro e w1 ⟨rfl, hb1⟩; replace HB := Lib.hid (HB.out.trans (hb1.mono HB.out.size)); clear hb1)
          | (go_at_call 16; (with_reducible refine (HFA.out _).mono ?_); rintro e w2 ⟨rfl, rfl⟩)
          | (at_builtin; refine wpList_append_fresh (by rfl) (.tmp 27) (.tmp 30) _ (by rfl) 5 i0 _ 1 Try.underlying22 hi0 hz0 hz1 hz2 rfl w1.heap.size (by rfl) (HNW.out w1) A m c _ (by rfl) (HK.out w1 HB.out) (bytes_one _) (by unfold maxLen; omega) (by omega) ?_; intro A2 c2 w2 hs2 hb2 hl2; have HS := Lib.hid hs2; replace HB := Lib.hid (HAL.out _ _ HB.out hb2); clear hs2 hb2 hl2)
          | fail)
      exact HE.out _ HB.out
    · have d5' : decide (10 ≤ m) = true := by simp at d5 ⊢; omega
      have HU6 := Lib.hid (hu6 (by simp at d5; omega))
      have HU8 := Lib.hid (hu8 (by simp at d5; omega))
      clear hu6 hu8
      rcases hcs with ⟨d6, hno⟩ | ⟨d6, ⟨d7, hno⟩ | ⟨d7, hyes⟩⟩
      · have HE := Lib.hid (hERR (Option.not_isSome_iff_eq_none.1 (by rw [hno]; simp)))
        clear hOK hERR
        go_enter Try.func11, Try.ntmps11
        go_wp2_with (first
          | (go_at_call 27; (with_reducible refine (HF.out _ HB.out).mono ?_); rintro e w1 ⟨rfl, hb1⟩; replace HB := Lib.hid (HB.out.trans (hb1.mono HB.out.size)); clear hb1)
          | (go_at_call 28; (with_reducible refine (HL.out _ HB.out).mono ?_); rintro e w1 ⟨rfl, hb1⟩; replace HB := Lib.hid (HB.out.trans (hb1.mono HB.out.size)); clear hb1)
          | (go_at_call 16; (with_reducible refine (HFA.out _).mono ?_); rintro e w2 ⟨rfl, rfl⟩)
          | (at_builtin; refine wpList_append_fresh (by rfl) (.tmp 27) (.tmp 30) _ (by rfl) 5 i0 _ 1 Try.underlying22 hi0 hz0 hz1 hz2 rfl w1.heap.size (by rfl) (HNW.out w1) A m c _ (by rfl) (HK.out w1 HB.out) (bytes_one _) (by unfold maxLen; omega) (by omega) ?_; intro A2 c2 w2 hs2 hb2 hl2; have HS := Lib.hid hs2; replace HB := Lib.hid (HAL.out _ _ HB.out hb2); clear hs2 hb2 hl2)
          | (go_at_call 27; (with_reducible refine (HU6.out _ _ _ HS.out).mono ?_); rintro e w3 ⟨rfl, hb3⟩; replace HB := Lib.hid (HB.out.trans (hb3.mono HB.out.size)); replace HS := Lib.hid (slat_kept HS.out hb3); clear hb3)
          | (go_at_call 27; (with_reducible refine (HU8.out _ _ _ HS.out).mono ?_); rintro e w3 ⟨rfl, hb3⟩; replace HB := Lib.hid (HB.out.trans (hb3.mono HB.out.size)); replace HS := Lib.hid (slat_kept HS.out hb3); clear hb3)
          | fail)
        exact HE.out _ HB.out
      · have HE := Lib.hid (hERR (Option.not_isSome_iff_eq_none.1 (by rw [hno]; simp)))
        clear hOK hERR
        go_enter Try.func11, Try.ntmps11
        go_wp2_with (first
          | (go_at_call 27; (with_reducible refine (HF.out _ HB.out).mono ?_); rintro e w1 ⟨rfl, hb1⟩; replace HB := Lib.hid (HB.out.trans (hb1.mono HB.out.size)); clear hb1)
          | (go_at_call 28; (with_reducible refine (HL.out _ HB.out).mono ?_); rintro e w1 ⟨rfl, hb1⟩; replace HB := Lib.hid (HB.out.trans (hb1.mono HB.out.size)); clear hb1)
          | (go_at_call 16; (with_reducible refine (HFA.out _).mono ?_); rintro e w2 ⟨rfl, rfl⟩)
          | (at_builtin; refine wpList_append_fresh (by rfl) (.tmp 27) (.tmp 30) _ (by rfl) 5 i0 _ 1 Try.underlying22 hi0 hz0 hz1 hz2 rfl w1.heap.size (by rfl) (HNW.out w1) A m c _ (by rfl) (HK.out w1 HB.out) (bytes_one _) (by unfold maxLen; omega) (by omega) ?_; intro A2 c2 w2 hs2 hb2 hl2; have HS := Lib.hid hs2; replace HB := Lib.hid (HAL.out _ _ HB.out hb2); clear hs2 hb2 hl2)
          | (go_at_call 27; (with_reducible refine (HU6.out _ _ _ HS.out).mono ?_); rintro e w3 ⟨rfl, hb3⟩; replace HB := Lib.hid (HB.out.trans (hb3.mono HB.out.size)); replace HS := Lib.hid (slat_kept HS.out hb3); clear hb3)
          | (go_at_call 27; (with_reducible refine (HU8.out _ _ _ HS.out).mono ?_); rintro e w3 ⟨rfl, hb3⟩; replace HB := Lib.hid (HB.out.trans (hb3.mono HB.out.size)); replace HS := Lib.hid (slat_kept HS.out hb3); clear hb3)
          | fail)
        exact HE.out _ HB.out
      · have HO := Lib.hid (hOK hyes)
        clear hOK hERR
        go_enter Try.func11, Try.ntmps11
        go_wp2_with (first
          | (go_at_call 27; (with_reducible refine (HF.out _ HB.out).mono ?_); rintro e w1 ⟨rfl, hb1⟩; replace HB := Lib.hid (HB.out.trans (hb1.mono HB.out.size)); clear hb1)
          | (go_at_call 28; (with_reducible refine (HL.out _ HB.out).mono ?_); rintro e w1 ⟨rfl, hb1⟩; replace HB := Lib.hid (HB.out.trans (hb1.mono HB.out.size)); clear hb1)
          | (go_at_call 16; (with_reducible refine (HFA.out _).mono ?_); rintro e w2 ⟨rfl, rfl⟩)
          | (at_builtin; refine wpList_append_fresh (by rfl) (.tmp 27) (.tmp 30) _ (by rfl) 5 i0 _ 1 Try.underlying22 hi0 hz0 hz1 hz2 rfl w1.heap.size (by rfl) (HNW.out w1) A m c _ (by rfl) (HK.out w1 HB.out) (bytes_one _) (by unfold maxLen; omega) (by omega) ?_; intro A2 c2 w2 hs2 hb2 hl2; have HS := Lib.hid hs2; replace HB := Lib.hid (HAL.out _ _ HB.out hb2); clear hs2 hb2 hl2)
          | (go_at_call 27; (with_reducible refine (HU6.out _ _ _ HS.out).mono ?_); rintro e w3 ⟨rfl, hb3⟩; replace HB := Lib.hid (HB.out.trans (hb3.mono HB.out.size)); replace HS := Lib.hid (slat_kept HS.out hb3); clear hb3)
          | (go_at_call 27; (with_reducible refine (HU8.out _ _ _ HS.out).mono ?_); rintro e w3 ⟨rfl, hb3⟩; replace HB := Lib.hid (HB.out.trans (hb3.mono HB.out.size)); replace HS := Lib.hid (slat_kept HS.out hb3); clear hb3)
          | fail)
        exact HO.out _ _ _ HB.out HS.out
  · have hls : loadS xs 12 = load12S xs := by unfold loadS; rw [if_neg (by decide), if_neg (by decide), if_neg (by decide)]
    by_cases h5 : 16 ≤ m
    · have d5 : decide ((16 : Int) ≤ m) = true := by simp; omega
      have d5' : decide (16 ≤ m) = true := by simp; omega
      obtain ⟨v, hv⟩ : ∃ v, (load12S xs).isSome = v := ⟨_, rfl⟩
      have hm' : ∀ (u : World) (A2 : Option Addr) (c2 : Nat), SlAt u A2 m (xs.map byteV) → Calls Try.prog 30 #[.slice A2 m c2] u fun e w' => e = .returned (.bool v) ∧ Below u.heap.size u w' := fun u A2 c2 hs => by rw [← hv]; exact rmay12_any hs hxl h5 (by omega)
      have HM := Lib.hid hm'
      clear hm'
      cases v with
      | true =>
        have HO := Lib.hid (hOK (by rw [hls]; exact hv))
        clear hOK hERR hls hv
        go_enter Try.func11, Try.ntmps11
        go_wp2_with (first
          | (go_at_call 27; (with_reducible refine (HF.out _ HB.out).mono ?_); rintro e w1 ⟨rfl, hb1⟩; replace HB := Lib.hid (HB.out.trans (hb1.mono HB.out.size)); clear hb1)
          | (go_at_call 28; (with_reducible refine (HL.out _ HB.out).mono ?_); rintro e w1 ⟨rfl, hb1⟩; replace HB := Lib.hid (HB.out.trans (hb1.mono HB.out.size)); clear hb1)
          | (go_at_call 16; (with_reducible refine (HFA.out _).mono ?_); rintro e w2 ⟨rfl, rfl⟩)
          | (at_builtin; refine wpList_append_fresh (by rfl) (.tmp 27) (.tmp 30) _ (by rfl) 5 i0 _ 1 Try.underlying22 hi0 hz0 hz1 hz2 rfl w1.heap.size (by rfl) (HNW.out w1) A m c _ (by rfl) (HK.out w1 HB.out) (bytes_one _) (by unfold maxLen; omega) (by omega) ?_; intro A2 c2 w2 hs2 hb2 hl2; have HS := Lib.hid hs2; replace HB := Lib.hid (HAL.out _ _ HB.out hb2); clear hs2 hb2 hl2)
          | (go_at_call 30; (with_reducible refine (HM.out _ _ _ HS.out).mono ?_); rintro e w3 ⟨rfl, hb3⟩; replace HB := Lib.hid (HB.out.trans (hb3.mono HB.out.size)); replace HS := Lib.hid (slat_kept HS.out hb3); clear hb3)
          | fail)
        exact HO.out _ _ _ HB.out HS.out
      | false =>
        have HE := Lib.hid (hERR (by rw [hls]; exact Option.not_isSome_iff_eq_none.1 (by rw [hv]; simp)))
        clear hOK hERR hls hv
        go_enter Try.func11, Try.ntmps11
        go_wp2_with (first
          | (go_at_call 27; (with_reducible refine (HF.out _ HB.out).mono ?_); rintro e w1 ⟨rfl, hb1⟩; replace HB := Lib.hid (HB.out.trans (hb1.mono HB.out.size)); clear hb1)
          | (go_at_call 28; (with_reducible refine (HL.out _ HB.out).mono ?_); rintro e w1 ⟨rfl, hb1⟩; replace HB := Lib.hid (HB.out.trans (hb1.mono HB.out.size)); clear hb1)
          | (go_at_call 16; (with_reducible refine (HFA.out _).mono ?_); rintro e w2 ⟨rfl, rfl⟩)
          | (at_builtin; refine wpList_append_fresh (by rfl) (.tmp 27) (.tmp 30) _ (by rfl) 5 i0 _ 1 Try.underlying22 hi0 hz0 hz1 hz2 rfl w1.heap.size (by rfl) (HNW.out w1) A m c _ (by rfl) (HK.out w1 HB.out) (bytes_one _) (by unfold maxLen; omega) (by omega) ?_; intro A2 c2 w2 hs2 hb2 hl2; have HS := Lib.hid hs2; replace HB := Lib.hid (HAL.out _ _ HB.out hb2); clear hs2 hb2 hl2)
          | (go_at_call 30; (with_reducible refine (HM.out _ _ _ HS.out).mono ?_); rintro e w3 ⟨rfl, hb3⟩; replace HB := Lib.hid (HB.out.trans (hb3.mono HB.out.size)); replace HS := Lib.hid (slat_kept HS.out hb3); clear hb3)
          | fail)
        exact HE.out _ HB.out
    · have d5 : decide ((16 : Int) ≤ m) = false := by simp; omega
      have d5' : decide (16 ≤ m) = false := by simp; omega
      have HE := Lib.hid (hERR (by rw [hls]; exact by unfold load12S; rw [if_pos (by omega)]))
      clear hOK hERR hls
      go_enter Try.func11, Try.ntmps11
      go_wp2_with (first
          | (go_at_call 27; (with_reducible refine (HF.out _ HB.out).mono ?_); rintro e w1 ⟨rfl, hb1⟩; replace HB := Lib.hid (HB.out.trans (hb1.mono HB.out.size)); clear hb1)
          | (go_at_call 28; (with_reducible refine (HL.out _ HB.out).mono ?_); rintro e w1 ⟨rfl, hb1⟩; replace HB := Lib.hid (HB.out.trans (hb1.mono HB.out.size)); clear hb1)
          | (go_at_call 16; (with_reducible refine (HFA.out _).mono ?_); rintro e w2 ⟨rfl, rfl⟩)
          | (at_builtin; refine wpList_append_fresh (by rfl) (.tmp 27) (.tmp 30) _ (by rfl) 5 i0 _ 1 Try.underlying22 hi0 hz0 hz1 hz2 rfl w1.heap.size (by rfl) (HNW.out w1) A m c _ (by rfl) (HK.out w1 HB.out) (bytes_one _) (by unfold maxLen; omega) (by omega) ?_; intro A2 c2 w2 hs2 hb2 hl2; have HS := Lib.hid hs2; replace HB := Lib.hid (HAL.out _ _ HB.out hb2); clear hs2 hb2 hl2)
          | fail)
      exact HE.out _ HB.out
end Go.Proofs.Ytlbfefdmbdjjcaa

namespace Go.Proofs.Ytlbfefdmbdjjcaa
open Go.RowKit

def inB (code : Int) (s : Sv) : Bool := decide (s.f ≤ code) && decide (code ≤ s.l)
def rawV (l : List Sv) (code : Int) : Int := match l.find? (inB code) with
  | none => 0
  | some s => atV s code
theorem glV_raw (l : List Sv) {n code : Int} (hn : 1 ≤ n) : glV l n code = if rawV l code < n then rawV l code else 0 := by
  unfold glV rawV
  show (match l.find? (inB code) with | none => (0 : Int) | some s => if atV s code < n then atV s code else 0) = _
  cases l.find? (inB code) with
  | none => show (0 : Int) = if (0 : Int) < n then (0 : Int) else 0; rw [if_pos (by omega)]
  | some s => rfl
theorem scan_next {S : List Sv} {code : Int} {k : Nat} {t : Sv} (h : (S.take k).find? (inB code) = none) (ht : S[k]? = some t) (hn : inB code t = false) : (S.take (k + 1)).find? (inB code) = none := by
  rw [take_snoc' ht, List.find?_append, h]
  simp [hn]
theorem scan_hit {S : List Sv} {code : Int} {k : Nat} {t : Sv} (h : (S.take k).find? (inB code) = none) (ht : S[k]? = some t) (hn : inB code t = true) : rawV S code = atV t code := by
  have hp : S = S.take (k + 1) ++ S.drop (k + 1) := (List.take_append_drop _ _).symm
  unfold rawV
  rw [hp, take_snoc' ht, List.find?_append, List.find?_append, h]
  simp [hn]
theorem scan_end {S : List Sv} {code : Int} {k : Nat} (h : (S.take k).find? (inB code) = none) (hk : S.length ≤ k) : rawV S code = 0 := by
  rw [List.take_of_length_le hk] at h
  unfold rawV
  rw [h]
theorem segs12_at {bs : List UInt8} {n k : Nat} (h : k < n) : (segs12 bs n)[k]? = some (seg12 bs k) := by
  unfold segs12
  rw [List.getElem?_map, List.getElem?_range h]
  rfl
theorem segs4_at {bs : List UInt8} {n : Nat} : ∀ {i : Nat} {l : List Sv}, segs4 bs n i = some l → l.length = i ∧ ∀ k, k < i → ∃ t, l[k]? = some t ∧ seg4 bs n k = some t ∧ be16 bs (16 + 2 * n + 2 * k) ≤ be16 bs (14 + 2 * k)
  | 0, l, h => by
    injection h with h
    subst h
    exact ⟨rfl, fun k hk => by omega⟩
  | i + 1, l, h => by
    cases h0 : segs4 bs n i with
    | none => rw [segs4_none h0 (i + 1) (by omega)] at h; cases h
    | some l0 =>
      by_cases hb : be16 bs (14 + 2 * i) < be16 bs (16 + 2 * n + 2 * i) ∨ be16 bs (16 + 2 * n + 2 * i) ≤ lastL (-1) l0
      · rw [segs4_bad h0 hb] at h; cases h
      · rw [segs4_good h0 hb] at h
        obtain ⟨s, hs, rfl⟩ := Option.map_eq_some_iff.1 h
        obtain ⟨h1, h2⟩ := segs4_at h0
        refine ⟨by rw [List.length_append, h1]; rfl, fun k hk => ?_⟩
        rcases Nat.lt_or_ge k i with hlt | hge
        · obtain ⟨t, ht, h3⟩ := h2 k hlt
          exact ⟨t, by rw [List.getElem?_append_left (by omega)]; exact ht, h3⟩
        · obtain rfl : k = i := by omega
          exact ⟨s, by rw [List.getElem?_append_right (by omega), h1, Nat.sub_self]; rfl, hs, by omega⟩
/-- What one segment of format 4 says, by the numbers of the bytes. -/
theorem seg4_said {bs : List UInt8} {n i : Nat} {t : Sv} {e f d o : Int} (h : seg4 bs n i = some t) (he : be16 bs (14 + 2 * i) = e) (hf : be16 bs (16 + 2 * n + 2 * i) = f) (hd : be16 bs (16 + 4 * n + 2 * i) = d) (ho : be16 bs (16 + 6 * n + 2 * i) = o) :
    t.f = f ∧ t.l = e ∧ ((o = 0 ∨ (o = 65535 ∧ f = 65535)) → ∀ code, atV t code = (code + d) % 65536) ∧
    (¬ (o = 0 ∨ (o = 65535 ∧ f = 65535)) → 0 ≤ o → f ≤ e → (16 + 6 * (n : Int) + 2 * i + o + 2 * (e - f + 1) ≤ bs.length) ∧ ∀ code, f ≤ code → code ≤ e → ∀ v, be16 bs (16 + 6 * n + 2 * i + o.toNat + 2 * (code - f).toNat) = v → atV t code = if v = 0 then 0 else (v + d) % 65536) := by
  unfold seg4 at h
  simp only [he, hf, hd, ho] at h
  by_cases hc : o = 0 ∨ (o = 65535 ∧ f = 65535)
  · rw [if_pos hc] at h
    injection h with h
    subst h
    refine ⟨rfl, rfl, fun _ code => ?_, fun h => absurd hc h⟩
    show (if true = true then (f + d + code - f) % 65536 else f + d + code - f) = _
    rw [if_pos rfl, show f + d + code - f = code + d by omega]
  · rw [if_neg hc] at h
    obtain ⟨xs, hxs, rfl⟩ := Option.map_eq_some_iff.1 h
    refine ⟨rfl, rfl, fun h => absurd h hc, fun _ ho0 hfe => ?_⟩
    unfold lisS at hxs
    by_cases h1 : o.toNat % 2 ≠ 0
    · rw [if_pos h1] at hxs; cases hxs
    · rw [if_neg h1] at hxs
      by_cases h2 : bs.length < 16 + 6 * n + 2 * i + o.toNat + 2 * (e - f + 1).toNat
      · rw [if_pos h2] at hxs; cases hxs
      · rw [if_neg h2] at hxs
        injection hxs with hxs
        subst hxs
        refine ⟨by omega, fun code h3 h4 v hv => ?_⟩
        have hat := wL_at (bs := bs) (p := 16 + 6 * n + 2 * i + o.toNat) (n := (e - f + 1).toNat) (i := (code - f).toNat) (by omega) (by omega)
        rw [hv] at hat
        show (let v := (wL bs (16 + 6 * n + 2 * i + o.toNat, false) (e - f + 1).toNat).getD (code - f).toNat 0; if v = 0 then 0 else (v + d) % 65536) = _
        rw [List.getD_eq_getElem?_getD, hat]
        rfl
end Go.Proofs.Ytlbfefdmbdjjcaa

namespace Go.Proofs.Ytlbfefdmbdjjcaa
open Go.RowKit Go.Shelf

set_option maxRecDepth 20000 in
set_option maxHeartbeats 4000000 in
theorem rfind4_any {w : World} {A : Option Addr} {n c : Nat} {bs : List UInt8} {S : List Sv} (code : Int) (h : SlAt w A n (bs.map byteV)) (hn : bs.length = n) (hm : n ≤ 1000000) (hS : load4S bs = some S) (hc : 0 ≤ code ∧ code ≤ 1114111) :
    Calls Try.prog 58 #[.slice A n c, .int .i64 code] w (IntR (rawV S code) w) := by
  have HV := Lib.hid fun (u : World) (hu : Below w.heap.size w u) (p : Nat) (q : Int) (hq : q = p) (hp : p + 2 ≤ n) => ru16_any (c := c) (slat_kept h hu) hn (p := p) hq hp hm
  have hbd := be16_bd bs 6
  obtain ⟨G, hG⟩ : ∃ G : Nat, be16 bs 6 = G := ⟨(be16 bs 6).toNat, by omega⟩
  have HB : Hid (Below w.heap.size w w) := Lib.hid (Below.refl _ _)
  unfold load4S at hS
  rw [hn, hG] at hS
  by_cases h8 : n < 8
  · rw [if_pos h8] at hS; cases hS
  rw [if_neg h8] at hS
  by_cases hbad : n % 2 ≠ 0 ∨ (G : Int) % 2 ≠ 0 ∨ (G : Int) / 2 < 1 ∨ (n : Int) < 16 + 8 * ((G : Int) / 2)
  · rw [if_pos hbad] at hS; cases hS
  rw [if_neg hbad] at hS
  have hg : ∀ u, Below w.heap.size w u → Calls Try.prog 27 #[.slice A n c, .int .i64 6] u fun e w' => e = .returned (.int .i64 G) ∧ Below u.heap.size u w' := fun u hu => by rw [← hG]; exact HV.out u hu 6 6 rfl (by omega)
  have HG := Lib.hid hg
  obtain ⟨s, hs⟩ : ∃ s : Nat, (G : Int) / 2 = s := ⟨G / 2, by omega⟩
  have hsn : 16 + 8 * s ≤ n := by omega
  rw [hs, Int.toNat_natCast] at hS
  obtain ⟨S', hS', hlast⟩ := Option.bind_eq_some_iff.1 hS
  have hSS : S' = S := by
    split at hlast
    · injection hlast
    · cases hlast
  subst hSS
  obtain ⟨hlen, hat⟩ := segs4_at hS'
  have HAT := Lib.hid hat
  have HLN := Lib.hid hlen
  have HN := Lib.hid hn
  have hsb : s ≤ 40000 := by omega
  clear h hn hG hg hbad h8 hS hS' hlast hat hlen hbd
  obtain ⟨c0, c1⟩ := hc
  go_enter Try.func58, Try.ntmps58
  go_wp2_with (first
    | (go_at_call 27; (with_reducible refine (HG.out _ HB.out).mono ?_); rintro e w1 ⟨rfl, hb1⟩; replace HB := Lib.hid (HB.out.trans (hb1.mono HB.out.size)); clear hb1)
    | fail)
  clear HG hs
  go_loopw [6] (fun i wr => ∃ k : Nat, k ≤ s ∧ i = .int .i64 k ∧ Hid ((S'.take k).find? (inB code) = none) ∧ Hid (Below w.heap.size w wr)) (fun i _ => s - (intOf i).toNat)
  case atStart => exact ⟨0, Nat.zero_le _, rfl, Lib.hid rfl, HB⟩
  case round =>
    obtain ⟨k, hk, rfl, HY, HB'⟩ := hrel
    replace HB := HB'
    clear HB'
    by_cases hlt : k < s
    · have hkm : (k : Int) < s := by omega
      obtain ⟨t, ht, htm, hfe⟩ := HAT.out k hlt
      obtain ⟨e, he⟩ : ∃ e, be16 bs (14 + 2 * k) = e := ⟨_, rfl⟩
      obtain ⟨f, hf⟩ : ∃ f, be16 bs (16 + 2 * s + 2 * k) = f := ⟨_, rfl⟩
      obtain ⟨d, hd⟩ : ∃ d, be16 bs (16 + 4 * s + 2 * k) = d := ⟨_, rfl⟩
      obtain ⟨o, ho⟩ : ∃ o, be16 bs (16 + 6 * s + 2 * k) = o := ⟨_, rfl⟩
      have eb := be16_bd bs (14 + 2 * k)
      have fb := be16_bd bs (16 + 2 * s + 2 * k)
      have db := be16_bd bs (16 + 4 * s + 2 * k)
      have ob := be16_bd bs (16 + 6 * s + 2 * k)
      obtain ⟨s1, s2, s3, s4⟩ := seg4_said htm he hf hd ho
      rw [he, hf] at hfe
      rw [he] at eb
      rw [hf] at fb
      rw [hd] at db
      rw [ho] at ob
      obtain ⟨eb1, eb2⟩ := eb
      obtain ⟨fb1, fb2⟩ := fb
      obtain ⟨db1, db2⟩ := db
      obtain ⟨ob1, ob2⟩ := ob
      have hu1 : ∀ u, Below w.heap.size w u → Calls Try.prog 27 #[.slice A n c, .int .i64 (14 + 2 * (k : Int))] u fun e' w' => e' = .returned (.int .i64 e) ∧ Below u.heap.size u w' := fun u hu => by rw [← he]; exact HV.out u hu (14 + 2 * k) _ (by omega) (by omega)
      have hu2 : ∀ u, Below w.heap.size w u → Calls Try.prog 27 #[.slice A n c, .int .i64 (16 + 2 * (s : Int) + 2 * (k : Int))] u fun e' w' => e' = .returned (.int .i64 f) ∧ Below u.heap.size u w' := fun u hu => by rw [← hf]; exact HV.out u hu (16 + 2 * s + 2 * k) _ (by omega) (by omega)
      have hu3 : ∀ u, Below w.heap.size w u → Calls Try.prog 27 #[.slice A n c, .int .i64 (16 + 4 * (s : Int) + 2 * (k : Int))] u fun e' w' => e' = .returned (.int .i64 d) ∧ Below u.heap.size u w' := fun u hu => by rw [← hd]; exact HV.out u hu (16 + 4 * s + 2 * k) _ (by omega) (by omega)
      have hu4 : ∀ u, Below w.heap.size w u → Calls Try.prog 27 #[.slice A n c, .int .i64 (16 + 6 * (s : Int) + 2 * (k : Int))] u fun e' w' => e' = .returned (.int .i64 o) ∧ Below u.heap.size u w' := fun u hu => by rw [← ho]; exact HV.out u hu (16 + 6 * s + 2 * k) _ (by omega) (by omega)
      have HU1 := Lib.hid hu1
      have HU2 := Lib.hid hu2
      have HU3 := Lib.hid hu3
      have HU4 := Lib.hid hu4
      clear hu1 hu2 hu3 hu4 htm he hf hd ho
      by_cases hout : code < f ∨ e < code
      · have HN := Lib.hid (scan_next HY.out ht (by unfold inB; rw [s1, s2]; simp; omega))
        have hcs : decide (code < f) = true ∨ (decide (code < f) = false ∧ decide (e < code) = true) := by simp; omega
        clear HY ht s1 s2 s3 s4 hout hfe
        rcases hcs with d1 | ⟨d1, d2⟩
        all_goals
          go_wp2_with (first
            | (go_at_call 27; (with_reducible refine (HU1.out _ HB.out).mono ?_); rintro _ w1 ⟨rfl, hb1⟩; replace HB := Lib.hid (HB.out.trans (hb1.mono HB.out.size)); clear hb1)
            | (go_at_call 27; (with_reducible refine (HU2.out _ HB.out).mono ?_); rintro _ w1 ⟨rfl, hb1⟩; replace HB := Lib.hid (HB.out.trans (hb1.mono HB.out.size)); clear hb1)
            | (go_at_call 27; (with_reducible refine (HU3.out _ HB.out).mono ?_); rintro _ w1 ⟨rfl, hb1⟩; replace HB := Lib.hid (HB.out.trans (hb1.mono HB.out.size)); clear hb1)
            | (go_at_call 27; (with_reducible refine (HU4.out _ HB.out).mono ?_); rintro _ w1 ⟨rfl, hb1⟩; replace HB := Lib.hid (HB.out.trans (hb1.mono HB.out.size)); clear hb1)
            | fail)
          go_roundw
          case rel => exact ⟨k + 1, by omega, by go_num, HN, HB⟩
          case measure => simp [intOf]; omega
      have hhit := scan_hit HY.out ht (by unfold inB; rw [s1, s2]; simp; omega)
      have d1 : decide (code < f) = false := by simp; omega
      have d2 : decide (e < code) = false := by simp; omega
      by_cases hpl : o = 0 ∨ (o = 65535 ∧ f = 65535)
      · have HR := Lib.hid fun w' (hb : Below w.heap.size w w') => int_is (hhit.trans (s3 hpl code)) hb
        have hcs : (o == 0) = true ∨ ((o == 0) = false ∧ (f == 65535) = true ∧ (o == 65535) = true) := by simp; omega
        clear HY ht s1 s2 s3 s4 hout hfe hpl hhit
        generalize rawV S' code = R at *
        rcases hcs with d3 | ⟨d3, d4, d5⟩
        all_goals
          go_wp2_with (first
            | (go_at_call 27; (with_reducible refine (HU1.out _ HB.out).mono ?_); rintro _ w1 ⟨rfl, hb1⟩; replace HB := Lib.hid (HB.out.trans (hb1.mono HB.out.size)); clear hb1)
            | (go_at_call 27; (with_reducible refine (HU2.out _ HB.out).mono ?_); rintro _ w1 ⟨rfl, hb1⟩; replace HB := Lib.hid (HB.out.trans (hb1.mono HB.out.size)); clear hb1)
            | (go_at_call 27; (with_reducible refine (HU3.out _ HB.out).mono ?_); rintro _ w1 ⟨rfl, hb1⟩; replace HB := Lib.hid (HB.out.trans (hb1.mono HB.out.size)); clear hb1)
            | (go_at_call 27; (with_reducible refine (HU4.out _ HB.out).mono ?_); rintro _ w1 ⟨rfl, hb1⟩; replace HB := Lib.hid (HB.out.trans (hb1.mono HB.out.size)); clear hb1)
            | fail)
          go_ret
          exact HR.out _ HB.out
      obtain ⟨s5, s6⟩ := s4 hpl ob1 hfe
      rw [HN.out] at s5
      obtain ⟨v, hv⟩ : ∃ v, be16 bs (16 + 6 * s + 2 * k + o.toNat + 2 * (code - f).toNat) = v := ⟨_, rfl⟩
      have vb := be16_bd bs (16 + 6 * s + 2 * k + o.toNat + 2 * (code - f).toNat)
      rw [hv] at vb
      obtain ⟨vb1, vb2⟩ := vb
      have hu5 : ∀ u, Below w.heap.size w u → Calls Try.prog 27 #[.slice A n c, .int .i64 (16 + 6 * (s : Int) + 2 * (k : Int) + o + 2 * (code - f))] u fun e' w' => e' = .returned (.int .i64 v) ∧ Below u.heap.size u w' := fun u hu => by rw [← hv]; exact HV.out u hu _ _ (by omega) (by omega)
      have HU5 := Lib.hid hu5
      have h6 := hhit.trans (s6 code (by omega) (by omega) v hv)
      have hcs : ((o == 0) = false ∧ (f == 65535) = false) ∨ ((o == 0) = false ∧ (f == 65535) = true ∧ (o == 65535) = false) := by simp; omega
      clear HY ht s1 s2 s3 s4 hout hpl hhit s6 hu5 hv
      by_cases hv0 : v = 0
      · rw [if_pos hv0] at h6
        have HR := Lib.hid fun w' (hb : Below w.heap.size w w') => int_is h6 hb
        have d6 : (v == 0) = true := by simp; omega
        clear h6 hv0
        generalize rawV S' code = R at *
        rcases hcs with ⟨d3, d4⟩ | ⟨d3, d4, d5⟩
        all_goals
          go_wp2_with (first
            | (go_at_call 27; (with_reducible refine (HU1.out _ HB.out).mono ?_); rintro _ w1 ⟨rfl, hb1⟩; replace HB := Lib.hid (HB.out.trans (hb1.mono HB.out.size)); clear hb1)
            | (go_at_call 27; (with_reducible refine (HU2.out _ HB.out).mono ?_); rintro _ w1 ⟨rfl, hb1⟩; replace HB := Lib.hid (HB.out.trans (hb1.mono HB.out.size)); clear hb1)
            | (go_at_call 27; (with_reducible refine (HU3.out _ HB.out).mono ?_); rintro _ w1 ⟨rfl, hb1⟩; replace HB := Lib.hid (HB.out.trans (hb1.mono HB.out.size)); clear hb1)
            | (go_at_call 27; (with_reducible refine (HU4.out _ HB.out).mono ?_); rintro _ w1 ⟨rfl, hb1⟩; replace HB := Lib.hid (HB.out.trans (hb1.mono HB.out.size)); clear hb1)
            | (go_at_call 27; (with_reducible refine (HU5.out _ HB.out).mono ?_); rintro _ w1 ⟨rfl, hb1⟩; replace HB := Lib.hid (HB.out.trans (hb1.mono HB.out.size)); clear hb1)
            | fail)
          go_ret
          exact HR.out _ HB.out
      · rw [if_neg hv0] at h6
        have HR := Lib.hid fun w' (hb : Below w.heap.size w w') => int_is h6 hb
        have d6 : (v == 0) = false := by simp; omega
        clear h6 hv0
        generalize rawV S' code = R at *
        rcases hcs with ⟨d3, d4⟩ | ⟨d3, d4, d5⟩
        all_goals
          go_wp2_with (first
            | (go_at_call 27; (with_reducible refine (HU1.out _ HB.out).mono ?_); rintro _ w1 ⟨rfl, hb1⟩; replace HB := Lib.hid (HB.out.trans (hb1.mono HB.out.size)); clear hb1)
            | (go_at_call 27; (with_reducible refine (HU2.out _ HB.out).mono ?_); rintro _ w1 ⟨rfl, hb1⟩; replace HB := Lib.hid (HB.out.trans (hb1.mono HB.out.size)); clear hb1)
            | (go_at_call 27; (with_reducible refine (HU3.out _ HB.out).mono ?_); rintro _ w1 ⟨rfl, hb1⟩; replace HB := Lib.hid (HB.out.trans (hb1.mono HB.out.size)); clear hb1)
            | (go_at_call 27; (with_reducible refine (HU4.out _ HB.out).mono ?_); rintro _ w1 ⟨rfl, hb1⟩; replace HB := Lib.hid (HB.out.trans (hb1.mono HB.out.size)); clear hb1)
            | (go_at_call 27; (with_reducible refine (HU5.out _ HB.out).mono ?_); rintro _ w1 ⟨rfl, hb1⟩; replace HB := Lib.hid (HB.out.trans (hb1.mono HB.out.size)); clear hb1)
            | fail)
          go_ret
          exact HR.out _ HB.out
    · obtain rfl : k = s := by omega
      have HR := Lib.hid fun w' (hb : Below w.heap.size w w') => int_is (scan_end HY.out (by rw [HLN.out]; exact Nat.le_refl _)) hb
      generalize rawV S' code = R at *
      go_wp2_with (first | fail)
      go_ret
      exact HR.out _ HB.out
end Go.Proofs.Ytlbfefdmbdjjcaa

namespace Go.Proofs.Ytlbfefdmbdjjcaa
open Go.RowKit

theorem raw_one {s : Sv} {code : Int} : rawV [s] code = if s.f ≤ code ∧ code ≤ s.l then atV s code else 0 := by
  unfold rawV
  by_cases h : s.f ≤ code ∧ code ≤ s.l
  · rw [if_pos h]
    have : inB code s = true := by unfold inB; simp; exact h
    simp [this]
  · rw [if_neg h]
    have : inB code s = false := by unfold inB; simp; omega
    simp [this]
theorem raw0 {bs : List UInt8} {S : List Sv} (h : load0S bs = some S) : 262 ≤ bs.length ∧ ∀ code, 0 ≤ code → (code < 256 → ∀ u, bs[6 + code.toNat]? = some u → rawV S code = u.toNat) ∧ (256 ≤ code → rawV S code = 0) := by
  unfold load0S at h
  by_cases h2 : bs.length < 262
  · rw [if_pos h2] at h; cases h
  rw [if_neg h2] at h
  injection h with h
  subst h
  refine ⟨by omega, fun code h0 => ⟨fun h1 u hu => ?_, fun h1 => ?_⟩⟩
  · rw [raw_one, if_pos ⟨h0, by show code ≤ 255; omega⟩]
    have hx : (ints ((bs.drop 6).take 256)).getD (code - 0).toNat 0 = (u.toNat : Int) := by
      unfold ints
      rw [List.getD_eq_getElem?_getD, List.getElem?_map, List.getElem?_take, if_pos (by omega), List.getElem?_drop, Int.sub_zero, hu]
      rfl
    have hb := u.toNat_lt
    show (let v := (ints ((bs.drop 6).take 256)).getD (code - 0).toNat 0; if v = 0 then 0 else (v + 0) % 65536) = _
    rw [hx]
    dsimp only
    split <;> omega
  · rw [raw_one, if_neg (by show ¬ ((0 : Int) ≤ code ∧ code ≤ 255); omega)]
theorem raw6 {bs : List UInt8} {S : List Sv} {f k : Int} (h : load6S bs = some S) (hf : be16 bs 6 = f) (hk : be16 bs 8 = k) : 10 + 2 * k ≤ bs.length ∧ 10 ≤ bs.length ∧ 0 ≤ f ∧ f ≤ 65535 ∧ 0 ≤ k ∧ k ≤ 65535 ∧ ∀ code, (f ≤ code → code < f + k → rawV S code = be16 bs (10 + 2 * (code - f).toNat)) ∧ (code < f ∨ f + k ≤ code → rawV S code = 0) := by
  have hb := be16_bd bs 6
  have hc := be16_bd bs 8
  unfold load6S at h
  rw [hf] at h hb
  rw [hk] at h hc
  by_cases h2 : bs.length < 10
  · rw [if_pos h2] at h; cases h
  rw [if_neg h2] at h
  by_cases h3 : bs.length < 10 + 2 * k.toNat ∨ 65536 < f + k
  · rw [if_pos h3] at h; cases h
  rw [if_neg h3] at h
  refine ⟨by omega, by omega, by omega, by omega, by omega, by omega, fun code => ?_⟩
  by_cases h4 : k = 0
  · rw [if_pos h4] at h
    injection h with h
    subst h
    exact ⟨fun h5 h6 => by omega, fun _ => rfl⟩
  · rw [if_neg h4] at h
    injection h with h
    subst h
    refine ⟨fun h5 h6 => ?_, fun h5 => ?_⟩
    · rw [raw_one, if_pos ⟨h5, by show code ≤ f + k - 1; omega⟩]
      have hx := wL_at (bs := bs) (p := 10) (n := k.toNat) (i := (code - f).toNat) (by omega) (by omega)
      have hv := be16_bd bs (10 + 2 * (code - f).toNat)
      show (let v := (wL bs (10, false) k.toNat).getD (code - f).toNat 0; if v = 0 then 0 else (v + 0) % 65536) = _
      rw [List.getD_eq_getElem?_getD, hx]
      dsimp only [Option.getD_some]
      split <;> omega
    · rw [raw_one, if_neg (by show ¬ (f ≤ code ∧ code ≤ f + k - 1); omega)]
theorem raw12 {bs : List UInt8} {S : List Sv} (h : load12S bs = some S) : 16 + 12 * (be32 bs 12) ≤ bs.length ∧ S = segs12 bs (be32 bs 12).toNat := by
  unfold load12S at h
  by_cases h2 : bs.length < 16
  · rw [if_pos h2] at h; cases h
  rw [if_neg h2] at h
  by_cases h3 : ((bs.length : Int) - 16) / 12 < be32 bs 12
  · rw [if_pos h3] at h; cases h
  rw [if_neg h3] at h
  have hb := be32_bd bs 12
  split at h
  · injection h with h
    exact ⟨by omega, h.symm⟩
  · cases h
end Go.Proofs.Ytlbfefdmbdjjcaa

namespace Go.Proofs.Ytlbfefdmbdjjcaa
open Go.RowKit Go.Shelf

set_option maxRecDepth 20000 in
set_option maxHeartbeats 4000000 in
theorem rfind_any {w : World} {A : Option Addr} {n c : Nat} {bs : List UInt8} {S : List Sv} {f : Int} (code : Int) (h : SlAt w A n (bs.map byteV)) (hn : bs.length = n) (hm : n ≤ 1000000) (hf : isFmtB f = true) (hS : loadS bs f = some S) (hc : 0 ≤ code ∧ code ≤ 1114111) :
    Calls Try.prog 33 #[.slice A n c, .int .i64 f, .int .i64 code] w (IntR (rawV S code) w) := by
  have HV := Lib.hid fun (u : World) (hu : Below w.heap.size w u) (p : Nat) (q : Int) (hq : q = p) (hp : p + 2 ≤ n) => ru16_any (c := c) (slat_kept h hu) hn (p := p) hq hp hm
  have HW := Lib.hid fun (u : World) (hu : Below w.heap.size w u) (p : Nat) (q : Int) (hq : q = p) (hp : p + 4 ≤ n) => ru32_any (c := c) (slat_kept h hu) hn (p := p) hq hp hm
  have HB : Hid (Below w.heap.size w w) := Lib.hid (Below.refl _ _)
  obtain ⟨c0, c1⟩ := hc
  have hfs : f = 0 ∨ f = 4 ∨ f = 6 ∨ f = 12 := by unfold isFmtB at hf; simpa using hf
  unfold loadS at hS
  rcases hfs with rfl | rfl | rfl | rfl
  · rw [if_pos rfl] at hS
    obtain ⟨h1, h2⟩ := raw0 hS
    obtain ⟨h3, h4⟩ := h2 code c0
    by_cases hlt : code < 256
    · obtain ⟨u, hu⟩ := get_some' (l := bs) (k := 6 + code.toNat) (by omega)
      obtain ⟨b, o, rfl, hb, cc⟩ := sl_byte h hu
      have HR := Lib.hid fun w' (hb : Below w.heap.size w w') => int_is (h3 hlt u hu) hb
      obtain ⟨k, rfl⟩ : ∃ k : Nat, code = k := ⟨code.toNat, by omega⟩
      rw [Int.toNat_natCast] at cc
      have cc' : w.cell? ⟨b, o + (6 + k), none⟩ = some (.int .u8 u.toNat) := cc
      have hu8 := u.toNat_lt
      have hkn : (6 : Int) + k < n := by omega
      have hkn' : 6 + k < n := by omega
      clear h hn hS h2 h3 h4 hu cc
      generalize rawV S (k : Int) = R at *
      go_enter Try.func33, Try.ntmps33
      go_wp2_with fail
      go_ret
      exact HR.out _ HB.out
    · have HR := Lib.hid fun w' (hb : Below w.heap.size w w') => int_is (h4 (by omega)) hb
      clear h hn hS h2 h3 h4
      generalize rawV S code = R at *
      go_enter Try.func33, Try.ntmps33
      go_wp2_with fail
      go_ret
      exact HR.out _ HB.out
  · rw [if_neg (by decide), if_pos rfl] at hS
    have HQ := Lib.hid fun w' (hb : Below w.heap.size w w') => int_is (rfl : rawV S code = _) hb
    have H4 := Lib.hid fun u (hu : Below w.heap.size w u) => rfind4_any (c := c) code (slat_kept h hu) hn hm hS ⟨c0, c1⟩
    clear h hn hS
    generalize rawV S code = R at *
    go_enter Try.func33, Try.ntmps33
    go_wp2_with (first
      | (go_at_call 58; (with_reducible refine (H4.out _ HB.out).mono ?_); rintro e w1 ⟨rfl, hb1⟩; replace HB := Lib.hid (HB.out.trans (hb1.mono HB.out.size)); clear hb1)
      | fail)
    go_ret
    exact HQ.out _ HB.out
  · rw [if_neg (by decide), if_neg (by decide), if_pos rfl] at hS
    obtain ⟨f, hf6⟩ : ∃ f, be16 bs 6 = f := ⟨_, rfl⟩
    obtain ⟨k, hk8⟩ : ∃ k, be16 bs 8 = k := ⟨_, rfl⟩
    obtain ⟨r1, r2, r3, r4, r5, r6, r7⟩ := raw6 hS hf6 hk8
    obtain ⟨r8, r9⟩ := r7 code
    have hu1 : ∀ u, Below w.heap.size w u → Calls Try.prog 27 #[.slice A n c, .int .i64 6] u fun e' w' => e' = .returned (.int .i64 f) ∧ Below u.heap.size u w' := fun u hu => by rw [← hf6]; exact HV.out u hu 6 _ rfl (by omega)
    have hu2 : ∀ u, Below w.heap.size w u → Calls Try.prog 27 #[.slice A n c, .int .i64 8] u fun e' w' => e' = .returned (.int .i64 k) ∧ Below u.heap.size u w' := fun u hu => by rw [← hk8]; exact HV.out u hu 8 _ rfl (by omega)
    have HU1 := Lib.hid hu1
    have HU2 := Lib.hid hu2
    by_cases hin : f ≤ code ∧ code < f + k
    · obtain ⟨h1, h2⟩ := hin
      obtain ⟨v, hv⟩ : ∃ v, be16 bs (10 + 2 * (code - f).toNat) = v := ⟨_, rfl⟩
      have h8 := (r8 h1 h2).trans hv
      have hu3 : ∀ u, Below w.heap.size w u → Calls Try.prog 27 #[.slice A n c, .int .i64 (10 + 2 * (code - f))] u fun e' w' => e' = .returned (.int .i64 v) ∧ Below u.heap.size u w' := fun u hu => by rw [← hv]; exact HV.out u hu _ _ (by omega) (by omega)
      have HU3 := Lib.hid hu3
      have HR := Lib.hid fun w' (hb : Below w.heap.size w w') => int_is h8 hb
      have d1 : decide (f ≤ code) = true := by simp; omega
      have d2 : decide (code < f + k) = true := by simp; omega
      clear h hn hS r8 r9 h8 hf6 hk8 hu1 hu2 hu3 hv
      generalize rawV S code = R at *
      go_enter Try.func33, Try.ntmps33
      go_wp2_with (first
        | (go_at_call 27; (with_reducible refine (HU1.out _ HB.out).mono ?_); rintro e w1 ⟨rfl, hb1⟩; replace HB := Lib.hid (HB.out.trans (hb1.mono HB.out.size)); clear hb1)
        | (go_at_call 27; (with_reducible refine (HU2.out _ HB.out).mono ?_); rintro e w1 ⟨rfl, hb1⟩; replace HB := Lib.hid (HB.out.trans (hb1.mono HB.out.size)); clear hb1)
        | (go_at_call 27; (with_reducible refine (HU3.out _ HB.out).mono ?_); rintro e w1 ⟨rfl, hb1⟩; replace HB := Lib.hid (HB.out.trans (hb1.mono HB.out.size)); clear hb1)
        | fail)
      go_ret
      exact HR.out _ HB.out
    · have HR := Lib.hid fun w' (hb : Below w.heap.size w w') => int_is (r9 (by omega)) hb
      have hcs : decide (f ≤ code) = false ∨ (decide (f ≤ code) = true ∧ decide (code < f + k) = false) := by simp; omega
      clear h hn hS r8 r9 hf6 hk8 hu1 hu2
      generalize rawV S code = R at *
      rcases hcs with d1 | ⟨d1, d2⟩
      all_goals
        go_enter Try.func33, Try.ntmps33
        go_wp2_with (first
          | (go_at_call 27; (with_reducible refine (HU1.out _ HB.out).mono ?_); rintro e w1 ⟨rfl, hb1⟩; replace HB := Lib.hid (HB.out.trans (hb1.mono HB.out.size)); clear hb1)
          | (go_at_call 27; (with_reducible refine (HU2.out _ HB.out).mono ?_); rintro e w1 ⟨rfl, hb1⟩; replace HB := Lib.hid (HB.out.trans (hb1.mono HB.out.size)); clear hb1)
          | fail)
        go_ret
        exact HR.out _ HB.out
  · rw [if_neg (by decide), if_neg (by decide), if_neg (by decide)] at hS
    obtain ⟨r1, rfl⟩ := raw12 hS
    have hbd := be32_bd bs 12
    obtain ⟨G, hG⟩ : ∃ G : Nat, be32 bs 12 = G := ⟨(be32 bs 12).toNat, by omega⟩
    have hg : ∀ u, Below w.heap.size w u → Calls Try.prog 54 #[.slice A n c, .int .i64 12] u fun e w' => e = .returned (.int .i64 G) ∧ Below u.heap.size u w' := fun u hu => by rw [← hG]; exact HW.out u hu 12 12 rfl (by omega)
    have HG := Lib.hid hg
    rw [hG, Int.toNat_natCast]
    rw [hG] at r1
    have hgn : 16 + 12 * G ≤ n := by omega
    have hln : (segs12 bs G).length = G := by unfold segs12; simp
    have HLN := Lib.hid hln
    clear h hn hS hG hg r1 hbd hln
    go_enter Try.func33, Try.ntmps33
    go_wp2_with (first
      | fail)
    go_loopw [9] (fun i wr => ∃ k : Nat, k ≤ G ∧ i = .int .i64 k ∧ Hid (((segs12 bs G).take k).find? (inB code) = none) ∧ Hid (Below w.heap.size w wr)) (fun i _ => G - (intOf i).toNat)
    case atStart => exact ⟨0, Nat.zero_le _, rfl, Lib.hid rfl, HB⟩
    case round =>
      obtain ⟨k, hk, rfl, HY, HB'⟩ := hrel
      replace HB := HB'
      clear HB'
      by_cases hlt : k < G
      · have hkm : (k : Int) < G := by omega
        have ht := segs12_at (bs := bs) hlt
        obtain ⟨f, hf⟩ : ∃ f, be32 bs (16 + 12 * k) = f := ⟨_, rfl⟩
        obtain ⟨l, hl⟩ : ∃ l, be32 bs (20 + 12 * k) = l := ⟨_, rfl⟩
        obtain ⟨g, hgg⟩ : ∃ g, be32 bs (24 + 12 * k) = g := ⟨_, rfl⟩
        have gb := be32_bd bs (24 + 12 * k)
        have fb := be32_bd bs (16 + 12 * k)
        rw [hgg] at gb
        rw [hf] at fb
        obtain ⟨gb1, gb2⟩ := gb
        obtain ⟨fb1, fb2⟩ := fb
        have hu1 : ∀ u, Below w.heap.size w u → Calls Try.prog 54 #[.slice A n c, .int .i64 (16 + 12 * (k : Int))] u fun e w' => e = .returned (.int .i64 f) ∧ Below u.heap.size u w' := fun u hu => by rw [← hf]; exact HW.out u hu (16 + 12 * k) _ (by omega) (by omega)
        have hu2 : ∀ u, Below w.heap.size w u → Calls Try.prog 54 #[.slice A n c, .int .i64 (20 + 12 * (k : Int))] u fun e w' => e = .returned (.int .i64 l) ∧ Below u.heap.size u w' := fun u hu => by rw [← hl]; exact HW.out u hu (20 + 12 * k) _ (by omega) (by omega)
        have hu3 : ∀ u, Below w.heap.size w u → Calls Try.prog 54 #[.slice A n c, .int .i64 (24 + 12 * (k : Int))] u fun e w' => e = .returned (.int .i64 g) ∧ Below u.heap.size u w' := fun u hu => by rw [← hgg]; exact HW.out u hu (24 + 12 * k) _ (by omega) (by omega)
        have HU1 := Lib.hid hu1
        have HU2 := Lib.hid hu2
        have HU3 := Lib.hid hu3
        have hsf : (seg12 bs k).f = f := hf
        have hsl : (seg12 bs k).l = l := hl
        have hat : atV (seg12 bs k) code = g + code - f := by
          show (if false = true then (be32 bs (24 + 12 * k) + code - be32 bs (16 + 12 * k)) % 65536 else be32 bs (24 + 12 * k) + code - be32 bs (16 + 12 * k)) = _
          rw [if_neg (by decide), hgg, hf]
        clear hf hl hgg hu1 hu2 hu3
        by_cases hout : code < f ∨ l < code
        · have HN := Lib.hid (scan_next HY.out ht (by unfold inB; rw [hsf, hsl]; simp; omega))
          have hcs : decide (f ≤ code) = false ∨ (decide (f ≤ code) = true ∧ decide (code ≤ l) = false) := by simp; omega
          clear HY ht hsf hsl hat hout
          rcases hcs with d1 | ⟨d1, d2⟩
          all_goals
            go_wp2_with (first
              | (go_at_call 54; (with_reducible refine (HG.out _ HB.out).mono ?_); rintro _ w1 ⟨rfl, hb1⟩; replace HB := Lib.hid (HB.out.trans (hb1.mono HB.out.size)); clear hb1)
              | (go_at_call 54; (with_reducible refine (HU1.out _ HB.out).mono ?_); rintro _ w1 ⟨rfl, hb1⟩; replace HB := Lib.hid (HB.out.trans (hb1.mono HB.out.size)); clear hb1)
              | (go_at_call 54; (with_reducible refine (HU2.out _ HB.out).mono ?_); rintro _ w1 ⟨rfl, hb1⟩; replace HB := Lib.hid (HB.out.trans (hb1.mono HB.out.size)); clear hb1)
              | fail)
            go_roundw
            case rel => exact ⟨k + 1, by omega, by go_num, HN, HB⟩
            case measure => simp [intOf]; omega
        · have hhit := (scan_hit HY.out ht (by unfold inB; rw [hsf, hsl]; simp; omega)).trans hat
          have d1 : decide (f ≤ code) = true := by simp; omega
          have d2 : decide (code ≤ l) = true := by simp; omega
          have HR := Lib.hid fun w' (hb : Below w.heap.size w w') => int_is hhit hb
          clear HY ht hsf hsl hat hout hhit
          generalize rawV (segs12 bs G) code = R at *
          go_wp2_with (first
            | (go_at_call 54; (with_reducible refine (HG.out _ HB.out).mono ?_); rintro _ w1 ⟨rfl, hb1⟩; replace HB := Lib.hid (HB.out.trans (hb1.mono HB.out.size)); clear hb1)
            | (go_at_call 54; (with_reducible refine (HU1.out _ HB.out).mono ?_); rintro _ w1 ⟨rfl, hb1⟩; replace HB := Lib.hid (HB.out.trans (hb1.mono HB.out.size)); clear hb1)
            | (go_at_call 54; (with_reducible refine (HU2.out _ HB.out).mono ?_); rintro _ w1 ⟨rfl, hb1⟩; replace HB := Lib.hid (HB.out.trans (hb1.mono HB.out.size)); clear hb1)
            | (go_at_call 54; (with_reducible refine (HU3.out _ HB.out).mono ?_); rintro _ w1 ⟨rfl, hb1⟩; replace HB := Lib.hid (HB.out.trans (hb1.mono HB.out.size)); clear hb1)
            | fail)
          go_ret
          exact HR.out _ HB.out
      · obtain rfl : k = G := by omega
        have HR := Lib.hid fun w' (hb : Below w.heap.size w w') => int_is (scan_end HY.out (by rw [HLN.out]; exact Nat.le_refl _)) hb
        generalize rawV (segs12 bs k) code = R at *
        go_wp2_with (first
          | (go_at_call 54; (with_reducible refine (HG.out _ HB.out).mono ?_); rintro _ w1 ⟨rfl, hb1⟩; replace HB := Lib.hid (HB.out.trans (hb1.mono HB.out.size)); clear hb1)
          | fail)
        go_ret
        exact HR.out _ HB.out
end Go.Proofs.Ytlbfefdmbdjjcaa

namespace Go.Proofs.Ytlbfefdmbdjjcaa
open Go.RowKit

theorem pr_info : (Try.prog.info? 43).map (fun i => (i.zero.map (fun z => z.cells.size), i.size, i.bytes)) = some (some 2, 2, 16) := by kernel_rfl
theorem pr_parts : ∃ i z, Try.prog.info? 43 = some i ∧ i.zero = some z ∧ i.size = 2 ∧ i.bytes = 16 ∧ z.cells.size = 2 := by
  have h := pr_info
  cases hi : Try.prog.info? 43 with
  | none => rw [hi] at h; cases h
  | some i =>
    rw [hi] at h
    simp only [Option.map_some, Option.some.injEq, Prod.mk.injEq] at h
    obtain ⟨h1, h2, h3⟩ := h
    cases hz : i.zero with
    | none => rw [hz] at h1; cases h1
    | some z =>
      rw [hz] at h1
      exact ⟨i, z, rfl, hz, h2, h3, by simpa using h1⟩
theorem own_empty2 (w : World) (e : TypeId) (s : Nat) : (w.alloc (.cells #[] e)).ownsRow w.heap.size e s (.slice (some ⟨w.heap.size, 0, none⟩) 0 0) 0 [] :=
  ⟨by simp, .inr ⟨w.heap.size, 0, #[], rfl, Nat.le_refl _, heap_alloc_new w _, Nat.le_refl _, Nat.zero_le _, by simp, by simp⟩⟩
theorem own_cap {w : World} {base n k : Nat} {e : TypeId} {v : Value} {xs : List Value} (h : w.ownsRow base e k v n xs) : ∃ A c, v = .slice A n c ∧ n ≤ c := by
  obtain ⟨hl, ⟨rfl, h0⟩ | ⟨g, cap, cur, rfl, hg, hh, hn, _⟩⟩ := h
  · subst h0
    exact ⟨none, 0, rfl, Nat.le_refl _⟩
  · exact ⟨_, _, rfl, hn⟩
theorem pr_one (l : List Pr) : ∀ u ∈ (l.map prC).flatten, u.oneCell' = true := fun u hu => by
  obtain ⟨r, hr, hu⟩ := List.mem_flatten.1 hu
  obtain ⟨s, _, rfl⟩ := List.mem_map.1 hr
  simp only [prC, List.mem_cons, List.mem_nil_iff, or_false] at hu
  rcases hu with rfl | rfl <;> rfl
/-- What append([]api.Pair{}, l...) has made. -/
theorem pr_cloned {w w' : World} {v : Value} {n : Nat} {l : List Pr} (_hn : l.length = n) (h : w'.ownsRow w.heap.size 43 2 v (0 + n) ([] ++ (l.map prC).flatten)) (hg : (w.alloc (.cells #[] 43)).grownBy w' (Value.slice (some ⟨w.heap.size, 0, none⟩) 0 0).ownBlock) : ∃ A c, v = .slice A n c ∧ n ≤ c ∧ RowsAt w' A n 2 (l.map prC) ∧ Below w.heap.size w w' := by
  rw [Nat.zero_add, List.nil_append] at h
  obtain ⟨A, c, rfl, hc⟩ := own_cap h
  obtain ⟨A', c', e, hr, _⟩ := RowsAt.of_own (rows := l.map prC) h rfl (fun r hr => by obtain ⟨p, _, rfl⟩ := List.mem_map.1 hr; rfl) (by omega)
  injection e with e1 e2 e3
  subst e1
  refine ⟨A, c, rfl, hc, hr, (bel_alloc bel_refl).below.trans ⟨hg.os, hg.tape, hg.output, hg.size, fun k hk => hg.block k (by simp; omega) (by simp [Value.ownBlock]; omega)⟩⟩
theorem pairs_of {w : World} {A : Option Addr} {n : Nat} (h : ∀ i, i < n → ∃ b o, A = some ⟨b, o, none⟩ ∧ b < w.heap.size ∧ CellsOk w [.int .i64, .int .i64] (fun j => w.cell? ⟨b, o + (i * [CK.int .i64, .int .i64].length + j), none⟩)) :
    ∃ l : List Pr, RowsAt w A n 2 (l.map prC) := by
  obtain ⟨l, hl, hq⟩ := list_of (p := fun k (d : Pr) => ∃ b o, A = some ⟨b, o, none⟩ ∧ b < w.heap.size ∧ w.cell? ⟨b, o + k * 2, none⟩ = some (.int .i64 d.1) ∧ w.cell? ⟨b, o + k * 2 + 1, none⟩ = some (.int .i64 d.2)) n (fun k hk => by
    obtain ⟨b', o', hA', hb', hc'⟩ := h k hk
    simp only [CellsOk, and_true, Nat.add_zero, List.length_cons, List.length_nil, Nat.zero_add] at hc'
    obtain ⟨⟨u, hu, ku⟩, v, hv', kv⟩ := hc'
    simp only [CellOk] at ku kv
    obtain ⟨x, rfl, -⟩ := ku
    obtain ⟨y, rfl, -⟩ := kv
    exact ⟨(x, y), b', o', hA', hb', hu, by rw [Nat.add_assoc]; exact hv'⟩)
  refine ⟨l, by rw [List.length_map]; exact hl, fun i r hr => ?_⟩
  rw [List.getElem?_map] at hr
  obtain ⟨p, hp, rfl⟩ := Option.map_eq_some_iff.1 hr
  obtain ⟨b, o, hA, hb, h1, h2⟩ := hq i p hp
  refine ⟨rfl, b, o, hA, hb, fun j v hv => ?_⟩
  rcases j with _ | _ | j
  · simp only [prC, List.getElem?_cons_zero, Option.some.injEq] at hv
    subst hv
    exact h1
  · simp only [prC, List.getElem?_cons_succ, List.getElem?_cons_zero, Option.some.injEq] at hv
    subst hv
    exact h2
  · simp [prC] at hv
end Go.Proofs.Ytlbfefdmbdjjcaa

namespace Go.Proofs.Ytlbfefdmbdjjcaa
open Go.RowKit Go.Shelf

/-- Pairs that a call made and appends to. -/
structure OwP (B : Nat) (w : World) (A : Option Addr) (L c : Nat) (l : List Pr) : Prop where
  len : l.length = L
  own : w.ownsRow B 43 2 (.slice A L c) L (l.map prC).flatten
  le : B ≤ w.heap.size
theorem prC_len (l : List Pr) : ∀ r ∈ l.map prC, r.length = 2 := fun r hr => by obtain ⟨s, _, rfl⟩ := List.mem_map.1 hr; rfl
section
variable {B : Nat} {w w' : World} {A : Option Addr} {L c : Nat} {l : List Pr}
theorem OwP.row (h : OwP B w A L c l) : ∀ k, rowOf A = some k → B ≤ k ∧ k < w.heap.size := fun k hk => own_lt h.own k (by rw [ownBlock_slice]; exact hk)
theorem OwP.stay (h : OwP B w A L c l) (hs : w.heap.size ≤ w'.heap.size) (hk : ∀ k, rowOf A = some k → w'.heap[k]? = w.heap[k]?) : OwP B w' A L c l :=
  ⟨h.len, own_keep h.own fun k e => hk k (by rw [← ownBlock_slice]; exact e), Nat.le_trans h.le hs⟩
theorem OwP.keep (h : OwP B w A L c l) (hb : Below w.heap.size w w') : OwP B w' A L c l := h.stay hb.size fun k hk => hb.block k (h.row k hk).2
theorem OwP.nil (h : B ≤ w.heap.size) : OwP B w none 0 0 [] := ⟨rfl, World.ownsRow_nil _ _ _ _, h⟩
theorem OwP.set (h : OwP B w A L c l) {p : Addr} (hp : p.block < B) (v : Value) : OwP B (w.setCell p v) A L c l :=
  h.stay (by simp) fun k hk => Below.heap_setCell _ _ _ _ (by have := (h.row k hk).1; omega)
theorem OwP.rows (h : OwP B w A L c l) : RowsAt w A L 2 (l.map prC) := by
  obtain ⟨A', c', e, h1, _⟩ := RowsAt.of_own h.own rfl (prC_len l) (by omega)
  injection e with e1 e2 e3
  subst e1
  have := h1
  rw [← h.len]
  simpa [h.len] using this
theorem OwP.appended (h : OwP B w A L c l) {v' : Value} {s : Pr} (hown : w'.ownsRow B 43 2 v' (L + 1) ((l.map prC).flatten ++ prC s)) (hgrow : w.grownBy w' (Value.slice A L c).ownBlock) :
    ∃ A' c', v' = .slice A' (L + 1) c' ∧ OwP B w' A' (L + 1) c' (l ++ [s]) := by
  obtain ⟨A', c', rfl, _⟩ := RowsAt.of_own (rows := (l ++ [s]).map prC) hown (by simp) (prC_len _) (by omega)
  exact ⟨A', c', rfl, by simp [h.len], by simpa using hown, Nat.le_trans h.le hgrow.size⟩
theorem wpList_append_pr {ops : Array Oper} {rest : List Oper} {o : Oper} {a : Act} {Q : Exit → Act → World → Prop} (hgd : o.guard = none) (s x : Operand)
    (ho : o.op = .call { callee := .builtin .append, args := #[s, x], argTypes := #[34, 34] }) (hs : a.eval s = .slice A L c) (h : OwP B w A L c l)
    (A2 : Option Addr) (c2 : Nat) (hx : a.eval x = .slice A2 1 c2) (sg : Pr) (hr : Reads w w.heap.size 2 A2 1 (prC sg)) (hb : L ≤ 1000000)
    (k : ∀ A' c' w', OwP B w' A' (L + 1) c' (l ++ [sg]) → w.grownBy w' (Value.slice A L c).ownBlock → wpList Try.prog ops Q rest (a.put o.dst (.slice A' (L + 1) c')) w') : wpList Try.prog ops Q (o :: rest) a w := by
  obtain ⟨i0, z0, hi0, hz0, hz1, hz2, hz3⟩ := pr_parts
  refine wpList_append_any w hgd s x _ ho B 43 i0 _ 2 16 Try.underlying34 hi0 hz0 hz1 hz2 hz3 (by omega) _ L (l.map prC).flatten hs h.own w.heap.size A2 1 c2 (prC sg) hx hr (by simpa using pr_one [sg]) (by unfold maxLen; omega) (by omega) h.le ?_
  intro v' w' hown hgrow _
  obtain ⟨A', c', rfl, h'⟩ := h.appended hown hgrow
  exact k A' c' w' h' hgrow
theorem reads_pr (W : World) (sg : Pr) : Reads (W.alloc (.cells #[.int .i64 sg.1, .int .i64 sg.2] 43)) (W.alloc (.cells #[.int .i64 sg.1, .int .i64 sg.2] 43)).heap.size 2 (some ⟨W.heap.size, 0, none⟩) 1 (prC sg) := by
  rw [World.size_alloc]
  exact reads_new W (prC sg) _ 2 1 rfl
end
theorem glS_in {S : List Sv} {n code : Int} (h : 0 ≤ code ∧ code ≤ 1114111) : glS S n code = glV S n code := by
  unfold glS
  rw [if_neg (by omega)]
theorem glS_out {S : List Sv} {n code : Int} (h : code < 0 ∨ 1114111 < code) : glS S n code = 0 := by
  unfold glS
  rw [if_pos h]
/-- The pairs of a window of k code points. -/
def wdL (S : List Sv) (n fr : Int) (k : Nat) : List Pr := ppV S n (max fr 0) (min (fr + k) 1114112)
theorem wd_nil (S : List Sv) (n fr : Int) : wdL S n fr 0 = [] := pp_nil S (by omega)
theorem wd_skip {S : List Sv} {n fr : Int} {k : Nat} (h : glS S n (fr + k) = 0) : wdL S n fr (k + 1) = wdL S n fr k := by
  unfold wdL
  by_cases h0 : fr + k < 0
  · rw [pp_nil S (by omega), pp_nil S (by omega)]
  by_cases h1 : 1114111 < fr + k
  · rw [show min (fr + ((k + 1 : Nat) : Int)) 1114112 = min (fr + (k : Int)) 1114112 by omega]
  rw [glS_in (by omega)] at h
  rw [show min (fr + ((k + 1 : Nat) : Int)) 1114112 = fr + k + 1 by omega, show min (fr + (k : Int)) 1114112 = fr + k by omega, pp_succ S (by omega)]
  unfold prV
  rw [if_pos h]
  simp
theorem wd_hit {S : List Sv} {n fr g : Int} {k : Nat} (h : glS S n (fr + k) = g) (hg : g ≠ 0) : wdL S n fr (k + 1) = wdL S n fr k ++ [(fr + k, g)] := by
  unfold wdL
  by_cases h0 : fr + k < 0 ∨ 1114111 < fr + k
  · rw [glS_out h0] at h
    exact absurd h.symm hg
  rw [glS_in (by omega)] at h
  rw [show min (fr + ((k + 1 : Nat) : Int)) 1114112 = fr + k + 1 by omega, show min (fr + (k : Int)) 1114112 = fr + k by omega, pp_succ S (by omega)]
  unfold prV
  rw [h, if_neg hg]
  rfl
theorem wd_len (S : List Sv) (n fr : Int) (k : Nat) : (wdL S n fr k).length ≤ k := by
  induction k with
  | zero => rw [wd_nil]; exact Nat.le_refl _
  | succ k ih =>
    by_cases h : glS S n (fr + k) = 0
    · rw [wd_skip h]; omega
    · rw [wd_hit rfl h, List.length_append]
      show _ + 1 ≤ k + 1
      omega
end Go.Proofs.Ytlbfefdmbdjjcaa

namespace Go.Proofs.Ytlbfefdmbdjjcaa
open Go.RowKit Go.Shelf

theorem RmP.keep {w w' : World} {g : Nat} {bs : List UInt8} {f n : Int} (h : RmP w g bs f n) (hb : Below w.heap.size w w') : RmP w' g bs f n := by
  obtain ⟨A, m, c, h1, h2, h3⟩ := h
  exact ⟨A, m, c, h1.below hb h1.lt, h2.keep hb, h3⟩
theorem RmP.lt {w : World} {g : Nat} {bs : List UInt8} {f n : Int} (h : RmP w g bs f n) : g < w.heap.size := by
  obtain ⟨A, m, c, h1, h2, h3⟩ := h
  exact h1.lt
set_option maxRecDepth 20000 in
set_option maxHeartbeats 4000000 in
theorem rglyph_any {w : World} {g : Nat} {bs : List UInt8} {f n : Int} {S : List Sv} (code : Int) (h : RmP w g bs f n) (hf : isFmtB f = true) (hS : loadS bs f = some S) (hl : bs.length ≤ 1000000) (hn : 1 ≤ n) :
    Calls Try.prog 13 #[.pointer (some ⟨g, 0, none⟩), .int .i64 code] w (IntR (glS S n code) w) := by
  obtain ⟨A, m, c, h1, h2, h3⟩ := h
  have HB : Hid (Below w.heap.size w w) := Lib.hid (Below.refl _ _)
  by_cases hout : code < 0 ∨ 1114111 < code
  · have HR := Lib.hid fun w' (hb : Below w.heap.size w w') => int_is (glS_out (S := S) (n := n) hout) hb
    have hcs : decide (code < 0) = true ∨ (decide (code < 0) = false ∧ decide (1114111 < code) = true) := by simp; omega
    clear h1 h2 h3 hS hout
    generalize glS S n code = R at *
    rcases hcs with d1 | ⟨d1, d2⟩
    all_goals
      go_enter Try.func13, Try.ntmps13
      go_wp2_with fail
      go_ret
      exact HR.out _ HB.out
  · have hF := fun (u : World) (hu : Below w.heap.size w u) => rfind_any (c := c) code (slat_kept h2 hu) h3 (by omega) hf hS (by omega)
    have hg : glS S n code = if rawV S code < n then rawV S code else 0 := by rw [glS_in (by omega), glV_raw S hn]
    obtain ⟨v, hv⟩ : ∃ v, rawV S code = v := ⟨_, rfl⟩
    rw [hv] at hF hg
    have HF := Lib.hid hF
    have d1 : decide (code < 0) = false := by simp; omega
    have d2 : decide (1114111 < code) = false := by simp; omega
    have c0 : w.cell? ⟨g, 0, none⟩ = some (.slice A m c) := h1.cell 0
    have c1 : w.cell? ⟨g, 1, none⟩ = some (.int .i64 f) := h1.cell 1
    have c2 : w.cell? ⟨g, 2, none⟩ = some (.int .i64 n) := h1.cell 2
    have C2 := Lib.hid fun (u : World) (hu : Below w.heap.size w u) => (h1.below hu h1.lt).cell 2
    simp only [List.getElem?_cons_zero, List.getElem?_cons_succ] at C2
    have gl := h1.lt
    have HDR : Hid (∀ nq, Below w.heap.size w (w.drewN nq)) := Lib.hid fun nq => (bel_drewN bel_refl).below
    by_cases hlt : v < n
    · rw [if_pos hlt] at hg
      have HR := Lib.hid fun w' (hb : Below w.heap.size w w') => int_is hg hb
      have d3 : decide (n ≤ v) = false := by simp; omega
      clear h1 h2 h3 hS hout hF hv hg
      generalize glS S n code = R at *
      go_enter Try.func13, Try.ntmps13
      go_wp2_with fail
      refine wp_region_drew_tail 9 (by kernel_rfl) (by kernel_rfl) ?_
      simp only [List.take_succ_cons, List.take_zero, List.drop_succ_cons, List.drop_zero]
      repeat (go_big_quiet_step (fail))
      refine wpQuiet_nil ?_
      rintro _ ⟨nq, rfl⟩
      go_wp2_with (first
        | (go_at_call 33; (with_reducible refine (HF.out _ (HDR.out nq)).mono ?_); rintro e w1 ⟨rfl, hb1⟩; have hb2 := (HDR.out nq).trans (hb1.mono (HDR.out nq).size); have r2 := C2.out _ hb2; have gl1 := Nat.lt_of_lt_of_le gl hb2.size; replace HB := Lib.hid hb2; clear hb1 hb2)
        | fail)
      go_ret
      exact HR.out _ HB.out
    · rw [if_neg hlt] at hg
      have HR := Lib.hid fun w' (hb : Below w.heap.size w w') => int_is hg hb
      have d3 : decide (n ≤ v) = true := by simp; omega
      clear h1 h2 h3 hS hout hF hv hg
      generalize glS S n code = R at *
      go_enter Try.func13, Try.ntmps13
      go_wp2_with fail
      refine wp_region_drew_tail 9 (by kernel_rfl) (by kernel_rfl) ?_
      simp only [List.take_succ_cons, List.take_zero, List.drop_succ_cons, List.drop_zero]
      repeat (go_big_quiet_step (fail))
      refine wpQuiet_nil ?_
      rintro _ ⟨nq, rfl⟩
      go_wp2_with (first
        | (go_at_call 33; (with_reducible refine (HF.out _ (HDR.out nq)).mono ?_); rintro e w1 ⟨rfl, hb1⟩; have hb2 := (HDR.out nq).trans (hb1.mono (HDR.out nq).size); have r2 := C2.out _ hb2; have gl1 := Nat.lt_of_lt_of_le gl hb2.size; replace HB := Lib.hid hb2; clear hb1 hb2)
        | fail)
      go_ret
      exact HR.out _ HB.out
end Go.Proofs.Ytlbfefdmbdjjcaa

namespace Go.Proofs.Ytlbfefdmbdjjcaa
open Go.RowKit Go.Shelf

attribute [local go_sem] Oper.semAt_some
/-- Between two rounds: so many pairs have come. -/
def WnI (wr : World) (pre : List (Int × Int)) (W : World) : Prop := Blk W wr.heap.size 3 [.int .i64 pre.length] ∧ Below wr.heap.size wr W
theorem wnI_stable {wr : World} {N : Nat} (h : wr.heap.size < N) : BStable N (WnI wr) := fun _ _ _ ⟨h3, h4⟩ hb => ⟨h3.below hb h, h4.trans (hb.mono (by omega))⟩
/-- Stopped early: true is laid in the result's cell. -/
def WnX (wr : World) (B : Nat) (c : Code) (_ : List (Int × Int)) (W : World) : Prop := c = .ret ∧ Blk W (B + 1) 4 [.bool true] ∧ Below B wr W
theorem wnX_stable {wr : World} {B N : Nat} (h : B + 1 < N) (_h2 : N ≤ wr.heap.size + 1) : ∀ c, BStable N (WnX wr B c) := fun _ _ _ _ ⟨h1, h3, h4⟩ hb => ⟨h1, h3.below hb h, h4.trans (hb.mono (by omega))⟩
set_option maxRecDepth 100000 in
set_option maxHeartbeats 4000000 in
theorem window_any {w : World} {mp g : Nat} {fmt n : Int} {A : Option Addr} {k c : Nat} {es : List Sg} {S : List Sv} {bs : List UInt8} (fr stop : Int) (hp : Mp w mp fmt n A k c es) (hr : RmP w g bs fmt n) (hf : isFmtB fmt = true) (hS : loadS bs fmt = some S) (hE : es.map sgV = S) (hl : bs.length ≤ 1000000) :
    Calls Try.prog 14 #[.pointer (some ⟨mp, 0, none⟩), .pointer (some ⟨g, 0, none⟩), .int .i64 fr, .int .i64 stop] w fun e w' => e = .returned (.bool true) ∧ Below w.heap.size w w' := by
  have hn := hp.n0
  have HGL := Lib.hid fun (u : World) (hu : Below w.heap.size w u) (code x : Int) (hx : glS S n code = x) => gl_is (w := u) hE hx (hp.keep hu)
  have HRG := Lib.hid fun (u : World) (hu : Below w.heap.size w u) (code x : Int) (hx : glS S n code = x) => (show Calls Try.prog 13 #[.pointer (some ⟨g, 0, none⟩), .int .i64 code] u fun e w' => e = .returned (.int .i64 x) ∧ Below u.heap.size u w' from hx ▸ rglyph_any code (hr.keep hu) hf hS hl hn)
  have HFM := Lib.hid fun (u : World) (hu : Below w.heap.size w u) => format_any (hp.keep hu)
  have HP := Lib.hid hp
  have HE := Lib.hid hE
  obtain ⟨Ar, mr, cr, hrb, _, _⟩ := hr
  have HX := Lib.hid fun (u : World) (hu : Below w.heap.size w u) => (hrb.below hu hrb.lt)
  have gl := hrb.lt
  clear hp hrb hf hS hE hl
  refine (callsIn_wide (n := 9)).1 (callsIn_of_wp_marks Try.func14 rfl trivial ?_ rfl)
  simp only [Try.ntmps14, List.size_toArray, List.length_cons, List.length_nil, Nat.reduceAdd, Nat.reduceSub, Array.replicate_succ, Array.replicate_zero, List.push_toArray, List.append_toArray, List.nil_append, List.cons_append]
  refine wpIn_wide.2 ?_
  go_upto_region 1 with fail
  obtain ⟨W0, hW0⟩ : ∃ W0, (w.alloc (.cells #[.int .i64 stop] 3)).alloc (.cells #[.bool false] 4) = W0 := ⟨_, rfl⟩
  have hal : Below w.heap.size w W0 := by rw [← hW0]; exact (bel_alloc (bel_alloc bel_refl)).below
  have hz0 : W0.heap.size = w.heap.size + 2 := by rw [← hW0]; simp
  have h7 : Blk W0 w.heap.size 3 [.int .i64 stop] := by rw [← hW0]; exact (Blk.new w 3 [_]).alloc _
  have h8 : Blk W0 (w.heap.size + 1) 4 [.bool false] := by rw [← hW0]; exact Blk.newAt _ 4 [_] (by simp)
  rw [hW0]
  have H7 := Lib.hid fun u (hu : Below W0.heap.size W0 u) => h7.keepB hu
  have H8 := Lib.hid fun u (hu : Below W0.heap.size W0 u) => h8.keepB hu
  have HAL := Lib.hid hal
  have hzl : w.heap.size + 2 ≤ W0.heap.size := by omega
  clear hal h7 h8 hW0 hz0
  go_cut [20] from 15 to 20 (fun s20 wx => ∃ bb : Bool, s20 = .bool bb ∧ (bb = false → ¬ (fr < -10 ∨ 1114112 < fr)) ∧ W0 = wx)
  case first =>
    by_cases h1 : fr < -10
    · have d1 : decide (fr < -10) = true := by simp; omega
      go_wp2_with fail
      go_meet
      exact ⟨true, rfl, fun h => (by cases h), rfl⟩
    · have d1 : decide (fr < -10) = false := by simp; omega
      by_cases h2 : 1114112 < fr
      · have d2 : decide (1114112 < fr) = true := by simp; omega
        go_wp2_with fail
        go_meet
        exact ⟨true, rfl, fun h => (by cases h), rfl⟩
      · have d2 : decide (1114112 < fr) = false := by simp; omega
        go_wp2_with fail
        go_meet
        exact ⟨false, rfl, fun _ => by omega, rfl⟩
  case rest =>
  obtain ⟨bb, rfl, hbb, rfl⟩ := hcut
  rename_i hK
  refine hK _ _ ?_
  clear hK
  go_cut [2] from 2 to 2 (fun s2 wx => ∃ f : Int, s2 = .int .i64 f ∧ -10 ≤ f ∧ f ≤ 1114112 ∧ W0 = wx)
  case first =>
    cases bb with
    | true =>
      go_wp2_with fail
      go_meet
      exact ⟨0, rfl, by omega, by omega, rfl⟩
    | false =>
      have h3 := hbb rfl
      go_wp2_with fail
      go_meet
      exact ⟨fr, rfl, by omega, by omega, rfl⟩
  case rest =>
  obtain ⟨f, rfl, hf1, hf2, rfl⟩ := hcut
  rename_i hK _
  refine hK _ _ ?_
  clear hbb
  go_upto_region 4 with (first
    | (go_at_call 20; (with_reducible refine (all_exp _ (.inl ⟨mp, rfl⟩) _ _ _).mono ?_); rintro e w5 ⟨rfl, hw5⟩; have HW5 := Lib.hid hw5; clear hw5)
    | fail)
  have hb45 : Below W0.heap.size W0 w5 := by rw [← HW5.out]; exact (bel_alloc (bel_alloc (bel_alloc bel_refl))).below
  have hz5 : W0.heap.size + 3 = w5.heap.size := by rw [← HW5.out]; simp
  have hpb : Blk w5 W0.heap.size 24 [.pointer (some ⟨mp, 0, none⟩)] := by rw [← HW5.out]; exact ((Blk.new W0 24 [_]).alloc _).alloc _
  have hp1 : Blk w5 (W0.heap.size + 1) 3 [.int .i64 f] := by rw [← HW5.out]; exact (Blk.newAt _ 3 [_] (by simp)).alloc _
  have hp2 : Blk w5 (W0.heap.size + 2) 3 [.int .i64 (f + 300)] := by rw [← HW5.out]; exact Blk.newAt _ 3 [_] (by simp)
  have hb05 := HAL.out.trans (hb45.mono HAL.out.size)
  have hfq : ∀ q, Calls Try.prog 19 #[.pointer (some ⟨mp, 0, none⟩)] (w5.drewN q) fun e w' => e = .returned (.int .i64 fmt) ∧ w5.drewN q = w' := fun q => HFM.out _ (hb05.trans ((bel_drewN bel_refl).below.mono hb05.size))
  have HFQ := Lib.hid hfq
  have x1 : w5.cell? ⟨g, 1, none⟩ = some (.int .i64 fmt) := (HX.out _ hb05).cell 1
  have gl5 : g < w5.heap.size := by have := hb05.size; omega
  have HB5 := Lib.hid hb05
  have HB45 := Lib.hid hb45
  have HPB := Lib.hid hpb
  have HP1 := Lib.hid hp1
  have HP2 := Lib.hid hp2
  clear hb45 hpb hp1 hp2 hb05 hfq HW5
  go_quiet (first | (go_at_call 19; exact Calls.q_left (HFQ.out _)) | fail)
  have hb56 : Below w5.heap.size w5 (w5.drewN nq) := (bel_drewN bel_refl).below
  have hpb := HPB.out.keepB hb56
  have hp1 := HP1.out.keepB hb56
  have hp2 := HP2.out.keepB hb56
  have hb06 := HB5.out.trans (hb56.mono HB5.out.size)
  have hb46 := HB45.out.trans (hb56.mono HB45.out.size)
  have hz6 : W0.heap.size + 3 = (w5.drewN nq).heap.size := by simp; exact hz5
  clear HPB HP1 HP2 HB5 HB45 HFQ x1 gl5 hb56
  generalize w5.drewN nq = w6 at *
  clear hz5 w5
  have HPB := Lib.hid hpb
  have HP1 := Lib.hid hp1
  have HP2 := Lib.hid hp2
  have HB06 := Lib.hid hb06
  have HB46 := Lib.hid hb46
  clear hpb hp1 hp2 hb06 hb46 HFM HX
  go_upto_region 8 with fail
  obtain ⟨W6, hW6⟩ : ∃ W6, w6.alloc (.cells #[.slice none 0 0] 34) = W6 := ⟨_, rfl⟩
  have hb67 : Below w6.heap.size w6 W6 := by rw [← hW6]; exact (bel_alloc bel_refl).below
  have hk6 : Blk W6 w6.heap.size 34 [.slice none 0 0] := by rw [← hW6]; exact Blk.new w6 _ [_]
  have hz67 : W6.heap.size = w6.heap.size + 1 := by rw [← hW6]; simp
  have HK6 := Lib.hid hk6
  have HB67 := Lib.hid hb67
  rw [hW6]
  clear hW6 hb67 hk6
  go_loopw [11] (fun s11 wr => ∃ (k : Nat) (A1 : Option Addr) (L c1 : Nat), k ≤ 300 ∧ s11 = .int .i64 (f + k) ∧ Hid (Blk wr w6.heap.size 34 [.slice A1 L c1]) ∧ Hid (OwP (w6.heap.size + 1) wr A1 L c1 (wdL S n f k)) ∧ Hid (Below w6.heap.size w6 wr)) (fun s11 _ => (f + 300 - intOf s11).toNat)
  case atStart => exact ⟨0, none, 0, 0, by omega, by simp, HK6, Lib.hid (by rw [wd_nil]; exact OwP.nil (by omega)), HB67⟩
  case round =>
    obtain ⟨k, A1, L, c1, hk, rfl, HKB, HOW, HBW⟩ := hrel
    have hsz := HBW.out.size
    have hkl := HKB.out.lt
    by_cases hlt : k < 300
    · have d1 : decide (f + (k : Int) < f + 300) = true := by simp; omega
      obtain ⟨x, hx⟩ : ∃ x, glS S n (f + k) = x := ⟨_, rfl⟩
      have h0r := HB06.out.trans (HBW.out.mono HB06.out.size)
      have hxc := HRG.out _ h0r _ _ hx
      have HXC := Lib.hid hxc
      have hgc : ∀ u, Below wr.heap.size wr u → Calls Try.prog 12 #[.pointer (some ⟨mp, 0, none⟩), .int .i64 (f + k)] u fun e w' => e = .returned (.int .i64 x) ∧ Below u.heap.size u w' := fun u hu => HGL.out _ (h0r.trans (hu.mono h0r.size)) _ _ hx
      have HGC := Lib.hid hgc
      have hln := wd_len S n f k
      rw [HOW.out.len] at hln
      by_cases hx0 : x = 0
      · have hst := wd_skip (hx.trans hx0)
        have HST := Lib.hid hst
        have d2 : (x != 0) = false := by simp; omega
        clear hxc hgc hx h0r hst
        go_wp2_with (first
          | (go_at_call 13; (with_reducible refine HXC.out.mono ?_); rintro e w7 ⟨rfl, hb7⟩; have HB7 := Lib.hid hb7; clear hb7)
          | (go_at_call 12; (with_reducible refine (HGC.out _ HB7.out).mono ?_); rintro e w8 ⟨rfl, hb8⟩; have HB8 := Lib.hid (HB7.out.trans (hb8.mono HB7.out.size)); clear hb8)
          | fail)
        go_roundw
        case rel => exact ⟨k + 1, A1, L, c1, by omega, by go_num, Lib.hid (HKB.out.keepB HB8.out), Lib.hid (by rw [HST.out]; exact HOW.out.keep HB8.out), Lib.hid (HBW.out.trans (HB8.out.mono hsz))⟩
        case measure => simp [intOf]; omega
      · have HST := Lib.hid (wd_hit hx hx0)
        have d2 : (x != 0) = true := by simp; omega
        clear hxc hgc hx h0r
        have HWR := Lib.hid fun (u : World) (hu : Below wr.heap.size wr u) => (And.intro (HKB.out.keepB hu) (And.intro (HOW.out.keep hu) (HBW.out.trans (hu.mono hsz))))
        go_wp2_with (first
          | (go_at_call 13; (with_reducible refine HXC.out.mono ?_); rintro e w7 ⟨rfl, hb7⟩; have HB7 := Lib.hid hb7; clear hb7)
          | (go_at_call 12; (with_reducible refine (HGC.out _ HB7.out).mono ?_); rintro e w8 ⟨rfl, hb8⟩; have HB8 := Lib.hid (HB7.out.trans (hb8.mono HB7.out.size)); clear hb8; obtain ⟨k8, o8, b8⟩ := HWR.out _ HB8.out; have r10 := k8.cell 0; have l10 := k8.lt; simp only [List.getElem?_cons_zero] at r10; have HK8 := Lib.hid k8; have HO8 := Lib.hid o8; have HBB := Lib.hid b8; clear k8 o8 b8; have HK8a := Lib.hid (HK8.out.alloc (.cells #[.int .i64 (f + (k : Int)), .int .i64 x] 43)); have HOA : Hid (OwP (w6.heap.size + 1) (w8.alloc (.cells #[.int .i64 (f + (k : Int)), .int .i64 x] 43)) A1 L c1 (wdL S n f k)) := Lib.hid (HO8.out.keep (bel_alloc bel_refl).below))
          | (at_builtin; refine wpList_append_pr (by rfl) (.tmp 54) (.tmp 58) (by rfl) (by rfl) HOA.out (some ⟨w8.heap.size, 0, none⟩) 1 (by rfl) (f + (k : Int), x) (reads_pr w8 (f + (k : Int), x)) (by omega) ?_; intro A3 c3 w9 ho9 hg9; have hb9 : Below (w6.heap.size + 1) _ w9 := grown_below' hg9 HOA.out.le (fun q hq => (HOA.out.row q (by rw [← ownBlock_slice]; exact hq)).1); have k9 := HK8a.out.below hb9 (Nat.lt_succ_self _); have f9 := k9.frozen 0; have r9 := k9.cell 0; simp only [List.getElem?_cons_zero] at r9; have l9 := k9.lt; have HK9 := Lib.hid k9; have HO9 := Lib.hid ho9; have HB9 : Hid (Below w6.heap.size w6 w9) := Lib.hid ((HBB.out.trans ((bel_alloc bel_refl).below.mono HBB.out.size)).trans (hb9.mono (Nat.le_succ _))); clear hb9 k9 ho9 hg9)
          | fail)
        go_roundw
        case rel => exact ⟨k + 1, A3, L + 1, c3, by omega, by go_num, Lib.hid (HK9.out.set 0 _), Lib.hid (by rw [HST.out]; exact HO9.out.set (by simp) _), Lib.hid (HB9.out.setCell (by simp) _)⟩
        case measure => simp [intOf]; omega
    · obtain rfl : k = 300 := by omega
      have d1 : decide (f + ((300 : Nat) : Int) < f + 300) = false := by simp
      have HN9 : Hid (∀ L', wdL S n f 300 = L' → ppV (es.map sgV) n (max f 0) (min (f + 300) 1114112) = L') := Lib.hid fun L' h => by rw [HE.out]; exact h
      obtain ⟨LL, hLL⟩ : ∃ LL, wdL S n f 300 = LL := ⟨_, rfl⟩
      have hpp := HN9.out _ hLL
      have how := HOW.out
      rw [hLL] at how
      have hrow := how.rows
      have hlen := how.len
      have HRW := Lib.hid hrow
      have HLL := Lib.hid hlen
      have hL3 : L ≤ 300 := by rw [← hlen, ← hLL]; exact wd_len S n f 300
      have hRB : Blk wr (w.heap.size + 1) 4 [.bool false] := (H8.out _ (HB46.out.trans (HBW.out.mono HB46.out.size)))
      have hSB : Blk wr w.heap.size 3 [.int .i64 stop] := (H7.out _ (HB46.out.trans (HBW.out.mono HB46.out.size)))
      have HRB := Lib.hid hRB
      have HSB := Lib.hid hSB
      have h0r := HB06.out.trans (HBW.out.mono HB06.out.size)
      have H0R := Lib.hid h0r
      have hz0r := h0r.size
      have HM6 := Lib.hid (HP.out.keep HB06.out)
      clear hLL how hrow hlen hRB hSB HN9 HOW H7 H8 HGL HRG h0r HB46 HK6 HB67 HP
      go_upto_region 17 with fail
      obtain ⟨W7, hW7⟩ : ∃ W7, wr.alloc (.cells #[.int .i64 0] 3) = W7 := ⟨_, rfl⟩
      have hb7 : Below wr.heap.size wr W7 := by rw [← hW7]; exact (bel_alloc bel_refl).below
      have hk7 : Blk W7 wr.heap.size 3 [.int .i64 0] := by rw [← hW7]; exact Blk.new wr 3 [_]
      have hz7 : W7.heap.size = wr.heap.size + 1 := by rw [← hW7]; simp
      rw [hW7]
      have hgv := all_gives 8 HM6.out HPB.out HP1.out HP2.out (HBW.out.trans (hb7.mono hsz)) (fun b => b = wr.heap.size) (fun b hb => by rw [hb]; omega)
      rw [hpp] at hgv
      have HGV := Lib.hid hgv
      have HK7 := Lib.hid hk7
      have HB7 := Lib.hid hb7
      clear hgv hk7 hb7 hW7 hpp HPB HP1 HP2 HM6 HE HB06
      refine (wpIn_wide (n := 9)).1 ?_
      refine wpIn_range_b (P := Try.prog) (n := 9) (gf := 44) (lb := #[.pointer (some ⟨W0.heap.size, 0, none⟩), .pointer (some ⟨W0.heap.size + 1, 0, none⟩), .pointer (some ⟨W0.heap.size + 2, 0, none⟩)]) rfl (enters_of Try.func44 (by kernel_rfl) rfl)
        HGV.out (fun h h' => KpU.trans h h') (fun W l o o' hl h h1 _ => KpU.put (w := W7) (by omega) W l o o' hl h h1) (Below.refl _ _) (fun _ => rfl)
        (WnI wr) (WnX wr w.heap.size) (wnI_stable (by omega)) (wnX_stable (by omega) (by omega)) ⟨HK7.out, HB7.out⟩
        ?a1 (fun x W => W.alloc (.cells #[.int .i64 x.1, .int .i64 x.2] 43)) (fun _ _ => (bel_alloc bel_refl).below) (fun _ _ h => .of_below (bel_alloc bel_refl).below (by omega)) ?assign ?body ?done ?stop
      case assign =>
        intro l x W K hK
        simp only [ppR, List.zip_toArray, List.zip_cons_cons, List.zip_nil_right, List.foldl_toArray, List.foldl_cons, List.foldl_nil, List.setIfInBounds_toArray, List.set_cons_succ, List.set_cons_zero]
        gi_wp2
        exact hK
      case body =>
        rintro l0 pre ⟨x1, x2⟩ W Wb hl0 hrec hge hsb hcells ⟨hkb, hbw⟩ hpre
        have bp : Blk Wb W.heap.size 43 [.int .i64 x1, .int .i64 x2] := hcells _ _ (Blk.newAt (n := W.heap.size) _ 43 [_, _] rfl) rfl
        have hat : LL[pre.length]? = some (x1, x2) := by
          obtain ⟨t, ht⟩ := hpre
          rw [← ht, List.append_assoc, List.getElem?_append_right (Nat.le_refl _), Nat.sub_self]
          rfl
        have hpl : pre.length < L := by
          have := (List.getElem?_eq_some_iff.1 hat).1
          rw [HLL.out] at this
          exact this
        obtain ⟨j, hj⟩ : ∃ j, pre.length = j := ⟨_, rfl⟩
        have hkb' := hkb
        rw [hj] at hat hpl hkb'
        obtain ⟨b, o, hA1, hbl, hcc⟩ := (HRW.out.keep hbw).at_ (i := j) (r := prC (x1, x2)) (by rw [List.getElem?_map, hat]; rfl)
        have q0 : Wb.cell? ⟨b, o + j * 2, none⟩ = some (.int .i64 x1) := hcc 0 _ rfl
        have q1 : Wb.cell? ⟨b, o + j * 2 + 1, none⟩ = some (.int .i64 x2) := hcc 1 _ rfl
        have hwk := HKB.out.keepB hbw
        have hst := HSB.out.keepB hbw
        have hrs := HRB.out.keepB hbw
        rw [hA1] at hwk
        have c10 : Wb.cell? ⟨w6.heap.size, 0, none⟩ = some (.slice (some ⟨b, o, none⟩) L c1) := hwk.cell 0
        have c7 : Wb.cell? ⟨w.heap.size, 0, none⟩ = some (.int .i64 stop) := hst.cell 0
        have c13 : Wb.cell? ⟨wr.heap.size, 0, none⟩ = some (.int .i64 j) := hkb'.cell 0
        have f13 := hkb'.frozen 0
        have x0 : Wb.cell? ⟨W.heap.size, 0, none⟩ = some (.int .i64 x1) := bp.cell 0
        have x1' : Wb.cell? ⟨W.heap.size, 1, none⟩ = some (.int .i64 x2) := bp.cell 1
        have l13 := hkb'.lt
        have lx := bp.lt
        have l10 := hwk.lt
        have l7 := hst.lt
        have e1 : decide ((L : Int) ≤ j) = false := by simp; omega
        have e2 : decide (L ≤ j) = false := by simp; omega
        have HKJ := Lib.hid hkb'
        have HBWB := Lib.hid hbw
        have HRS := Lib.hid hrs
        have HJ := Lib.hid hj
        have c8 : Wb.cell? ⟨w.heap.size + 1, 0, none⟩ = some (.bool false) := hrs.cell 0
        have f8 := hrs.frozen 0
        have l8 := hrs.lt
        clear hrec hcells hpre bp hat hkb hkb' hbw hcc hwk hst hrs hj
        by_cases hstop : (j : Int) + 1 = stop
        · have d1 : ((j : Int) + 1 == stop) = true := by simpa using hstop
          gi_wp2
          refine wpIn_region_free (free_round _) (by kernel_rfl) (by kernel_rfl) (by kernel_rfl) ?_
          repeat (go_big_quiet_step (fail))
          refine wpQuiet_nil ?_
          rintro _ ⟨nq, rfl⟩
          gi_wp2
          have hdb : Below Wb.heap.size Wb (Wb.drewN nq) := (bel_drewN (n := nq) bel_refl).below
          have hx := HBWB.out.size
          exact ⟨((⟨Nat.le_refl _, fun _ _ h _ => h⟩ : KeepsOthers Wb (Wb.drewN nq)).trans (KeepsOthers.setCell _ _ _)).trans (KeepsOthers.setCell _ _ _), rfl, ((HRS.out.keepB hdb).far (p := ⟨wr.heap.size, 0, none⟩) (by simp; omega) _).set 0 _, (((HBWB.out.mono hz0r).trans (hdb.mono (by omega))).setCell (by simp; omega) _).setCell (by simp) _⟩
        · have d1 : ((j : Int) + 1 == stop) = false := by simpa using hstop
          gi_wp2
          refine wpIn_region_free (free_round _) (by kernel_rfl) (by kernel_rfl) (by kernel_rfl) ?_
          repeat (go_big_quiet_step (fail))
          refine wpQuiet_nil ?_
          rintro _ ⟨nq, rfl⟩
          gi_wp2
          have hdb : Below Wb.heap.size Wb (Wb.drewN nq) := (bel_drewN (n := nq) bel_refl).below
          have hx := HBWB.out.size
          have hN := (HKJ.out.drewN nq).set 0 (.int .i64 ((j : Int) + 1))
          refine ⟨(⟨Nat.le_refl _, fun _ _ h _ => h⟩ : KeepsOthers Wb (Wb.drewN nq)).trans (KeepsOthers.setCell _ _ _), (KpU.of_below (F := fun b => b = wr.heap.size) hdb (by omega)).set (p := ⟨wr.heap.size, 0, none⟩) rfl hsz _, ?_, (HBWB.out.trans (hdb.mono hx)).setCell (Nat.le_refl _) _⟩
          rw [List.length_append, HJ.out]
          exact hN
      case' done =>
        intro D xs W hD hS hI hDW
        obtain ⟨hkb, hbw⟩ := hI
        rw [hS, HLL.out] at hkb
        have hwk := HKB.out.keepB hbw
        have hrs := HRB.out.keepB hbw
        have hx := hbw.size
        have c10 : W.cell? ⟨w6.heap.size, 0, none⟩ = some (.slice A1 L c1) := hwk.cell 0
        have c13 : W.cell? ⟨wr.heap.size, 0, none⟩ = some (.int .i64 L) := hkb.cell 0
        have c8 : W.cell? ⟨w.heap.size + 1, 0, none⟩ = some (.bool false) := hrs.cell 0
        have f8 := hrs.frozen 0
        have l8 := hrs.lt
        have l10 := hwk.lt
        have l13 := hkb.lt
        have HRS := Lib.hid hrs
        have HWB := Lib.hid hbw
        have HD := Lib.hid hDW
        clear hS hkb hwk hrs hbw hDW
        go_wp2_with fail
        have hne : D ≠ w.heap.size + 1 := by omega
        have hB0 : Below w.heap.size w W := H0R.out.trans (HWB.out.mono hz0r)
        have hX : Below w.heap.size w (W.setCell ⟨w.heap.size + 1, 0, none⟩ (.bool true)) := hB0.setCell (p := ⟨w.heap.size + 1, 0, none⟩) (show w.heap.size ≤ w.heap.size + 1 by omega) _
        have hR6 := HRS.out.set 0 (.bool true)
        have hD6 : (W.setCell ⟨w.heap.size + 1, 0, none⟩ (.bool true)).heap[D]? = some (.deferred (some [])) := (Below.heap_setCell _ _ _ _ hne).trans HD.out
        generalize (W.setCell ⟨w.heap.size + 1, 0, none⟩ (.bool true)) = X at *
        have hpb : Below wr.heap.size X (X.putObj D (.deferred none)) := belowK_b (w := wr) (Nat.le_refl _) _ D _ _ (by omega) hD6 rfl rfl
        have hR7 := hR6.below hpb (show w.heap.size + 1 < wr.heap.size by omega)
        have c7 : (X.putObj D (.deferred none)).cell? ⟨w.heap.size + 1, 0, none⟩ = some (.bool true) := hR7.cell 0
        refine ⟨by simp, .inl ⟨_, _, rfl, run_takeDeferred hD6, ?_⟩⟩
        refine ⟨.bool true, ?_, rfl, hX.trans (hpb.mono (by omega))⟩
        simp [results, Try.f14, go_sem, c7]
      case stop =>
        rintro D c pre W hD hS ⟨rfl, hR6, hb⟩ hDW
        have hD6 := hDW
        have hX : Below w.heap.size w W := H0R.out.trans hb
        have hpb : Below wr.heap.size W (W.putObj D (.deferred none)) := belowK_b (w := wr) (Nat.le_refl _) _ D _ _ (by omega) hD6 rfl rfl
        have hR7 := hR6.below hpb (show w.heap.size + 1 < wr.heap.size by omega)
        have c7 : (W.putObj D (.deferred none)).cell? ⟨w.heap.size + 1, 0, none⟩ = some (.bool true) := hR7.cell 0
        refine wpIn_ret ?_
        refine ⟨by simp, .inl ⟨_, _, rfl, run_takeDeferred hD6, ?_⟩⟩
        refine ⟨.bool true, ?_, rfl, hX.trans (hpb.mono (by omega))⟩
        simp [results, Try.f14, go_sem, c7]
end Go.Proofs.Ytlbfefdmbdjjcaa

namespace Go.Proofs.Ytlbfefdmbdjjcaa
open Go.RowKit Go.Shelf

theorem ldV_ok {bs : List UInt8} {n f : Int} {S : List Sv} (h : ldV bs n = .ok f S) : 1 ≤ n ∧ n ≤ 65535 ∧ isFmtB f = true ∧ loadS (bs.take (sizeS bs f).toNat) f = some S := by
  unfold ldV at h
  split at h
  · cases h
  · split at h
    · cases h
    · split at h
      · cases h
      · rename_i h1 h2 h3
        split at h
        · cases h
        · cases hl : loadS (bs.take (sizeS bs (be16 bs 0)).toNat) (be16 bs 0) with
          | none => rw [hl] at h; cases h
          | some S' =>
            rw [hl] at h
            injection h with h4 h5
            rw [h4] at h3 hl
            subst h5
            exact ⟨by omega, by omega, by simpa using h3, hl⟩
theorem ldV_err {bs : List UInt8} {n x : Int} (h : ldV bs n = .err x) (hn : ¬ (n < 1 ∨ 65535 < n)) : x = 80 ∨ x = 81 := by
  unfold ldV at h
  rw [if_neg hn] at h
  split at h
  · injection h with h; exact .inl h.symm
  · split at h
    · injection h with h; exact .inr h.symm
    · split at h
      · injection h with h; exact .inl h.symm
      · cases hl : loadS (bs.take (sizeS bs (be16 bs 0)).toNat) (be16 bs 0) with
        | none => rw [hl] at h; injection h with h; exact .inl h.symm
        | some S' => rw [hl] at h; cases h
set_option maxRecDepth 20000 in
set_option maxHeartbeats 4000000 in
theorem charmapLoads_any {w : World} {A : Option Addr} {m c : Nat} {bs : List UInt8} (n code stop : Int) (hl : bs.length = m) (hB : Bs w A bs c) :
    Calls Try.prog 3 #[.slice A m c, .int .i64 n, .int .i64 code, .int .i64 stop] w fun e w' => e = .returned (.bool true) ∧ Below w.heap.size w w' := by
  have hsm := hB.small
  have hcp := hB.cap
  by_cases hbig : 20000 < m
  · have d1 : decide ((20000 : Int) < m) = true := by simp; omega
    clear hB
    go_enter Try.func3, Try.ntmps3
    go_wp2_with (first
      | (go_at_call 9; (with_reducible refine (lives_any _).mono ?_); rintro e w1 ⟨rfl, hb1⟩; have HB1 := Lib.hid hb1; clear hb1)
      | fail)
    go_ret
    exact ⟨rfl, HB1.out⟩
  have d1 : decide ((20000 : Int) < m) = false := by simp; omega
  obtain ⟨i0, hi0, hz0, hz1, hz2⟩ := info_parts u8_info
  have hsl : SlAt w A m (bs.map byteV) := by rw [← hl]; exact hB.sl
  have HR := Lib.hid ((hsl.keep (w' := w.alloc (.cells #[] 5)) (bel_alloc bel_refl).below).reads)
  have HSL := Lib.hid hsl
  have HLN := Lib.hid hl
  obtain ⟨V, hV⟩ : ∃ V, ldV bs n = V := ⟨_, rfl⟩
  have hld : ∀ (u : World) (A1 : Option Addr) (c1 : Nat), Bs u A1 bs c1 → Calls Try.prog 10 #[.slice A1 m c1, .int .i64 n] u (LoadR V n u) := fun u A1 c1 hb => by
    rw [← hV]
    exact Load_any (m := m) n hl (by rw [← hl]; exact hb.sl) (by rw [← hl]; exact hb.cap) (by omega) hb.row
  have HLD := Lib.hid hld
  have hown : ∀ (v : Value) (w1 : World), w1.ownsRow w.heap.size 5 1 v (0 + m) ([] ++ bs.map byteV) → (w.alloc (.cells #[] 5)).grownBy w1 (Value.slice (some ⟨w.heap.size, 0, none⟩) 0 0).ownBlock → ∃ A1 c1, v = .slice A1 m c1 ∧ Bs w1 A1 bs c1 ∧ Below w.heap.size w w1 := fun v w1 h1 h2 => by
    rw [Nat.zero_add, List.nil_append] at h1
    obtain ⟨A1, c1, rfl, hs1⟩ := own_bs h1 (by omega)
    exact ⟨A1, c1, by rw [hl], hs1, grow_below rfl h2⟩
  have HOW := Lib.hid hown
  have hm20 : m ≤ 20000 := by omega
  clear hB hsl hld hown hbig
  by_cases hnb : n < 1 ∨ 65535 < n
  · have hv1 : V = .err 1 := by rw [← hV]; unfold ldV; rw [if_pos hnb]
    rw [hv1] at HLD
    have hcs : decide (n < 1) = true ∨ (decide (n < 1) = false ∧ decide (65535 < n) = true) := by simp; omega
    clear hV hv1 hnb hl
    rcases hcs with d2 | ⟨d2, d3⟩
    all_goals
      go_enter Try.func3, Try.ntmps3
      go_wp2_with (first
        | (at_builtin; refine wpList_append_any _ (by rfl) (.tmp 18) (.tmp 19) _ (by rfl) w.heap.size 5 i0 _ 1 1 Try.underlying22 hi0 hz0 hz1 hz2 rfl (by omega) _ 0 [] (by rfl) (own_empty w _) _ _ m _ _ (by rfl) HR.out (bytes_one _) (by unfold maxLen; omega) (by omega) (by simp) ?_; intro v' w1 hown hgrow hat; obtain ⟨A1, c1, rfl, hs1, hb1⟩ := HOW.out _ _ hown hgrow; have HS1 := Lib.hid hs1; have HB1 := Lib.hid hb1; clear hown hgrow hat hs1 hb1)
        | (go_at_call 10; (with_reducible refine (HLD.out _ _ _ HS1.out).mono ?_); rintro e w2 ⟨rfl, hb2⟩; have HB2 := Lib.hid (HB1.out.trans (hb2.mono HB1.out.size)); clear hb2)
        | (go_at_call 9; (with_reducible refine (lives_any _).mono ?_); rintro e w3 ⟨rfl, hb3⟩; have HB3 := Lib.hid (HB2.out.trans (hb3.mono HB2.out.size)); clear hb3)
        | fail)
      go_ret
      exact ⟨by simp, HB3.out⟩
  have d2 : decide (n < 1) = false := by simp; omega
  have d3 : decide (65535 < n) = false := by simp; omega
  have hrl : ∀ (u : World), Below w.heap.size w u → Calls Try.prog 11 #[.slice A m c, .int .i64 n] u (RLoadR V bs n u) := fun u hu => by
    rw [← hV]
    exact rLoad_any n (slat_kept HSL.out hu) hl (by omega) (by omega) (by omega)
  have HRL := Lib.hid hrl
  clear hrl
  cases V with
  | err x =>
    have hx0 : (x != 0) = true := by have := ldV_err hV hnb; simp; omega
    clear hV hnb hl
    go_enter Try.func3, Try.ntmps3
    go_wp2_with (first
      | (at_builtin; refine wpList_append_any _ (by rfl) (.tmp 18) (.tmp 19) _ (by rfl) w.heap.size 5 i0 _ 1 1 Try.underlying22 hi0 hz0 hz1 hz2 rfl (by omega) _ 0 [] (by rfl) (own_empty w _) _ _ m _ _ (by rfl) HR.out (bytes_one _) (by unfold maxLen; omega) (by omega) (by simp) ?_; intro v' w1 hown hgrow hat; obtain ⟨A1, c1, rfl, hs1, hb1⟩ := HOW.out _ _ hown hgrow; have HS1 := Lib.hid hs1; have HB1 := Lib.hid hb1; clear hown hgrow hat hs1 hb1)
      | (go_at_call 10; (with_reducible refine (HLD.out _ _ _ HS1.out).mono ?_); rintro e w2 ⟨rfl, hb2⟩; have HB2 := Lib.hid (HB1.out.trans (hb2.mono HB1.out.size)); clear hb2)
      | (go_at_call 9; (with_reducible refine (lives_any _).mono ?_); rintro e w3 ⟨rfl, hb3⟩; have HB3 := Lib.hid (HB2.out.trans (hb3.mono HB2.out.size)); clear hb3)
      | (go_at_call 11; (with_reducible refine (HRL.out _ HB3.out).mono ?_); rintro e w4 ⟨rfl, hb4⟩; have HB4 := Lib.hid (HB3.out.trans (hb4.mono HB3.out.size)); clear hb4)
      | fail)
    go_ret
    exact ⟨by simp, HB4.out⟩
  | ok f S =>
    obtain ⟨_, _, hf, hS⟩ := ldV_ok hV
    obtain ⟨xs, hxs⟩ : ∃ xs, bs.take (sizeS bs f).toNat = xs := ⟨_, rfl⟩
    have hxl : xs.length ≤ 1000000 := by rw [← hxs, List.length_take]; omega
    have hrl2 : ∀ (u : World), Below w.heap.size w u → Calls Try.prog 11 #[.slice A m c, .int .i64 n] u fun e w' => (∃ g, e = .returned (.tuple #[.pointer (some ⟨g, 0, none⟩), .int .i64 0]) ∧ u.heap.size ≤ g ∧ RmP w' g xs f n) ∧ Below u.heap.size u w' := fun u hu => by rw [← hxs]; exact HRL.out u hu
    rw [hxs] at hS
    have HRL2 := Lib.hid hrl2
    have HS := Lib.hid hS
    obtain ⟨z, hz⟩ : ∃ z, glS S n code = z := ⟨_, rfl⟩
    have hrg : ∀ (u : World) (g : Nat), RmP u g xs f n → Calls Try.prog 13 #[.pointer (some ⟨g, 0, none⟩), .int .i64 code] u fun e w' => e = .returned (.int .i64 z) ∧ Below u.heap.size u w' := fun u g hr => by
      rw [← hz]
      exact rglyph_any code hr hf hS hxl (by omega)
    have HRG := Lib.hid hrg
    have HZ := Lib.hid hz
    clear hV hnb hl HRL hxs hrl2 hS hz hrg
    go_enter Try.func3, Try.ntmps3
    go_wp2_with (first
      | (at_builtin; refine wpList_append_any _ (by rfl) (.tmp 18) (.tmp 19) _ (by rfl) w.heap.size 5 i0 _ 1 1 Try.underlying22 hi0 hz0 hz1 hz2 rfl (by omega) _ 0 [] (by rfl) (own_empty w _) _ _ m _ _ (by rfl) HR.out (bytes_one _) (by unfold maxLen; omega) (by omega) (by simp) ?_; intro v' w1 hown hgrow hat; obtain ⟨A1, c1, rfl, hs1, hb1⟩ := HOW.out _ _ hown hgrow; have HS1 := Lib.hid hs1; have HB1 := Lib.hid hb1; clear hown hgrow hat hs1 hb1)
      | (go_at_call 10; (with_reducible refine (HLD.out _ _ _ HS1.out).mono ?_); rintro e w2 ⟨⟨mp, A4, k4, c4, es, rfl, he, hmw, hp⟩, hb2⟩; have HE := Lib.hid he; have HP := Lib.hid hp; have HB2 := Lib.hid (HB1.out.trans (hb2.mono HB1.out.size)); clear hb2 he hmw hp)
      | (go_at_call 9; (with_reducible refine (lives_any _).mono ?_); rintro e w3 ⟨rfl, hb3⟩; have HP3 := Lib.hid (HP.out.keep hb3); have HB3 := Lib.hid (HB2.out.trans (hb3.mono HB2.out.size)); clear hb3)
      | (go_at_call 11; (with_reducible refine (HRL2.out _ HB3.out).mono ?_); rintro e w4 ⟨⟨g, rfl, hgw, hrm⟩, hb4⟩; have HP4 := Lib.hid (HP3.out.keep hb4); have HR4 := Lib.hid hrm; have HB4 := Lib.hid (HB3.out.trans (hb4.mono HB3.out.size)); clear hb4 hgw hrm)
      | (go_at_call 12; (with_reducible refine (gl_is HE.out HZ.out HP4.out).mono ?_); rintro e w5 ⟨rfl, hb5⟩; have HP5 := Lib.hid (HP4.out.keep hb5); have HR5 := Lib.hid (HR4.out.keep hb5); have HB5 := Lib.hid (HB4.out.trans (hb5.mono HB4.out.size)); clear hb5)
      | (go_at_call 13; (with_reducible refine (HRG.out _ _ HR5.out).mono ?_); rintro e w6 ⟨rfl, hb6⟩; have HP6 := Lib.hid (HP5.out.keep hb6); have HR6 := Lib.hid (HR5.out.keep hb6); have HB6 := Lib.hid (HB5.out.trans (hb6.mono HB5.out.size)); clear hb6)
      | (go_at_call 14; (with_reducible refine (window_any code stop HP6.out HR6.out hf HS.out HE.out hxl).mono ?_); rintro e w7 ⟨rfl, hb7⟩; have HP7 := Lib.hid (HP6.out.keep hb7); have HR7 := Lib.hid (HR6.out.keep hb7); have HB7 := Lib.hid (HB6.out.trans (hb7.mono HB6.out.size)); clear hb7)
      | (go_at_call 14; (with_reducible refine (window_any 0 0 HP7.out HR7.out hf HS.out HE.out hxl).mono ?_); rintro e w8 ⟨rfl, hb8⟩; have HP8 := Lib.hid (HP7.out.keep hb8); have HR8 := Lib.hid (HR7.out.keep hb8); have HB8 := Lib.hid (HB7.out.trans (hb8.mono HB7.out.size)); clear hb8)
      | (go_at_call 14; (with_reducible refine (window_any 65400 0 HP8.out HR8.out hf HS.out HE.out hxl).mono ?_); rintro e w9 ⟨rfl, hb9⟩; have HB9 := Lib.hid (HB8.out.trans (hb9.mono HB8.out.size)); clear hb9)
      | fail)
    go_ret
    exact ⟨rfl, HB9.out⟩
end Go.Proofs.Ytlbfefdmbdjjcaa

namespace Go.Proofs.Ytlbfefdmbdjjcaa
open Go.ChangeShapes Go.WideShapes Go.ChangeAt Go.RowKit

set_option maxRecDepth 100000 in
theorem charmapLoads_lifted (os : Os) (started : os.Started) (H : Type) (enc : TypeId × Value → H) :
    ReturnsInHanded {} Try.checked os 3 .any (Rows.charmapLoadsSpec.pre6 enc Try.prog Try.f3 Rows.charmapLoadsRow.domain false) (Rows.charmapLoadsSpec.post enc Try.prog Try.f3 false true false false) := by
  refine returnsInHanded_of_change_sized (C := Try.checked) own_none started (by kernel_rfl) Try.func3
    (ChangeSpec.witness6 (enc := enc) (C := Try.checked) false ⟨#[], #[.slice none 0 0, .int .i64 0, .int .i64 0, .int .i64 0], []⟩ 8 (by kernel_rfl) (by kernel_rfl) (by kernel_rfl) (by kernel_rfl)) ?_
  intro W base args ds gs before hval0 hW _ hwt _
  have hval : ∀ (j : Nat) t v, Try.f3.params[j]? = some t → args[j]? = some v → Value.okWide Try.prog W .any base t v := hval0
  have hW' := hW
  obtain ⟨p, q, hA0, _, _, _, _⟩ := hW
  have hA : DataW.TrodAll enc Try.prog W 0 (fun _ => true) true Try.f3.params.toList args.toList ds p := hA0
  rw [Try.params3] at hA hval
  obtain ⟨v0, v1, v2, v3, d0, d1, d2, d3, p0, p1, p2, p3, rfl, rfl, rfl, h0, h1, h2, h3⟩ := trodAll_four hA
  obtain ⟨A, n, c, rfl, k0, m0, r0, s0⟩ := open_sl (eb := 1) (ks := [.int .u8]) Try.underlying22 (by kernel_rfl) (hval 0 _ _ rfl rfl) h0 (reach_all (ts := [22, 3, 3, 3]) (by kernel_rfl) hwt (j := 0) rfl rfl)
  obtain ⟨num, rfl, wnum⟩ := open_num Try.underlying3 (hval 1 _ _ rfl rfl) h1
  have bnum := bounds_i64 wnum
  obtain ⟨code, rfl, wcode⟩ := open_num Try.underlying3 (hval 2 _ _ rfl rfl) h2
  have bcode := bounds_i64 wcode
  obtain ⟨stop, rfl, wstop⟩ := open_num Try.underlying3 (hval 3 _ _ rfl rfl) h3
  have bstop := bounds_i64 wstop
  clear hA0 hval0
  obtain ⟨bs, hl, hB, -⟩ := arg_bytes Try.underlying22 (hval 0 _ _ rfl rfl) k0 m0 r0 s0
  refine (charmapLoads_any num code stop hl hB).mono fun e W' ⟨he, hb⟩ => ?_
  subst he
  exact ⟨_, rfl, law_post_any laid_out Try.underlying4 hW' (by kernel_rfl) rfl rfl rfl hb⟩

theorem charmapLoads_holds : Rows.CharmapLoadsSaid :=
  OpenClaim.holds_of_wide 3 Try.f3 rfl rfl rfl rfl rfl rfl rfl ⟨rfl, rfl, rfl, rfl, rfl⟩ rfl rfl rfl rfl rfl (by kernel_rfl) Try.func3 (by kernel_rfl)
    (of_decide_eq_true (by kernel_rfl)) (by unfold Func.isWrapper; first | (rw [if_pos (by decide +kernel)]; kernel_rfl) | (rw [if_neg (by decide +kernel)]; exact ⟨rfl, rfl⟩))
    (fun os started H enc _ => charmapLoads_lifted os started H enc)

end Go.Proofs.Ytlbfefdmbdjjcaa
