/-
  For every format and all pairs CharmapMakes answers true and leaves its arguments as they were. No conditions.
  Layer 08: pairs that came in.
  Layer 08: CharmapMakes.
  Layer 08: the document's Make.
  Layer 08: the document's format 4.
  Layer 08: the document's format 12.
  Layer 08: the document's runs, and its list.
  Layer 08: the document's writer; which pairs it may make; where runs begin; a list of glyphs.
  Layer 08: where runs begin, plainly.
-/
import Derived.Test.YtlbfefdmbdjjcaaCmT
import Derived.Test.YtlbfefdmbdjjcaaCmU
import Derived.Test.YtlbfefdmbdjjcaaCmM
import Derived.Test.YtlbfefdmbdjjcaaFlatB
import Derived.Test.YtlbfefdmbdjjcaaOpn
import Derived.Test.YtlbfefdmbdjjcaaFrame
import Derived.Test.YtlbfefdmbdjjcaaFlat
namespace Go.Proofs.Ytlbfefdmbdjjcaa
open Go.RowKit

/-- Where each run begins and ends; where the one under way began. -/
def runE (l : List Pr) : Nat → List (Nat × Nat) × Nat
  | 0 => ([], 0)
  | i + 1 => if brk l i = true then ((runE l i).1 ++ [((runE l i).2, i + 1)], i + 1) else runE l i
def pcE (l : List Pr) (p : Nat × Nat) : List Pr := (l.drop p.1).take (p.2 - p.1)
theorem runE_N (l : List Pr) : ∀ i, runN l i = ((runE l i).1.map (pcE l), (runE l i).2)
  | 0 => rfl
  | i + 1 => by
    unfold runN runE
    rw [runE_N l i]
    split
    · simp [pcE]
    · rfl
theorem runE_le (l : List Pr) (i : Nat) : (runE l i).2 ≤ i := by
  have := runN_le l i
  rw [runE_N] at this
  exact this
def stN (l : List Pr) : Nat → List Nat
  | 0 => []
  | i + 1 => if i = 0 ∨ brk l (i - 1) = true then stN l i ++ [i] else stN l i
def stL (l : List Pr) : List Nat := stN l l.length
theorem runE_at (l : List Pr) : ∀ i, (runE l i).2 = i ↔ (i = 0 ∨ brk l (i - 1) = true)
  | 0 => by simp [runE]
  | i + 1 => by
    unfold runE
    rw [Nat.add_sub_cancel]
    split
    · rename_i h
      simp [h]
    · rename_i h
      have := runE_le l i
      simp only [h]
      constructor
      · intro e; omega
      · rintro (e | e)
        · omega
        · cases e
theorem stN_E (l : List Pr) : ∀ i, stN l i = (runE l i).1.map Prod.fst ++ (if (runE l i).2 < i then [(runE l i).2] else [])
  | 0 => rfl
  | i + 1 => by
    have ih := stN_E l i
    have ha := runE_at l i
    have hle := runE_le l i
    have hst : stN l (i + 1) = (runE l i).1.map Prod.fst ++ [(runE l i).2] := by
      show (if i = 0 ∨ brk l (i - 1) = true then stN l i ++ [i] else stN l i) = _
      by_cases h : (runE l i).2 = i
      · rw [if_pos (ha.1 h), ih, if_neg (by omega), h, List.append_nil]
      · rw [if_neg (fun e => h (ha.2 e)), ih, if_pos (by omega)]
    rw [hst]
    by_cases hb : brk l i = true
    · have hr : runE l (i + 1) = ((runE l i).1 ++ [((runE l i).2, i + 1)], i + 1) := by
        show (if brk l i = true then _ else _) = _
        rw [if_pos hb]
      rw [hr]
      simp
    · have hr : runE l (i + 1) = runE l i := by
        show (if brk l i = true then _ else _) = _
        rw [if_neg hb]
      rw [hr, if_pos (by omega)]
/-- Each one ends where the next one begins. -/
theorem runE_chain (l : List Pr) : ∀ i, ∀ (k : Nat) (p : Nat × Nat), (runE l i).1[k]? = some p → p.1 < p.2 ∧ p.2 ≤ i ∧ (((runE l i).1.map Prod.fst)[k + 1]? = some p.2 ∨ (k + 1 = (runE l i).1.length ∧ p.2 = (runE l i).2))
  | 0, k, p, h => by simp [runE] at h
  | i + 1, k, p, h => by
    have hle := runE_le l i
    by_cases hb : brk l i = true
    · have hr : runE l (i + 1) = ((runE l i).1 ++ [((runE l i).2, i + 1)], i + 1) := by
        show (if brk l i = true then _ else _) = _
        rw [if_pos hb]
      rw [hr] at h ⊢
      dsimp only at h ⊢
      rw [List.map_append]
      by_cases hk : k < (runE l i).1.length
      · rw [List.getElem?_append_left hk] at h
        obtain ⟨h1, h2, h3⟩ := runE_chain l i k p h
        refine ⟨h1, by omega, ?_⟩
        rcases h3 with h3 | ⟨h3, h4⟩
        · left
          rw [List.getElem?_append_left (List.getElem?_eq_some_iff.1 h3).1]
          exact h3
        · left
          rw [List.getElem?_append_right (by simp; omega), List.length_map, h3, Nat.sub_self, h4]
          rfl
      · rw [List.getElem?_append_right (by omega)] at h
        obtain ⟨m, hm⟩ : ∃ m, k - (runE l i).1.length = m := ⟨_, rfl⟩
        rw [hm] at h
        cases m with
        | zero =>
          simp only [List.getElem?_cons_zero, Option.some.injEq] at h
          subst h
          refine ⟨by dsimp only; omega, Nat.le_refl _, .inr ⟨by simp; omega, rfl⟩⟩
        | succ m => simp at h
    · have hr : runE l (i + 1) = runE l i := by
        show (if brk l i = true then _ else _) = _
        rw [if_neg hb]
      rw [hr] at h ⊢
      obtain ⟨h1, h2, h3⟩ := runE_chain l i k p h
      exact ⟨h1, by omega, h3⟩
theorem runE_end {l : List Pr} (h : 0 < l.length) : (runE l l.length).2 = l.length := by
  rw [runE_at]
  right
  unfold brk
  simp
  left
  omega
/-- The k-th run's first pair and its last one, by where runs begin. -/
theorem run_pair {l : List Pr} {k s : Nat} (h : (stL l)[k]? = some s) : ∃ ps e, (runL l)[k]? = some ps ∧ s < e ∧ e ≤ l.length ∧ l[s]? = some (hdP ps) ∧ l[e - 1]? = some (ltP ps) ∧ (((stL l)[k + 1]? = some e ∧ k + 1 < (stL l).length) ∨ (k + 1 = (stL l).length ∧ e = l.length)) := by
  have h0 : 0 < l.length := by
    rcases Nat.eq_zero_or_pos l.length with h0 | h0
    · unfold stL at h
      rw [h0] at h
      simp [stN] at h
    · exact h0
  have hst : stL l = (runE l l.length).1.map Prod.fst := by
    unfold stL
    rw [stN_E, runE_end h0, if_neg (by omega), List.append_nil]
  have hrl : runL l = (runE l l.length).1.map (pcE l) := by unfold runL; rw [runE_N]
  rw [hst, List.getElem?_map] at h
  obtain ⟨p, hp, rfl⟩ := Option.map_eq_some_iff.1 h
  obtain ⟨h1, h2, h3⟩ := runE_chain l l.length k p hp
  have hlen : (pcE l p).length = p.2 - p.1 := by unfold pcE; rw [List.length_take, List.length_drop]; omega
  refine ⟨pcE l p, p.2, by rw [hrl, List.getElem?_map, hp]; rfl, h1, h2, ?_, ?_, ?_⟩
  · have := hd_at (ps := pcE l p) (by omega)
    rw [← this]
    unfold pcE
    rw [List.getElem?_take, if_pos (by omega), List.getElem?_drop, Nat.add_zero]
  · have := lt_at (ps := pcE l p) (by omega)
    rw [← this, hlen]
    unfold pcE
    rw [List.getElem?_take, if_pos (by omega), List.getElem?_drop]
    congr 1
    omega
  · rw [hst]
    rcases h3 with h3 | ⟨h3, h4⟩
    · exact .inl ⟨h3, (List.getElem?_eq_some_iff.1 h3).1⟩
    · rw [runE_end h0] at h4
      exact .inr ⟨by rw [List.length_map]; exact h3, h4⟩
theorem stL_len (l : List Pr) : (stL l).length = (runL l).length := by
  rcases Nat.eq_zero_or_pos l.length with h0 | h0
  · unfold stL runL
    rw [h0]
    rfl
  · unfold stL runL
    rw [stN_E, runE_end h0, if_neg (by omega), List.append_nil, runE_N]
    simp
end Go.Proofs.Ytlbfefdmbdjjcaa

namespace Go.Proofs.Ytlbfefdmbdjjcaa
open Go.RowKit

/-- The document's writer, made by the call; it is never full. -/
def RW (W w : World) (g : Nat) (N : List UInt8) : Prop := ∃ A c, Wr 70 w g N 1048576 false A c ∧ Below W.heap.size W w ∧ W.heap.size ≤ g ∧ (∀ k, rowOf A = some k → W.heap.size ≤ k) ∧ (N.length : Int) ≤ 1048576
section
variable {W w w' : World} {g : Nat} {N : List UInt8}
theorem RW.below (h : RW W w g N) : Below W.heap.size W w := by obtain ⟨_, _, _, h, _⟩ := h; exact h
theorem RW.aft (h : RW W w g N) : Aft W w := h.below
theorem RW.lt (h : RW W w g N) : g < w.heap.size := by obtain ⟨_, _, h, _⟩ := h; exact h.blk.lt
theorem RW.keep (h : RW W w g N) (hb : Below w.heap.size w w') : RW W w' g N := by
  have hz := h.below.size
  obtain ⟨A, c, h1, h2, h3, h4, h5⟩ := h
  exact ⟨A, c, h1.keep hb, h2.trans (hb.mono hz), h3, h4, h5⟩
theorem RW.new (W : World) : RW W (W.alloc (.cells #[.slice none 0 0, .int .i64 1048576, .bool false] 70)) W.heap.size [] :=
  ⟨none, 0, ⟨heap_alloc_new W _, World.ownsRow_nil _ _ _ _, by intro e; cases e⟩, (bel_alloc bel_refl).below, Nat.le_refl _, fun k e => (by cases e), by decide⟩
theorem RW.next {M : List UInt8} {A A' : Option Addr} {c' : Nat} (h3 : Below W.heap.size W w) (h4 : W.heap.size ≤ g) (h5 : ∀ k, rowOf A = some k → W.heap.size ≤ k) (hg : g < w.heap.size) (hx : WrN 70 w w' g (putF 1048576 (N, false) M) 1048576 A A' c') (hf : ((N ++ M).length : Int) ≤ 1048576) : RW W w' g (N ++ M) := by
  rw [List.length_append] at hf
  have hz := h3.size
  rw [putF_fit (by omega)] at hx
  refine ⟨A', c', hx.wr, h3.trans (hx.turn.below hz h4 (fun k e => (by cases e))), h4, fun k hk => ?_, by rw [List.length_append]; exact hf⟩
  rcases hx.row with e | e
  · exact h5 k (e ▸ hk)
  · exact Nat.le_trans hz (e k hk)
theorem rw_u (h : RW W w g N) (n : Nat) (x : Int) (hn : 0 < n) (hn8 : n ≤ 8) (hf : (N.length : Int) + n ≤ 1048576) {y : Int} (hy : y = n) :
    Calls Try.prog 42 #[.pointer (some ⟨g, 0, none⟩), .int .i64 y, .int .i64 x] w fun e w' => e = .returned (.tuple #[]) ∧ RW W w' g (N ++ beB n x) := by
  subst hy
  have hg := h.lt
  obtain ⟨A, c, h1, h2, h3, h4, h5⟩ := h
  exact (u_W w g (N, false) 1048576 A c n x h1 (by decide) (by decide) h5 hn hn8).mono fun _ _ ⟨he, A', c', hx⟩ => ⟨he, RW.next h2 h3 h4 hg hx (by rw [List.length_append, beB_length]; omega)⟩
theorem rw_data (h : RW W w g N) {bs : List UInt8} {A0 : Option Addr} {n c0 : Nat} (hn : bs.length = n) (hs : SlAt w A0 n (bs.map byteV)) (hf : (N.length : Int) + n ≤ 1048576) :
    Calls Try.prog 72 #[.pointer (some ⟨g, 0, none⟩), .slice A0 n c0] w fun e w' => e = .returned (.tuple #[]) ∧ RW W w' g (N ++ bs) := by
  subst hn
  have hg := h.lt
  obtain ⟨A, c, h1, h2, h3, h4, h5⟩ := h
  exact (rdata_W w g (N, false) 1048576 A c bs A0 c0 h1 (by decide) (by decide) h5 hs).mono fun _ _ ⟨he, A', c', hx⟩ => ⟨he, RW.next h2 h3 h4 hg hx (by rw [List.length_append]; omega)⟩
/-- The writer's bytes. -/
theorem RW.bytes (h : RW W w g N) : ∃ A c, w.cell? ⟨g, 0, none⟩ = some (.slice A N.length c) ∧ SlAt w A N.length (N.map byteV) := by
  obtain ⟨A, c, h1, _⟩ := h
  exact ⟨A, c, by rw [h1.blk.cell 0]; rfl, h1.sl⟩
end
theorem nat1 : (1 : Int) = ((1 : Nat) : Int) := rfl
theorem formats_any (f : Int) (w : World) : Calls Try.prog 16 #[.int .i64 f] w fun e w' => e = .returned (.bool (isFmtB f)) ∧ w = w' := by
  have hcs : ((f == 0) = true ∧ isFmtB f = true) ∨ ((f == 0) = false ∧ (f == 4) = true ∧ isFmtB f = true) ∨ ((f == 0) = false ∧ (f == 4) = false ∧ (f == 6) = true ∧ isFmtB f = true) ∨ ((f == 0) = false ∧ (f == 4) = false ∧ (f == 6) = false ∧ (f == 12) = true ∧ isFmtB f = true) ∨ ((f == 0) = false ∧ (f == 4) = false ∧ (f == 6) = false ∧ (f == 12) = false ∧ isFmtB f = false) := by
    unfold isFmtB
    simp only [beq_iff_eq, beq_eq_false_iff_ne, decide_eq_true_eq, decide_eq_false_iff_not]
    omega
  rcases hcs with ⟨e0, hv⟩ | ⟨e0, e4, hv⟩ | ⟨e0, e4, e6, hv⟩ | ⟨e0, e4, e6, e12, hv⟩ | ⟨e0, e4, e6, e12, hv⟩
  all_goals
    rw [hv]
    clear hv
    go_enter Try.func16, Try.ntmps16
    go_wp2_with fail
    go_ret
    exact ⟨rfl, rfl⟩
theorem rmost_any (f : Int) (w : World) : Calls Try.prog 39 #[.int .i64 f] w fun e w' => e = .returned (.int .i64 (mostC f)) ∧ w = w' := by
  have hcs : ((f == 0) = true ∧ mostC f = 255) ∨ ((f == 0) = false ∧ (f == 4) = true ∧ mostC f = 65534) ∨ ((f == 0) = false ∧ (f == 4) = false ∧ (f == 6) = true ∧ mostC f = 65535) ∨ ((f == 0) = false ∧ (f == 4) = false ∧ (f == 6) = false ∧ mostC f = 1114111) := by
    unfold mostC
    by_cases h0 : f = 0
    · subst h0; simp
    · by_cases h4 : f = 4
      · subst h4; simp
      · by_cases h6 : f = 6
        · subst h6; simp
        · simp [h0, h4, h6]
  rcases hcs with ⟨e0, hc⟩ | ⟨e0, e4, hc⟩ | ⟨e0, e4, e6, hc⟩ | ⟨e0, e4, e6, hc⟩
  all_goals
    rw [hc]
    clear hc
    go_enter Try.func39, Try.ntmps39
    go_wp2_with fail
    go_ret
    exact ⟨rfl, rfl⟩
/-- Pair k may stand behind those ahead of it. -/
def okP (lc lg : Int) (l : List Pr) (k : Nat) : Prop := 0 ≤ (l.getD k (0, 0)).1 ∧ (l.getD k (0, 0)).1 ≤ lc ∧ 1 ≤ (l.getD k (0, 0)).2 ∧ (l.getD k (0, 0)).2 ≤ lg ∧ (0 < k → (l.getD (k - 1) (0, 0)).1 < (l.getD k (0, 0)).1)
theorem may_take {lc lg : Int} {l : List Pr} {k : Nat} (hk : k < l.length) (h : mayL lc lg (-1) (l.take k) = true) : mayL lc lg (-1) (l.take (k + 1)) = true ↔ okP lc lg l k := by
  obtain ⟨p, hp⟩ := get_some' hk
  have hl : lastP (-1) (l.take k) = if k = 0 then -1 else (l.getD (k - 1) (0, 0)).1 := by
    cases k with
    | zero => rfl
    | succ k =>
      obtain ⟨q, hq⟩ := get_some' (l := l) (k := k) (by omega)
      rw [take_snoc' hq, lastP_snoc, if_neg (by omega), Nat.add_sub_cancel, List.getD_eq_getElem?_getD, hq]
      rfl
  rw [take_snoc' hp, mayL_append, h, mayL_one, hl]
  unfold okP
  rw [List.getD_eq_getElem?_getD (i := k), hp]
  simp only [Bool.true_and, decide_eq_true_eq, Option.getD_some]
  by_cases h0 : k = 0
  · subst h0
    simp
    omega
  · rw [if_neg h0]
    constructor
    · rintro ⟨h1, h2, h3, h4⟩
      have hall : 0 ≤ (l.getD (k - 1) (0, 0)).1 := by
        obtain ⟨q, hq⟩ := get_some' (l := l) (k := k - 1) (by omega)
        rw [List.getD_eq_getElem?_getD, hq]
        have := mayL_all h q (by rw [List.mem_iff_getElem?]; exact ⟨k - 1, by rw [List.getElem?_take, if_pos (by omega)]; exact hq⟩)
        simp only [Option.getD_some]
        omega
      exact ⟨by omega, h2, h3, h4, fun _ => h1⟩
    · rintro ⟨h1, h2, h3, h4, h5⟩
      exact ⟨h5 (by omega), h2, h3, h4⟩
theorem may_drop {lc lg : Int} {l : List Pr} {k : Nat} (hk : k < l.length) (h : mayL lc lg (-1) (l.take k) = true) (hn : ¬ okP lc lg l k) : mayL lc lg (-1) l = false := by
  have h2 : ¬ mayL lc lg (-1) (l.take (k + 1)) = true := fun e => hn ((may_take hk h).1 e)
  rw [← List.take_append_drop (k + 1) l, mayL_append]
  simp only [Bool.not_eq_true] at h2
  rw [h2]
  rfl
set_option maxRecDepth 20000 in
set_option maxHeartbeats 4000000 in
theorem rmay_any {w : World} {A : Option Addr} {n c : Nat} {l : List Pr} (f : Int) (h : RowsAt w A n 2 (l.map prC)) (hn : n ≤ 1000000) :
    Calls Try.prog 17 #[.int .i64 f, .slice A n c] w fun e w' => e = .returned (.bool (mayS f l)) ∧ Below w.heap.size w w' := by
  have hl := h.len
  rw [List.length_map] at hl
  subst hl
  have hv : mayS f l = mayL (mostC f) (mostG f) (-1) l := rfl
  have hm := rmost_any f
  have hg : ((f == 0) = true ∧ mostG f = 255) ∨ ((f == 0) = false ∧ mostG f = 65535) := by
    unfold mostG
    by_cases h0 : f = 0
    · exact .inl ⟨by simpa using h0, if_pos h0⟩
    · exact .inr ⟨by simpa using h0, if_neg h0⟩
  generalize mostC f = lc at hv hm
  generalize mostG f = lg at hv hg
  have HV := Lib.hid hv
  have HM := Lib.hid hm
  have H := Lib.hid h
  clear hv hm h
  go_enter Try.func17, Try.ntmps17
  go_wp2_with fail
  go_loopw [5] (fun i wr => ∃ k : Nat, k ≤ l.length ∧ i = .int .i64 k ∧ Hid (mayL lc lg (-1) (l.take k) = true) ∧ Hid (Below w.heap.size w wr)) (fun i _ => l.length - (intOf i).toNat)
  case atStart => exact ⟨0, Nat.zero_le _, rfl, Lib.hid rfl, Lib.hid (Below.refl _ _)⟩
  case round =>
    obtain ⟨k, hk, rfl, HE, HB⟩ := hrel
    by_cases hlt : k < l.length
    · have hkl : (k : Int) < l.length := by omega
      obtain ⟨⟨p1, p2⟩, hp⟩ := get_some' hlt
      obtain ⟨b, o, rfl, hb, hc⟩ := H.out.at_ (i := k) (r := prC (p1, p2)) (by rw [List.getElem?_map, hp]; rfl)
      have r0 : wr.cell? ⟨b, o + k * 2, none⟩ = some (.int .i64 p1) := (HB.out.cell (p := ⟨b, _, none⟩) hb).trans (hc 0 _ rfl)
      have r1 : wr.cell? ⟨b, o + k * 2 + 1, none⟩ = some (.int .i64 p2) := (HB.out.cell (p := ⟨b, _, none⟩) hb).trans (hc 1 _ rfl)
      have hgp : l.getD k (0, 0) = (p1, p2) := by rw [List.getD_eq_getElem?_getD, hp]; rfl
      have hbz := HB.out.size
      have hbl : b < wr.heap.size := by omega
      have htk := may_take hlt HE.out
      have hdr := may_drop hlt HE.out
      unfold okP at htk hdr
      rw [hgp] at htk hdr
      dsimp only at htk hdr
      have HTK := Lib.hid htk
      have HDR := Lib.hid hdr
      clear htk hdr hgp hc hp
      rcases Nat.eq_zero_or_pos k with hk0 | hk0
      · have HK0 := Lib.hid hk0
        have hk1 : decide ((0 : Int) < k) = false := by simp; omega
        have hk2 : decide (0 < k) = false := by simp; omega
        clear hk0
        have hcs : p1 < 0 ∨ (¬ p1 < 0 ∧ decide (lc < p1) = true) ∨ (¬ p1 < 0 ∧ decide (lc < p1) = false ∧ p2 < 1) ∨ (¬ p1 < 0 ∧ decide (lc < p1) = false ∧ ¬ p2 < 1 ∧ decide (lg < p2) = true) ∨ (¬ p1 < 0 ∧ decide (lc < p1) = false ∧ ¬ p2 < 1 ∧ decide (lg < p2) = false) := by
          simp only [decide_eq_true_eq, decide_eq_false_iff_not]
          omega
        rcases hcs with o1 | ⟨o1, o2⟩ | ⟨o1, o2, o3⟩ | ⟨o1, o2, o3, o4⟩ | ⟨o1, o2, o3, o4⟩
        rotate_right
        · have hok := HTK.out.2 ⟨by omega, by simp at o2; omega, by omega, by simp at o4; omega, fun h => absurd h (by have := HK0.out; omega)⟩
          have HOK := Lib.hid hok
          clear hok
          rcases hg with ⟨e0, rfl⟩ | ⟨e0, rfl⟩
          all_goals
            go_upto_region 7 with fail
            refine wp_region_bw_lit (by kernel_rfl) (by kernel_rfl) ?_
            repeat (go_big_quiet_step ((go_at_call 39; with_reducible exact Calls.bw_of_same (HM.out _))))
            refine wpQuiet_nil ?_
            rintro _ ⟨u, rfl⟩
            have hbu := u.prop
            have hzu := u.prop.size
            try simp at hzu
            go_wp2_with fail
            go_roundw
            case rel => exact ⟨k + 1, by omega, by go_num, HOK, Lib.hid (HB.out.trans (hbu.mono hbz))⟩
            case measure => simp [intOf]; omega
        all_goals
          have hno := HDR.out (fun h => by obtain ⟨h1, h2, h3, h4, _⟩ := h; simp only [decide_eq_true_eq, decide_eq_false_iff_not] at *; omega)
          rw [← HV.out] at hno
          have HNO := Lib.hid hno
          clear hno
          rcases hg with ⟨e0, rfl⟩ | ⟨e0, rfl⟩
          all_goals
            go_upto_region 7 with fail
            refine wp_region_bw_lit (by kernel_rfl) (by kernel_rfl) ?_
            repeat (go_big_quiet_step ((go_at_call 39; with_reducible exact Calls.bw_of_same (HM.out _))))
            refine wpQuiet_nil ?_
            rintro _ ⟨u, rfl⟩
            have hbu := u.prop
            have hzu := u.prop.size
            try simp at hzu
            go_wp2_with fail
            go_ret
            exact ⟨by rw [HNO.out]; rfl, HB.out.trans (hbu.mono hbz)⟩
      · obtain ⟨j, rfl⟩ : ∃ j, k = j + 1 := ⟨k - 1, by omega⟩
        obtain ⟨⟨q1, q2⟩, hq⟩ := get_some' (l := l) (k := j) (by omega)
        obtain ⟨b', o', hA', hbl', hcl'⟩ := H.out.at_ (i := j) (r := prC (q1, q2)) (by rw [List.getElem?_map, hq]; rfl)
        injection hA' with hA'
        injection hA' with hA1 hA2
        subst hA1 hA2
        have r2 : wr.cell? ⟨b, o + j * 2, none⟩ = some (.int .i64 q1) := (HB.out.cell (p := ⟨b, _, none⟩) hbl').trans (hcl' 0 _ rfl)
        have hjj : ((j + 1 : Nat) : Int) - 1 = j := by omega
        have hj0 : (0 : Int) < ((j + 1 : Nat) : Int) := by omega
        have hjl : (j : Int) < l.length := by omega
        have hgq : l.getD (j + 1 - 1) (0, 0) = (q1, q2) := by rw [Nat.add_sub_cancel, List.getD_eq_getElem?_getD, hq]; rfl
        rw [hgq] at HTK HDR
        obtain ⟨kk, hkk⟩ : ∃ kk : Nat, j + 1 = kk := ⟨_, rfl⟩
        have HKK := Lib.hid hkk
        rw [hkk] at r0 r1 hkl hjj hj0 HTK HDR hlt HE ⊢
        have hk1 : decide ((0 : Int) < kk) = true := by simp; omega
        have hk2 : decide (0 < kk) = true := by simp; omega
        have hcs : p1 < 0 ∨ (¬ p1 < 0 ∧ decide (lc < p1) = true) ∨ (¬ p1 < 0 ∧ decide (lc < p1) = false ∧ p2 < 1) ∨ (¬ p1 < 0 ∧ decide (lc < p1) = false ∧ ¬ p2 < 1 ∧ decide (lg < p2) = true) ∨ (¬ p1 < 0 ∧ decide (lc < p1) = false ∧ ¬ p2 < 1 ∧ decide (lg < p2) = false ∧ p1 ≤ q1) ∨ (¬ p1 < 0 ∧ decide (lc < p1) = false ∧ ¬ p2 < 1 ∧ decide (lg < p2) = false ∧ ¬ p1 ≤ q1) := by
          simp only [decide_eq_true_eq, decide_eq_false_iff_not]
          omega
        clear hcl' hbl' hq hgq hk0 hkk hk
        rcases hcs with o1 | ⟨o1, o2⟩ | ⟨o1, o2, o3⟩ | ⟨o1, o2, o3, o4⟩ | ⟨o1, o2, o3, o4, o5⟩ | ⟨o1, o2, o3, o4, o5⟩
        rotate_right
        · have hok := HTK.out.2 ⟨by omega, by simp at o2; omega, by omega, by simp at o4; omega, fun _ => by omega⟩
          have HOK := Lib.hid hok
          clear hok
          rcases hg with ⟨e0, rfl⟩ | ⟨e0, rfl⟩
          all_goals
            go_upto_region 7 with fail
            refine wp_region_bw_lit (by kernel_rfl) (by kernel_rfl) ?_
            repeat (go_big_quiet_step ((go_at_call 39; with_reducible exact Calls.bw_of_same (HM.out _))))
            refine wpQuiet_nil ?_
            rintro _ ⟨u, rfl⟩
            have hbu := u.prop
            have hzu := u.prop.size
            try simp at hzu
            go_wp2_with fail
            go_roundw
            case rel => exact ⟨kk + 1, by omega, by go_num, HOK, Lib.hid (HB.out.trans (hbu.mono hbz))⟩
            case measure => simp [intOf]; omega
        all_goals
          have hno := HDR.out (fun h => by obtain ⟨h1, h2, h3, h4, h5⟩ := h; have h6 := h5 (by omega); simp only [decide_eq_true_eq, decide_eq_false_iff_not] at *; omega)
          rw [← HV.out] at hno
          have HNO := Lib.hid hno
          clear hno
          rcases hg with ⟨e0, rfl⟩ | ⟨e0, rfl⟩
          all_goals
            go_upto_region 7 with fail
            refine wp_region_bw_lit (by kernel_rfl) (by kernel_rfl) ?_
            repeat (go_big_quiet_step ((go_at_call 39; with_reducible exact Calls.bw_of_same (HM.out _))))
            refine wpQuiet_nil ?_
            rintro _ ⟨u, rfl⟩
            have hbu := u.prop
            have hzu := u.prop.size
            try simp at hzu
            go_wp2_with fail
            go_ret
            exact ⟨by rw [HNO.out]; rfl, HB.out.trans (hbu.mono hbz)⟩
    · obtain rfl : k = l.length := by omega
      have hfin := HE.out
      rw [List.take_length, ← HV.out] at hfin
      have HF := Lib.hid hfin
      clear hfin
      go_wp2_with fail
      go_ret
      exact ⟨by rw [HF.out]; rfl, HB.out⟩
end Go.Proofs.Ytlbfefdmbdjjcaa

namespace Go.Proofs.Ytlbfefdmbdjjcaa
open Go.RowKit

def natI (s : Nat) : Int := (s : Nat)
def RStR (l : List Pr) (w : World) (e : Ending) (w' : World) : Prop := ∃ A c m, e = .returned (.slice A m c) ∧ OwI w.heap.size w' A m c ((stL l).map natI) ∧ Below w.heap.size w w'
set_option maxRecDepth 20000 in
set_option maxHeartbeats 4000000 in
theorem rruns_any {w : World} {A : Option Addr} {n c : Nat} {l : List Pr} (h : RowsAt w A n 2 (l.map prC)) (hn : n ≤ 8192) (hb : PB l) :
    Calls Try.prog 71 #[.slice A n c] w (RStR l w) := by
  have hl := h.len
  rw [List.length_map] at hl
  subst hl
  have H := Lib.hid h
  have HP := Lib.hid hb
  clear h hb
  go_enter Try.func71, Try.ntmps71
  go_wp2_with fail
  go_loopw [3, 4] (fun out i wr => ∃ (k m : Nat) (A1 : Option Addr) (c1 : Nat), k ≤ l.length ∧ m ≤ k ∧ i = .int .i64 k ∧ out = .slice A1 m c1 ∧ Hid (OwI w.heap.size wr A1 m c1 ((stN l k).map natI)) ∧ Hid (Below w.heap.size w wr)) (fun _ i _ => l.length - (intOf i).toNat)
  case atStart => exact ⟨0, 0, none, 0, Nat.zero_le _, Nat.le_refl _, rfl, rfl, Lib.hid (OwI.nil w), Lib.hid (Below.refl _ _)⟩
  case round =>
    obtain ⟨k, m, A1, c1, hk, hm, rfl, rfl, HO, HB⟩ := hrel
    have hbz := HB.out.size
    by_cases hlt : k < l.length
    · have hkl : (k : Int) < l.length := by omega
      obtain ⟨⟨p1, p2⟩, hp⟩ := get_some' hlt
      obtain ⟨b, o, rfl, hbl, hcl⟩ := H.out.at_ (i := k) (r := prC (p1, p2)) (by rw [List.getElem?_map, hp]; rfl)
      have r0 : wr.cell? ⟨b, o + k * 2, none⟩ = some (.int .i64 p1) := (HB.out.cell (p := ⟨b, _, none⟩) hbl).trans (hcl 0 _ rfl)
      have r1 : wr.cell? ⟨b, o + k * 2 + 1, none⟩ = some (.int .i64 p2) := (HB.out.cell (p := ⟨b, _, none⟩) hbl).trans (hcl 1 _ rfl)
      have hst : stN l (k + 1) = if k = 0 ∨ brk l (k - 1) = true then stN l k ++ [k] else stN l k := rfl
      have HST := Lib.hid hst
      have HOA := Lib.hid (HO.out.keep (w' := wr.drew) (bel_drew bel_refl).below)
      have HBA := Lib.hid (HB.out.trans ((bel_drew bel_refl).below.mono hbz))
      obtain ⟨wd, hwd⟩ : ∃ wd, wr.drew = wd := ⟨_, rfl⟩
      rw [hwd] at HOA HBA
      have hsa := (bel_alloc (o := .cells #[.int .i64 k] 3) (bel_refl (a := wd))).below
      have HOB := Lib.hid (HOA.out.keep hsa)
      have HWD := Lib.hid hwd
      have hbzd := HBA.out.size
      have HBB := Lib.hid (HBA.out.trans (hsa.mono hbzd))
      clear hst hcl hwd hsa
      have hcs : (k = 0) ∨ (0 < k ∧ ∃ j q1 q2, k = j + 1 ∧ l[j]? = some (q1, q2) ∧ ((p1 != q1 + 1) = true ∧ brk l (k - 1) = true ∨ (p1 != q1 + 1) = false ∧ (p2 != q2 + 1) = true ∧ brk l (k - 1) = true ∨ (p1 != q1 + 1) = false ∧ (p2 != q2 + 1) = false ∧ brk l (k - 1) = false)) := by
        rcases Nat.eq_zero_or_pos k with h0 | h0
        · exact .inl h0
        · right
          obtain ⟨j, rfl⟩ : ∃ j, k = j + 1 := ⟨k - 1, by omega⟩
          obtain ⟨⟨q1, q2⟩, hq⟩ := get_some' (l := l) (k := j) (by omega)
          refine ⟨h0, j, q1, q2, rfl, hq, ?_⟩
          have hb : brk l (j + 1 - 1) = decide (j + 1 = l.length ∨ p1 ≠ q1 + 1 ∨ p2 ≠ q2 + 1) := by
            rw [Nat.add_sub_cancel]
            unfold brk
            rw [List.getD_eq_getElem?_getD, List.getD_eq_getElem?_getD, hp, hq]
            rfl
          rw [hb]
          by_cases e1 : p1 = q1 + 1
          · by_cases e2 : p2 = q2 + 1
            · right; right
              exact ⟨by simpa using e1, by simpa using e2, by simp [e1, e2]; omega⟩
            · right; left
              exact ⟨by simpa using e1, by simpa using e2, by simp [e2]⟩
          · left
            exact ⟨by simpa using e1, by simp [e1]⟩
      rcases hcs with hk0 | ⟨hk0, j, q1, q2, hj, hq, hcs⟩
      · have HS : Hid (stN l (k + 1) = stN l k ++ [k]) := Lib.hid (HST.out.trans (if_pos (.inl hk0)))
        have hkb : ((k : Int) == 0) = true := by simp; omega
        clear hk0 hp
        go_upto_region 5 with fail
        go_region
        rw [HWD.out]
        clear hkb r0 r1
        go_wp2_with (first
          | (at_builtin; refine wpList_append_oi2 (by rfl) (.tmp 43) (.tmp 45) (by rfl) (by rfl) HOB.out (some ⟨wd.heap.size, 0, none⟩) 1 1 (by rfl) [(k : Int)] (slat_int wd k) (by omega) ?_; intro A3 c3 w5 ho5 hg5 hr5; have HO5 := Lib.hid ho5; have HB5 := Lib.hid (HBB.out.trans (grown_below' hg5 HBB.out.size (fun q hq => (HOB.out.row q hq).1))); clear ho5 hg5 hr5)
          | fail)
        go_roundw
        case rel => exact ⟨k + 1, m + 1, A3, c3, by omega, by omega, by go_num, rfl, Lib.hid (by rw [HS.out, List.map_append]; exact HO5.out), HB5⟩
        case measure => simp [intOf]; omega
      · obtain ⟨b', o', hA', hbl', hcl'⟩ := H.out.at_ (i := j) (r := prC (q1, q2)) (by rw [List.getElem?_map, hq]; rfl)
        injection hA' with hA'
        injection hA' with hA1 hA2
        subst hA1 hA2
        have r2 : wr.cell? ⟨b, o + j * 2, none⟩ = some (.int .i64 q1) := (HB.out.cell (p := ⟨b, _, none⟩) hbl').trans (hcl' 0 _ rfl)
        have r3 : wr.cell? ⟨b, o + j * 2 + 1, none⟩ = some (.int .i64 q2) := (HB.out.cell (p := ⟨b, _, none⟩) hbl').trans (hcl' 1 _ rfl)
        have hjk : (k : Int) - 1 = j := by omega
        have hjl : (j : Int) < l.length := by omega
        have hkb : ((k : Int) == 0) = false := by simp; omega
        have hqb := HP.out.at_ hq
        obtain ⟨⟨hqb0, hqb1⟩, hqb2, hqb3⟩ := hqb
        dsimp only at hqb0 hqb1 hqb2 hqb3
        clear hcl' hbl' hq hj hk0 hp
        rcases hcs with ⟨e1, e3⟩ | ⟨e1, e2, e3⟩ | ⟨e1, e2, e3⟩
        · have HS : Hid (stN l (k + 1) = stN l k ++ [k]) := Lib.hid (HST.out.trans (if_pos (.inr e3)))
          clear e3
          go_upto_region 5 with fail
          go_region
          rw [HWD.out]
          clear hkb r0 r1 r2 r3 e1 hjk
          go_wp2_with (first
            | (at_builtin; refine wpList_append_oi2 (by rfl) (.tmp 43) (.tmp 45) (by rfl) (by rfl) HOB.out (some ⟨wd.heap.size, 0, none⟩) 1 1 (by rfl) [(k : Int)] (slat_int wd k) (by omega) ?_; intro A3 c3 w5 ho5 hg5 hr5; have HO5 := Lib.hid ho5; have HB5 := Lib.hid (HBB.out.trans (grown_below' hg5 HBB.out.size (fun q hq => (HOB.out.row q hq).1))); clear ho5 hg5 hr5)
            | fail)
          go_roundw
          case rel => exact ⟨k + 1, m + 1, A3, c3, by omega, by omega, by go_num, rfl, Lib.hid (by rw [HS.out, List.map_append]; exact HO5.out), HB5⟩
          case measure => simp [intOf]; omega
        · have HS : Hid (stN l (k + 1) = stN l k ++ [k]) := Lib.hid (HST.out.trans (if_pos (.inr e3)))
          clear e3
          go_upto_region 5 with fail
          go_region
          rw [HWD.out]
          clear hkb r0 r1 r2 r3 e1 e2 hjk
          go_wp2_with (first
            | (at_builtin; refine wpList_append_oi2 (by rfl) (.tmp 43) (.tmp 45) (by rfl) (by rfl) HOB.out (some ⟨wd.heap.size, 0, none⟩) 1 1 (by rfl) [(k : Int)] (slat_int wd k) (by omega) ?_; intro A3 c3 w5 ho5 hg5 hr5; have HO5 := Lib.hid ho5; have HB5 := Lib.hid (HBB.out.trans (grown_below' hg5 HBB.out.size (fun q hq => (HOB.out.row q hq).1))); clear ho5 hg5 hr5)
            | fail)
          go_roundw
          case rel => exact ⟨k + 1, m + 1, A3, c3, by omega, by omega, by go_num, rfl, Lib.hid (by rw [HS.out, List.map_append]; exact HO5.out), HB5⟩
          case measure => simp [intOf]; omega
        · have HS : Hid (stN l (k + 1) = stN l k) := Lib.hid (HST.out.trans (if_neg (fun h => h.elim (fun h => by omega) (fun h => by rw [e3] at h; cases h))))
          clear e3
          go_upto_region 5 with fail
          go_region
          rw [HWD.out]
          clear hkb r0 r1 r2 r3 e1 e2 hjk
          go_wp2_with fail
          go_roundw
          case rel => exact ⟨k + 1, m, A1, c1, by omega, by omega, by go_num, rfl, Lib.hid (by rw [HS.out]; exact HOA.out), HBA⟩
          case measure => simp [intOf]; omega
    · obtain rfl : k = l.length := by omega
      go_wp2_with fail
      go_ret
      exact ⟨_, _, _, rfl, HO.out, HB.out⟩
set_option maxRecDepth 20000 in
set_option maxHeartbeats 4000000 in
theorem rlist_any {w : World} {A : Option Addr} {n c : Nat} {l : List Pr} {f : Int} {k : Nat} (h : RowsAt w A n 2 (l.map prC)) (hn : n ≤ 8192) (hi : InP l f k) (hk : k ≤ 8192) {y : Int} (hy : y = k) :
    Calls Try.prog 43 #[.slice A n c, .int .i64 f, .int .i64 y] w fun e w' => e = .returned (.slice (some ⟨w.heap.size, 0, none⟩) k k) ∧ Blk w' w.heap.size 3 ((glP l f k).map (Value.int .i64)) ∧ Below w.heap.size w w' := by
  subst hy
  have hl := h.len
  rw [List.length_map] at hl
  subst hl
  have hmk := make_ints k (by omega) w
  have HI := Lib.hid hi
  have H := Lib.hid h
  have hki : (k : Int) ≤ 8192 := by omega
  have HB0 : Hid (Blk (w.alloc (.cells (Array.replicate k (.int .i64 0)) 3)) w.heap.size 3 ((List.replicate k (0 : Int)).map (Value.int .i64))) := Lib.hid (by simpa using Blk.new w 3 ((List.replicate k (0 : Int)).map (Value.int .i64)))
  have HBW0 : Hid (Below w.heap.size w (w.alloc (.cells (Array.replicate k (.int .i64 0)) 3))) := Lib.hid (bel_alloc bel_refl).below
  clear hi h
  go_enter Try.func43, Try.ntmps43
  go_wp2_with fail
  clear hmk
  go_loopw [8] (fun i wr => ∃ j : Nat, j ≤ l.length ∧ i = .int .i64 j ∧ Hid (Blk wr w.heap.size 3 (((l.take j).foldl (setP f) (List.replicate k 0)).map (Value.int .i64))) ∧ Hid (Below w.heap.size w wr)) (fun i _ => l.length - (intOf i).toNat)
  case atStart => exact ⟨0, Nat.zero_le _, rfl, HB0, HBW0⟩
  case round =>
    obtain ⟨j, hj, rfl, HG, HB⟩ := hrel
    by_cases hlt : j < l.length
    · obtain ⟨⟨p1, p2⟩, hp⟩ := get_some' hlt
      have hin := HI.out _ (List.mem_of_getElem? hp)
      obtain ⟨i1, i2, i3, i4⟩ := hin
      dsimp only at i1 i2 i3 i4
      obtain ⟨x, hx⟩ : ∃ x : Nat, p1 - f = x := ⟨(p1 - f).toNat, by omega⟩
      have hxk : x < k := by omega
      have hxi : (x : Int) < k := by omega
      obtain ⟨b, o, rfl, hb, hc⟩ := H.out.at_ (i := j) (r := prC (p1, p2)) (by rw [List.getElem?_map, hp]; rfl)
      have r0 : wr.cell? ⟨b, o + j * 2, none⟩ = some (.int .i64 p1) := (HB.out.cell (p := ⟨b, _, none⟩) hb).trans (hc 0 _ rfl)
      have r1 : wr.cell? ⟨b, o + j * 2 + 1, none⟩ = some (.int .i64 p2) := (HB.out.cell (p := ⟨b, _, none⟩) hb).trans (hc 1 _ rfl)
      have hgl : ((l.take j).foldl (setP f) (List.replicate k 0)).length = k := by rw [setP_len, List.length_replicate]
      have hfo : (l.take (j + 1)).foldl (setP f) (List.replicate k 0) = ((l.take j).foldl (setP f) (List.replicate k 0)).set x p2 := by
        rw [take_snoc' hp, List.foldl_append]
        show setP f _ (p1, p2) = _
        unfold setP
        rw [show ((p1, p2).1 - f).toNat = x by show (p1 - f).toNat = x; omega]
      generalize (l.take j).foldl (setP f) (List.replicate k 0) = gs at HG hgl hfo
      obtain ⟨y, hy⟩ := get_some' (l := gs) (k := x) (by omega)
      have r2 : wr.cell? ⟨w.heap.size, x, none⟩ = some (.int .i64 y) := by rw [HG.out.cell, List.getElem?_map, hy]; rfl
      have f2 := HG.out.frozen x
      have hgl2 := HG.out.lt
      have hjl : (j : Int) < l.length := by omega
      have hwx : IntKind.i64.wrap (p1 - f) = x := by rw [hx]; exact IntWalk.i64_in _ (by omega)
      have hwx2 : IntKind.i64.wrap (x : Int) = x := IntWalk.i64_in _ (by omega)
      have HFO := Lib.hid hfo
      have hbs := HB.out.setCell (p := ⟨w.heap.size, x, none⟩) (Nat.le_refl _) (.int .i64 p2)
      have HBS := Lib.hid hbs
      have hsz := hbs.size
      clear hc hp hgl hfo hy hbs
      go_upto_region 5 with fail
      go_region
      go_wp2_with fail
      go_roundw
      case rel => exact ⟨j + 1, by omega, by go_num, Lib.hid (by rw [HFO.out, List.map_set]; exact (HG.out.set x _).drew), Lib.hid (HBS.out.trans ((bel_drew bel_refl).below.mono hsz))⟩
      case measure => simp [intOf]; omega
    · obtain rfl : j = l.length := by omega
      have hg := HG.out
      rw [List.take_length] at hg
      have HG2 := Lib.hid hg
      clear hg
      go_wp2_with fail
      go_ret
      exact ⟨rfl, HG2.out, HB.out⟩
end Go.Proofs.Ytlbfefdmbdjjcaa

namespace Go.Proofs.Ytlbfefdmbdjjcaa
open Go.RowKit

def RmkR (N : List UInt8) (w : World) (e : Ending) (w' : World) : Prop := ∃ A c, e = .returned (.slice A N.length c) ∧ SlAt w' A N.length (N.map byteV) ∧ Below w.heap.size w w'
theorem fits1 {N : List UInt8} (n : Nat) (hn : n ≤ 8) (h : N.length ≤ 999000) : (N.length : Int) + n ≤ 1048576 := by omega
theorem fits2 {N : List UInt8} {m : Nat} {x : Int} (n : Nat) (hn : n ≤ 8) (hm : m ≤ 8) (h : N.length ≤ 999000) : ((N ++ beB m x).length : Int) + n ≤ 1048576 := by rw [List.length_append, beB_length]; omega
theorem fits3 {N : List UInt8} {m k : Nat} {x y : Int} (n : Nat) (hn : n ≤ 8) (hm : m ≤ 8) (hk : k ≤ 8) (h : N.length ≤ 999000) : ((N ++ beB m x ++ beB k y).length : Int) + n ≤ 1048576 := by rw [List.length_append, List.length_append, beB_length, beB_length]; omega
/-- What a round over the runs meets at the k-th one. -/
structure RunAt (l : List Pr) (k : Nat) (ps : List Pr) (s e : Nat) : Prop where
  st : (stL l)[k]? = some s
  rn : (runL l)[k]? = some ps
  lt : s < e
  le : e ≤ l.length
  hd : l[s]? = some (hdP ps)
  la : l[e - 1]? = some (ltP ps)
  nx : ((stL l)[k + 1]? = some e ∧ k + 1 < (stL l).length) ∨ (k + 1 = (stL l).length ∧ e = l.length)
theorem runAt {l : List Pr} {k : Nat} (h : k < (stL l).length) : ∃ ps s e, RunAt l k ps s e := by
  obtain ⟨s, hs⟩ := get_some' h
  obtain ⟨ps, e, h1, h2, h3, h4, h5, h6⟩ := run_pair hs
  exact ⟨ps, s, e, hs, h1, h2, h3, h4, h5, h6⟩
set_option maxRecDepth 20000 in
set_option maxHeartbeats 4000000 in
theorem rmake12_any {w : World} {A : Option Addr} {n c : Nat} {l : List Pr} (h : RowsAt w A n 2 (l.map prC)) (hn : n ≤ 8192) (hb : PB l) :
    Calls Try.prog 41 #[.slice A n c] w (RmkR (m12 (runL l)) w) := by
  have hl := h.len
  rw [List.length_map] at hl
  subst hl
  have HR := Lib.hid (rruns_any (c := c) h hn hb)
  have H := Lib.hid h
  have hsl := stL_len l
  have hrl := runN_len l l.length
  change (runL l).length ≤ l.length at hrl
  have hml := m12_len (runL l)
  have hmd : m12 (runL l) = beB 2 12 ++ beB 2 0 ++ beB 4 (16 + 12 * ((runL l).length : Int)) ++ beB 4 0 ++ beB 4 ((runL l).length : Int) ++ (runL l).flatMap g12 := rfl
  generalize m12 (runL l) = N at hml hmd ⊢
  obtain ⟨m, hm⟩ : ∃ m, (runL l).length = m := ⟨_, rfl⟩
  rw [hm] at hml hmd hsl hrl
  have HML := Lib.hid hml
  have HMD : Hid (N = beB 4 786432 ++ beB 4 (16 + 12 * (m : Int)) ++ beB 4 0 ++ beB 4 (m : Int) ++ (runL l).flatMap g12) := Lib.hid hmd
  have HM := Lib.hid hm
  have HSL := Lib.hid hsl
  have hm8 : m ≤ 8192 := by omega
  clear h hml hmd hm hsl
  go_enter Try.func41, Try.ntmps41
  go_upto_region 3 with (first
    | (go_at_call 71; (with_reducible refine HR.out.mono ?_); rintro e w1 ⟨A1, c1, m1, rfl, ho, hb1⟩; obtain rfl : m1 = m := (ho.len.symm.trans (List.length_map _)).trans HSL.out; have HO := Lib.hid ho.sl; have HB1 := Lib.hid hb1; have HW := Lib.hid (RW.new w1); clear ho hb1)
    | fail)
  obtain ⟨g, hg⟩ : ∃ g, w1.heap.size = g := ⟨_, rfl⟩
  obtain ⟨wq, hwq⟩ : ∃ wq, w1.alloc (.cells #[.slice none 0 0, .int .i64 1048576, .bool false] 70) = wq := ⟨_, rfl⟩
  have HQ0 : Hid (RW w1 wq g []) := Lib.hid (by have := HW.out; rw [hwq, hg] at this; exact this)
  rw [hwq, hg]
  clear HW hwq hg
  go_wp2_with (first
    | (go_at_call 42; (with_reducible refine (rw_u HQ0.out 4 _ (by decide) (by decide) (by decide) nat4).mono ?_); rintro e w2 ⟨rfl, hI⟩; have HQ1 := Lib.hid hI; clear hI HQ0)
    | (go_at_call 42; (with_reducible refine (rw_u HQ1.out 4 _ (by decide) (by decide) (by simp [beB_length]) nat4).mono ?_); rintro e w3 ⟨rfl, hI⟩; have HQ2 := Lib.hid hI; clear hI HQ1)
    | (go_at_call 42; (with_reducible refine (rw_u HQ2.out 4 _ (by decide) (by decide) (by simp [beB_length]) nat4).mono ?_); rintro e w4 ⟨rfl, hI⟩; have HQ3 := Lib.hid hI; clear hI HQ2)
    | (go_at_call 42; (with_reducible refine (rw_u HQ3.out 4 _ (by decide) (by decide) (by simp [beB_length]) nat4).mono ?_); rintro e w5 ⟨rfl, hI⟩; have HQ4 := Lib.hid hI; clear hI HQ3)
    | fail)
  obtain ⟨hds, hhd⟩ : ∃ x, beB 4 786432 ++ beB 4 (16 + 12 * (m1 : Int)) ++ beB 4 0 ++ beB 4 (m1 : Int) = x := ⟨_, rfl⟩
  have HI0 : Hid (RW w1 w5 g hds) := Lib.hid (by have := HQ4.out; rw [List.nil_append, hhd] at this; exact this)
  have hhl : hds.length = 16 := by rw [← hhd]; simp [beB_length]
  rw [hhd] at HMD
  have HHL := Lib.hid hhl
  clear hhd HQ4 hhl
  go_loopw [5] (fun i wr => ∃ k : Nat, k ≤ m1 ∧ i = .int .i64 k ∧ Hid (RW w1 wr g (hds ++ ((runL l).take k).flatMap g12))) (fun i _ => m1 - (intOf i).toNat)
  case atStart => exact ⟨0, Nat.zero_le _, rfl, Lib.hid (by simpa using HI0.out)⟩
  case round =>
    obtain ⟨k, hk, rfl, HQ⟩ := hrel
    by_cases hlt : k < m1
    · have hkm : (k : Int) < m1 := by omega
      obtain ⟨ps, s, e, hra⟩ := runAt (l := l) (k := k) (by rw [HSL.out]; exact hlt)
      have hlen : (hds ++ ((runL l).take k).flatMap g12).length ≤ 999000 := by
        rw [List.length_append, HHL.out, flat_len g12_len, List.length_take]
        omega
      have hfl : ((runL l).take (k + 1)).flatMap g12 = ((runL l).take k).flatMap g12 ++ g12 ps := by rw [take_snoc' hra.rn, List.flatMap_append]; simp
      have HG : Hid (((hds ++ ((runL l).take k).flatMap g12) ++ beB 4 (hdP ps).1) ++ beB 4 (ltP ps).1 ++ beB 4 (hdP ps).2 = hds ++ ((runL l).take (k + 1)).flatMap g12) := Lib.hid (by rw [hfl]; unfold g12; simp)
      obtain ⟨Q, hQ⟩ : ∃ Q, hds ++ ((runL l).take k).flatMap g12 = Q := ⟨_, rfl⟩
      rw [hQ] at HQ HG hlen
      have HLN := Lib.hid hlen
      have haf := HQ.out.below
      obtain ⟨ab, ao, hA1, hab, hac⟩ := slat_get HO.out (i := k) (x := natI s) (by rw [List.getElem?_map, hra.st]; rfl)
      obtain ⟨b, o, hA, hb, hc⟩ := H.out.at_ (i := s) (r := prC (hdP ps)) (by rw [List.getElem?_map, hra.hd]; rfl)
      obtain ⟨b', o', hA', hb', hc'⟩ := H.out.at_ (i := e - 1) (r := prC (ltP ps)) (by rw [List.getElem?_map, hra.la]; rfl)
      have hAA := hA.symm.trans hA'
      injection hAA with hAA
      injection hAA with hA3 hA4
      subst hA3 hA4
      obtain ⟨q, hq⟩ : ∃ q, e - 1 = q := ⟨_, rfl⟩
      rw [hq] at hc'
      have hse := hra.lt
      have hle := hra.le
      have hz1 := HB1.out.size
      subst hA hA1
      have hw1 : ∀ (u : World) (x : Nat) (v : Value), Below w1.heap.size w1 u → w.cell? ⟨b, x, none⟩ = some v → u.cell? ⟨b, x, none⟩ = some v := fun u x v hu hv => ((hu.cell (p := ⟨b, x, none⟩) (Nat.lt_of_lt_of_le hb hz1)).trans (HB1.out.cell (p := ⟨b, x, none⟩) hb)).trans hv
      have r0 : wr.cell? ⟨ab, ao + k, none⟩ = some (.int .i64 s) := (haf.cell (p := ⟨ab, _, none⟩) hab).trans hac
      have r1 : wr.cell? ⟨b, o + s * 2, none⟩ = some (.int .i64 (hdP ps).1) := hw1 wr _ _ haf (hc 0 _ rfl)
      have r2 : wr.cell? ⟨b, o + s * 2 + 1, none⟩ = some (.int .i64 (hdP ps).2) := hw1 wr _ _ haf (hc 1 _ rfl)
      have r3 : wr.cell? ⟨b, o + q * 2, none⟩ = some (.int .i64 (ltP ps).1) := hw1 wr _ _ haf (hc' 0 _ rfl)
      have R1 : Hid (∀ u, Below w1.heap.size w1 u → u.cell? ⟨b, o + s * 2, none⟩ = some (.int .i64 (hdP ps).1)) := Lib.hid fun u hu => hw1 u _ _ hu (hc 0 _ rfl)
      have R2 : Hid (∀ u, Below w1.heap.size w1 u → u.cell? ⟨b, o + s * 2 + 1, none⟩ = some (.int .i64 (hdP ps).2)) := Lib.hid fun u hu => hw1 u _ _ hu (hc 1 _ rfl)
      have R3 : Hid (∀ u, Below w1.heap.size w1 u → u.cell? ⟨b, o + q * 2, none⟩ = some (.int .i64 (ltP ps).1)) := Lib.hid fun u hu => hw1 u _ _ hu (hc' 0 _ rfl)
      have R0 : Hid (∀ u, Below w1.heap.size w1 u → u.cell? ⟨ab, ao + k, none⟩ = some (.int .i64 s)) := Lib.hid fun u hu => (hu.cell (p := ⟨ab, _, none⟩) hab).trans hac
      have hnxt : (k + 1 < m1 ∧ w1.cell? ⟨ab, ao + (k + 1), none⟩ = some (.int .i64 e)) ∨ (k + 1 = m1 ∧ e = l.length) := by
        rcases hra.nx with ⟨h1, h2⟩ | ⟨h1, h2⟩
        · left
          rw [HSL.out] at h2
          obtain ⟨ab2, ao2, hA2, hab2, hac2⟩ := slat_get HO.out (i := k + 1) (x := natI e) (by rw [List.getElem?_map, h1]; rfl)
          injection hA2 with hA2
          injection hA2 with hA5 hA6
          subst hA5 hA6
          exact ⟨h2, hac2⟩
        · right
          rw [HSL.out] at h1
          exact ⟨h1, h2⟩
      obtain ⟨nx, hnx⟩ : ∃ nx : Nat, (k : Int) + 1 = nx := ⟨k + 1, by omega⟩
      have HNX : Hid (nx = k + 1) := Lib.hid (by omega)
      generalize hdP ps = hp at r1 r2 R1 R2 HG
      generalize ltP ps = lp at r3 R3 HG
      obtain ⟨a0, a1⟩ := hp
      obtain ⟨d0, d1⟩ := lp
      dsimp only at r1 r2 r3 R1 R2 R3 HG
      have hbl := Nat.lt_of_lt_of_le hb (Nat.le_trans hz1 haf.size)
      have habl := Nat.lt_of_lt_of_le hab haf.size
      have hsl2 : (s : Int) < l.length := by omega
      have hql : (q : Int) < l.length := by omega
      have hll : (0 : Int) < l.length := by omega
      obtain ⟨ll, hll1⟩ : ∃ ll : Nat, (l.length : Int) - 1 = ll := ⟨l.length - 1, by omega⟩
      rcases hnxt with ⟨n1, n2⟩ | ⟨n1, n2⟩
      · have hnm : (nx : Int) < m1 := by omega
        have r4 : wr.cell? ⟨ab, ao + nx, none⟩ = some (.int .i64 e) := by rw [HNX.out]; exact (haf.cell (p := ⟨ab, _, none⟩) hab).trans n2
        have heq : (e : Int) - 1 = q := by omega
        clear n1 n2 hac hc hc' hra hq hw1 hfl hlen
        go_wp2_with (first
          | (go_at_call 42; (with_reducible refine (rw_u HQ.out 4 _ (by decide) (by decide) (fits1 4 (by decide) HLN.out) nat4).mono ?_); rintro e w6 ⟨rfl, hI⟩; have s3 := R3.out _ hI.below; have HQ6 := Lib.hid hI; clear hI HQ)
          | (go_at_call 42; (with_reducible refine (rw_u HQ6.out 4 _ (by decide) (by decide) (fits2 4 (by decide) (by decide) HLN.out) nat4).mono ?_); rintro e w7 ⟨rfl, hI⟩; have t0 := R0.out _ hI.below; have t2 := R2.out _ hI.below; have HQ7 := Lib.hid hI; clear hI HQ6)
          | (go_at_call 42; (with_reducible refine (rw_u HQ7.out 4 _ (by decide) (by decide) (fits3 4 (by decide) (by decide) (by decide) HLN.out) nat4).mono ?_); rintro e w8 ⟨rfl, hI⟩; rw [HG.out] at hI; have HQ8 := Lib.hid hI; clear hI HQ7)
          | fail)
        go_roundw
        case rel => exact ⟨k + 1, by omega, by go_num, HQ8⟩
        case measure => simp [intOf]; omega
      · have hnm : ¬ (nx : Int) < m1 := by omega
        have heq : (l.length : Int) - 1 = q := by omega
        obtain rfl : ll = q := by omega
        clear n1 n2 hac hc hc' hra hq hw1 hfl hlen hll1
        go_wp2_with (first
          | (go_at_call 42; (with_reducible refine (rw_u HQ.out 4 _ (by decide) (by decide) (fits1 4 (by decide) HLN.out) nat4).mono ?_); rintro e w6 ⟨rfl, hI⟩; have s3 := R3.out _ hI.below; have HQ6 := Lib.hid hI; clear hI HQ)
          | (go_at_call 42; (with_reducible refine (rw_u HQ6.out 4 _ (by decide) (by decide) (fits2 4 (by decide) (by decide) HLN.out) nat4).mono ?_); rintro e w7 ⟨rfl, hI⟩; have t0 := R0.out _ hI.below; have t2 := R2.out _ hI.below; have HQ7 := Lib.hid hI; clear hI HQ6)
          | (go_at_call 42; (with_reducible refine (rw_u HQ7.out 4 _ (by decide) (by decide) (fits3 4 (by decide) (by decide) (by decide) HLN.out) nat4).mono ?_); rintro e w8 ⟨rfl, hI⟩; rw [HG.out] at hI; have HQ8 := Lib.hid hI; clear hI HQ7)
          | fail)
        go_roundw
        case rel => exact ⟨k + 1, by omega, by go_num, HQ8⟩
        case measure => simp [intOf]; omega
    · obtain rfl : k = m1 := by omega
      have hI := HQ.out
      rw [List.take_of_length_le (by rw [HM.out]; exact Nat.le_refl _), ← HMD.out] at hI
      obtain ⟨A8, c8, hc8, hs8⟩ := hI.bytes
      have hlt8 := hI.lt
      have HS8 := Lib.hid hs8
      have HBF := Lib.hid (HB1.out.trans (hI.below.mono HB1.out.size))
      clear hI hs8
      go_wp2_with fail
      go_ret
      exact ⟨_, _, rfl, HS8.out, HBF.out⟩
end Go.Proofs.Ytlbfefdmbdjjcaa

namespace Go.Proofs.Ytlbfefdmbdjjcaa
open Go.RowKit

theorem rw_uT {W w : World} {g : Nat} {N : List UInt8} (h : RW W w g N) (n : Nat) (x : Int) (hn : 0 < n) (hn8 : n ≤ 8) (hf : (N.length : Int) + n ≤ 1048576) {y : Int} (hy : y = n) :
    Calls Try.prog 42 #[.pointer (some ⟨g, 0, none⟩), .int .i64 y, .int .i64 x] w fun e w' => e = .returned (.tuple #[]) ∧ RW W w' g (N ++ beB n x) ∧ Tn (fun i => i = g) w w' := by
  subst hy
  have hg := h.lt
  obtain ⟨A, c, h1, h2, h3, h4, h5⟩ := h
  exact (u_W w g (N, false) 1048576 A c n x h1 (by decide) (by decide) h5 hn hn8).mono fun _ _ ⟨he, A', c', hx⟩ => ⟨he, RW.next h2 h3 h4 hg hx (by rw [List.length_append, beB_length]; omega), Tn.turn1 hx.turn⟩
theorem make_zeros (m : Nat) (h : m ≤ 140737488355328) (w : World) : (Instr.makeSlice 22 (.int .i64 m) (.int .i64 m)).run Try.prog w =
    .ok (.slice (some ⟨w.heap.size, 0, none⟩) m m) (w.alloc (.cells (Array.replicate m (byteV 0)) 5)) := by
  rw [make_bytes m h w]
  simp
theorem slat_zeros (W : World) (m : Nat) (t : TypeId) : SlAt (W.alloc (.cells (Array.replicate m (byteV 0)) t)) (some ⟨W.heap.size, 0, none⟩) m ((List.replicate m (0 : UInt8)).map byteV) := by
  have := slat_blk (n := m) (Blk.new W t ((List.replicate m (0 : UInt8)).map byteV)) (by simp)
  simpa using this
theorem zeros_flat : ∀ (pl : List (List Pr)), (pl.flatMap fun _ => beB 2 0) = List.replicate (2 * pl.length) (0 : UInt8)
  | [] => rfl
  | p :: pl => by
    rw [List.flatMap_cons, zeros_flat pl, List.length_cons, show 2 * (pl.length + 1) = 2 * pl.length + 1 + 1 by omega, List.replicate_succ, List.replicate_succ]
    rfl
def ltB (ps : List Pr) : List UInt8 := beB 2 (ltP ps).1
def hdB (ps : List Pr) : List UInt8 := beB 2 (hdP ps).1
def dlB (ps : List Pr) : List UInt8 := beB 2 ((hdP ps).2 - (hdP ps).1)
theorem ltB_len (ps : List Pr) : (ltB ps).length = 2 := beB_length _ _
theorem hdB_len (ps : List Pr) : (hdB ps).length = 2 := beB_length _ _
theorem dlB_len (ps : List Pr) : (dlB ps).length = 2 := beB_length _ _
def hd4 (m : Nat) : List Int := [4, 16 + 8 * (m : Int), 0, 2 * (m : Int), 2 * ((2 ^ Nat.log2 m : Nat) : Int), (Nat.log2 m : Nat), 2 * ((m : Int) - ((2 ^ Nat.log2 m : Nat) : Int))]
theorem m4_doc (pl : List (List Pr)) (m : Nat) (hm : pl.length + 1 = m) : m4 (pl ++ [sent]) = (hd4 m).flatMap (beB 2) ++ pl.flatMap ltB ++ beB 2 65535 ++ beB 2 0 ++ pl.flatMap hdB ++ beB 2 65535 ++ pl.flatMap dlB ++ beB 2 1 ++ List.replicate (2 * m) 0 := by
  have hl : (pl ++ [sent]).length = m := by rw [List.length_append]; exact hm
  have hz := zeros_flat (pl ++ [sent])
  rw [hl] at hz
  unfold m4
  dsimp only
  rw [hl, hz]
  unfold hd4
  simp only [List.flatMap_append, List.flatMap_cons, List.flatMap_nil, List.append_nil, List.append_assoc]
  rfl
theorem run_pos {l : List Pr} {k : Nat} {ps : List Pr} {s e : Nat} (h : RunAt l k ps s e) : 0 < ps.length := by
  have := runN_mem l l.length (Nat.le_refl _) ps (List.mem_of_getElem? h.rn)
  exact this.1
theorem fitsE {N : List UInt8} {t n : Nat} (h : N.length = t) (ht : t + n ≤ 1048576) : (N.length : Int) + n ≤ 1048576 := by omega
theorem len_u {N : List UInt8} {t m : Nat} {x : Int} (h : N.length = t) : (N ++ beB m x).length = t + m := by rw [List.length_append, beB_length, h]
set_option maxRecDepth 20000 in
set_option maxHeartbeats 8000000 in
theorem rmake4_any {w : World} {A : Option Addr} {n c : Nat} {l : List Pr} (h : RowsAt w A n 2 (l.map prC)) (hn : n ≤ 8192) (hb : PB l) :
    Calls Try.prog 40 #[.slice A n c] w (RmkR (m4 (runL l ++ [sent])) w) := by
  have hl := h.len
  rw [List.length_map] at hl
  subst hl
  have HR := Lib.hid (rruns_any (c := c) h hn hb)
  have H := Lib.hid h
  have hsl := stL_len l
  have hrl := runN_len l l.length
  change (runL l).length ≤ l.length at hrl
  have hpb : ∀ ps ∈ runL l, PB ps := fun ps hps p hp => hb p ((runN_mem l l.length (Nat.le_refl _) ps hps).2.2 p hp)
  have HPB := Lib.hid hpb
  have hmd := m4_doc (runL l) _ rfl
  generalize m4 (runL l ++ [sent]) = N at hmd ⊢
  obtain ⟨m, hm⟩ : ∃ m, (runL l).length = m := ⟨_, rfl⟩
  rw [hm] at hmd hsl hrl
  have HM := Lib.hid hm
  have HSL := Lib.hid hsl
  have hm8 : m ≤ 8192 := by omega
  obtain ⟨m2, hm2⟩ : ∃ m2, m + 1 = m2 := ⟨_, rfl⟩
  have hm2i : (m : Int) + 1 = m2 := by omega
  rw [hm2] at hmd
  have hm21 : 1 ≤ m2 := by omega
  have HMD := Lib.hid hmd
  have HM2 := Lib.hid hm2
  clear h hmd hm hsl hb hpb hm2
  go_enter Try.func40, Try.ntmps40
  go_wp2_with (first
    | (go_at_call 71; (with_reducible refine HR.out.mono ?_); rintro e w1 ⟨A1, c1, m1, rfl, ho, hb1⟩; obtain rfl : m1 = m := (ho.len.symm.trans (List.length_map _)).trans HSL.out; have HO := Lib.hid ho.sl; have HB1 := Lib.hid hb1; have hz1 := hb1.size; clear ho hb1)
    | fail)
  go_loop [5, 6] (fun p lg => ∃ j x : Nat, p = .int .i64 x ∧ lg = .int .i64 j ∧ Hid (2 ^ j = x) ∧ x ≤ m2 ∧ 1 ≤ x ∧ j ≤ x) (fun p _ => m2 - (intOf p).toNat)
  case atStart => exact ⟨0, 1, rfl, rfl, Lib.hid rfl, hm21, Nat.le_refl _, by omega⟩
  case round =>
    obtain ⟨j, x, rfl, rfl, HX, hx1, hx2, hx3⟩ := hrel
    by_cases hlt : x * 2 ≤ m2
    · have hlti : 2 * (x : Int) ≤ m2 := by omega
      have HX2 : Hid (2 ^ (j + 1) = x * 2) := Lib.hid (by rw [Nat.pow_succ, HX.out])
      go_wp2_with fail
      go_round
      case rel => exact ⟨j + 1, x * 2, by go_num, by go_num, HX2, hlt, by omega, by omega⟩
      case measure => simp [intOf]; omega
    · have hlti : ¬ 2 * (x : Int) ≤ m2 := by omega
      have hlg : Nat.log2 m2 = j := (Nat.log2_eq_iff (by omega)).2 ⟨by rw [HX.out]; exact hx1, by rw [Nat.pow_succ, HX.out]; omega⟩
      have hhd : hd4 m2 = [4, 16 + 8 * (m2 : Int), 0, 2 * (m2 : Int), 2 * (x : Int), (j : Int), 2 * (m2 : Int) - 2 * (x : Int)] := by
        unfold hd4
        rw [hlg, HX.out, show 2 * ((m2 : Int) - x) = 2 * (m2 : Int) - 2 * x by omega]
      rw [hhd] at HMD
      clear hhd hlg hlt
      go_wp2_with fail
      obtain ⟨g, hg⟩ : ∃ g, w1.heap.size = g := ⟨_, rfl⟩
      obtain ⟨hb, hhb⟩ : ∃ hb, g + 1 = hb := ⟨_, rfl⟩
      obtain ⟨wq, hwq⟩ : ∃ wq, (w1.alloc (.cells #[.slice none 0 0, .int .i64 1048576, .bool false] 70)).alloc (.cells #[.int .i64 4, .int .i64 (16 + 8 * (m2 : Int)), .int .i64 0, .int .i64 (2 * (m2 : Int)), .int .i64 (2 * (x : Int)), .int .i64 j, .int .i64 (2 * (m2 : Int) - 2 * (x : Int))] 3) = wq := ⟨_, rfl⟩
      obtain ⟨hl, hhl⟩ : ∃ hl : List Int, [4, 16 + 8 * (m2 : Int), 0, 2 * (m2 : Int), 2 * (x : Int), (j : Int), 2 * (m2 : Int) - 2 * (x : Int)] = hl := ⟨_, rfl⟩
      have HQ0 : Hid (RW w1 wq g []) := Lib.hid (by rw [← hwq, ← hg]; exact (RW.new w1).keep (bel_alloc bel_refl).below)
      have HHB : Hid (Blk wq hb 3 (hl.map (Value.int .i64))) := Lib.hid (by rw [← hwq, ← hhb, ← hg, ← hhl]; exact Blk.newAt _ _ [_, _, _, _, _, _, _] (by simp))
      have hlen7 : hl.length = 7 := by rw [← hhl]; rfl
      rw [hhl] at HMD
      rw [hwq, hg, hhb]
      have hgw : w1.heap.size ≤ g := by omega
      have hgb : g < hb := by omega
      clear hwq hg hhb hhl HX hx1 hx2 hx3 hlti
      go_loopw [9] (fun i wr => ∃ k : Nat, k ≤ 7 ∧ i = .int .i64 k ∧ Hid (RW w1 wr g ((hl.take k).flatMap (beB 2))) ∧ Hid (Blk wr hb 3 (hl.map (Value.int .i64)))) (fun i _ => 7 - (intOf i).toNat)
      case atStart => exact ⟨0, by omega, rfl, HQ0, HHB⟩
      case round =>
        obtain ⟨k, hk, rfl, HQ, HBL⟩ := hrel
        by_cases hlt : k < 7
        · have hk7 : (k : Int) < 7 := by omega
          obtain ⟨y, hy⟩ := get_some' (l := hl) (k := k) (by omega)
          have r0 : wr.cell? ⟨hb, k, none⟩ = some (.int .i64 y) := by rw [HBL.out.cell, List.getElem?_map, hy]; rfl
          have rl := HBL.out.lt
          have hfl : (hl.take (k + 1)).flatMap (beB 2) = (hl.take k).flatMap (beB 2) ++ beB 2 y := by rw [take_snoc' hy, List.flatMap_append]; simp
          have HFL := Lib.hid hfl
          have hln : ((hl.take k).flatMap (beB 2)).length ≤ 999000 := by rw [flat_len (beB_length 2), List.length_take]; omega
          have HLN := Lib.hid hln
          clear hfl hy hln
          go_wp2_with (first
            | (go_at_call 42; (with_reducible refine (rw_uT HQ.out 2 _ (by decide) (by decide) (fits1 2 (by decide) HLN.out) nat2).mono ?_); rintro e w6 ⟨rfl, hI, ht⟩; rw [← HFL.out] at hI; have HQ6 := Lib.hid hI; have HB6 := Lib.hid (ht.blk HBL.out (by omega)); clear hI HQ ht)
            | fail)
          go_roundw
          case rel => exact ⟨k + 1, by omega, by go_num, HQ6, HB6⟩
          case measure => simp [intOf]; omega
        · have hnk : ¬ (k : Int) < 7 := by omega
          have hq := HQ.out
          rw [List.take_of_length_le (by omega)] at hq
          obtain ⟨k0, hk0⟩ : ∃ k0, k0 = k := ⟨_, rfl⟩
          rw [← hk0] at hnk
          rw [← hk0]
          clear hk0 HQ hlt hk
          obtain ⟨h0, hh0⟩ : ∃ h0, hl.flatMap (beB 2) = h0 := ⟨_, rfl⟩
          have hl0 : h0.length = 14 := by rw [← hh0, flat_len (beB_length 2), hlen7]
          rw [hh0] at hq HMD
          have HQ1 := Lib.hid hq
          have HH0 := Lib.hid hl0
          clear hq hh0 hl0 hlen7
          go_wp2_with fail
          clear hnk
          go_loopw [10] (fun i wr => ∃ k : Nat, k ≤ m1 ∧ i = .int .i64 k ∧ Hid (RW w1 wr g (h0 ++ ((runL l).take k).flatMap ltB))) (fun i _ => m1 - (intOf i).toNat)
          case atStart => exact ⟨0, Nat.zero_le _, rfl, Lib.hid (by simpa using HQ1.out)⟩
          case round =>
            obtain ⟨k, hk, rfl, HQ⟩ := hrel
            by_cases hlt : k < m1
            · have hkm : (k : Int) < m1 := by omega
              obtain ⟨ps, s, e, hra⟩ := runAt (l := l) (k := k) (by rw [HSL.out]; exact hlt)
              have hlen : (h0 ++ ((runL l).take k).flatMap ltB).length ≤ 999000 := by
                rw [List.length_append, HH0.out, flat_len ltB_len, List.length_take]
                omega
              have hfl : ((runL l).take (k + 1)).flatMap ltB = ((runL l).take k).flatMap ltB ++ ltB ps := by rw [take_snoc' hra.rn, List.flatMap_append]; simp
              have HG : Hid ((h0 ++ ((runL l).take k).flatMap ltB) ++ beB 2 (ltP ps).1 = h0 ++ ((runL l).take (k + 1)).flatMap ltB) := Lib.hid (by rw [hfl]; unfold ltB; simp)
              have hpp := HPB.out ps (List.mem_of_getElem? hra.rn)
              have hph := hpp _ (List.mem_of_getElem? (hd_at (run_pos hra)))
              obtain ⟨Q, hQ⟩ : ∃ Q, h0 ++ ((runL l).take k).flatMap ltB = Q := ⟨_, rfl⟩
              rw [hQ] at HQ HG hlen
              have HLN := Lib.hid hlen
              have haf := HQ.out.below
              obtain ⟨ab, ao, hA1, hab, hac⟩ := slat_get HO.out (i := k) (x := natI s) (by rw [List.getElem?_map, hra.st]; rfl)
              obtain ⟨b, o, hA, hbs, hc⟩ := H.out.at_ (i := s) (r := prC (hdP ps)) (by rw [List.getElem?_map, hra.hd]; rfl)
              obtain ⟨b', o', hA', hb', hc'⟩ := H.out.at_ (i := e - 1) (r := prC (ltP ps)) (by rw [List.getElem?_map, hra.la]; rfl)
              have hAA := hA.symm.trans hA'
              injection hAA with hAA
              injection hAA with hA3 hA4
              subst hA3 hA4
              obtain ⟨q, hq⟩ : ∃ q, e - 1 = q := ⟨_, rfl⟩
              rw [hq] at hc'
              have hse := hra.lt
              have hle := hra.le
              subst hA hA1
              have hw1 : ∀ (u : World) (x : Nat) (v : Value), Below w1.heap.size w1 u → w.cell? ⟨b, x, none⟩ = some v → u.cell? ⟨b, x, none⟩ = some v := fun u x v hu hv => ((hu.cell (p := ⟨b, x, none⟩) (Nat.lt_of_lt_of_le hbs hz1)).trans (HB1.out.cell (p := ⟨b, x, none⟩) hbs)).trans hv
              have r0 : wr.cell? ⟨ab, ao + k, none⟩ = some (.int .i64 s) := (haf.cell (p := ⟨ab, _, none⟩) hab).trans hac
              have r1 : wr.cell? ⟨b, o + s * 2, none⟩ = some (.int .i64 (hdP ps).1) := hw1 wr _ _ haf (hc 0 _ rfl)
              have r2 : wr.cell? ⟨b, o + s * 2 + 1, none⟩ = some (.int .i64 (hdP ps).2) := hw1 wr _ _ haf (hc 1 _ rfl)
              have r3 : wr.cell? ⟨b, o + q * 2, none⟩ = some (.int .i64 (ltP ps).1) := hw1 wr _ _ haf (hc' 0 _ rfl)
              have R1 : Hid (∀ u, Below w1.heap.size w1 u → u.cell? ⟨b, o + s * 2, none⟩ = some (.int .i64 (hdP ps).1)) := Lib.hid fun u hu => hw1 u _ _ hu (hc 0 _ rfl)
              have R2 : Hid (∀ u, Below w1.heap.size w1 u → u.cell? ⟨b, o + s * 2 + 1, none⟩ = some (.int .i64 (hdP ps).2)) := Lib.hid fun u hu => hw1 u _ _ hu (hc 1 _ rfl)
              have R3 : Hid (∀ u, Below w1.heap.size w1 u → u.cell? ⟨b, o + q * 2, none⟩ = some (.int .i64 (ltP ps).1)) := Lib.hid fun u hu => hw1 u _ _ hu (hc' 0 _ rfl)
              have R0 : Hid (∀ u, Below w1.heap.size w1 u → u.cell? ⟨ab, ao + k, none⟩ = some (.int .i64 s)) := Lib.hid fun u hu => (hu.cell (p := ⟨ab, _, none⟩) hab).trans hac
              have hnxt : (k + 1 < m1 ∧ w1.cell? ⟨ab, ao + (k + 1), none⟩ = some (.int .i64 e)) ∨ (k + 1 = m1 ∧ e = l.length) := by
                rcases hra.nx with ⟨h1, h2⟩ | ⟨h1, h2⟩
                · left
                  rw [HSL.out] at h2
                  obtain ⟨ab2, ao2, hA2, hab2, hac2⟩ := slat_get HO.out (i := k + 1) (x := natI e) (by rw [List.getElem?_map, h1]; rfl)
                  injection hA2 with hA2
                  injection hA2 with hA5 hA6
                  subst hA5 hA6
                  exact ⟨h2, hac2⟩
                · right
                  rw [HSL.out] at h1
                  exact ⟨h1, h2⟩
              obtain ⟨nx, hnx⟩ : ∃ nx : Nat, (k : Int) + 1 = nx := ⟨k + 1, by omega⟩
              have HNX : Hid (nx = k + 1) := Lib.hid (by omega)
              generalize hdP ps = hp at r1 r2 R1 R2 HG hph
              generalize ltP ps = lp at r3 R3 HG
              obtain ⟨a0, a1⟩ := hp
              obtain ⟨d0, d1⟩ := lp
              dsimp only at r1 r2 r3 R1 R2 R3 HG hph
              have hbl := Nat.lt_of_lt_of_le hbs (Nat.le_trans hz1 haf.size)
              have habl := Nat.lt_of_lt_of_le hab haf.size
              have hsl2 : (s : Int) < l.length := by omega
              have hql : (q : Int) < l.length := by omega
              have hll : (0 : Int) < l.length := by omega
              obtain ⟨ll, hll1⟩ : ∃ ll : Nat, (l.length : Int) - 1 = ll := ⟨l.length - 1, by omega⟩
              rcases hnxt with ⟨n1, n2⟩ | ⟨n1, n2⟩
              · have hnm : (nx : Int) < m1 := by omega
                have r4 : wr.cell? ⟨ab, ao + nx, none⟩ = some (.int .i64 e) := by rw [HNX.out]; exact (haf.cell (p := ⟨ab, _, none⟩) hab).trans n2
                have heq : (e : Int) - 1 = q := by omega
                clear n1 n2 hac hc hc' hra hq hw1 hfl hlen
                go_wp2_with (first
                  | (go_at_call 42; (with_reducible refine (rw_u HQ.out 2 _ (by decide) (by decide) (fits1 2 (by decide) HLN.out) nat2).mono ?_); rintro e w6 ⟨rfl, hI⟩; rw [HG.out] at hI; have HQ8 := Lib.hid hI; clear hI HQ)
                  | fail)
                go_roundw
                case rel => exact ⟨k + 1, by omega, by go_num, HQ8⟩
                case measure => simp [intOf]; omega
              · have hnm : ¬ (nx : Int) < m1 := by omega
                have heq : (l.length : Int) - 1 = q := by omega
                obtain rfl : ll = q := by omega
                clear n1 n2 hac hc hc' hra hq hw1 hfl hlen hll1
                go_wp2_with (first
                  | (go_at_call 42; (with_reducible refine (rw_u HQ.out 2 _ (by decide) (by decide) (fits1 2 (by decide) HLN.out) nat2).mono ?_); rintro e w6 ⟨rfl, hI⟩; rw [HG.out] at hI; have HQ8 := Lib.hid hI; clear hI HQ)
                  | fail)
                go_roundw
                case rel => exact ⟨k + 1, by omega, by go_num, HQ8⟩
                case measure => simp [intOf]; omega
            · obtain rfl : m1 = k := by omega
              have hq := HQ.out
              rw [List.take_of_length_le (by rw [HM.out]; exact Nat.le_refl _)] at hq
              have hln : (h0 ++ (runL l).flatMap ltB).length = 14 + 2 * m1 := by
                rw [List.length_append, HH0.out, flat_len ltB_len, HM.out]
                omega
              obtain ⟨N2, hN2⟩ : ∃ y, h0 ++ (runL l).flatMap ltB = y := ⟨_, rfl⟩
              rw [hN2] at hq HMD hln
              have HQ2 := Lib.hid hq
              have HLN2 := Lib.hid hln
              clear hq hN2 hln
              go_wp2_with (first
                | (go_at_call 42; (with_reducible refine (rw_u HQ2.out 2 _ (by decide) (by decide) (fitsE HLN2.out (by omega)) nat2).mono ?_); rintro e w6 ⟨rfl, hI⟩; have HQa := Lib.hid hI; have HLa := Lib.hid (len_u (m := 2) (x := 65535) HLN2.out); clear hI HQ2)
                | (go_at_call 42; (with_reducible refine (rw_u HQa.out 2 _ (by decide) (by decide) (fitsE HLa.out (by omega)) nat2).mono ?_); rintro e w7 ⟨rfl, hI⟩; have HQb := Lib.hid hI; have HLb := Lib.hid (len_u (m := 2) (x := 0) HLa.out); clear hI HQa)
                | fail)
              obtain ⟨N3, hN3⟩ : ∃ y, N2 ++ beB 2 65535 ++ beB 2 0 = y := ⟨_, rfl⟩
              rw [hN3] at HQb HMD HLb
              clear hN3
              go_wp2_with fail
              go_loopw [12] (fun i wr => ∃ k : Nat, k ≤ m1 ∧ i = .int .i64 k ∧ Hid (RW w1 wr g (N3 ++ ((runL l).take k).flatMap hdB))) (fun i _ => m1 - (intOf i).toNat)
              case atStart => exact ⟨0, Nat.zero_le _, rfl, Lib.hid (by simpa using HQb.out)⟩
              case round =>
                obtain ⟨k, hk, rfl, HQ⟩ := hrel
                by_cases hlt : k < m1
                · have hkm : (k : Int) < m1 := by omega
                  obtain ⟨ps, s, e, hra⟩ := runAt (l := l) (k := k) (by rw [HSL.out]; exact hlt)
                  have hlen : (N3 ++ ((runL l).take k).flatMap hdB).length ≤ 999000 := by
                    rw [List.length_append, HLb.out, flat_len hdB_len, List.length_take]
                    omega
                  have hfl : ((runL l).take (k + 1)).flatMap hdB = ((runL l).take k).flatMap hdB ++ hdB ps := by rw [take_snoc' hra.rn, List.flatMap_append]; simp
                  have HG : Hid ((N3 ++ ((runL l).take k).flatMap hdB) ++ beB 2 (hdP ps).1 = N3 ++ ((runL l).take (k + 1)).flatMap hdB) := Lib.hid (by rw [hfl]; unfold hdB; simp)
                  have hpp := HPB.out ps (List.mem_of_getElem? hra.rn)
                  have hph := hpp _ (List.mem_of_getElem? (hd_at (run_pos hra)))
                  obtain ⟨Q, hQ⟩ : ∃ Q, N3 ++ ((runL l).take k).flatMap hdB = Q := ⟨_, rfl⟩
                  rw [hQ] at HQ HG hlen
                  have HLN := Lib.hid hlen
                  have haf := HQ.out.below
                  obtain ⟨ab, ao, hA1, hab, hac⟩ := slat_get HO.out (i := k) (x := natI s) (by rw [List.getElem?_map, hra.st]; rfl)
                  obtain ⟨b, o, hA, hbs, hc⟩ := H.out.at_ (i := s) (r := prC (hdP ps)) (by rw [List.getElem?_map, hra.hd]; rfl)
                  obtain ⟨b', o', hA', hb', hc'⟩ := H.out.at_ (i := e - 1) (r := prC (ltP ps)) (by rw [List.getElem?_map, hra.la]; rfl)
                  have hAA := hA.symm.trans hA'
                  injection hAA with hAA
                  injection hAA with hA3 hA4
                  subst hA3 hA4
                  obtain ⟨q, hq⟩ : ∃ q, e - 1 = q := ⟨_, rfl⟩
                  rw [hq] at hc'
                  have hse := hra.lt
                  have hle := hra.le
                  subst hA hA1
                  have hw1 : ∀ (u : World) (x : Nat) (v : Value), Below w1.heap.size w1 u → w.cell? ⟨b, x, none⟩ = some v → u.cell? ⟨b, x, none⟩ = some v := fun u x v hu hv => ((hu.cell (p := ⟨b, x, none⟩) (Nat.lt_of_lt_of_le hbs hz1)).trans (HB1.out.cell (p := ⟨b, x, none⟩) hbs)).trans hv
                  have r0 : wr.cell? ⟨ab, ao + k, none⟩ = some (.int .i64 s) := (haf.cell (p := ⟨ab, _, none⟩) hab).trans hac
                  have r1 : wr.cell? ⟨b, o + s * 2, none⟩ = some (.int .i64 (hdP ps).1) := hw1 wr _ _ haf (hc 0 _ rfl)
                  have r2 : wr.cell? ⟨b, o + s * 2 + 1, none⟩ = some (.int .i64 (hdP ps).2) := hw1 wr _ _ haf (hc 1 _ rfl)
                  have r3 : wr.cell? ⟨b, o + q * 2, none⟩ = some (.int .i64 (ltP ps).1) := hw1 wr _ _ haf (hc' 0 _ rfl)
                  have R1 : Hid (∀ u, Below w1.heap.size w1 u → u.cell? ⟨b, o + s * 2, none⟩ = some (.int .i64 (hdP ps).1)) := Lib.hid fun u hu => hw1 u _ _ hu (hc 0 _ rfl)
                  have R2 : Hid (∀ u, Below w1.heap.size w1 u → u.cell? ⟨b, o + s * 2 + 1, none⟩ = some (.int .i64 (hdP ps).2)) := Lib.hid fun u hu => hw1 u _ _ hu (hc 1 _ rfl)
                  have R3 : Hid (∀ u, Below w1.heap.size w1 u → u.cell? ⟨b, o + q * 2, none⟩ = some (.int .i64 (ltP ps).1)) := Lib.hid fun u hu => hw1 u _ _ hu (hc' 0 _ rfl)
                  have R0 : Hid (∀ u, Below w1.heap.size w1 u → u.cell? ⟨ab, ao + k, none⟩ = some (.int .i64 s)) := Lib.hid fun u hu => (hu.cell (p := ⟨ab, _, none⟩) hab).trans hac
                  have hnxt : (k + 1 < m1 ∧ w1.cell? ⟨ab, ao + (k + 1), none⟩ = some (.int .i64 e)) ∨ (k + 1 = m1 ∧ e = l.length) := by
                    rcases hra.nx with ⟨h1, h2⟩ | ⟨h1, h2⟩
                    · left
                      rw [HSL.out] at h2
                      obtain ⟨ab2, ao2, hA2, hab2, hac2⟩ := slat_get HO.out (i := k + 1) (x := natI e) (by rw [List.getElem?_map, h1]; rfl)
                      injection hA2 with hA2
                      injection hA2 with hA5 hA6
                      subst hA5 hA6
                      exact ⟨h2, hac2⟩
                    · right
                      rw [HSL.out] at h1
                      exact ⟨h1, h2⟩
                  obtain ⟨nx, hnx⟩ : ∃ nx : Nat, (k : Int) + 1 = nx := ⟨k + 1, by omega⟩
                  have HNX : Hid (nx = k + 1) := Lib.hid (by omega)
                  generalize hdP ps = hp at r1 r2 R1 R2 HG hph
                  generalize ltP ps = lp at r3 R3 HG
                  obtain ⟨a0, a1⟩ := hp
                  obtain ⟨d0, d1⟩ := lp
                  dsimp only at r1 r2 r3 R1 R2 R3 HG hph
                  have hbl := Nat.lt_of_lt_of_le hbs (Nat.le_trans hz1 haf.size)
                  have habl := Nat.lt_of_lt_of_le hab haf.size
                  have hsl2 : (s : Int) < l.length := by omega
                  have hql : (q : Int) < l.length := by omega
                  have hll : (0 : Int) < l.length := by omega
                  obtain ⟨ll, hll1⟩ : ∃ ll : Nat, (l.length : Int) - 1 = ll := ⟨l.length - 1, by omega⟩
                  clear hac hc hc' hra hq hw1 hfl hlen hnxt hll1
                  go_wp2_with (first
                    | (go_at_call 42; (with_reducible refine (rw_u HQ.out 2 _ (by decide) (by decide) (fits1 2 (by decide) HLN.out) nat2).mono ?_); rintro e w6 ⟨rfl, hI⟩; rw [HG.out] at hI; have HQ8 := Lib.hid hI; clear hI HQ)
                    | fail)
                  go_roundw
                  case rel => exact ⟨k + 1, by omega, by go_num, HQ8⟩
                  case measure => simp [intOf]; omega
                · obtain rfl : m1 = k := by omega
                  have hq := HQ.out
                  rw [List.take_of_length_le (by rw [HM.out]; exact Nat.le_refl _)] at hq
                  have hln : (N3 ++ (runL l).flatMap hdB).length = 14 + 2 * m1 + 2 + 2 + 2 * m1 := by
                    rw [List.length_append, HLb.out, flat_len hdB_len, HM.out]
                    omega
                  obtain ⟨N4, hN2⟩ : ∃ y, N3 ++ (runL l).flatMap hdB = y := ⟨_, rfl⟩
                  rw [hN2] at hq HMD hln
                  have HQ3 := Lib.hid hq
                  have HLN3 := Lib.hid hln
                  clear hq hN2 hln
                  go_wp2_with (first
                    | (go_at_call 42; (with_reducible refine (rw_u HQ3.out 2 _ (by decide) (by decide) (fitsE HLN3.out (by omega)) nat2).mono ?_); rintro e w6 ⟨rfl, hI⟩; have HQc := Lib.hid hI; have HLc := Lib.hid (len_u (m := 2) (x := 65535) HLN3.out); clear hI HQ3)
                    | fail)
                  obtain ⟨N5, hN5⟩ : ∃ y, N4 ++ beB 2 65535 = y := ⟨_, rfl⟩
                  rw [hN5] at HQc HMD HLc
                  clear hN5
                  go_wp2_with fail
                  go_loopw [13] (fun i wr => ∃ k : Nat, k ≤ m1 ∧ i = .int .i64 k ∧ Hid (RW w1 wr g (N5 ++ ((runL l).take k).flatMap dlB))) (fun i _ => m1 - (intOf i).toNat)
                  case atStart => exact ⟨0, Nat.zero_le _, rfl, Lib.hid (by simpa using HQc.out)⟩
                  case round =>
                    obtain ⟨k, hk, rfl, HQ⟩ := hrel
                    by_cases hlt : k < m1
                    · have hkm : (k : Int) < m1 := by omega
                      obtain ⟨ps, s, e, hra⟩ := runAt (l := l) (k := k) (by rw [HSL.out]; exact hlt)
                      have hlen : (N5 ++ ((runL l).take k).flatMap dlB).length ≤ 999000 := by
                        rw [List.length_append, HLc.out, flat_len dlB_len, List.length_take]
                        omega
                      have hfl : ((runL l).take (k + 1)).flatMap dlB = ((runL l).take k).flatMap dlB ++ dlB ps := by rw [take_snoc' hra.rn, List.flatMap_append]; simp
                      have HG : Hid ((N5 ++ ((runL l).take k).flatMap dlB) ++ beB 2 ((hdP ps).2 - (hdP ps).1) = N5 ++ ((runL l).take (k + 1)).flatMap dlB) := Lib.hid (by rw [hfl]; unfold dlB; simp)
                      have hpp := HPB.out ps (List.mem_of_getElem? hra.rn)
                      have hph := hpp _ (List.mem_of_getElem? (hd_at (run_pos hra)))
                      obtain ⟨Q, hQ⟩ : ∃ Q, N5 ++ ((runL l).take k).flatMap dlB = Q := ⟨_, rfl⟩
                      rw [hQ] at HQ HG hlen
                      have HLN := Lib.hid hlen
                      have haf := HQ.out.below
                      obtain ⟨ab, ao, hA1, hab, hac⟩ := slat_get HO.out (i := k) (x := natI s) (by rw [List.getElem?_map, hra.st]; rfl)
                      obtain ⟨b, o, hA, hbs, hc⟩ := H.out.at_ (i := s) (r := prC (hdP ps)) (by rw [List.getElem?_map, hra.hd]; rfl)
                      obtain ⟨b', o', hA', hb', hc'⟩ := H.out.at_ (i := e - 1) (r := prC (ltP ps)) (by rw [List.getElem?_map, hra.la]; rfl)
                      have hAA := hA.symm.trans hA'
                      injection hAA with hAA
                      injection hAA with hA3 hA4
                      subst hA3 hA4
                      obtain ⟨q, hq⟩ : ∃ q, e - 1 = q := ⟨_, rfl⟩
                      rw [hq] at hc'
                      have hse := hra.lt
                      have hle := hra.le
                      subst hA hA1
                      have hw1 : ∀ (u : World) (x : Nat) (v : Value), Below w1.heap.size w1 u → w.cell? ⟨b, x, none⟩ = some v → u.cell? ⟨b, x, none⟩ = some v := fun u x v hu hv => ((hu.cell (p := ⟨b, x, none⟩) (Nat.lt_of_lt_of_le hbs hz1)).trans (HB1.out.cell (p := ⟨b, x, none⟩) hbs)).trans hv
                      have r0 : wr.cell? ⟨ab, ao + k, none⟩ = some (.int .i64 s) := (haf.cell (p := ⟨ab, _, none⟩) hab).trans hac
                      have r1 : wr.cell? ⟨b, o + s * 2, none⟩ = some (.int .i64 (hdP ps).1) := hw1 wr _ _ haf (hc 0 _ rfl)
                      have r2 : wr.cell? ⟨b, o + s * 2 + 1, none⟩ = some (.int .i64 (hdP ps).2) := hw1 wr _ _ haf (hc 1 _ rfl)
                      have r3 : wr.cell? ⟨b, o + q * 2, none⟩ = some (.int .i64 (ltP ps).1) := hw1 wr _ _ haf (hc' 0 _ rfl)
                      have R1 : Hid (∀ u, Below w1.heap.size w1 u → u.cell? ⟨b, o + s * 2, none⟩ = some (.int .i64 (hdP ps).1)) := Lib.hid fun u hu => hw1 u _ _ hu (hc 0 _ rfl)
                      have R2 : Hid (∀ u, Below w1.heap.size w1 u → u.cell? ⟨b, o + s * 2 + 1, none⟩ = some (.int .i64 (hdP ps).2)) := Lib.hid fun u hu => hw1 u _ _ hu (hc 1 _ rfl)
                      have R3 : Hid (∀ u, Below w1.heap.size w1 u → u.cell? ⟨b, o + q * 2, none⟩ = some (.int .i64 (ltP ps).1)) := Lib.hid fun u hu => hw1 u _ _ hu (hc' 0 _ rfl)
                      have R0 : Hid (∀ u, Below w1.heap.size w1 u → u.cell? ⟨ab, ao + k, none⟩ = some (.int .i64 s)) := Lib.hid fun u hu => (hu.cell (p := ⟨ab, _, none⟩) hab).trans hac
                      have hnxt : (k + 1 < m1 ∧ w1.cell? ⟨ab, ao + (k + 1), none⟩ = some (.int .i64 e)) ∨ (k + 1 = m1 ∧ e = l.length) := by
                        rcases hra.nx with ⟨h1, h2⟩ | ⟨h1, h2⟩
                        · left
                          rw [HSL.out] at h2
                          obtain ⟨ab2, ao2, hA2, hab2, hac2⟩ := slat_get HO.out (i := k + 1) (x := natI e) (by rw [List.getElem?_map, h1]; rfl)
                          injection hA2 with hA2
                          injection hA2 with hA5 hA6
                          subst hA5 hA6
                          exact ⟨h2, hac2⟩
                        · right
                          rw [HSL.out] at h1
                          exact ⟨h1, h2⟩
                      obtain ⟨nx, hnx⟩ : ∃ nx : Nat, (k : Int) + 1 = nx := ⟨k + 1, by omega⟩
                      have HNX : Hid (nx = k + 1) := Lib.hid (by omega)
                      generalize hdP ps = hp at r1 r2 R1 R2 HG hph
                      generalize ltP ps = lp at r3 R3 HG
                      obtain ⟨a0, a1⟩ := hp
                      obtain ⟨d0, d1⟩ := lp
                      dsimp only at r1 r2 r3 R1 R2 R3 HG hph
                      have hbl := Nat.lt_of_lt_of_le hbs (Nat.le_trans hz1 haf.size)
                      have habl := Nat.lt_of_lt_of_le hab haf.size
                      have hsl2 : (s : Int) < l.length := by omega
                      have hql : (q : Int) < l.length := by omega
                      have hll : (0 : Int) < l.length := by omega
                      obtain ⟨ll, hll1⟩ : ∃ ll : Nat, (l.length : Int) - 1 = ll := ⟨l.length - 1, by omega⟩
                      have hwr : IntKind.i64.wrap (a1 - a0) = a1 - a0 := IntWalk.i64_in _ (by omega)
                      clear hac hc hc' hra hq hw1 hfl hlen hnxt hll1
                      go_wp2_with fail
                      refine wp_region_drew_tail 18 (by kernel_rfl) (by kernel_rfl) ?_
                      simp only [List.take_succ_cons, List.take_zero, List.drop_succ_cons, List.drop_zero]
                      repeat (go_big_quiet_step (fail))
                      refine wpQuiet_nil ?_
                      rintro _ ⟨nq, rfl⟩
                      go_wp2_with (first
                        | (go_at_call 42; (with_reducible refine (rw_u (HQ.out.keep (bel_drewN bel_refl).below) 2 _ (by decide) (by decide) (fits1 2 (by decide) HLN.out) nat2).mono ?_); rintro e w6 ⟨rfl, hI⟩; rw [HG.out] at hI; have HQ8 := Lib.hid hI; clear hI HQ)
                        | fail)
                      go_roundw
                      case rel => exact ⟨k + 1, by omega, by go_num, HQ8⟩
                      case measure => simp [intOf]; omega
                    · obtain rfl : m1 = k := by omega
                      have hq := HQ.out
                      rw [List.take_of_length_le (by rw [HM.out]; exact Nat.le_refl _)] at hq
                      have hln : (N5 ++ (runL l).flatMap dlB).length = 14 + 2 * m1 + 2 + 2 + 2 * m1 + 2 + 2 * m1 := by
                        rw [List.length_append, HLc.out, flat_len dlB_len, HM.out]
                        omega
                      obtain ⟨N6, hN2⟩ : ∃ y, N5 ++ (runL l).flatMap dlB = y := ⟨_, rfl⟩
                      rw [hN2] at hq HMD hln
                      have HQ4 := Lib.hid hq
                      have HLN4 := Lib.hid hln
                      clear hq hN2 hln
                      obtain ⟨z, hz⟩ : ∃ z : Nat, 2 * m2 = z := ⟨_, rfl⟩
                      have hzi : 2 * (m2 : Int) = z := by omega
                      rw [hz] at HMD
                      have hmz := fun W => make_zeros z (by omega) W
                      have hm22 := HM2.out
                      have HNE : Hid (N6 ++ beB 2 1 ++ List.replicate z 0 = N) := Lib.hid HMD.out.symm
                      clear hz
                      go_wp2_with (first
                        | (go_at_call 42; (with_reducible refine (rw_u HQ4.out 2 _ (by decide) (by decide) (fitsE HLN4.out (by omega)) nat2).mono ?_); rintro e w8 ⟨rfl, hI⟩; have HQd := Lib.hid hI; have HLd := Lib.hid (len_u (m := 2) (x := 1) HLN4.out); clear hI HQ4)
                        | (go_at_call 72; (with_reducible refine (rw_data (n := z) (HQd.out.keep (bel_alloc bel_refl).below) (bs := List.replicate z 0) (by simp) (slat_zeros _ z _) (fitsE (n := z) HLd.out (by omega))).mono ?_); rintro e w9 ⟨rfl, hI⟩; rw [HNE.out] at hI; obtain ⟨A8, c8, hc8, hs8⟩ := hI.bytes; have hlt8 := hI.lt; have HS8 := Lib.hid hs8; have HBF := Lib.hid (HB1.out.trans (hI.below.mono HB1.out.size)); clear hI HQd hs8)
                        | fail)
                      go_ret
                      exact ⟨_, _, rfl, HS8.out, HBF.out⟩
end Go.Proofs.Ytlbfefdmbdjjcaa

namespace Go.Proofs.Ytlbfefdmbdjjcaa
open Go.RowKit

def RMkV (v : Except Int (List UInt8)) (w : World) (e : Ending) (w' : World) : Prop :=
  ∃ (A : Option Addr) (n c : Nat) (ok : Bool), e = .returned (.tuple #[.slice A n c, .bool ok]) ∧ Below w.heap.size w w' ∧ (match v with
    | .error _ => ok = false
    | .ok N => ok = true ∧ N.length = n ∧ SlAt w' A n (N.map byteV))
theorem rmk_err {v : Except Int (List UInt8)} {x : Int} {w w' : World} {A : Option Addr} {n c : Nat} (h : v = .error x) (hb : Below w.heap.size w w') : RMkV v w (.returned (.tuple #[.slice A n c, .bool false])) w' := by subst h; exact ⟨_, _, _, _, rfl, hb, rfl⟩
theorem rmk_ok {v : Except Int (List UInt8)} {N : List UInt8} {w w' : World} {A : Option Addr} {n c : Nat} (h : v = .ok N) (hn : N.length = n) (hs : SlAt w' A n (N.map byteV)) (hb : Below w.heap.size w w') : RMkV v w (.returned (.tuple #[.slice A n c, .bool true])) w' := by subst h; exact ⟨_, _, _, _, rfl, hb, rfl, hn, hs⟩
theorem mkS_may {f : Int} {l : List Pr} (h1 : isFmtB f = true) (h2 : mayS f l = true) : mkS f l = if 8192 < l.length then .error 3
  else if f = 0 then .ok (m0 l)
  else if f = 4 then (if 8189 < (runL l ++ [sent]).length then .error 3 else .ok (m4 (runL l ++ [sent])))
  else if f = 6 then (if 8192 < n6 l then .error 3 else .ok (m6 l))
  else .ok (m12 (runL l)) := by
  unfold mkS
  rw [if_neg (by rw [h1]; simp), if_neg (by rw [h2]; simp)]
theorem n6_cases {l : List Pr} (hi : InP l (f6 l) (n6 l)) : (l = [] ∧ f6 l = 0 ∧ n6 l = 0) ∨ (0 < l.length ∧ (hdP l).1 = f6 l ∧ (ltP l).1 - f6 l + 1 = n6 l) := by
  by_cases h0 : l = []
  · exact .inl ⟨h0, if_pos h0, if_pos h0⟩
  · have h1 : 0 < l.length := List.length_pos_iff.2 h0
    have h2 : f6 l = (hdP l).1 := if_neg h0
    have h3 : n6 l = ((ltP l).1 - (hdP l).1 + 1).toNat := if_neg h0
    have h4 := hi _ (List.mem_of_getElem? (lt_at h1))
    rw [h2] at h4
    exact .inr ⟨h1, h2.symm, by rw [h3, h2]; omega⟩
set_option maxRecDepth 20000 in
set_option maxHeartbeats 4000000 in
theorem rMake_any {w : World} {A : Option Addr} {n c : Nat} {l : List Pr} (f : Int) (h : RowsAt w A n 2 (l.map prC)) (hn : n ≤ 1000000) (hf : isFmtB f = true) (hm : mayS f l = true) :
    Calls Try.prog 18 #[.int .i64 f, .slice A n c] w (RMkV (mkS f l) w) := by
  have hl := h.len
  rw [List.length_map] at hl
  have hv := mkS_may hf hm
  have HF := Lib.hid fun wi => formats_any f wi
  rw [hf] at HF
  have HMM : Hid (∀ wi, Below w.heap.size w wi → Calls Try.prog 17 #[.int .i64 f, .slice A n c] wi fun e w' => e = .returned (.bool true) ∧ Below wi.heap.size wi w') := Lib.hid fun wi hb => by
    rw [← hm]
    exact rmay_any f (h.keep hb) hn
  have hpb := may_pb hm
  by_cases hlong : 8192 < l.length
  · have HV := Lib.hid (hv.trans (if_pos hlong))
    have hln : ¬ (n : Int) ≤ 8192 := by omega
    clear h hv hf hm HF HMM hpb
    go_enter Try.func18, Try.ntmps18
    go_wp2_with fail
    go_ret2
    exact rmk_err HV.out (Below.refl _ _)
  have hv2 := hv.trans (if_neg hlong)
  have hln : (n : Int) ≤ 8192 := by omega
  have hn8 : n ≤ 8192 := by omega
  have hfm : f = 0 ∨ f = 4 ∨ f = 6 ∨ f = 12 := by unfold isFmtB at hf; simpa using hf
  rcases hfm with rfl | rfl | rfl | rfl
  · have hin : InP l 0 256 := fun p hp => by
      have h1 := mayL_all hm p hp
      have hc0 : mostC 0 = 255 := rfl
      have hg0 : mostG 0 = 255 := rfl
      omega
    have hv3 : mkS 0 l = .ok (m0 l) := hv2.trans (if_pos rfl)
    have hmn : m0 l = beB 2 0 ++ beB 2 262 ++ beB 2 0 ++ (glP l 0 256).flatMap (beB 1) := rfl
    have hgl : (glP l 0 256).length = 256 := by unfold glP; rw [setP_len, List.length_replicate]
    have hli := fun wi (hb : Below w.heap.size w wi) => rlist_any (c := c) (h.keep hb) hn8 hin (by decide) (y := 256) rfl
    generalize m0 l = N at hv3 hmn
    generalize glP l 0 256 = gs at hmn hgl hli
    obtain ⟨V, hV⟩ : ∃ V, mkS 0 l = V := ⟨_, rfl⟩
    rw [hV] at hv3 ⊢
    have HLI := Lib.hid hli
    have HV3 := Lib.hid hv3
    have HGL := Lib.hid hgl
    obtain ⟨hds, hhd⟩ : ∃ x, beB 2 0 ++ beB 2 262 ++ beB 2 0 = x := ⟨_, rfl⟩
    rw [hhd] at hmn
    have HDL : Hid (hds.length = 6) := Lib.hid (by rw [← hhd]; rfl)
    have HHD : Hid ([] ++ beB 2 0 ++ beB 2 262 ++ beB 2 0 = hds) := Lib.hid hhd
    have HMN := Lib.hid hmn
    clear h hv hv2 hv3 hf hm hpb hV hgl hli hmn hhd hin
    go_enter Try.func18, Try.ntmps18
    go_upto_region 11 with (first
      | (go_at_call 16; (with_reducible refine (HF.out _).mono ?_); rintro e w1 ⟨rfl, rfl⟩)
      | (go_at_call 17; (with_reducible refine (HMM.out _ (Below.refl _ _)).mono ?_); rintro e w1 ⟨rfl, hb1⟩; have HB1 := Lib.hid hb1; clear hb1)
      | fail)
    obtain ⟨g, hg⟩ : ∃ g, w1.heap.size = g := ⟨_, rfl⟩
    obtain ⟨wq, hwq⟩ : ∃ wq, w1.alloc (.cells #[.slice none 0 0, .int .i64 1048576, .bool false] 70) = wq := ⟨_, rfl⟩
    have HQ00 : Hid (RW w1 wq g []) := Lib.hid (by rw [← hwq, ← hg]; exact RW.new w1)
    rw [hwq, hg]
    clear hwq hg
    go_wp2_with (first
      | (go_at_call 42; (with_reducible refine (rw_u HQ00.out 2 _ (by decide) (by decide) (by decide) nat2).mono ?_); rintro e w2 ⟨rfl, hI⟩; have HQ1 := Lib.hid hI; clear hI HQ00)
      | (go_at_call 42; (with_reducible refine (rw_u HQ1.out 2 _ (by decide) (by decide) (by simp [beB_length]) nat2).mono ?_); rintro e w3 ⟨rfl, hI⟩; have HQ2 := Lib.hid hI; clear hI HQ1)
      | (go_at_call 42; (with_reducible refine (rw_u HQ2.out 2 _ (by decide) (by decide) (by simp [beB_length]) nat2).mono ?_); rintro e w4 ⟨rfl, hI⟩; rw [HHD.out] at hI; have HQ3 := Lib.hid hI; have HB4 := Lib.hid (HB1.out.trans (hI.below.mono HB1.out.size)); clear hI HQ2)
      | (go_at_call 43; (with_reducible refine (HLI.out _ HB4.out).mono ?_); rintro e w5 ⟨rfl, hbk, hb5⟩; have HBG5 := Lib.hid hbk; have HQ5 := Lib.hid (HQ3.out.keep hb5); have hgl4 := HQ3.out.lt; clear hbk hb5 HQ3)
      | fail)
    obtain ⟨hb, hhb⟩ : ∃ hb, w4.heap.size = hb := ⟨_, rfl⟩
    rw [hhb] at HBG5 hgl4
    rw [hhb]
    have HBG := Lib.hid HBG5.out
    have HQ0 := Lib.hid HQ5.out
    clear hhb HBG5 HQ5
    go_loopw [9] (fun i wr => ∃ k : Nat, k ≤ 256 ∧ i = .int .i64 k ∧ Hid (RW w1 wr g (hds ++ (gs.take k).flatMap (beB 1))) ∧ Hid (Blk wr hb 3 (gs.map (Value.int .i64)))) (fun i _ => 256 - (intOf i).toNat)
    case atStart => exact ⟨0, Nat.zero_le _, rfl, Lib.hid (by simpa using HQ0.out), HBG⟩
    case round =>
      obtain ⟨k, hk, rfl, HQ, HBL⟩ := hrel
      by_cases hlt : k < 256
      · have hk7 : (k : Int) < 256 := by omega
        obtain ⟨y, hy⟩ := get_some' (l := gs) (k := k) (by have := HGL.out; omega)
        have r0 : wr.cell? ⟨hb, k, none⟩ = some (.int .i64 y) := by rw [HBL.out.cell, List.getElem?_map, hy]; rfl
        have rl := HBL.out.lt
        have hfl : (gs.take (k + 1)).flatMap (beB 1) = (gs.take k).flatMap (beB 1) ++ beB 1 y := by rw [take_snoc' hy, List.flatMap_append]; simp
        have HFL := Lib.hid hfl
        have hln : (hds ++ (gs.take k).flatMap (beB 1)).length ≤ 999000 := by rw [List.length_append, HDL.out, flat_len (beB_length 1), List.length_take]; omega
        have HLN := Lib.hid hln
        clear hfl hy hln
        go_wp2_with (first
          | (go_at_call 42; (with_reducible refine (rw_uT HQ.out 1 _ (by decide) (by decide) (fits1 1 (by decide) HLN.out) nat1).mono ?_); rintro e w6 ⟨rfl, hI, ht⟩; rw [List.append_assoc, ← HFL.out] at hI; have HQ6 := Lib.hid hI; have HB6 := Lib.hid (ht.blk HBL.out (by omega)); clear hI HQ ht)
          | fail)
        go_roundw
        case rel => exact ⟨k + 1, by omega, by go_num, HQ6, HB6⟩
        case measure => simp [intOf]; omega
      · have hnk : ¬ (k : Int) < 256 := by omega
        have hI := HQ.out
        rw [List.take_of_length_le (by have := HGL.out; omega), ← HMN.out] at hI
        obtain ⟨A8, c8, hc8, hs8⟩ := hI.bytes
        have hlt8 := hI.lt
        have HS8 := Lib.hid hs8
        have HBF := Lib.hid (HB1.out.trans (hI.below.mono HB1.out.size))
        clear hI hs8
        go_wp2_with fail
        go_ret2
        exact rmk_ok HV3.out rfl HS8.out HBF.out
  · have h4 := fun wi (hb : Below w.heap.size w wi) => rmake4_any (c := c) (h.keep hb) hn8 hpb
    have hln4 := m4_len (runL l ++ [sent])
    have hv3 : mkS 4 l = if 8189 < (runL l ++ [sent]).length then .error 3 else .ok (m4 (runL l ++ [sent])) := hv2.trans ((if_neg (by decide)).trans (if_pos rfl))
    generalize m4 (runL l ++ [sent]) = N at h4 hln4 hv3
    generalize (runL l ++ [sent]).length = m at hln4 hv3
    obtain ⟨V, hV⟩ : ∃ V, mkS 4 l = V := ⟨_, rfl⟩
    rw [hV] at hv3 ⊢
    have H4 := Lib.hid h4
    have HV3 := Lib.hid hv3
    obtain ⟨nn, hnn⟩ : ∃ nn, N.length = nn := ⟨_, rfl⟩
    have hcs : (¬ (nn : Int) ≤ 65535 ∧ 8189 < m) ∨ ((nn : Int) ≤ 65535 ∧ ¬ 8189 < m) := by omega
    have HNN := Lib.hid hnn
    have H4' : Hid (∀ wi, Below w.heap.size w wi → Calls Try.prog 40 #[.slice A n c] wi fun e w' => ∃ A c, e = .returned (.slice A nn c) ∧ SlAt w' A nn (N.map byteV) ∧ Below wi.heap.size wi w') := Lib.hid fun wi hb => by rw [← hnn]; exact h4 wi hb
    clear h hv hv2 hv3 hf hm hpb h4 hln4 hV hnn H4
    rcases hcs with ⟨q1, q2⟩ | ⟨q1, q2⟩
    · have hd1 : decide ((nn : Int) ≤ 65535) = false := by simp; omega
      go_enter Try.func18, Try.ntmps18
      go_wp2_with (first
        | (go_at_call 16; (with_reducible refine (HF.out _).mono ?_); rintro e w1 ⟨rfl, rfl⟩)
        | (go_at_call 17; (with_reducible refine (HMM.out _ (Below.refl _ _)).mono ?_); rintro e w1 ⟨rfl, hb1⟩; have HB1 := Lib.hid hb1; have HB2 := Lib.hid (hb1.trans ((bel_alloc (o := .cells #[.slice none 0 0, .int .i64 1048576, .bool false] 70) bel_refl).below.mono hb1.size)); clear hb1)
        | (go_at_call 40; (with_reducible refine (H4'.out _ HB2.out).mono ?_); rintro e w3 ⟨A3, c3, rfl, hs3, hb3⟩; have HB3 := Lib.hid (HB2.out.trans (hb3.mono HB2.out.size)); clear hs3 hb3)
        | fail)
      go_ret2
      exact rmk_err (HV3.out.trans (if_pos q2)) HB3.out
    · go_enter Try.func18, Try.ntmps18
      go_wp2_with (first
        | (go_at_call 16; (with_reducible refine (HF.out _).mono ?_); rintro e w1 ⟨rfl, rfl⟩)
        | (go_at_call 17; (with_reducible refine (HMM.out _ (Below.refl _ _)).mono ?_); rintro e w1 ⟨rfl, hb1⟩; have HB1 := Lib.hid hb1; have HB2 := Lib.hid (hb1.trans ((bel_alloc (o := .cells #[.slice none 0 0, .int .i64 1048576, .bool false] 70) bel_refl).below.mono hb1.size)); clear hb1)
        | (go_at_call 40; (with_reducible refine (H4'.out _ HB2.out).mono ?_); rintro e w3 ⟨A3, c3, rfl, hs3, hb3⟩; have HS3 := Lib.hid hs3; have HB3 := Lib.hid (HB2.out.trans (hb3.mono HB2.out.size)); clear hs3 hb3)
        | fail)
      go_ret2
      exact rmk_ok (HV3.out.trans (if_neg q2)) HNN.out HS3.out HB3.out
  · obtain ⟨hi6, hf6, hk6⟩ := may_in6 hm
    have hv3 : mkS 6 l = if 8192 < n6 l then .error 3 else .ok (m6 l) := hv2.trans ((if_neg (by decide)).trans ((if_neg (by decide)).trans (if_pos rfl)))
    have hmn : m6 l = beB 2 6 ++ beB 2 (10 + 2 * (n6 l : Int)) ++ beB 2 0 ++ beB 2 (f6 l) ++ beB 2 (n6 l : Int) ++ (glP l (f6 l) (n6 l)).flatMap (beB 2) := rfl
    have hgl : (glP l (f6 l) (n6 l)).length = n6 l := by unfold glP; rw [setP_len, List.length_replicate]
    have hli := fun (hk : n6 l ≤ 8192) wi (hb : Below w.heap.size w wi) => rlist_any (c := c) (h.keep hb) hn8 hi6 hk (y := (n6 l : Nat)) rfl
    have hcs6 := n6_cases hi6
    generalize f6 l = f at hf6 hmn hgl hli hcs6
    generalize n6 l = K at hk6 hv3 hmn hgl hli hcs6
    generalize m6 l = N at hv3 hmn
    generalize glP l f K = gs at hmn hgl hli
    obtain ⟨V, hV⟩ : ∃ V, mkS 6 l = V := ⟨_, rfl⟩
    rw [hV] at hv3 ⊢
    have HLI := Lib.hid hli
    have HGL := Lib.hid hgl
    have HCS := Lib.hid hcs6
    have H := Lib.hid h
    have HPB := Lib.hid hpb
    obtain ⟨hds, hhd⟩ : ∃ x, beB 2 6 ++ beB 2 (10 + 2 * (K : Int)) ++ beB 2 0 ++ beB 2 f ++ beB 2 (K : Int) = x := ⟨_, rfl⟩
    rw [hhd] at hmn
    have HDL : Hid (hds.length = 10) := Lib.hid (by rw [← hhd]; simp [beB_length])
    have HHD : Hid ([] ++ beB 2 6 ++ beB 2 (10 + 2 * (K : Int)) ++ beB 2 0 ++ beB 2 f ++ beB 2 (K : Int) = hds) := Lib.hid hhd
    have HMN := Lib.hid hmn
    have HVV := Lib.hid hv3
    obtain ⟨hf60, hf61⟩ := hf6
    subst hl
    clear h hv hv2 hv3 hf hm hpb hV hgl hli hmn hhd hi6 hcs6
    go_enter Try.func18, Try.ntmps18
    go_upto_region 21 with (first
      | (go_at_call 16; (with_reducible refine (HF.out _).mono ?_); rintro e w1 ⟨rfl, rfl⟩)
      | (go_at_call 17; (with_reducible refine (HMM.out _ (Below.refl _ _)).mono ?_); rintro e w1 ⟨rfl, hb1⟩; have HB1 := Lib.hid hb1; clear hb1)
      | fail)
    obtain ⟨g, hg⟩ : ∃ g, w1.heap.size = g := ⟨_, rfl⟩
    obtain ⟨wq, hwq⟩ : ∃ wq, w1.alloc (.cells #[.slice none 0 0, .int .i64 1048576, .bool false] 70) = wq := ⟨_, rfl⟩
    have HQ00 : Hid (RW w1 wq g []) := Lib.hid (by rw [← hwq, ← hg]; exact RW.new w1)
    rw [hwq, hg]
    clear hwq hg
    have HW1 := Lib.hid (H.out.keep (HB1.out))
    have HWQ := Lib.hid ((H.out.keep (HB1.out)).keep HQ00.out.below)
    go_cut [69] (fun s69 wx => s69 = .bool (decide ((0 : Int) < l.length)) ∧ wq = wx)
    case first =>
      go_wp2_with fail
      go_meet
      exact ⟨by simp, rfl⟩
    case rest =>
    obtain ⟨rfl, rfl⟩ := hcut
    rename_i hK
    refine hK _ _ ?_
    go_cut [10, 11] (fun s4 s5 wx => s4 = .int .i64 f ∧ s5 = .int .i64 K ∧ wq = wx)
    case first =>
      rcases HCS.out with ⟨e1, e2, e3⟩ | ⟨e1, e2, e3⟩
      · subst e1 e2 e3
        go_wp2_with fail
        go_meet
        exact ⟨rfl, rfl, rfl⟩
      · obtain ⟨q, hq⟩ : ∃ q, l.length - 1 = q := ⟨_, rfl⟩
        obtain ⟨b, o, rfl, hb, hc0⟩ := HWQ.out.at_ (i := 0) (r := prC (hdP l)) (by rw [List.getElem?_map, hd_at e1]; rfl)
        obtain ⟨b', o', e', hb', hc1⟩ := HWQ.out.at_ (i := q) (r := prC (ltP l)) (by rw [← hq, List.getElem?_map, lt_at e1]; rfl)
        injection e' with e'
        injection e' with e4 e5
        subst e4 e5
        have hm0 := HPB.out _ (List.mem_of_getElem? (hd_at e1))
        have hm1 := HPB.out _ (List.mem_of_getElem? (lt_at e1))
        generalize hdP l = hp at hc0 e2 hm0
        generalize ltP l = lp at hc1 e3 hm1
        obtain ⟨a0, a1⟩ := hp
        obtain ⟨d0, d1⟩ := lp
        dsimp only at e2 e3 hm0 hm1
        have s0 : wq.cell? ⟨b, o, none⟩ = some (.int .i64 a0) := by simpa using hc0 0 _ rfl
        have s1 : wq.cell? ⟨b, o + q * 2, none⟩ = some (.int .i64 d0) := by simpa using hc1 0 _ rfl
        have hlq : (l.length : Int) - 1 = q := by omega
        have hql : (q : Int) < l.length := by omega
        have hll : (0 : Int) < l.length := by omega
        subst e2
        obtain ⟨x, hx⟩ : ∃ x, d0 - a0 = x := ⟨_, rfl⟩
        have hx1 : x + 1 = K := by omega
        clear e3 hc0 hc1 hq
        go_wp2_with fail
        go_meet
        exact ⟨rfl, rfl, rfl⟩
    case rest =>
      obtain ⟨rfl, rfl, rfl⟩ := hcut
      by_cases hbig : 8192 < K
      · have hbi : ¬ (K : Int) ≤ 8192 := by omega
        have HBF := Lib.hid (HB1.out.trans (HQ00.out.below.mono HB1.out.size))
        go_wp2_with fail
        go_ret2
        exact rmk_err (HVV.out.trans (if_pos hbig)) HBF.out
      have hki : (K : Int) ≤ 8192 := by omega
      have HV3 := Lib.hid (HVV.out.trans (if_neg hbig))
      have HLI2 := Lib.hid (HLI.out (by omega))
      go_wp2_with (first
        | (go_at_call 42; (with_reducible refine (rw_u HQ00.out 2 _ (by decide) (by decide) (by decide) nat2).mono ?_); rintro e w2 ⟨rfl, hI⟩; have HQ1 := Lib.hid hI; clear hI HQ00)
        | (go_at_call 42; (with_reducible refine (rw_u HQ1.out 2 _ (by decide) (by decide) (by simp [beB_length]) nat2).mono ?_); rintro e w3 ⟨rfl, hI⟩; have HQ2 := Lib.hid hI; clear hI HQ1)
        | (go_at_call 42; (with_reducible refine (rw_u HQ2.out 2 _ (by decide) (by decide) (by simp [beB_length]) nat2).mono ?_); rintro e w4 ⟨rfl, hI⟩; have HQ3 := Lib.hid hI; clear hI HQ2)
        | (go_at_call 42; (with_reducible refine (rw_u HQ3.out 2 _ (by decide) (by decide) (by simp [beB_length]) nat2).mono ?_); rintro e w4 ⟨rfl, hI⟩; have HQ4 := Lib.hid hI; clear hI HQ3)
        | (go_at_call 42; (with_reducible refine (rw_u HQ4.out 2 _ (by decide) (by decide) (by simp [beB_length]) nat2).mono ?_); rintro e w4 ⟨rfl, hI⟩; rw [HHD.out] at hI; have HQ5 := Lib.hid hI; have HB4 := Lib.hid (HB1.out.trans (hI.below.mono HB1.out.size)); clear hI HQ4)
        | (go_at_call 43; (with_reducible refine (HLI2.out _ HB4.out).mono ?_); rintro e w5 ⟨rfl, hbk, hb5⟩; have HBG5 := Lib.hid hbk; have HQ6 := Lib.hid (HQ5.out.keep hb5); have hgl4 := HQ5.out.lt; clear hbk hb5 HQ5)
        | fail)
      obtain ⟨hb, hhb⟩ : ∃ hb, w4.heap.size = hb := ⟨_, rfl⟩
      rw [hhb] at HBG5 hgl4
      rw [hhb]
      have HBG := Lib.hid HBG5.out
      have HQ0 := Lib.hid HQ6.out
      clear hhb HBG5 HQ6
      go_loopw [13] (fun i wr => ∃ k : Nat, k ≤ K ∧ i = .int .i64 k ∧ Hid (RW w1 wr g (hds ++ (gs.take k).flatMap (beB 2))) ∧ Hid (Blk wr hb 3 (gs.map (Value.int .i64)))) (fun i _ => K - (intOf i).toNat)
      case atStart => exact ⟨0, Nat.zero_le _, rfl, Lib.hid (by simpa using HQ0.out), HBG⟩
      case round =>
        obtain ⟨k, hk, rfl, HQ, HBL⟩ := hrel
        by_cases hlt : k < K
        · have hk7 : (k : Int) < K := by omega
          obtain ⟨y, hy⟩ := get_some' (l := gs) (k := k) (by have := HGL.out; omega)
          have r0 : wr.cell? ⟨hb, k, none⟩ = some (.int .i64 y) := by rw [HBL.out.cell, List.getElem?_map, hy]; rfl
          have rl := HBL.out.lt
          have hfl : (gs.take (k + 1)).flatMap (beB 2) = (gs.take k).flatMap (beB 2) ++ beB 2 y := by rw [take_snoc' hy, List.flatMap_append]; simp
          have HFL := Lib.hid hfl
          have hln : (hds ++ (gs.take k).flatMap (beB 2)).length ≤ 999000 := by rw [List.length_append, HDL.out, flat_len (beB_length 2), List.length_take]; omega
          have HLN := Lib.hid hln
          clear hfl hy hln
          go_wp2_with (first
            | (go_at_call 42; (with_reducible refine (rw_uT HQ.out 2 _ (by decide) (by decide) (fits1 2 (by decide) HLN.out) nat2).mono ?_); rintro e w6 ⟨rfl, hI, ht⟩; rw [List.append_assoc, ← HFL.out] at hI; have HQ6 := Lib.hid hI; have HB6 := Lib.hid (ht.blk HBL.out (by omega)); clear hI HQ ht)
            | fail)
          go_roundw
          case rel => exact ⟨k + 1, by omega, by go_num, HQ6, HB6⟩
          case measure => simp [intOf]; omega
        · have hnk : ¬ (k : Int) < K := by omega
          have hI := HQ.out
          rw [List.take_of_length_le (by have := HGL.out; omega), ← HMN.out] at hI
          obtain ⟨A8, c8, hc8, hs8⟩ := hI.bytes
          have hlt8 := hI.lt
          have HS8 := Lib.hid hs8
          have HBF := Lib.hid (HB1.out.trans (hI.below.mono HB1.out.size))
          clear hI hs8
          go_wp2_with fail
          go_ret2
          exact rmk_ok HV3.out rfl HS8.out HBF.out
  · have h4 := fun wi (hb : Below w.heap.size w wi) => rmake12_any (c := c) (h.keep hb) hn8 hpb
    have hv3 : mkS 12 l = .ok (m12 (runL l)) := hv2.trans ((if_neg (by decide)).trans ((if_neg (by decide)).trans (if_neg (by decide))))
    generalize m12 (runL l) = N at h4 hv3
    obtain ⟨V, hV⟩ : ∃ V, mkS 12 l = V := ⟨_, rfl⟩
    rw [hV] at hv3 ⊢
    have H4 := Lib.hid h4
    have HV3 := Lib.hid hv3
    clear h hv hv2 hv3 hf hm hpb h4 hV
    go_enter Try.func18, Try.ntmps18
    go_wp2_with (first
      | (go_at_call 16; (with_reducible refine (HF.out _).mono ?_); rintro e w1 ⟨rfl, rfl⟩)
      | (go_at_call 17; (with_reducible refine (HMM.out _ (Below.refl _ _)).mono ?_); rintro e w1 ⟨rfl, hb1⟩; have HB1 := Lib.hid hb1; have HB2 := Lib.hid (hb1.trans ((bel_alloc (o := .cells #[.slice none 0 0, .int .i64 1048576, .bool false] 70) bel_refl).below.mono hb1.size)); clear hb1)
      | (go_at_call 41; (with_reducible refine (H4.out _ HB2.out).mono ?_); rintro e w3 ⟨A3, c3, rfl, hs3, hb3⟩; have HS3 := Lib.hid hs3; have HB3 := Lib.hid (HB2.out.trans (hb3.mono HB2.out.size)); clear hs3 hb3)
      | fail)
    go_ret2
    exact rmk_ok HV3.out rfl HS3.out HB3.out
end Go.Proofs.Ytlbfefdmbdjjcaa

namespace Go.Proofs.Ytlbfefdmbdjjcaa
open Go.RowKit

theorem pr_info : (Try.prog.info? 43).map (fun i => (i.zero.map (fun z => z.cells.size), i.size, i.bytes)) = some (some 2, 2, 16) := by kernel_rfl
theorem pr_parts : ∃ i z, Try.prog.info? 43 = some i ∧ i.zero = some z ∧ i.size = 2 ∧ i.bytes = 16 ∧ z.cells.size = 2 := by
  have h := pr_info
  cases hi : Try.prog.info? 43 with
  | none => rw [hi] at h; cases h
  | some i =>
    rw [hi] at h
    simp only [Option.map_some, Option.some.injEq, Prod.mk.injEq] at h
    obtain ⟨h1, h2, h3⟩ := h
    cases hz : i.zero with
    | none => rw [hz] at h1; cases h1
    | some z =>
      rw [hz] at h1
      exact ⟨i, z, rfl, hz, h2, h3, by simpa using h1⟩
theorem own_empty2 (w : World) (e : TypeId) (s : Nat) : (w.alloc (.cells #[] e)).ownsRow w.heap.size e s (.slice (some ⟨w.heap.size, 0, none⟩) 0 0) 0 [] :=
  ⟨by simp, .inr ⟨w.heap.size, 0, #[], rfl, Nat.le_refl _, heap_alloc_new w _, Nat.le_refl _, Nat.zero_le _, by simp, by simp⟩⟩
theorem own_cap {w : World} {base n k : Nat} {e : TypeId} {v : Value} {xs : List Value} (h : w.ownsRow base e k v n xs) : ∃ A c, v = .slice A n c ∧ n ≤ c := by
  obtain ⟨hl, ⟨rfl, h0⟩ | ⟨g, cap, cur, rfl, hg, hh, hn, _⟩⟩ := h
  · subst h0
    exact ⟨none, 0, rfl, Nat.le_refl _⟩
  · exact ⟨_, _, rfl, hn⟩
theorem pr_one (l : List Pr) : ∀ u ∈ (l.map prC).flatten, u.oneCell' = true := fun u hu => by
  obtain ⟨r, hr, hu⟩ := List.mem_flatten.1 hu
  obtain ⟨s, _, rfl⟩ := List.mem_map.1 hr
  simp only [prC, List.mem_cons, List.mem_nil_iff, or_false] at hu
  rcases hu with rfl | rfl <;> rfl
/-- What append([]api.Pair{}, l...) has made. -/
theorem pr_cloned {w w' : World} {v : Value} {n : Nat} {l : List Pr} (hn : l.length = n) (h : w'.ownsRow w.heap.size 43 2 v (0 + n) ([] ++ (l.map prC).flatten)) (hg : (w.alloc (.cells #[] 43)).grownBy w' (Value.slice (some ⟨w.heap.size, 0, none⟩) 0 0).ownBlock) : ∃ A c, v = .slice A n c ∧ n ≤ c ∧ RowsAt w' A n 2 (l.map prC) ∧ Below w.heap.size w w' := by
  rw [Nat.zero_add, List.nil_append] at h
  obtain ⟨A, c, rfl, hc⟩ := own_cap h
  obtain ⟨A', c', e, hr, _⟩ := RowsAt.of_own (rows := l.map prC) h rfl (fun r hr => by obtain ⟨p, _, rfl⟩ := List.mem_map.1 hr; rfl) (by omega)
  injection e with e1 e2 e3
  subst e1
  refine ⟨A, c, rfl, hc, hr, (bel_alloc bel_refl).below.trans ⟨hg.os, hg.tape, hg.output, hg.size, fun k hk => hg.block k (by simp; omega) (by simp [Value.ownBlock]; omega)⟩⟩
set_option maxRecDepth 20000 in
set_option maxHeartbeats 4000000 in
theorem charmapMakes_any {w : World} {A : Option Addr} {n c : Nat} {l : List Pr} (f : Int) (h : RowsAt w A n 2 (l.map prC)) (hn : n ≤ 281474976710656) :
    Calls Try.prog 4 #[.int .i64 f, .slice A n c] w fun e w' => e = .returned (.bool true) ∧ Below w.heap.size w w' := by
  have hl := h.len
  rw [List.length_map] at hl
  by_cases hlong : 10000 < n
  · have hln : ¬ (n : Int) ≤ 10000 := by omega
    clear h
    go_enter Try.func4, Try.ntmps4
    go_wp2_with (first
      | (go_at_call 9; (with_reducible refine (lives_any _).mono ?_); rintro e w1 ⟨rfl, hb1⟩; have HB1 := Lib.hid hb1; clear hb1)
      | fail)
    go_ret
    exact ⟨rfl, HB1.out⟩
  have hln : (n : Int) ≤ 10000 := by omega
  have HRD := Lib.hid ((h.keep (w' := w.alloc (.cells #[] 43)) (bel_alloc bel_refl).below).reads)
  have H := Lib.hid h
  have HL := Lib.hid hl
  obtain ⟨V, hV⟩ : ∃ V, mkS f l = V := ⟨_, rfl⟩
  have HMK : Hid (∀ wi A' c', RowsAt wi A' n 2 (l.map prC) → n ≤ c' → Calls Try.prog 15 #[.int .i64 f, .slice A' n c'] wi (MkV V wi)) := Lib.hid fun wi A' c' hr hc' => by rw [← hV]; exact Make_any f hr (by omega) hc'
  obtain ⟨fb, hfb⟩ : ∃ b, isFmtB f = b := ⟨_, rfl⟩
  have HF := Lib.hid fun wi => formats_any f wi
  rw [hfb] at HF
  obtain ⟨i0, zz, hi0, hzz0, hzz1, hzz2, hzz3⟩ := pr_parts
  cases fb with
  | false =>
    have hv : V = .error 81 := by rw [← hV]; exact if_pos hfb
    subst hv
    clear h hl hV hfb
    go_enter Try.func4, Try.ntmps4
    go_wp2_with (first
      | (at_builtin; refine wpList_append_any _ (by rfl) (.tmp 15) (.tmp 16) _ (by rfl) w.heap.size 43 i0 zz 2 16 Try.underlying34 hi0 hzz0 hzz1 hzz2 hzz3 (by omega) _ 0 [] (by rfl) (own_empty2 w _ 2) _ _ n _ _ (by rfl) HRD.out (pr_one l) (by unfold maxLen; omega) (by omega) (by simp) ?_; intro v' w1 hown hgrow hat; obtain ⟨A1, c1, rfl, hc1, hr1, hb1⟩ := pr_cloned HL.out hown hgrow; have HR1 := Lib.hid hr1; have HB1 := Lib.hid hb1; clear hown hgrow hat hr1 hb1)
      | (go_at_call 15; (with_reducible refine (HMK.out _ _ _ HR1.out hc1).mono ?_); rintro e w2 ⟨rfl, hb2⟩; have HB2 := Lib.hid (HB1.out.trans (hb2.mono HB1.out.size)); clear hb2)
      | (go_at_call 9; (with_reducible refine (lives_any _).mono ?_); rintro e w3 ⟨rfl, hb3⟩; have HB3 := Lib.hid (HB2.out.trans (hb3.mono HB2.out.size)); clear hb3)
      | (go_at_call 16; (with_reducible refine (HF.out _).mono ?_); rintro e w1 ⟨rfl, rfl⟩)
      | fail)
    go_ret
    exact ⟨rfl, HB3.out⟩
  | true =>
    obtain ⟨mb, hmb⟩ : ∃ b, mayS f l = b := ⟨_, rfl⟩
    have HMM : Hid (∀ wi, Below w.heap.size w wi → Calls Try.prog 17 #[.int .i64 f, .slice A n c] wi fun e w' => e = .returned (.bool mb) ∧ Below wi.heap.size wi w') := Lib.hid fun wi hb => by
      rw [← hmb]
      exact rmay_any f (h.keep hb) (by omega)
    cases mb with
    | false =>
      have hv : V = .error 1 := by rw [← hV]; exact (if_neg (by rw [hfb]; simp)).trans (if_pos hmb)
      subst hv
      clear h hl hV hfb hmb
      go_enter Try.func4, Try.ntmps4
      go_wp2_with (first
        | (at_builtin; refine wpList_append_any _ (by rfl) (.tmp 15) (.tmp 16) _ (by rfl) w.heap.size 43 i0 zz 2 16 Try.underlying34 hi0 hzz0 hzz1 hzz2 hzz3 (by omega) _ 0 [] (by rfl) (own_empty2 w _ 2) _ _ n _ _ (by rfl) HRD.out (pr_one l) (by unfold maxLen; omega) (by omega) (by simp) ?_; intro v' w1 hown hgrow hat; obtain ⟨A1, c1, rfl, hc1, hr1, hb1⟩ := pr_cloned HL.out hown hgrow; have HR1 := Lib.hid hr1; have HB1 := Lib.hid hb1; clear hown hgrow hat hr1 hb1)
        | (go_at_call 15; (with_reducible refine (HMK.out _ _ _ HR1.out hc1).mono ?_); rintro e w2 ⟨rfl, hb2⟩; have HB2 := Lib.hid (HB1.out.trans (hb2.mono HB1.out.size)); clear hb2)
        | (go_at_call 9; (with_reducible refine (lives_any _).mono ?_); rintro e w3 ⟨rfl, hb3⟩; have HB3 := Lib.hid (HB2.out.trans (hb3.mono HB2.out.size)); clear hb3)
        | (go_at_call 16; (with_reducible refine (HF.out _).mono ?_); rintro e w1 ⟨rfl, rfl⟩)
        | (go_at_call 17; (with_reducible refine (HMM.out _ HB3.out).mono ?_); rintro e w4 ⟨rfl, hb4⟩; have HB4 := Lib.hid (HB3.out.trans (hb4.mono HB3.out.size)); clear hb4)
        | fail)
      go_ret
      exact ⟨rfl, HB4.out⟩
    | true =>
      have HRM : Hid (∀ wi, Below w.heap.size w wi → Calls Try.prog 18 #[.int .i64 f, .slice A n c] wi (RMkV V wi)) := Lib.hid fun wi hb => by rw [← hV]; exact rMake_any f (h.keep hb) (by omega) hfb hmb
      have hv3 : ∀ x, V = .error x → x = 3 := fun x hx => by
        rw [← hV, mkS_may hfb hmb] at hx
        split at hx
        · injection hx with hx; exact hx.symm
        · split at hx
          · cases hx
          · split at hx
            · split at hx
              · injection hx with hx; exact hx.symm
              · cases hx
            · split at hx
              · split at hx
                · injection hx with hx; exact hx.symm
                · cases hx
              · cases hx
      clear h hl hV hfb hmb
      cases V with
      | error x =>
        obtain rfl := hv3 x rfl
        clear hv3
        go_enter Try.func4, Try.ntmps4
        go_wp2_with (first
          | (at_builtin; refine wpList_append_any _ (by rfl) (.tmp 15) (.tmp 16) _ (by rfl) w.heap.size 43 i0 zz 2 16 Try.underlying34 hi0 hzz0 hzz1 hzz2 hzz3 (by omega) _ 0 [] (by rfl) (own_empty2 w _ 2) _ _ n _ _ (by rfl) HRD.out (pr_one l) (by unfold maxLen; omega) (by omega) (by simp) ?_; intro v' w1 hown hgrow hat; obtain ⟨A1, c1, rfl, hc1, hr1, hb1⟩ := pr_cloned HL.out hown hgrow; have HR1 := Lib.hid hr1; have HB1 := Lib.hid hb1; clear hown hgrow hat hr1 hb1)
          | (go_at_call 15; (with_reducible refine (HMK.out _ _ _ HR1.out hc1).mono ?_); rintro e w2 ⟨rfl, hb2⟩; have HB2 := Lib.hid (HB1.out.trans (hb2.mono HB1.out.size)); clear hb2)
          | (go_at_call 9; (with_reducible refine (lives_any _).mono ?_); rintro e w3 ⟨rfl, hb3⟩; have HB3 := Lib.hid (HB2.out.trans (hb3.mono HB2.out.size)); clear hb3)
          | (go_at_call 16; (with_reducible refine (HF.out _).mono ?_); rintro e w1 ⟨rfl, rfl⟩)
          | (go_at_call 17; (with_reducible refine (HMM.out _ HB3.out).mono ?_); rintro e w4 ⟨rfl, hb4⟩; have HB4 := Lib.hid (HB3.out.trans (hb4.mono HB3.out.size)); clear hb4)
          | (go_at_call 18; (with_reducible refine (HRM.out _ HB4.out).mono ?_); rintro e w5 ⟨A5, n5, c5, ok, rfl, hb5, rfl⟩; have HB5 := Lib.hid (HB4.out.trans (hb5.mono HB4.out.size)); clear hb5)
          | fail)
        go_ret
        exact ⟨rfl, HB5.out⟩
      | ok N =>
        clear hv3
        go_enter Try.func4, Try.ntmps4
        go_wp2_with (first
          | (at_builtin; refine wpList_append_any _ (by rfl) (.tmp 15) (.tmp 16) _ (by rfl) w.heap.size 43 i0 zz 2 16 Try.underlying34 hi0 hzz0 hzz1 hzz2 hzz3 (by omega) _ 0 [] (by rfl) (own_empty2 w _ 2) _ _ n _ _ (by rfl) HRD.out (pr_one l) (by unfold maxLen; omega) (by omega) (by simp) ?_; intro v' w1 hown hgrow hat; obtain ⟨A1, c1, rfl, hc1, hr1, hb1⟩ := pr_cloned HL.out hown hgrow; have HR1 := Lib.hid hr1; have HB1 := Lib.hid hb1; clear hown hgrow hat hr1 hb1)
          | (go_at_call 15; (with_reducible refine (HMK.out _ _ _ HR1.out hc1).mono ?_); rintro e w2 ⟨A2, c2, rfl, hs2, hb2⟩; have HS2 := Lib.hid hs2; have HB2 := Lib.hid (HB1.out.trans (hb2.mono HB1.out.size)); clear hb2 hs2)
          | (go_at_call 9; (with_reducible refine (lives_any _).mono ?_); rintro e w3 ⟨rfl, hb3⟩; have HS3 := Lib.hid (HS2.out.keep hb3); have HB3 := Lib.hid (HB2.out.trans (hb3.mono HB2.out.size)); clear hb3)
          | (go_at_call 16; (with_reducible refine (HF.out _).mono ?_); rintro e w1 ⟨rfl, rfl⟩)
          | (go_at_call 17; (with_reducible refine (HMM.out _ HB3.out).mono ?_); rintro e w4 ⟨rfl, hb4⟩; have HS4 := Lib.hid (HS3.out.keep hb4); have HB4 := Lib.hid (HB3.out.trans (hb4.mono HB3.out.size)); clear hb4)
          | (go_at_call 18; (with_reducible refine (HRM.out _ HB4.out).mono ?_); rintro e w5 ⟨A5, n5, c5, ok, rfl, hb5, rfl, rfl, hs5⟩; have hq1 := (HS4.out.keep hb5).sl.aft _ (aft_refl (W := w5)); have hq2 := hs5.aft _ (aft_refl (W := w5)); have HB5 := Lib.hid (HB4.out.trans (hb5.mono HB4.out.size)); clear hb5 hs5)
          | fail)
        go_ret
        exact ⟨rfl, HB5.out⟩
end Go.Proofs.Ytlbfefdmbdjjcaa

namespace Go.Proofs.Ytlbfefdmbdjjcaa
open Go.RowKit

theorem pairs_of {w : World} {A : Option Addr} {n : Nat} (h : ∀ i, i < n → ∃ b o, A = some ⟨b, o, none⟩ ∧ b < w.heap.size ∧ CellsOk w [.int .i64, .int .i64] (fun j => w.cell? ⟨b, o + (i * [CK.int .i64, .int .i64].length + j), none⟩)) :
    ∃ l : List Pr, RowsAt w A n 2 (l.map prC) := by
  obtain ⟨l, hl, hq⟩ := list_of (p := fun k (d : Pr) => ∃ b o, A = some ⟨b, o, none⟩ ∧ b < w.heap.size ∧ w.cell? ⟨b, o + k * 2, none⟩ = some (.int .i64 d.1) ∧ w.cell? ⟨b, o + k * 2 + 1, none⟩ = some (.int .i64 d.2)) n (fun k hk => by
    obtain ⟨b', o', hA', hb', hc'⟩ := h k hk
    simp only [CellsOk, and_true, Nat.add_zero, List.length_cons, List.length_nil, Nat.zero_add] at hc'
    obtain ⟨⟨u, hu, ku⟩, v, hv', kv⟩ := hc'
    simp only [CellOk] at ku kv
    obtain ⟨x, rfl, -⟩ := ku
    obtain ⟨y, rfl, -⟩ := kv
    exact ⟨(x, y), b', o', hA', hb', hu, by rw [Nat.add_assoc]; exact hv'⟩)
  refine ⟨l, by rw [List.length_map]; exact hl, fun i r hr => ?_⟩
  rw [List.getElem?_map] at hr
  obtain ⟨p, hp, rfl⟩ := Option.map_eq_some_iff.1 hr
  obtain ⟨b, o, hA, hb, h1, h2⟩ := hq i p hp
  refine ⟨rfl, b, o, hA, hb, fun j v hv => ?_⟩
  rcases j with _ | _ | j
  · simp only [prC, List.getElem?_cons_zero, Option.some.injEq] at hv
    subst hv
    exact h1
  · simp only [prC, List.getElem?_cons_succ, List.getElem?_cons_zero, Option.some.injEq] at hv
    subst hv
    exact h2
  · simp [prC] at hv
end Go.Proofs.Ytlbfefdmbdjjcaa

namespace Go.Proofs.Ytlbfefdmbdjjcaa
open Go.ChangeShapes Go.WideShapes Go.ChangeAt Go.RowKit

set_option maxRecDepth 100000 in
theorem charmapMakes_lifted (os : Os) (started : os.Started) (H : Type) (enc : TypeId × Value → H) :
    ReturnsInHanded {} Try.checked os 4 .any (Rows.charmapMakesSpec.pre6 enc Try.prog Try.f4 Rows.charmapMakesRow.domain false) (Rows.charmapMakesSpec.post enc Try.prog Try.f4 false true false false) := by
  refine returnsInHanded_of_change_sized (C := Try.checked) own_none started (by kernel_rfl) Try.func4
    (ChangeSpec.witness6 (enc := enc) (C := Try.checked) false ⟨#[], #[.int .i64 0, .slice none 0 0], []⟩ 8 (by kernel_rfl) (by kernel_rfl) (by kernel_rfl) (by kernel_rfl)) ?_
  intro W base args ds gs before hval0 hW _ hwt _
  have hval : ∀ (j : Nat) t v, Try.f4.params[j]? = some t → args[j]? = some v → Value.okWide Try.prog W .any base t v := hval0
  have hW' := hW
  obtain ⟨p, q, hA0, _, _, _, _⟩ := hW
  have hA : DataW.TrodAll enc Try.prog W 0 (fun _ => true) true Try.f4.params.toList args.toList ds p := hA0
  rw [Try.params4] at hA hval
  obtain ⟨v0, v1, d0, d1, p0, p1, rfl, rfl, rfl, h0, h1⟩ := trodAll_two hA
  obtain ⟨px0, rfl, wpx0⟩ := open_num Try.underlying3 (hval 0 _ _ rfl rfl) h0
  have bpx0 := bounds_i64 wpx0
  obtain ⟨A, n, c, rfl, k1, m1, r1, s1⟩ := open_sl (eb := 16) (ks := [.int .i64, .int .i64]) Try.underlying34 (by kernel_rfl) (hval 1 _ _ rfl rfl) h1 (reach_all (ts := [3, 34]) (by kernel_rfl) hwt (j := 1) rfl rfl)
  clear hA0 hval0
  obtain ⟨l, hl⟩ := pairs_of s1
  refine (charmapMakes_any (c := c) px0 hl (by omega)).mono fun e W' ⟨he, hb⟩ => ?_
  subst he
  exact ⟨_, rfl, law_post_any laid_out Try.underlying4 hW' (by kernel_rfl) rfl rfl rfl hb⟩

theorem charmapMakes_holds : Rows.CharmapMakesSaid :=
  OpenClaim.holds_of_wide 4 Try.f4 rfl rfl rfl rfl rfl rfl rfl ⟨rfl, rfl, rfl, rfl, rfl⟩ rfl rfl rfl rfl rfl (by kernel_rfl) Try.func4 (by kernel_rfl)
    (of_decide_eq_true (by kernel_rfl)) (by unfold Func.isWrapper; first | (rw [if_pos (by decide +kernel)]; kernel_rfl) | (rw [if_neg (by decide +kernel)]; exact ⟨rfl, rfl⟩))
    (fun os started H enc _ => charmapMakes_lifted os started H enc)

end Go.Proofs.Ytlbfefdmbdjjcaa
