/-
  heads: number, get.
-/
import Derived.Test.YtbmflgcahbkdeaaHeadsF
namespace Go.Proofs.Ytbmflgcahbkdeaa
open Go.RowKit

theorem new_E (w : World) (bs : List UInt8) (A : Option Addr) (c : Nat) (h : SlAt w A bs.length (bs.map byteV)) (hc : bs.length ≤ c) (hs : bs.length ≤ 140737488355328) (hA : ∀ k, rowOf A = some k → k < w.heap.size) :
    Calls Try.prog 39 #[.slice A bs.length c] w fun e w' => ∃ g, w.heap.size ≤ g ∧ e = .returned (.pointer (some ⟨g, 0, none⟩)) ∧ Rd w' g bs 0 false A c ∧ Below w.heap.size w w' :=
  (new_W w bs A c h hc hs hA).mono fun _ _ ⟨he, hr, hb⟩ => ⟨_, Nat.le_refl _, he, hr, hb⟩

def plW (p : PlR) : Nat := if p.wide then 4 else 2

set_option maxHeartbeats 1000000 in
theorem number_any (w : World) (r : Nat) (bs : List UInt8) (s : Nat × Bool) (A : Option Addr) (c : Nat) (to : Value) (sign wide fixed : Bool) (skip want : Int) (h : Rd w r bs s.1 s.2 A c) :
    Calls Try.prog 86 #[.agg #[to, .bool sign, .bool wide, .int .i64 skip, .bool fixed, .int .i64 want], .pointer (some ⟨r, 0, none⟩)] w fun e w' =>
      e = .returned (.int .i64 (if wide then (numF bs s 4 : Int) else if sign then sgn16 (numF bs s 2) else numF bs s 2)) ∧ Rd w' r bs (advF bs s (if wide then 4 else 2)).1 (advF bs s (if wide then 4 else 2)).2 A c ∧ Turn w w' r none := by
  have HR := Lib.hid (h.keep (w' := w.alloc (.cells #[to, .bool sign, .bool wide, .int .i64 skip, .bool fixed, .int .i64 want] 121)) (bel_alloc bel_refl).below)
  have HT := Lib.hid (Turn.of_below (g := r) (row := none) (w := w) (w' := w.alloc (.cells #[to, .bool sign, .bool wide, .int .i64 skip, .bool fixed, .int .i64 want] 121)) (bel_alloc bel_refl).below)
  clear h
  cases wide with
  | true =>
    go_enter Try.func86, Try.ntmps86
    go_wp2_with (first | (go_at_call 88; (with_reducible refine (rU32_any _ _ _ s _ _ HR.out).mono ?_); rintro e w1 ⟨rfl, hr, ht⟩; have HR1 := Lib.hid hr; have HT1 := Lib.hid (HT.out.trans ht (.inl rfl)); clear hr ht))
    go_ret
    exact ⟨rfl, HR1.out, HT1.out⟩
  | false =>
    cases sign with
    | true =>
      go_enter Try.func86, Try.ntmps86
      go_wp2_with (first | (go_at_call 91; (with_reducible refine (rI16_any _ _ _ s _ _ HR.out).mono ?_); rintro e w1 ⟨rfl, hr, ht⟩; have HR1 := Lib.hid hr; have HT1 := Lib.hid (HT.out.trans ht (.inl rfl)); clear hr ht))
      go_ret
      exact ⟨rfl, HR1.out, HT1.out⟩
    | false =>
      go_enter Try.func86, Try.ntmps86
      go_wp2_with (first | (go_at_call 40; (with_reducible refine (rU16_any _ _ _ s _ _ HR.out).mono ?_); rintro e w1 ⟨rfl, hr, ht⟩; have HR1 := Lib.hid hr; have HT1 := Lib.hid (HT.out.trans ht (.inl rfl)); clear hr ht))
      go_ret
      exact ⟨rfl, HR1.out, HT1.out⟩

/-! ### Writes to cells that were there -/
theorem setCell_heap (w : World) (a : Addr) (v : Value) (k : Nat) : (w.setCell a v).heap[k]? = if a.block = k then (w.heap[k]?).map (fun o => match o with
    | .cells c e f => .cells (if a.spot.isSome then c else c.setIfInBounds a.off v) e f
    | o => o) else w.heap[k]? := by
  simp only [World.setCell, Array.getElem?_modify]
  split <;> rfl
theorem below_set2 {B : Nat} {u v : World} (h : Below B u v) (a : Addr) (x : Value) : Below B (u.setCell a x) (v.setCell a x) :=
  ⟨h.os, h.tape, h.output, by simpa [World.setCell] using h.size, fun k hk => by rw [setCell_heap, setCell_heap, h.block k hk]⟩
theorem applyW_snoc (w : World) (ws : List ((Nat × Nat) × Int)) (a b : Nat) (x : Int) : applyW w (ws ++ [((a, b), x)]) = (applyW w ws).setCell ⟨a, b, none⟩ (.int .i64 x) := by
  rw [applyW_append]
  rfl
theorem applyW_os (w : World) (ws : List ((Nat × Nat) × Int)) : (applyW w ws).os = w.os ∧ (applyW w ws).tape = w.tape ∧ (applyW w ws).output = w.output := by
  induction ws generalizing w with
  | nil => exact ⟨rfl, rfl, rfl⟩
  | cons x ws ih => exact ih (w.setCell ⟨x.1.1, x.1.2, none⟩ (.int .i64 x.2))
/-- A cell that is there stays there. -/
theorem applyW_cell (w : World) (ws : List ((Nat × Nat) × Int)) (a b : Nat) (h : ∃ v, w.cell? ⟨a, b, none⟩ = some v) (hf : w.frozen? ⟨a, b, none⟩ = false) :
    (∃ v, (applyW w ws).cell? ⟨a, b, none⟩ = some v) ∧ (applyW w ws).frozen? ⟨a, b, none⟩ = false := by
  induction ws generalizing w with
  | nil => exact ⟨h, hf⟩
  | cons x ws ih =>
    refine ih (w.setCell ⟨x.1.1, x.1.2, none⟩ (.int .i64 x.2)) ?_ (by simpa using hf)
    obtain ⟨v, hv⟩ := h
    rw [cell_set_if]
    split
    · split
      · rename_i e1 e2
        subst e1 e2
        exact ⟨_, by rw [hv]; rfl⟩
      · exact ⟨v, hv⟩
    · exact ⟨v, hv⟩

def tos (l : List PlR) : List (Nat × Nat) := l.filterMap (·.to)
theorem mem_tos {l : List PlR} {k : Nat} {p : PlR} {a : Nat × Nat} (h : l[k]? = some p) (ha : p.to = some a) : a ∈ tos l := List.mem_filterMap.2 ⟨p, List.mem_of_getElem? h, ha⟩

def getOk (bs : List UInt8) (l : List PlR) : Bool := match gets bs l (0, false) with
  | some r => !r.2.2
  | none => false

theorem gets_none {bs : List UInt8} {p : PlR} {l : List PlR} {s : Nat × Bool} (h0 : p.skip = 0) (h1 : p.fixed = true) (h2 : plNum bs s p ≠ p.want) : gets bs (p :: l) s = none := by simp [gets, h0, h1, h2]
theorem gets_skip {bs : List UInt8} {p : PlR} {l : List PlR} {s : Nat × Bool} (h0 : 0 < p.skip) : gets bs (p :: l) s = gets bs l (advF bs s p.skip) := by simp [gets, h0, plLen]
theorem gets_num {bs : List UInt8} {p : PlR} {l : List PlR} {s : Nat × Bool} (h0 : p.skip = 0) (h1 : ¬ (p.fixed = true ∧ plNum bs s p ≠ p.want)) :
    gets bs (p :: l) s = (gets bs l (advF bs s (plW p))).map fun r => (plWrite p (plNum bs s p) ++ r.1, r.2) := by
  rw [gets, if_neg (by omega), if_neg h1]
  simp [plLen, h0, plW]

/-- The state in the midst of get. -/
structure GetS (w wr : World) (r : Nat) (bs : List UInt8) (s : Nat × Bool) (Ab : Option Addr) (cb : Nat) (l : List PlR) (k : Nat) (ws : List ((Nat × Nat) × Int)) : Prop where
  spec : gets bs l (0, false) = (gets bs (l.drop k) s).map fun x => (ws ++ x.1, x.2)
  bel : Below w.heap.size (applyW w ws) wr
  rd : Rd wr r bs s.1 s.2 Ab cb
  mem : ∀ x ∈ ws, x.1 ∈ tos l
theorem GetS.size {w wr : World} {r : Nat} {bs : List UInt8} {s : Nat × Bool} {Ab : Option Addr} {cb : Nat} {l : List PlR} {k : Nat} {ws : List ((Nat × Nat) × Int)} (h : GetS w wr r bs s Ab cb l k ws) : w.heap.size ≤ wr.heap.size := by
  have := h.bel.size
  rwa [applyW_size] at this
/-- Old cells that are no place's. -/
theorem GetS.cell {w wr : World} {r : Nat} {bs : List UInt8} {s : Nat × Bool} {Ab : Option Addr} {cb : Nat} {l : List PlR} {k : Nat} {ws : List ((Nat × Nat) × Int)} (h : GetS w wr r bs s Ab cb l k ws) {b : Nat} (hb : b < w.heap.size) (hn : ∀ a ∈ tos l, a.1 ≠ b) (i : Nat) :
    wr.cell? ⟨b, i, none⟩ = w.cell? ⟨b, i, none⟩ :=
  World.cell?_of_block ((h.bel.block b hb).trans (applyW_heap w ws b (fun x hx => hn _ (h.mem x hx))))
/-- Behind a call that turns the reader alone. -/
theorem GetS.next {w wr w' : World} {r : Nat} {bs : List UInt8} {s s' : Nat × Bool} {Ab : Option Addr} {cb : Nat} {l : List PlR} {k k' : Nat} {ws : List ((Nat × Nat) × Int)} (h : GetS w wr r bs s Ab cb l k ws) (hr : w.heap.size ≤ r) (ht : Turn wr w' r none) (hrd : Rd w' r bs s'.1 s'.2 Ab cb)
    (hs : gets bs (l.drop k) s = gets bs (l.drop k') s') : GetS w w' r bs s' Ab cb l k' ws :=
  ⟨by rw [h.spec, hs], h.bel.trans (ht.below h.size hr (fun _ e => by cases e)), hrd, h.mem⟩

/-- Behind a store to a place's number. -/
theorem GetS.store {w wr w' : World} {r : Nat} {bs : List UInt8} {s s' : Nat × Bool} {Ab : Option Addr} {cb : Nat} {l : List PlR} {k k' : Nat} {ws : List ((Nat × Nat) × Int)} (h : GetS w wr r bs s Ab cb l k ws) (hr : w.heap.size ≤ r) (ht : Turn wr w' r none) (hrd : Rd w' r bs s'.1 s'.2 Ab cb)
    {a b : Nat} (x : Int) (ha : (a, b) ∈ tos l) (hlt : a < w.heap.size) (hAb : rowOf Ab ≠ some a) (hs : gets bs (l.drop k) s = (gets bs (l.drop k') s').map fun y => ([((a, b), x)] ++ y.1, y.2)) :
    GetS w (w'.setCell ⟨a, b, none⟩ (.int .i64 x)) r bs s' Ab cb l k' (ws ++ [((a, b), x)]) := by
  refine ⟨?_, ?_, ⟨hrd.blk.far (by simp only; omega) _, ?_, hrd.apart, hrd.cap, hrd.pos_le, hrd.small⟩, ?_⟩
  · rw [h.spec, hs]
    cases gets bs (l.drop k') s' <;> simp
  · rw [applyW_snoc]
    exact below_set2 (h.bel.trans (ht.below h.size hr (fun _ e => by cases e))) _ _
  · exact hrd.sl.turn ((Turn.refl w' a none).set b _) hAb (fun _ _ e => by cases e)
  · intro y hy
    rcases List.mem_append.1 hy with hy | hy
    · exact h.mem y hy
    · simp at hy
      subst hy
      exact ha
theorem GetS.there {w wr w' : World} {r : Nat} {bs : List UInt8} {s : Nat × Bool} {Ab : Option Addr} {cb : Nat} {l : List PlR} {k : Nat} {ws : List ((Nat × Nat) × Int)} (h : GetS w wr r bs s Ab cb l k ws) (hr : w.heap.size ≤ r) (ht : Turn wr w' r none) {a b : Nat} (hlt : a < w.heap.size) (hc : ∃ v, w.cell? ⟨a, b, none⟩ = some v) (hf : w.frozen? ⟨a, b, none⟩ = false) :
    (∃ v, w'.cell? ⟨a, b, none⟩ = some v) ∧ w'.frozen? ⟨a, b, none⟩ = false := by
  have hb := h.bel.trans (ht.below h.size hr (fun _ e => by cases e))
  obtain ⟨⟨v, hv⟩, h2⟩ := applyW_cell w ws a b hc hf
  exact ⟨⟨v, (hb.cell (p := ⟨a, b, none⟩) hlt).trans hv⟩, (hb.frozen (p := ⟨a, b, none⟩) hlt).trans h2⟩

set_option maxHeartbeats 4000000 in
theorem get_any (w : World) (Ab : Option Addr) (cb : Nat) (bs : List UInt8) (A : Option Addr) (n c : Nat) (l : List PlR) (hl : PlsAt w A n l) (hb : SlAt w Ab bs.length (bs.map byteV)) (hbc : bs.length ≤ cb) (hbs : bs.length ≤ 140737488355328)
    (hrow : ∀ k, rowOf Ab = some k → k < w.heap.size) (hn : (n : Int) ≤ 1000)
    (ht : ∀ a ∈ tos l, a.1 < w.heap.size ∧ (∃ v, w.cell? ⟨a.1, a.2, none⟩ = some v) ∧ w.frozen? ⟨a.1, a.2, none⟩ = false ∧ rowOf A ≠ some a.1 ∧ rowOf Ab ≠ some a.1)
    (hsk : ∀ p ∈ l, p.skip ≤ 1000) :
    Calls Try.prog 64 #[.slice Ab bs.length cb, .slice A n c] w fun e w' => ∃ ws, e = .returned (.bool (getOk bs l)) ∧ (∀ x ∈ ws, x.1 ∈ tos l) ∧ Below w.heap.size (applyW w ws) w' ∧ ∀ r, gets bs l (0, false) = some r → r.1 = ws := by
  have HL := Lib.hid hl
  have HT := Lib.hid ht
  have HK := Lib.hid hsk
  have hLL : Hid (l.length = n) := Lib.hid (by have := hl.len; simpa using this)
  clear hl ht hsk
  go_enter Try.func64, Try.ntmps64
  go_wp2_with (first
    | (go_at_call 39; refine (new_E _ bs _ _ hb hbc hbs hrow).mono ?_; rintro e w1 ⟨r, hr0, rfl, hr1, hb1⟩; have HG : Hid (GetS w w1 r bs (0, false) Ab cb l 0 []) := Lib.hid ⟨by simp, hb1, hr1, by simp⟩; clear hr1 hb1 hb))
  go_loopw [13] (fun i wr => ∃ k : Nat, k ≤ n ∧ i = .int .i64 k ∧ ∃ s ws, Hid (GetS w wr r bs s Ab cb l k ws)) (fun i _ => n - (intOf i).toNat)
  case atStart => exact ⟨0, Nat.zero_le _, rfl, _, _, HG⟩
  case round =>
    obtain ⟨k, hk, rfl, s, ws, HS⟩ := hrel
    have hsz := HS.out.size
    by_cases hlt : k < n
    · obtain ⟨p, hp⟩ : ∃ p, l[k]? = some p := ⟨l[k]'(by rw [hLL.out]; exact hlt), List.getElem?_eq_getElem _⟩
      obtain ⟨b, o, hAe, hbl, c0, c1', c2, c3, c4, c5⟩ := HL.out.at_ hp
      have hcell := HS.out.cell hbl (fun a ha e => (HT.out a ha).2.2.2.1 (by rw [hAe, ← e]; rfl))
      rw [← hcell] at c0 c1' c2 c3 c4 c5
      have hdrop := Lib.hid (show l.drop k = p :: l.drop (k + 1) by
        obtain ⟨h1, rfl⟩ := List.getElem?_eq_some_iff.1 hp
        exact List.drop_eq_getElem_cons h1)
      have hkp := HK.out p (List.mem_of_getElem? hp)
      have HMT := Lib.hid (fun a => mem_tos (a := a) hp)
      clear hcell hp
      subst hAe
      obtain ⟨to, sign, wide, skip, fixed, want⟩ := p
      simp only [ptrV] at c0 c1' c2 c3 c4 c5 hkp
      have hgr : r < wr.heap.size := HS.out.rd.blk.lt
      rcases Nat.eq_zero_or_pos skip with rfl | hs
      · obtain ⟨x, hx0⟩ : ∃ x : Int, (if wide then (numF bs s 4 : Int) else if sign then sgn16 (numF bs s 2) else numF bs s 2) = x := ⟨_, rfl⟩
        have HX0 := Lib.hid hx0
        clear hx0
        rcases to with _ | a
        · simp only [Option.map_none] at c0
          rcases Bool.eq_false_or_eq_true fixed with hfx | hfx
          · subst hfx
            have HB := Lib.hid (HS.out.rd.keep (w' := wr.alloc (.cells #[.pointer none, .bool sign, .bool wide, .int .i64 0, .bool true, .int .i64 want] 121)) (bel_alloc bel_refl).below)
            have HTu := Lib.hid (Turn.of_below (g := r) (row := none) (w := wr) (w' := wr.alloc (.cells #[.pointer none, .bool sign, .bool wide, .int .i64 0, .bool true, .int .i64 want] 121)) (bel_alloc bel_refl).below)
            by_cases hxw : x = want
            · subst hxw
              have HGN : Hid (gets bs (l.drop k) s = (gets bs (l.drop (k + 1)) (advF bs s (plW ⟨none, sign, wide, 0, true, x⟩))).map fun y => (([] : List ((Nat × Nat) × Int)) ++ y.1, y.2)) := Lib.hid (by rw [hdrop.out]; have := gets_num (bs := bs) (l := l.drop (k + 1)) (s := s) (p := ⟨none, sign, wide, 0, true, x⟩) rfl (by simp [plNum, HX0.out]); simpa [plWrite, plNum, HX0.out] using this)
              go_wp2_with (first
                        | (go_at_call 86; (with_reducible refine (number_any _ _ _ s _ _ _ _ _ _ _ _ HB.out).mono ?_); rw [HX0.out]; rintro e w2 ⟨rfl, hr2, ht2⟩
                           have hlt2 : wr.heap.size < w2.heap.size := by have := ht2.size; simp at this; omega
                           have hP := (Blk.new wr 121 [.pointer none, .bool sign, .bool wide, .int .i64 0, .bool true, .int .i64 x])
                           have hP2 := ht2.blk hP (by omega) (fun e => by cases e)
                           have kp0 : w2.cell? ⟨wr.heap.size, 0, none⟩ = some (.pointer none) := by rw [hP2.cell]; rfl
                           have kp4 : w2.cell? ⟨wr.heap.size, 4, none⟩ = some (.bool true) := by rw [hP2.cell]; rfl
                           have kp5 : w2.cell? ⟨wr.heap.size, 5, none⟩ = some (.int .i64 x) := by rw [hP2.cell]; rfl
                           have HT2 := Lib.hid (HTu.out.trans ht2 (.inl rfl))
                           have HR2 := Lib.hid hr2
                           have HN : Hid (GetS w w2 r bs (advF bs s (plW ⟨none, sign, wide, 0, true, x⟩)) Ab cb l (k + 1) ws) := Lib.hid (HS.out.next hr0 HT2.out HR2.out (by rw [HGN.out]; simp))
                           clear hP hP2 hr2 ht2))
              go_wp2_with fail
              go_roundw
              case rel => exact ⟨k + 1, by omega, by go_num, _, _, HN⟩
              case measure => simp [intOf]; omega
            · have HGN : Hid (gets bs (l.drop k) s = none) := Lib.hid (by rw [hdrop.out]; exact gets_none (p := ⟨none, sign, wide, 0, true, want⟩) rfl rfl (by simp [plNum, HX0.out, hxw]))
              have HE : Hid (gets bs l (0, false) = none) := Lib.hid (by rw [HS.out.spec, HGN.out]; rfl)
              have HO : Hid (getOk bs l = false) := Lib.hid (by unfold getOk; rw [HE.out])
              have hxb : (x != want) = true := by simpa using hxw
              clear hxw
              go_wp2_with (first
                      | (go_at_call 86; (with_reducible refine (number_any _ _ _ s _ _ _ _ _ _ _ _ HB.out).mono ?_); rw [HX0.out]; rintro e w2 ⟨rfl, hr2, ht2⟩
                         have hlt2 : wr.heap.size < w2.heap.size := by have := ht2.size; simp at this; omega
                         have hP := (Blk.new wr 121 [.pointer none, .bool sign, .bool wide, .int .i64 0, .bool true, .int .i64 want])
                         have hP2 := ht2.blk hP (by omega) (fun e => by cases e)
                         have kp0 : w2.cell? ⟨wr.heap.size, 0, none⟩ = some (.pointer none) := by rw [hP2.cell]; rfl
                         have kp4 : w2.cell? ⟨wr.heap.size, 4, none⟩ = some (.bool true) := by rw [hP2.cell]; rfl
                         have kp5 : w2.cell? ⟨wr.heap.size, 5, none⟩ = some (.int .i64 want) := by rw [hP2.cell]; rfl
                         have HT2 := Lib.hid (HTu.out.trans ht2 (.inl rfl))
                         have HR2 := Lib.hid hr2
                         clear hP hP2 hr2 ht2))
              go_ret
              exact ⟨ws, ret_bool HO.out.symm, HS.out.mem, HS.out.bel.trans (HT2.out.below hsz hr0 (fun _ e => by cases e)), fun r' hr' => by rw [HE.out] at hr'; cases hr'⟩
          · subst hfx
            have HB := Lib.hid (HS.out.rd.keep (w' := wr.alloc (.cells #[.pointer none, .bool sign, .bool wide, .int .i64 0, .bool false, .int .i64 want] 121)) (bel_alloc bel_refl).below)
            have HTu := Lib.hid (Turn.of_below (g := r) (row := none) (w := wr) (w' := wr.alloc (.cells #[.pointer none, .bool sign, .bool wide, .int .i64 0, .bool false, .int .i64 want] 121)) (bel_alloc bel_refl).below)
            have HGN : Hid (gets bs (l.drop k) s = (gets bs (l.drop (k + 1)) (advF bs s (plW ⟨none, sign, wide, 0, false, want⟩))).map fun y => (([] : List ((Nat × Nat) × Int)) ++ y.1, y.2)) := Lib.hid (by rw [hdrop.out]; have := gets_num (bs := bs) (l := l.drop (k + 1)) (s := s) (p := ⟨none, sign, wide, 0, false, want⟩) rfl (by simp [plNum, HX0.out]); simpa [plWrite, plNum, HX0.out] using this)
            go_wp2_with (first
                      | (go_at_call 86; (with_reducible refine (number_any _ _ _ s _ _ _ _ _ _ _ _ HB.out).mono ?_); rw [HX0.out]; rintro e w2 ⟨rfl, hr2, ht2⟩
                         have hlt2 : wr.heap.size < w2.heap.size := by have := ht2.size; simp at this; omega
                         have hP := (Blk.new wr 121 [.pointer none, .bool sign, .bool wide, .int .i64 0, .bool false, .int .i64 want])
                         have hP2 := ht2.blk hP (by omega) (fun e => by cases e)
                         have kp0 : w2.cell? ⟨wr.heap.size, 0, none⟩ = some (.pointer none) := by rw [hP2.cell]; rfl
                         have kp4 : w2.cell? ⟨wr.heap.size, 4, none⟩ = some (.bool false) := by rw [hP2.cell]; rfl
                         have kp5 : w2.cell? ⟨wr.heap.size, 5, none⟩ = some (.int .i64 want) := by rw [hP2.cell]; rfl
                         have HT2 := Lib.hid (HTu.out.trans ht2 (.inl rfl))
                         have HR2 := Lib.hid hr2
                         have HN : Hid (GetS w w2 r bs (advF bs s (plW ⟨none, sign, wide, 0, false, want⟩)) Ab cb l (k + 1) ws) := Lib.hid (HS.out.next hr0 HT2.out HR2.out (by rw [HGN.out]; simp))
                         clear hP hP2 hr2 ht2))
            go_wp2_with fail
            go_roundw
            case rel => exact ⟨k + 1, by omega, by go_num, _, _, HN⟩
            case measure => simp [intOf]; omega
        · have HTa' := Lib.hid (HT.out a (HMT.out a rfl))
          have HMa' := Lib.hid (HMT.out a rfl)
          obtain ⟨a1, a2⟩ := a
          have HTa := Lib.hid HTa'.out
          have HMa := Lib.hid HMa'.out
          have hal : a1 < wr.heap.size := Nat.lt_of_lt_of_le HTa.out.1 hsz
          simp only [Option.map_some] at c0
          rcases Bool.eq_false_or_eq_true fixed with hfx | hfx
          · subst hfx
            have HB := Lib.hid (HS.out.rd.keep (w' := wr.alloc (.cells #[.pointer (some ⟨a1, a2, none⟩), .bool sign, .bool wide, .int .i64 0, .bool true, .int .i64 want] 121)) (bel_alloc bel_refl).below)
            have HTu := Lib.hid (Turn.of_below (g := r) (row := none) (w := wr) (w' := wr.alloc (.cells #[.pointer (some ⟨a1, a2, none⟩), .bool sign, .bool wide, .int .i64 0, .bool true, .int .i64 want] 121)) (bel_alloc bel_refl).below)
            by_cases hxw : x = want
            · subst hxw
              have HGN : Hid (gets bs (l.drop k) s = (gets bs (l.drop (k + 1)) (advF bs s (plW ⟨(some (a1, a2)), sign, wide, 0, true, x⟩))).map fun y => ([((a1, a2), x)] ++ y.1, y.2)) := Lib.hid (by rw [hdrop.out]; have := gets_num (bs := bs) (l := l.drop (k + 1)) (s := s) (p := ⟨(some (a1, a2)), sign, wide, 0, true, x⟩) rfl (by simp [plNum, HX0.out]); simpa [plWrite, plNum, HX0.out] using this)
              go_wp2_with (first
                        | (go_at_call 86; (with_reducible refine (number_any _ _ _ s _ _ _ _ _ _ _ _ HB.out).mono ?_); rw [HX0.out]; rintro e w2 ⟨rfl, hr2, ht2⟩
                           have hlt2 : wr.heap.size < w2.heap.size := by have := ht2.size; simp at this; omega
                           have hP := (Blk.new wr 121 [.pointer (some ⟨a1, a2, none⟩), .bool sign, .bool wide, .int .i64 0, .bool true, .int .i64 x])
                           have hP2 := ht2.blk hP (by omega) (fun e => by cases e)
                           have kp0 : w2.cell? ⟨wr.heap.size, 0, none⟩ = some (.pointer (some ⟨a1, a2, none⟩)) := by rw [hP2.cell]; rfl
                           have kp4 : w2.cell? ⟨wr.heap.size, 4, none⟩ = some (.bool true) := by rw [hP2.cell]; rfl
                           have kp5 : w2.cell? ⟨wr.heap.size, 5, none⟩ = some (.int .i64 x) := by rw [hP2.cell]; rfl
                           have HT2 := Lib.hid (HTu.out.trans ht2 (.inl rfl))
                           have HR2 := Lib.hid hr2
                           obtain ⟨⟨v0, kx⟩, fx⟩ := HS.out.there hr0 HT2.out HTa.out.1 HTa.out.2.1 HTa.out.2.2.1
                           have HN : Hid (GetS w (w2.setCell ⟨a1, a2, none⟩ (.int .i64 x)) r bs (advF bs s (plW ⟨some (a1, a2), sign, wide, 0, true, x⟩)) Ab cb l (k + 1) (ws ++ [((a1, a2), x)])) := Lib.hid (HS.out.store hr0 HT2.out HR2.out x HMa.out HTa.out.1 HTa.out.2.2.2.2 HGN.out)
                           clear hP hP2 hr2 ht2))
              go_wp2_with fail
              go_roundw
              case rel => exact ⟨k + 1, by omega, by go_num, _, _, HN⟩
              case measure => simp [intOf]; omega
            · have HGN : Hid (gets bs (l.drop k) s = none) := Lib.hid (by rw [hdrop.out]; exact gets_none (p := ⟨(some (a1, a2)), sign, wide, 0, true, want⟩) rfl rfl (by simp [plNum, HX0.out, hxw]))
              have HE : Hid (gets bs l (0, false) = none) := Lib.hid (by rw [HS.out.spec, HGN.out]; rfl)
              have HO : Hid (getOk bs l = false) := Lib.hid (by unfold getOk; rw [HE.out])
              have hxb : (x != want) = true := by simpa using hxw
              clear hxw
              go_wp2_with (first
                      | (go_at_call 86; (with_reducible refine (number_any _ _ _ s _ _ _ _ _ _ _ _ HB.out).mono ?_); rw [HX0.out]; rintro e w2 ⟨rfl, hr2, ht2⟩
                         have hlt2 : wr.heap.size < w2.heap.size := by have := ht2.size; simp at this; omega
                         have hP := (Blk.new wr 121 [.pointer (some ⟨a1, a2, none⟩), .bool sign, .bool wide, .int .i64 0, .bool true, .int .i64 want])
                         have hP2 := ht2.blk hP (by omega) (fun e => by cases e)
                         have kp0 : w2.cell? ⟨wr.heap.size, 0, none⟩ = some (.pointer (some ⟨a1, a2, none⟩)) := by rw [hP2.cell]; rfl
                         have kp4 : w2.cell? ⟨wr.heap.size, 4, none⟩ = some (.bool true) := by rw [hP2.cell]; rfl
                         have kp5 : w2.cell? ⟨wr.heap.size, 5, none⟩ = some (.int .i64 want) := by rw [hP2.cell]; rfl
                         have HT2 := Lib.hid (HTu.out.trans ht2 (.inl rfl))
                         have HR2 := Lib.hid hr2
                         obtain ⟨⟨v0, kx⟩, fx⟩ := HS.out.there hr0 HT2.out HTa.out.1 HTa.out.2.1 HTa.out.2.2.1
                         clear hP hP2 hr2 ht2))
              go_ret
              exact ⟨ws, ret_bool HO.out.symm, HS.out.mem, HS.out.bel.trans (HT2.out.below hsz hr0 (fun _ e => by cases e)), fun r' hr' => by rw [HE.out] at hr'; cases hr'⟩
          · subst hfx
            have HB := Lib.hid (HS.out.rd.keep (w' := wr.alloc (.cells #[.pointer (some ⟨a1, a2, none⟩), .bool sign, .bool wide, .int .i64 0, .bool false, .int .i64 want] 121)) (bel_alloc bel_refl).below)
            have HTu := Lib.hid (Turn.of_below (g := r) (row := none) (w := wr) (w' := wr.alloc (.cells #[.pointer (some ⟨a1, a2, none⟩), .bool sign, .bool wide, .int .i64 0, .bool false, .int .i64 want] 121)) (bel_alloc bel_refl).below)
            have HGN : Hid (gets bs (l.drop k) s = (gets bs (l.drop (k + 1)) (advF bs s (plW ⟨(some (a1, a2)), sign, wide, 0, false, want⟩))).map fun y => ([((a1, a2), x)] ++ y.1, y.2)) := Lib.hid (by rw [hdrop.out]; have := gets_num (bs := bs) (l := l.drop (k + 1)) (s := s) (p := ⟨(some (a1, a2)), sign, wide, 0, false, want⟩) rfl (by simp [plNum, HX0.out]); simpa [plWrite, plNum, HX0.out] using this)
            go_wp2_with (first
                      | (go_at_call 86; (with_reducible refine (number_any _ _ _ s _ _ _ _ _ _ _ _ HB.out).mono ?_); rw [HX0.out]; rintro e w2 ⟨rfl, hr2, ht2⟩
                         have hlt2 : wr.heap.size < w2.heap.size := by have := ht2.size; simp at this; omega
                         have hP := (Blk.new wr 121 [.pointer (some ⟨a1, a2, none⟩), .bool sign, .bool wide, .int .i64 0, .bool false, .int .i64 want])
                         have hP2 := ht2.blk hP (by omega) (fun e => by cases e)
                         have kp0 : w2.cell? ⟨wr.heap.size, 0, none⟩ = some (.pointer (some ⟨a1, a2, none⟩)) := by rw [hP2.cell]; rfl
                         have kp4 : w2.cell? ⟨wr.heap.size, 4, none⟩ = some (.bool false) := by rw [hP2.cell]; rfl
                         have kp5 : w2.cell? ⟨wr.heap.size, 5, none⟩ = some (.int .i64 want) := by rw [hP2.cell]; rfl
                         have HT2 := Lib.hid (HTu.out.trans ht2 (.inl rfl))
                         have HR2 := Lib.hid hr2
                         obtain ⟨⟨v0, kx⟩, fx⟩ := HS.out.there hr0 HT2.out HTa.out.1 HTa.out.2.1 HTa.out.2.2.1
                         have HN : Hid (GetS w (w2.setCell ⟨a1, a2, none⟩ (.int .i64 x)) r bs (advF bs s (plW ⟨some (a1, a2), sign, wide, 0, false, want⟩)) Ab cb l (k + 1) (ws ++ [((a1, a2), x)])) := Lib.hid (HS.out.store hr0 HT2.out HR2.out x HMa.out HTa.out.1 HTa.out.2.2.2.2 HGN.out)
                         clear hP hP2 hr2 ht2))
            go_wp2_with fail
            go_roundw
            case rel => exact ⟨k + 1, by omega, by go_num, _, _, HN⟩
            case measure => simp [intOf]; omega
      · have HB := Lib.hid (HS.out.rd.keep (w' := wr.alloc (.cells #[.pointer (to.map fun x => ⟨x.1, x.2, none⟩), .bool sign, .bool wide, .int .i64 skip, .bool fixed, .int .i64 want] 121)) (bel_alloc bel_refl).below)
        have HTu := Lib.hid (Turn.of_below (g := r) (row := none) (w := wr) (w' := wr.alloc (.cells #[.pointer (to.map fun x => ⟨x.1, x.2, none⟩), .bool sign, .bool wide, .int .i64 skip, .bool fixed, .int .i64 want] 121)) (bel_alloc bel_refl).below)
        go_wp2_with (first
          | (go_at_call 46; (with_reducible refine (rTake_any _ _ _ s _ _ skip HB.out ?_).mono ?_); (· omega); rintro e w2 ⟨A2, c2', rfl, hs2, hr2, ht2, hrow2⟩
             have HN : Hid (GetS w w2 r bs (advF bs s skip) Ab cb l (k + 1) ws) := Lib.hid (HS.out.next hr0 (HTu.out.trans ht2 (.inl rfl)) hr2 (by rw [hdrop.out]; exact gets_skip hs))
             clear hs2 hr2 ht2 hrow2))
        go_wp2_with fail
        go_roundw
        case rel => exact ⟨k + 1, by omega, by go_num, _, _, HN⟩
        case measure => simp [intOf]; omega
    · obtain rfl : n = k := by omega
      have HE : Hid (gets bs l (0, false) = some (ws, s)) := Lib.hid (by rw [HS.out.spec, List.drop_of_length_le (by rw [hLL.out]; exact Nat.le_refl _)]; simp [gets])
      have HO : Hid (getOk bs l = !s.2) := Lib.hid (by unfold getOk; rw [HE.out])
      obtain ⟨sp, sb⟩ := s
      cases sb with
      | true =>
        go_wp2_with (first | (go_at_call 41; (with_reducible refine (rdone_W _ _ _ _ _ _ _ HS.out.rd).mono ?_); rintro e w2 ⟨rfl, rfl⟩))
        go_ret
        exact ⟨ws, ret_bool HO.out.symm, HS.out.mem, HS.out.bel, fun r' hr' => by rw [HE.out] at hr'; injection hr' with hr'; rw [← hr']⟩
      | false =>
        go_wp2_with (first | (go_at_call 41; (with_reducible refine (rdone_W _ _ _ _ _ _ _ HS.out.rd).mono ?_); rintro e w2 ⟨rfl, rfl⟩))
        go_ret
        exact ⟨ws, ret_bool HO.out.symm, HS.out.mem, HS.out.bel, fun r' hr' => by rw [HE.out] at hr'; injection hr' with hr'; rw [← hr']⟩

end Go.Proofs.Ytbmflgcahbkdeaa
