/-
  Layer 22: the document's cells in memory: new ones; a pixel's place; what was left there.
-/
import Derived.Test.YtbflncfhbmlibaaCoI
import Derived.Test.YtbflncfhbmlibaaCoJ
import Derived.Test.YtbflncfhbmlibaaCoQ
import Derived.Test.YtbflncfhbmlibaaTn

namespace Go.Proofs.Ytbflncfhbmlibaa

open Go.RowKit Go.Shelf

def covL (cs : List Ce) : List Value := cs.map fun c => .int .i64 c.1

def areL (cs : List Ce) : List Value := cs.map fun c => .int .i64 c.2

/-- Block g is the document's cells: their Covers lie in block kc, their Areas in block ka. -/
structure Rc (w : World) (g kc ka : Nat) (b : B4) (cs : List Ce) : Prop where
  blk : Blk w g 96 [.int .i64 b.x0, .int .i64 b.y0, .int .i64 b.x1, .int .i64 b.y1, .slice (some ⟨kc, 0, none⟩) cs.length cs.length, .slice (some ⟨ka, 0, none⟩) cs.length cs.length]
  cov : Blk w kc 3 (covL cs)
  are : Blk w ka 3 (areL cs)
  ne : kc ≠ ka
  len : (cs.length : Int) = widB b * (b.y1 - b.y0)
  box : BoxOk b

section

variable {w w' : World} {g kc ka : Nat} {b : B4} {cs : List Ce}

theorem Rc.keepB (h : Rc w g kc ka b cs) (hb : Below w.heap.size w w') : Rc w' g kc ka b cs := ⟨h.blk.keepB hb, h.cov.keepB hb, h.are.keepB hb, h.ne, h.len, h.box⟩

theorem blk_ne_type {W : World} {a c : Nat} {t t' : TypeId} {xs ys : List Value} (h : Blk W a t xs) (k : Blk W c t' ys) (hne : t ≠ t') : a ≠ c := fun e => by
  subst e
  unfold Blk at h k
  rw [h] at k
  injection k with k
  injection k with _ k _
  exact hne k

theorem Rc.gc (h : Rc w g kc ka b cs) : g ≠ kc := blk_ne_type h.blk h.cov (by decide)

theorem Rc.ga (h : Rc w g kc ka b cs) : g ≠ ka := blk_ne_type h.blk h.are (by decide)

def rplaceI (b : B4) (x y : Int) : Int := if placeB b x y = true then placeN b x y else -1

set_option maxRecDepth 20000 in
set_option maxHeartbeats 4000000 in
theorem rplace_any (h : Rc w g kc ka b cs) (x y : Int) : Calls Try.prog 65 #[.pointer (some ⟨g, 0, none⟩), .int .i64 x, .int .i64 y] w fun e w' => e = .returned (.int .i64 (rplaceI b x y)) ∧ Below w.heap.size w w' := by
  have c0 : w.cell? ⟨g, 0, none⟩ = some (.int .i64 b.x0) := h.blk.cell 0
  have c1 : w.cell? ⟨g, 1, none⟩ = some (.int .i64 b.y0) := h.blk.cell 1
  have c2 : w.cell? ⟨g, 2, none⟩ = some (.int .i64 b.x1) := h.blk.cell 2
  have c3 : w.cell? ⟨g, 3, none⟩ = some (.int .i64 b.y1) := h.blk.cell 3
  have gl := h.blk.lt
  have e0 : placeB b x y = ((decide (b.x0 ≤ x) && decide (x ≤ b.x1)) && (decide (b.y0 ≤ y) && decide (y ≤ b.y1 - 1))) := rfl
  have hbd := fun hp => place_bd (x := x) (y := y) h.box hp
  have hbx := h.box
  obtain ⟨bx0, bx1, bx, by0, by1, byy, -⟩ := hbx
  clear h
  unfold rplaceI
  obtain ⟨x0, y0, x1, y1⟩ := b
  dsimp only at *
  rcases Int.lt_or_le x x0 with g1 | g1
  · rw [decide_eq_false (by omega : ¬ x0 ≤ x)] at e0
    rw [if_neg (by rw [e0]; simp)]
    clear e0 hbd
    go_enter Try.func65, Try.ntmps65
    go_wp2
    go_ret
    exact ⟨rfl, Below.refl _ _⟩
  rcases Int.lt_or_le x1 x with g2 | g2
  · rw [decide_eq_false (by omega : ¬ x ≤ x1), Bool.and_false] at e0
    rw [if_neg (by rw [e0]; simp)]
    clear e0 hbd
    go_enter Try.func65, Try.ntmps65
    go_wp2
    go_ret
    exact ⟨rfl, Below.refl _ _⟩
  rcases Int.lt_or_le y y0 with g3 | g3
  · rw [decide_eq_false (by omega : ¬ y0 ≤ y), Bool.false_and, Bool.and_false] at e0
    rw [if_neg (by rw [e0]; simp)]
    clear e0 hbd
    go_enter Try.func65, Try.ntmps65
    go_wp2
    go_ret
    exact ⟨rfl, Below.refl _ _⟩
  rcases Int.lt_or_le (y1 - 1) y with g4 | g4
  · rw [decide_eq_false (by omega : ¬ y ≤ y1 - 1), Bool.and_false, Bool.and_false] at e0
    rw [if_neg (by rw [e0]; simp)]
    have g5 : y1 ≤ y := by omega
    clear e0 hbd g4
    go_enter Try.func65, Try.ntmps65
    go_wp2
    go_ret
    exact ⟨rfl, Below.refl _ _⟩
  rw [decide_eq_true g1, decide_eq_true g2, decide_eq_true g3, decide_eq_true g4, show (true && true && (true && true)) = true from rfl] at e0
  obtain ⟨p1, p2, p3, p4⟩ := hbd e0
  rw [if_pos e0]
  obtain ⟨m, hm⟩ : ∃ m, (y - y0) * widB ⟨x0, y0, x1, y1⟩ = m := ⟨_, rfl⟩
  have hpn : placeN ⟨x0, y0, x1, y1⟩ x y = m + x - x0 := by unfold placeN; rw [hm]
  rw [hpn]
  have hm2 : (y - y0) * (x1 - x0 + 1) = m := hm
  rw [hm] at p3 p4
  have r1 : IntKind.i64.wrap (y - y0) = y - y0 := IntWalk.i64_in _ (by omega)
  have r2 : IntKind.i64.wrap (x1 - x0) = x1 - x0 := IntWalk.i64_in _ (by omega)
  have r3 : IntKind.i64.wrap (x1 - x0 + 1) = x1 - x0 + 1 := IntWalk.i64_in _ (by omega)
  have r4 : IntKind.i64.wrap ((y - y0) * (x1 - x0 + 1)) = m := by rw [hm2]; exact IntWalk.i64_in _ (by omega)
  have r5 : IntKind.i64.wrap (m + x) = m + x := IntWalk.i64_in _ (by omega)
  have r6 : IntKind.i64.wrap (m + x - x0) = m + x - x0 := IntWalk.i64_in _ (by omega)
  have g5 : ¬ y1 ≤ y := by omega
  have HRR := Lib.hid (And.intro r1 (And.intro r2 (And.intro r3 (And.intro r4 (And.intro r5 r6)))))
  clear e0 hbd hpn hm hm2 p1 p2 r1 r2 r3 r4 r5 r6
  go_enter Try.func65, Try.ntmps65
  go_wp2
  obtain ⟨r1, r2, r3, r4, r5, r6⟩ := HRR.out
  go_quiet (fail)
  clear r1 r2 r3 r4 r5 r6
  go_wp2
  go_ret
  exact ⟨rfl, (bel_drewN bel_refl).below⟩

theorem covL_at {i : Nat} {c : Ce} (h : cs[i]? = some c) : (covL cs)[i]? = some (.int .i64 c.1) := by simp [covL, h]

theorem areL_at {i : Nat} {c : Ce} (h : cs[i]? = some c) : (areL cs)[i]? = some (.int .i64 c.2) := by simp [areL, h]

theorem covL_set (i : Nat) (d : Ce) : (covL cs).set i (.int .i64 d.1) = covL (cs.set i d) := by simp [covL, List.map_set]

theorem areL_set (i : Nat) (d : Ce) : (areL cs).set i (.int .i64 d.2) = areL (cs.set i d) := by simp [areL, List.map_set]

theorem Rc.bd (h : Rc w g kc ka b cs) : cs.length ≤ 4227072 := by have := h.box.num; have := h.len; omega

set_option maxRecDepth 20000 in
set_option maxHeartbeats 4000000 in
theorem rAt_any (h : Rc w g kc ka b cs) (x y : Int) : Calls Try.prog 39 #[.pointer (some ⟨g, 0, none⟩), .int .i64 x, .int .i64 y] w fun e w' => e = .returned (.tuple #[.int .i64 (atC b cs x y).1, .int .i64 (atC b cs x y).2]) ∧ Below w.heap.size w w' := by
  have gl := h.blk.lt
  have ha := rplace_any h x y
  unfold rplaceI at ha
  cases hp : placeB b x y with
  | false =>
    have e0 : atC b cs x y = (0, 0) := if_neg (by rw [hp]; decide)
    rw [e0]
    rw [hp, if_neg (by decide)] at ha
    have HA := Lib.hid ha
    clear ha hp e0 h
    go_enter Try.func39, Try.ntmps39
    go_wp2_with (first | (go_at_call 65; (with_reducible refine HA.out.mono ?_); rintro e w1 ⟨rfl, hb1⟩; obtain ⟨hc1, hf1, hz1⟩ := bcell hb1; (try simp at hz1)))
    go_ret2
    exact ⟨rfl, hb1⟩
  | true =>
    have e0 : atC b cs x y = cs.getD (placeN b x y).toNat (0, 0) := if_pos hp
    rw [e0]
    rw [hp, if_pos rfl] at ha
    obtain ⟨p1, p2, -, -⟩ := place_bd h.box hp
    have hlen := h.len
    rw [← hlen] at p2
    obtain ⟨n, hn⟩ : ∃ n : Nat, placeN b x y = n := ⟨(placeN b x y).toNat, by omega⟩
    rw [hn] at ha p1 p2 ⊢
    rw [Int.toNat_natCast]
    have hnl : n < cs.length := by omega
    have hg : cs.getD n (0, 0) = cs[n] := by simp [List.getD, hnl]
    rw [hg]
    have hcn : cs[n]? = some cs[n] := List.getElem?_eq_getElem hnl
    have q1 : w.cell? ⟨kc, n, none⟩ = some (.int .i64 cs[n].1) := (h.cov.cell n).trans (covL_at hcn)
    have q2 : w.cell? ⟨ka, n, none⟩ = some (.int .i64 cs[n].2) := (h.are.cell n).trans (areL_at hcn)
    have c4 : w.cell? ⟨g, 4, none⟩ = some (.slice (some ⟨kc, 0, none⟩) cs.length cs.length) := h.blk.cell 4
    have c5 : w.cell? ⟨g, 5, none⟩ = some (.slice (some ⟨ka, 0, none⟩) cs.length cs.length) := h.blk.cell 5
    have kl := h.cov.lt
    have kal := h.are.lt
    have hbd := h.bd
    generalize cs[n] = z at *
    obtain ⟨z1, z2⟩ := z
    dsimp only at *
    generalize cs.length = L at *
    have HA := Lib.hid ha
    clear ha hp e0 h hn hg hlen p1 p2 hcn
    go_enter Try.func39, Try.ntmps39
    go_wp2_with (first | (go_at_call 65; (with_reducible refine HA.out.mono ?_); rintro e w1 ⟨rfl, hb1⟩; obtain ⟨hc1, hf1, hz1⟩ := bcell hb1; (try simp at hz1)))
    have k4 : w1.cell? ⟨g, 4, none⟩ = some (.slice (some ⟨kc, 0, none⟩) L L) := (hb1.cell (p := ⟨g, 4, none⟩) gl).trans c4
    have k5 : w1.cell? ⟨g, 5, none⟩ = some (.slice (some ⟨ka, 0, none⟩) L L) := (hb1.cell (p := ⟨g, 5, none⟩) gl).trans c5
    have k6 : w1.cell? ⟨kc, n, none⟩ = some (.int .i64 z1) := (hb1.cell (p := ⟨kc, n, none⟩) kl).trans q1
    have k7 : w1.cell? ⟨ka, n, none⟩ = some (.int .i64 z2) := (hb1.cell (p := ⟨ka, n, none⟩) kal).trans q2
    have HB := Lib.hid hb1
    have hnl' : (n : Int) < (L : Int) := by omega
    clear hb1 hc1 hf1 c4 c5 q1 q2
    go_quiet (fail)
    go_wp2_with fail
    go_ret2
    exact ⟨rfl, HB.out.trans ((bel_drewN bel_refl).below.mono HB.out.size)⟩

end

def RNewR (b : B4) (w : World) (e : Ending) (w' : World) : Prop := ∃ g kc ka, e = .returned (.pointer (some ⟨g, 0, none⟩)) ∧ Rc w' g kc ka b (zerC (numB b)) ∧ w.heap.size ≤ g ∧ w.heap.size ≤ kc ∧ w.heap.size ≤ ka ∧ Below w.heap.size w w'

theorem covL_zero (n : Nat) : covL (zerC n) = List.replicate n (.int .i64 0) := by simp [covL, zerC]

theorem areL_zero (n : Nat) : areL (zerC n) = List.replicate n (.int .i64 0) := by simp [areL, zerC]

set_option maxRecDepth 20000 in
set_option maxHeartbeats 4000000 in
theorem rNew_any (b : B4) (hb : BoxOk b) (w : World) : Calls Try.prog 37 #[.agg #[.int .i64 b.x0, .int .i64 b.y0, .int .i64 b.x1, .int .i64 b.y1]] w (RNewR b w) := by
  obtain ⟨hn1, hn2⟩ := hb.num
  obtain ⟨x0, y0, x1, y1⟩ := b
  have HOK := Lib.hid hb
  obtain ⟨bx0, bx1, bx, by0, by1, byy, -⟩ := hb
  dsimp only at *
  obtain ⟨nn, hnn⟩ : ∃ nn, numB ⟨x0, y0, x1, y1⟩ = nn := ⟨_, rfl⟩
  rw [hnn] at hn1 hn2
  have HN1 := Lib.hid hn1
  have hwd : widB ⟨x0, y0, x1, y1⟩ = x1 - x0 + 1 := rfl
  rw [hwd] at hn1
  have hw2 : wrap64 ((x1 - x0 + 1) * (y1 - y0)) = nn := by rw [← hn1]; exact IntWalk.wrap64_in _ (by omega)
  have hmk := fun W => make_ints nn (by omega) W
  have HNN := Lib.hid hnn
  clear hn1 hwd hnn
  go_enter Try.func37, Try.ntmps37
  go_wp2_with fail
  go_region
  all_goals
    go_wp2_with fail
    go_ret
    simp only [← List.toArray_replicate, Nat.add_assoc, Nat.reduceAdd]
    have hlen : (zerC nn).length = nn := by simp [zerC]
    have hl2 : ((zerC nn).length : Int) = widB ⟨x0, y0, x1, y1⟩ * (y1 - y0) := by rw [hlen]; exact HN1.out
    have hok := HOK.out
    have hnb := HNN.out
    first
      | (refine ⟨w.heap.size + 3, w.heap.size + 1, w.heap.size + 2, rfl, ⟨?_, ?_, ?_, by omega, by rw [hnb]; exact hl2, hok⟩, by omega, by omega, by omega, ?_⟩
         · rw [hnb, hlen]; exact (Blk.newAt _ _ [_, _, _, _, _, _] (by simp)).drew
         · rw [hnb, covL_zero]; exact (((Blk.newAt _ _ _ (by simp)).alloc _).alloc _).drew
         · rw [hnb, areL_zero]; exact ((Blk.newAt _ _ _ (by simp)).alloc _).drew
         · exact (bel_drew (bel_alloc (bel_alloc (bel_alloc (bel_alloc bel_refl))))).below)
      | (refine ⟨w.heap.size + 3, w.heap.size + 2, w.heap.size + 1, rfl, ⟨?_, ?_, ?_, by omega, by rw [hnb]; exact hl2, hok⟩, by omega, by omega, by omega, ?_⟩
         · rw [hnb, hlen]; exact (Blk.newAt _ _ [_, _, _, _, _, _] (by simp)).drew
         · rw [hnb, covL_zero]; exact ((Blk.newAt _ _ _ (by simp)).alloc _).drew
         · rw [hnb, areL_zero]; exact (((Blk.newAt _ _ _ (by simp)).alloc _).alloc _).drew
         · exact (bel_drew (bel_alloc (bel_alloc (bel_alloc (bel_alloc bel_refl))))).below)

end Go.Proofs.Ytbflncfhbmlibaa
