/-
  Layer 22: cells in memory; the place of a pixel.
-/
import Derived.Test.YtbflncfhbmlibaaCoD

namespace Go.Proofs.Ytbflncfhbmlibaa

open Go.RowKit Go.Shelf

abbrev Ce := Int × Int

def cvs (cs : List Ce) : List Value := cs.flatMap fun c => [.int .i64 c.1, .int .i64 c.2]

def widB (b : B4) : Int := b.x1 - b.x0 + 1

def placeB (b : B4) (x y : Int) : Bool := withinB x b.x0 b.x1 && withinB y b.y0 (b.y1 - 1)

def placeN (b : B4) (x y : Int) : Int := (y - b.y0) * widB b + x - b.x0

/-- A box that may be one of cells. -/
structure BoxOk (b : B4) : Prop where
  x0 : -16384 ≤ b.x0
  x1 : b.x1 ≤ 16384
  x : b.x0 < b.x1
  y0 : -16384 ≤ b.y0
  y1 : b.y1 ≤ 16384
  y : b.y0 < b.y1
  area : (b.x1 - b.x0) * (b.y1 - b.y0) ≤ 4194304

/-- Block g is the program's cells, which lie in block k. -/
structure Cc (w : World) (g k : Nat) (b : B4) (cs : List Ce) : Prop where
  blk : Blk w g 109 [.int .i64 b.x0, .int .i64 b.y0, .int .i64 b.x1, .int .i64 b.y1, .int .i64 (widB b), .slice (some ⟨k, 0, none⟩) cs.length cs.length]
  row : Blk w k 116 (cvs cs)
  len : (cs.length : Int) = widB b * (b.y1 - b.y0)
  box : BoxOk b

theorem cvs_len (cs : List Ce) : (cvs cs).length = cs.length * 2 := by
  unfold cvs
  induction cs with
  | nil => rfl
  | cons c cs ih => rw [List.flatMap_cons, List.length_append, ih, List.length_cons]; simp; omega

theorem cvs_at (cs : List Ce) (i : Nat) (c : Ce) (h : cs[i]? = some c) : (cvs cs)[i * 2]? = some (.int .i64 c.1) ∧ (cvs cs)[i * 2 + 1]? = some (.int .i64 c.2) := by
  unfold cvs
  induction cs generalizing i with
  | nil => simp at h
  | cons a cs ih =>
    rw [List.flatMap_cons]
    cases i with
    | zero => simp at h; subst h; simp
    | succ i =>
      have := ih i (by simpa using h)
      rw [show (i + 1) * 2 = i * 2 + 2 by omega, List.getElem?_append_right (by simp), List.getElem?_append_right (by simp)]
      simpa using this

theorem cvs_set (cs : List Ce) (i : Nat) (c d : Ce) (h : cs[i]? = some c) : ((cvs cs).set (i * 2) (.int .i64 d.1)).set (i * 2 + 1) (.int .i64 d.2) = cvs (cs.set i d) := by
  unfold cvs
  induction cs generalizing i with
  | nil => simp at h
  | cons a cs ih =>
    cases i with
    | zero => simp
    | succ i =>
      have := ih i (by simpa using h)
      rw [List.flatMap_cons, List.set_cons_succ, List.flatMap_cons, show (i + 1) * 2 = i * 2 + 2 by omega, List.set_append_right _ _ (by simp), show i * 2 + 2 + 1 = i * 2 + 1 + 2 by omega, List.set_append_right _ _ (by simp)]
      simp only [List.length_cons, List.length_nil, Nat.add_sub_cancel]
      rw [this]

theorem BoxOk.wid {b : B4} (h : BoxOk b) : 2 ≤ widB b ∧ widB b ≤ 32769 := by
  have := h.x0; have := h.x1; have := h.x
  unfold widB
  omega

theorem place_bd {b : B4} (h : BoxOk b) {x y : Int} (hp : placeB b x y = true) : 0 ≤ placeN b x y ∧ placeN b x y < widB b * (b.y1 - b.y0) ∧ 0 ≤ (y - b.y0) * widB b ∧ (y - b.y0) * widB b ≤ 1073774592 := by
  unfold placeB at hp
  rw [Bool.and_eq_true, withinB_true, withinB_true] at hp
  obtain ⟨⟨h1, h2⟩, h3, h4⟩ := hp
  obtain ⟨w1, w2⟩ := h.wid
  have := h.y0; have := h.y1
  have e1 : 0 ≤ (y - b.y0) * widB b := Int.mul_nonneg (by omega) (by omega)
  have e2 : (y - b.y0) * widB b ≤ (b.y1 - b.y0 - 1) * widB b := Int.mul_le_mul_of_nonneg_right (by omega) (by omega)
  have e3 : (b.y1 - b.y0 - 1) * widB b = widB b * (b.y1 - b.y0) - widB b := by rw [Int.sub_mul, Int.one_mul, Int.mul_comm]
  have e4 : (y - b.y0) * widB b ≤ 32767 * 32769 := by
    have a1 : (y - b.y0) * widB b ≤ 32767 * widB b := Int.mul_le_mul_of_nonneg_right (by omega) (by omega)
    omega
  have hw : widB b = b.x1 - b.x0 + 1 := rfl
  unfold placeN
  refine ⟨by omega, by omega, e1, by omega⟩

section

variable {w : World} {g k : Nat} {b : B4} {cs : List Ce}

theorem Cc.keepB {w' : World} (h : Cc w g k b cs) (hb : Below w.heap.size w w') : Cc w' g k b cs := ⟨h.blk.keepB hb, h.row.keepB hb, h.len, h.box⟩

def AtR (b : B4) (x y : Int) (w : World) (e : Ending) (w' : World) : Prop :=
  e = .returned (.tuple #[.int .i64 (if placeB b x y = true then placeN b x y else 0), .bool (placeB b x y)]) ∧ Below w.heap.size w w'

set_option maxRecDepth 20000 in
set_option maxHeartbeats 4000000 in
theorem at_any (h : Cc w g k b cs) (x y : Int) : Calls Try.prog 84 #[.pointer (some ⟨g, 0, none⟩), .int .i64 x, .int .i64 y] w (AtR b x y w) := by
  have c0 : w.cell? ⟨g, 0, none⟩ = some (.int .i64 b.x0) := h.blk.cell 0
  have c1 : w.cell? ⟨g, 1, none⟩ = some (.int .i64 b.y0) := h.blk.cell 1
  have c2 : w.cell? ⟨g, 2, none⟩ = some (.int .i64 b.x1) := h.blk.cell 2
  have c3 : w.cell? ⟨g, 3, none⟩ = some (.int .i64 b.y1) := h.blk.cell 3
  have c4 : w.cell? ⟨g, 4, none⟩ = some (.int .i64 (widB b)) := h.blk.cell 4
  have gl := h.blk.lt
  have e0 : placeB b x y = (withinB x b.x0 b.x1 && withinB y b.y0 (b.y1 - 1)) := rfl
  have hx := fun w => cwithin_any x b.x0 b.x1 w
  have hy := fun w => cwithin_any y b.y0 (b.y1 - 1) w
  have s1 : IntKind.i64.wrap (b.y1 - 1) = b.y1 - 1 := IntWalk.i64_in _ (by have := h.box.y0; have := h.box.y1; have := h.box.y; omega)
  have hbd := fun hp => place_bd (x := x) (y := y) h.box hp
  have hbx := h.box
  obtain ⟨bx0, bx1, bx, by0, by1, byy, -⟩ := hbx
  have hwd := h.box.wid
  unfold AtR
  clear h
  obtain ⟨x0, y0, x1, y1⟩ := b
  dsimp only at *
  generalize hwi : widB ⟨x0, y0, x1, y1⟩ = wd at *
  cases h1 : withinB x x0 x1 with
  | false =>
    rw [h1] at hx e0
    rw [e0]
    have HX := Lib.hid hx
    clear hx hy h1 e0 hbd hwi hwd
    go_enter Try.func84, Try.ntmps84
    go_wp2_with fail
    refine wp_region_bw_lit (by kernel_rfl) (by kernel_rfl) ?_
    repeat (go_big_quiet_step ((go_at_call 79; exact Calls.bw_of_same (HX.out _))))
    refine wpQuiet_nil ?_
    rintro _ ⟨u, rfl⟩
    have hbu := u.prop
    have hzu := u.prop.size
    try simp at hzu
    go_wp2_with fail
    all_goals
      go_ret2
      exact ⟨rfl, hbu⟩
  | true =>
    rw [h1] at hx e0
    have HX := Lib.hid hx
    cases h2 : withinB y y0 (y1 - 1) with
    | false =>
      rw [h2] at hy e0
      rw [e0]
      have HY := Lib.hid hy
      clear hx hy h1 h2 e0 hbd hwi hwd
      go_enter Try.func84, Try.ntmps84
      go_wp2_with fail
      refine wp_region_bw_lit (by kernel_rfl) (by kernel_rfl) ?_
      repeat (go_big_quiet_step (first | (go_at_call 79; with_reducible exact Calls.bw_of_same (HX.out _)) | (go_at_call 79; with_reducible exact Calls.bw_of_same (HY.out _))))
      refine wpQuiet_nil ?_
      rintro _ ⟨u, rfl⟩
      have hbu := u.prop
      have hzu := u.prop.size
      try simp at hzu
      go_wp2_with fail
      all_goals
        go_ret2
        exact ⟨rfl, hbu⟩
    | true =>
      rw [h2] at hy e0
      obtain ⟨p1, p2, p3, p4⟩ := hbd e0
      have hpn : placeN ⟨x0, y0, x1, y1⟩ x y = (y - y0) * wd + x - x0 := by unfold placeN; rw [hwi]
      rw [show (true && true) = true from rfl] at e0
      rw [e0, if_pos rfl, hpn]
      rw [hpn] at p1 p2
      have HY := Lib.hid hy
      rw [withinB_true] at h1 h2
      obtain ⟨g1, g2⟩ := h1
      obtain ⟨g3, g4⟩ := h2
      have r1 : IntKind.i64.wrap (y - y0) = y - y0 := IntWalk.i64_in _ (by omega)
      have r2 : IntKind.i64.wrap ((y - y0) * wd) = (y - y0) * wd := IntWalk.i64_in _ (by omega)
      have r3 : IntKind.i64.wrap ((y - y0) * wd + x) = (y - y0) * wd + x := IntWalk.i64_in _ (by omega)
      have r4 : IntKind.i64.wrap ((y - y0) * wd + x - x0) = (y - y0) * wd + x - x0 := IntWalk.i64_in _ (by omega)
      have HR := Lib.hid (And.intro r1 (And.intro r2 (And.intro r3 r4)))
      clear hx hy e0 hbd hwi hwd hpn p1 p2 p3 p4 r1 r2 r3 r4
      go_enter Try.func84, Try.ntmps84
      go_wp2_with fail
      refine wp_region_bw_lit (by kernel_rfl) (by kernel_rfl) ?_
      repeat (go_big_quiet_step (first | (go_at_call 79; with_reducible exact Calls.bw_of_same (HX.out _)) | (go_at_call 79; with_reducible exact Calls.bw_of_same (HY.out _))))
      refine wpQuiet_nil ?_
      rintro _ ⟨u, rfl⟩
      have hbu := u.prop
      have hzu := u.prop.size
      try simp at hzu
      go_wp2_with fail
      have k1 : u.val.cell? ⟨g, 1, none⟩ = some (.int .i64 y0) := (hbu.cell (p := ⟨g, 1, none⟩) gl).trans c1
      have k4 : u.val.cell? ⟨g, 4, none⟩ = some (.int .i64 wd) := (hbu.cell (p := ⟨g, 4, none⟩) gl).trans c4
      have k0 : u.val.cell? ⟨g, 0, none⟩ = some (.int .i64 x0) := (hbu.cell (p := ⟨g, 0, none⟩) gl).trans c0
      have gl1 : g < u.val.heap.size := Nat.lt_of_lt_of_le gl hbu.size
      have HBU := Lib.hid hbu
      obtain ⟨r1, r2, r3, r4⟩ := HR.out
      generalize u.val = w1 at *
      clear c0 c1 c2 c3 c4 hbu hzu
      refine wp_region_bw_lit (by kernel_rfl) (by kernel_rfl) ?_
      repeat (go_big_quiet_step (fail))
      refine wpQuiet_nil ?_
      rintro _ ⟨u, rfl⟩
      have hbu := u.prop
      have hzu := u.prop.size
      try simp at hzu
      go_wp2_with fail
      all_goals
        go_ret2
        exact ⟨rfl, HBU.out.trans (hbu.mono HBU.out.size)⟩

end

end Go.Proofs.Ytbflncfhbmlibaa
