/-
  Layer 22: within the box; a line; what was left in a pixel; the box; nobody's cells.
-/
import Derived.Test.YtbflncfhbmlibaaCoI
import Derived.Test.YtbflncfhbmlibaaCoH

namespace Go.Proofs.Ytbflncfhbmlibaa

open Go.RowKit Go.Shelf

section

variable {w : World} {g k : Nat} {b : B4} {cs : List Ce}

set_option maxRecDepth 20000 in
set_option maxHeartbeats 4000000 in
theorem in_any (h : Cc w g k b cs) (d : Dt) : Calls Try.prog 81 #[.pointer (some ⟨g, 0, none⟩), .agg #[.int .i64 d.1, .int .i64 d.2]] w fun e w' => e = .returned (.bool (inB b d)) ∧ Below w.heap.size w w' := by
  have c0 : w.cell? ⟨g, 0, none⟩ = some (.int .i64 b.x0) := h.blk.cell 0
  have c1 : w.cell? ⟨g, 1, none⟩ = some (.int .i64 b.y0) := h.blk.cell 1
  have c2 : w.cell? ⟨g, 2, none⟩ = some (.int .i64 b.x1) := h.blk.cell 2
  have c3 : w.cell? ⟨g, 3, none⟩ = some (.int .i64 b.y1) := h.blk.cell 3
  have gl := h.blk.lt
  have hbx := h.box
  obtain ⟨bx0, bx1, bx, by0, by1, byy, -⟩ := hbx
  clear h
  obtain ⟨x0, y0, x1, y1⟩ := b
  obtain ⟨x, y⟩ := d
  dsimp only at *
  have e0 : inB ⟨x0, y0, x1, y1⟩ (x, y) = (withinB x (64 * x0) (64 * x1) && withinB y (64 * y0) (64 * y1)) := rfl
  have hx := fun w => cwithin_any x (64 * x0) (64 * x1) w
  have hy := fun w => cwithin_any y (64 * y0) (64 * y1) w
  have s1 : IntKind.i64.wrap (x0 * 64) = 64 * x0 := by rw [Int.mul_comm]; exact IntWalk.i64_in _ (by omega)
  have s2 : IntKind.i64.wrap (x1 * 64) = 64 * x1 := by rw [Int.mul_comm]; exact IntWalk.i64_in _ (by omega)
  have s3 : IntKind.i64.wrap (y0 * 64) = 64 * y0 := by rw [Int.mul_comm]; exact IntWalk.i64_in _ (by omega)
  have s4 : IntKind.i64.wrap (y1 * 64) = 64 * y1 := by rw [Int.mul_comm]; exact IntWalk.i64_in _ (by omega)
  rw [e0]
  clear e0
  cases h1 : withinB x (64 * x0) (64 * x1) <;> cases h2 : withinB y (64 * y0) (64 * y1) <;> rw [h1] at hx <;> rw [h2] at hy
  all_goals
    have HX := Lib.hid hx
    have HY := Lib.hid hy
    clear hx hy h1 h2
    go_enter Try.func81, Try.ntmps81
    go_wp2_with (first | (go_at_call 79; (with_reducible refine (HX.out _).mono ?_); rintro e w1 ⟨rfl, rfl⟩) | (go_at_call 79; (with_reducible refine (HY.out _).mono ?_); rintro e w1 ⟨rfl, rfl⟩))
    go_ret
    refine ⟨rfl, Bel.below ?_⟩
    repeat (first | with_reducible exact bel_refl | with_reducible apply bel_alloc | with_reducible apply bel_drewN | with_reducible apply bel_drew | (with_reducible refine bel_set ?_ ?_; rotate_left; · first | (simp; done) | (simp; omega) | omega) | with_reducible refine bel_call (by assumption) ?_)

theorem Cc.bd (h : Cc w g k b cs) : cs.length ≤ 4227072 := by
  have hn := h.box.num.2
  have hl := h.len
  unfold numB at hn
  omega

theorem BoxOk.dot (h : BoxOk b) {d : Dt} (hd : inB b d = true) : dotB d = true := by
  obtain ⟨bx0, bx1, bx, by0, by1, byy, -⟩ := h
  unfold inB at hd
  unfold dotB
  rw [Bool.and_eq_true, withinB_true, withinB_true] at *
  omega

def LnNo (w : World) (e : Ending) (w' : World) : Prop := e = .returned (.int .i64 10) ∧ Below w.heap.size w w'

def LnYes (g k : Nat) (b : B4) (cs : List Ce) (w : World) (e : Ending) (w' : World) : Prop := e = .returned (.int .i64 0) ∧ Cc w' g k b cs ∧ Turn w w' k none

set_option maxRecDepth 20000 in
set_option maxHeartbeats 4000000 in
theorem Line_no (h : Cc w g k b cs) (a d : Dt) (hn : (inB b a && inB b d) = false) : Calls Try.prog 59 #[.pointer (some ⟨g, 0, none⟩), .agg #[.int .i64 a.1, .int .i64 a.2], .agg #[.int .i64 d.1, .int .i64 d.2]] w (LnNo w) := by
  have gl := h.blk.lt
  have ha := fun w' hb => in_any (h.keepB (w' := w') hb) a
  have hd := fun w' hb => in_any (h.keepB (w' := w') hb) d
  unfold LnNo
  clear h
  cases h1 : inB b a with
  | false =>
    rw [h1] at ha
    have HA := Lib.hid ha
    clear ha hd h1 hn
    go_enter Try.func59, Try.ntmps59
    go_wp2_with (first | (go_at_call 81; (with_reducible refine (HA.out _ ?_).mono ?_); (· refine Bel.below ?_; repeat (first | with_reducible exact bel_refl | with_reducible apply bel_alloc | with_reducible apply bel_drewN | with_reducible apply bel_drew | (with_reducible refine bel_set ?_ ?_; rotate_left; · first | (simp; done) | (simp; omega) | omega) | with_reducible refine bel_call (by assumption) ?_)); rintro e w1 ⟨rfl, hb1⟩; obtain ⟨hc1, hf1, hz1⟩ := bcell hb1; (try simp at hz1)))
    go_ret
    refine ⟨rfl, Bel.below ?_⟩
    repeat (first | with_reducible exact bel_refl | with_reducible apply bel_alloc | with_reducible apply bel_drewN | with_reducible apply bel_drew | (with_reducible refine bel_set ?_ ?_; rotate_left; · first | (simp; done) | (simp; omega) | omega) | with_reducible refine bel_call (by assumption) ?_)
  | true =>
    rw [h1, Bool.true_and] at hn
    rw [h1] at ha
    rw [hn] at hd
    have HA := Lib.hid ha
    have HD := Lib.hid hd
    clear ha hd h1 hn
    go_enter Try.func59, Try.ntmps59
    go_wp2_with (first | (go_at_call 81; (with_reducible refine (HA.out _ ?_).mono ?_); (· refine Bel.below ?_; repeat (first | with_reducible exact bel_refl | with_reducible apply bel_alloc | with_reducible apply bel_drewN | with_reducible apply bel_drew | (with_reducible refine bel_set ?_ ?_; rotate_left; · first | (simp; done) | (simp; omega) | omega) | with_reducible refine bel_call (by assumption) ?_)); rintro e w1 ⟨rfl, hb1⟩; obtain ⟨hc1, hf1, hz1⟩ := bcell hb1; (try simp at hz1)) | (go_at_call 81; (with_reducible refine (HD.out _ ?_).mono ?_); (· refine Bel.below ?_; repeat (first | with_reducible exact bel_refl | with_reducible apply bel_alloc | with_reducible apply bel_drewN | with_reducible apply bel_drew | (with_reducible refine bel_set ?_ ?_; rotate_left; · first | (simp; done) | (simp; omega) | omega) | with_reducible refine bel_call (by assumption) ?_)); rintro e w2 ⟨rfl, hb2⟩; obtain ⟨hc2, hf2, hz2⟩ := bcell hb2; (try simp at hz2)))
    go_ret
    refine ⟨rfl, Bel.below ?_⟩
    repeat (first | with_reducible exact bel_refl | with_reducible apply bel_alloc | with_reducible apply bel_drewN | with_reducible apply bel_drew | (with_reducible refine bel_set ?_ ?_; rotate_left; · first | (simp; done) | (simp; omega) | omega) | with_reducible refine bel_call (by assumption) ?_)

theorem turn_behind {A B C : World} {k n : Nat} (hb : Below n A B) (h : Turn B C k none) (hn : A.heap.size ≤ n) : Turn A C k none :=
  ⟨h.os.trans hb.os, h.tape.trans hb.tape, h.output.trans hb.output, Nat.le_trans hb.size h.size, fun i hi h1 h2 => (h.block i (Nat.lt_of_lt_of_le hi hb.size) h1 h2).trans (hb.block i (by omega))⟩

set_option maxRecDepth 20000 in
set_option maxHeartbeats 4000000 in
theorem Line_yes (h : Cc w g k b cs) (a d : Dt) (h1 : inB b a = true) (h2 : inB b d = true) : Calls Try.prog 59 #[.pointer (some ⟨g, 0, none⟩), .agg #[.int .i64 a.1, .int .i64 a.2], .agg #[.int .i64 d.1, .int .i64 d.2]] w (LnYes g k b (lineC b cs a d) w) := by
  have gl := h.blk.lt
  have ha := fun w' hb => in_any (h.keepB (w' := w') hb) a
  have hd := fun w' hb => in_any (h.keepB (w' := w') hb) d
  have hl := fun w' hb => line_any (h.keepB (w' := w') hb) a d (h.box.dot h1) (h.box.dot h2)
  rw [h1] at ha
  rw [h2] at hd
  unfold LnYes
  have HA := Lib.hid ha
  have HD := Lib.hid hd
  have HL := Lib.hid hl
  clear ha hd hl h1 h2 h
  go_enter Try.func59, Try.ntmps59
  go_wp2_with (first | (go_at_call 81; (with_reducible refine (HA.out _ ?_).mono ?_); (· refine Bel.below ?_; repeat (first | with_reducible exact bel_refl | with_reducible apply bel_alloc | with_reducible apply bel_drewN | with_reducible apply bel_drew | (with_reducible refine bel_set ?_ ?_; rotate_left; · first | (simp; done) | (simp; omega) | omega) | with_reducible refine bel_call (by assumption) ?_)); rintro e w1 ⟨rfl, hb1⟩; obtain ⟨hc1, hf1, hz1⟩ := bcell hb1; (try simp at hz1)) | (go_at_call 81; (with_reducible refine (HD.out _ ?_).mono ?_); (· refine Bel.below ?_; repeat (first | with_reducible exact bel_refl | with_reducible apply bel_alloc | with_reducible apply bel_drewN | with_reducible apply bel_drew | (with_reducible refine bel_set ?_ ?_; rotate_left; · first | (simp; done) | (simp; omega) | omega) | with_reducible refine bel_call (by assumption) ?_)); rintro e w2 ⟨rfl, hb2⟩; obtain ⟨hc2, hf2, hz2⟩ := bcell hb2; (try simp at hz2)) | (go_at_call 82; (with_reducible refine (HL.out _ ?_).mono ?_); (· refine Bel.below ?_; repeat (first | with_reducible exact bel_refl | with_reducible apply bel_alloc | with_reducible apply bel_drewN | with_reducible apply bel_drew | (with_reducible refine bel_set ?_ ?_; rotate_left; · first | (simp; done) | (simp; omega) | omega) | with_reducible refine bel_call (by assumption) ?_)); rintro e w3 ⟨⟨v, rfl⟩, hcc, ht⟩; have HT := Lib.hid ht; clear ht))
  go_ret
  refine ⟨rfl, hcc, turn_behind (n := w.heap.size) (Bel.below ?_) HT.out (Nat.le_refl _)⟩
  repeat (first | with_reducible exact bel_refl | with_reducible apply bel_alloc | with_reducible apply bel_drewN | with_reducible apply bel_drew | (with_reducible refine bel_set ?_ ?_; rotate_left; · first | (simp; done) | (simp; omega) | omega) | with_reducible refine bel_call (by assumption) ?_)

/-- What was left in a pixel. -/
def atC (b : B4) (cs : List Ce) (x y : Int) : Ce := if placeB b x y = true then cs.getD (placeN b x y).toNat (0, 0) else (0, 0)

set_option maxRecDepth 20000 in
set_option maxHeartbeats 4000000 in
theorem At_any (h : Cc w g k b cs) (x y : Int) : Calls Try.prog 62 #[.pointer (some ⟨g, 0, none⟩), .int .i64 x, .int .i64 y] w fun e w' => e = .returned (.tuple #[.int .i64 (atC b cs x y).1, .int .i64 (atC b cs x y).2]) ∧ Below w.heap.size w w' := by
  have gl := h.blk.lt
  have ha := fun w' hb => at_any (h.keepB (w' := w') hb) x y
  unfold AtR at ha
  cases hp : placeB b x y with
  | false =>
    have e0 : atC b cs x y = (0, 0) := if_neg (by rw [hp]; decide)
    rw [e0]
    rw [hp, if_neg (by decide)] at ha
    have HA := Lib.hid ha
    clear ha hp e0 h
    go_enter Try.func62, Try.ntmps62
    go_wp2_with (first | (go_at_call 84; (with_reducible refine (HA.out _ ?_).mono ?_); (· refine Bel.below ?_; repeat (first | with_reducible exact bel_refl | with_reducible apply bel_alloc | with_reducible apply bel_drewN | with_reducible apply bel_drew | (with_reducible refine bel_set ?_ ?_; rotate_left; · first | (simp; done) | (simp; omega) | omega) | with_reducible refine bel_call (by assumption) ?_)); rintro e w1 ⟨rfl, hb1⟩; obtain ⟨hc1, hf1, hz1⟩ := bcell hb1; (try simp at hz1)))
    go_ret2
    refine ⟨rfl, Bel.below ?_⟩
    repeat (first | with_reducible exact bel_refl | with_reducible apply bel_alloc | with_reducible apply bel_drewN | with_reducible apply bel_drew | (with_reducible refine bel_set ?_ ?_; rotate_left; · first | (simp; done) | (simp; omega) | omega) | with_reducible refine bel_call (by assumption) ?_)
  | true =>
    have e0 : atC b cs x y = cs.getD (placeN b x y).toNat (0, 0) := if_pos hp
    rw [e0]
    rw [hp, if_pos rfl] at ha
    obtain ⟨p1, p2, -, -⟩ := place_bd h.box hp
    have hlen := h.len
    rw [← hlen] at p2
    obtain ⟨n, hn⟩ : ∃ n : Nat, placeN b x y = n := ⟨(placeN b x y).toNat, by omega⟩
    rw [hn] at ha p1 p2 ⊢
    rw [Int.toNat_natCast]
    have hnl : n < cs.length := by omega
    have hg : cs.getD n (0, 0) = cs[n] := by simp [List.getD, hnl]
    rw [hg]
    obtain ⟨k1, k2⟩ := cvs_at cs n cs[n] (List.getElem?_eq_getElem hnl)
    have q1 : w.cell? ⟨k, n * 2, none⟩ = some (.int .i64 cs[n].1) := (h.row.cell (n * 2)).trans k1
    have q2 : w.cell? ⟨k, n * 2 + 1, none⟩ = some (.int .i64 cs[n].2) := (h.row.cell (n * 2 + 1)).trans k2
    have c5 : w.cell? ⟨g, 5, none⟩ = some (.slice (some ⟨k, 0, none⟩) cs.length cs.length) := h.blk.cell 5
    have kl := h.row.lt
    have hbd := h.bd
    generalize cs[n] = z at *
    obtain ⟨z1, z2⟩ := z
    dsimp only at *
    generalize cs.length = L at *
    have HA := Lib.hid ha
    clear ha hp e0 h hn hg hlen p1 p2 k1 k2
    go_enter Try.func62, Try.ntmps62
    go_wp2_with (first | (go_at_call 84; (with_reducible refine (HA.out _ ?_).mono ?_); (· refine Bel.below ?_; repeat (first | with_reducible exact bel_refl | with_reducible apply bel_alloc | with_reducible apply bel_drewN | with_reducible apply bel_drew | (with_reducible refine bel_set ?_ ?_; rotate_left; · first | (simp; done) | (simp; omega) | omega) | with_reducible refine bel_call (by assumption) ?_)); rintro e w1 ⟨rfl, hb1⟩; obtain ⟨hc1, hf1, hz1⟩ := bcell hb1; (try simp at hz1)))
    have k5 : w1.cell? ⟨g, 5, none⟩ = some (.slice (some ⟨k, 0, none⟩) L L) := (hb1.cell (p := ⟨g, 5, none⟩) gl).trans c5
    have k6 : w1.cell? ⟨k, n * 2, none⟩ = some (.int .i64 z1) := (hb1.cell (p := ⟨k, n * 2, none⟩) kl).trans q1
    have k7 : w1.cell? ⟨k, n * 2 + 1, none⟩ = some (.int .i64 z2) := (hb1.cell (p := ⟨k, n * 2 + 1, none⟩) kl).trans q2
    have HB := Lib.hid hb1
    have hnl' : (n : Int) < (L : Int) := by omega
    clear hb1 hc1 hf1 c5 q1 q2
    go_region
    all_goals
      go_wp2_with fail
      go_ret2
      exact ⟨rfl, HB.out.trans ((bel_drewN bel_refl).below.mono HB.out.size)⟩

end

set_option maxRecDepth 20000 in
theorem at_nil (x y : Int) (w : World) : Calls Try.prog 84 #[.pointer none, .int .i64 x, .int .i64 y] w fun e w' => e = .returned (.tuple #[.int .i64 0, .bool false]) ∧ Below w.heap.size w w' := by
  go_enter Try.func84, Try.ntmps84
  go_wp2_with fail
  refine wp_region_bw_lit (by kernel_rfl) (by kernel_rfl) ?_
  repeat (go_big_quiet_step (fail))
  refine wpQuiet_nil ?_
  rintro _ ⟨u, rfl⟩
  have hbu := u.prop
  have hzu := u.prop.size
  try simp at hzu
  go_wp2_with fail
  go_ret2
  exact ⟨rfl, hbu⟩

set_option maxRecDepth 20000 in
theorem At_nil (x y : Int) (w : World) : Calls Try.prog 62 #[.pointer none, .int .i64 x, .int .i64 y] w fun e w' => e = .returned (.tuple #[.int .i64 0, .int .i64 0]) ∧ Below w.heap.size w w' := by
  go_enter Try.func62, Try.ntmps62
  go_wp2_with (first | (go_at_call 84; refine (at_nil x y _).mono ?_; rintro e w1 ⟨rfl, hb1⟩; obtain ⟨hc1, hf1, hz1⟩ := bcell hb1; (try simp at hz1)))
  go_ret2
  refine ⟨rfl, Bel.below ?_⟩
  repeat (first | with_reducible exact bel_refl | with_reducible apply bel_alloc | with_reducible apply bel_drewN | with_reducible apply bel_drew | (with_reducible refine bel_set ?_ ?_; rotate_left; · first | (simp; done) | (simp; omega) | omega) | with_reducible refine bel_call (by assumption) ?_)

set_option maxRecDepth 20000 in
theorem Line_nil (a d : Dt) (w : World) : Calls Try.prog 59 #[.pointer none, .agg #[.int .i64 a.1, .int .i64 a.2], .agg #[.int .i64 d.1, .int .i64 d.2]] w fun e w' => e = .returned (.int .i64 6) ∧ Below w.heap.size w w' := by
  go_enter Try.func59, Try.ntmps59
  go_wp2_with fail
  go_ret
  refine ⟨rfl, Bel.below ?_⟩
  repeat (first | with_reducible exact bel_refl | with_reducible apply bel_alloc | with_reducible apply bel_drewN | with_reducible apply bel_drew | (with_reducible refine bel_set ?_ ?_; rotate_left; · first | (simp; done) | (simp; omega) | omega) | with_reducible refine bel_call (by assumption) ?_)

end Go.Proofs.Ytbflncfhbmlibaa
