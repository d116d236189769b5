/-
  Layer 22: new cells.
-/
import Derived.Test.YtbflncfhbmlibaaCoG
import Derived.Test.YtbflncfhbmlibaaCvB
import Derived.Laws.MakeOwn
import Derived.Deep.LoopGhost

namespace Go.Proofs.Ytbflncfhbmlibaa

open Go.RowKit Go.Shelf

theorem cell_info : (Try.prog.info? 116).map (fun i => (i.zero, i.size, i.bytes)) = some (some (.agg #[.int .i64 0, .int .i64 0]), 2, 16) := by kernel_rfl

theorem int_info : (Try.prog.info? 3).map (fun i => (i.zero, i.size, i.bytes)) = some (some (.int .i64 0), 1, 8) := by kernel_rfl

def zerC (n : Nat) : List Ce := List.replicate n (0, 0)

theorem cvs_zero (n : Nat) : cvs (zerC n) = List.replicate (n * 2) (.int .i64 0) := by
  unfold cvs zerC
  induction n with
  | zero => rfl
  | succ n ih => rw [List.replicate_succ, List.flatMap_cons, ih, show (n + 1) * 2 = 2 + n * 2 by omega, ← List.replicate_append_replicate]; rfl

set_option maxRecDepth 20000 in
theorem make_cells (n : Nat) (h : n ≤ 16777216) (w : World) : (Instr.makeSlice 107 (.int .i64 n) (.int .i64 n)).run Try.prog w =
    .ok (.slice (some ⟨w.heap.size, 0, none⟩) n n) (w.alloc (.cells (cvs (zerC n)).toArray 116)) := by
  obtain ⟨i, hi, hz, hs, hb⟩ := info_parts cell_info
  rw [run_make w 107 116 i _ Try.underlying107 hi hz .i64 .i64 n n (by omega) (Int.le_refl _) (by rw [hb]; omega) (by omega)]
  simp only [Int.toNat_natCast, hs, cvs_zero]
  congr 3
  apply Array.ext
  · simp [madeCells]
  · intro i h1 h2
    rcases Nat.mod_two_eq_zero_or_one i with e | e <;> simp [madeCells, Value.cells, e]

set_option maxRecDepth 20000 in
theorem make_ints (n : Nat) (h : n ≤ 16777216) (w : World) : (Instr.makeSlice 76 (.int .i64 n) (.int .i64 n)).run Try.prog w =
    .ok (.slice (some ⟨w.heap.size, 0, none⟩) n n) (w.alloc (.cells (List.replicate n (.int .i64 0)).toArray 3)) := by
  obtain ⟨i, hi, hz, hs, hb⟩ := info_parts int_info
  rw [run_make w 76 3 i _ Try.underlying76 hi hz .i64 .i64 n n (by omega) (Int.le_refl _) (by rw [hb]; omega) (by omega)]
  simp only [Int.toNat_natCast, hs, Nat.mul_one]
  congr 3
  apply Array.ext
  · simp [madeCells]
  · intro i h1 h2
    simp [madeCells, Value.cells, Nat.mod_one]

theorem BoxOk.of {b : B4} (h : cellE b.x0 b.y0 b.x1 b.y1 = 0) : BoxOk b := by
  obtain ⟨_, h1, h2, h3, h4, h5, h6, h7⟩ := cellE_zero.1 h
  exact ⟨h3, h5, h1, h4, h6, h2, h7⟩

def numB (b : B4) : Nat := (widB b * (b.y1 - b.y0)).toNat

theorem BoxOk.num {b : B4} (h : BoxOk b) : (numB b : Int) = widB b * (b.y1 - b.y0) ∧ numB b ≤ 4227072 := by
  have hw := h.wid
  have h1 : 0 ≤ widB b * (b.y1 - b.y0) := Int.mul_nonneg (by omega) (by have := h.y; omega)
  have h2 : widB b * (b.y1 - b.y0) = (b.x1 - b.x0) * (b.y1 - b.y0) + (b.y1 - b.y0) := by unfold widB; rw [Int.add_mul, Int.one_mul]
  have := h.area
  have := h.y0; have := h.y1
  unfold numB
  omega

@[go_sem ↓] theorem idx4_0 (a b c d : Int) (w : World) : (Instr.index 105 (.agg #[.int .i64 a, .int .i64 b, .int .i64 c, .int .i64 d]) (.int .i64 0)).run Try.prog w = .ok (.int .i64 a) w := by kernel_rfl

@[go_sem ↓] theorem idx4_1 (a b c d : Int) (w : World) : (Instr.index 105 (.agg #[.int .i64 a, .int .i64 b, .int .i64 c, .int .i64 d]) (.int .i64 1)).run Try.prog w = .ok (.int .i64 b) w := by kernel_rfl

@[go_sem ↓] theorem idx4_2 (a b c d : Int) (w : World) : (Instr.index 105 (.agg #[.int .i64 a, .int .i64 b, .int .i64 c, .int .i64 d]) (.int .i64 2)).run Try.prog w = .ok (.int .i64 c) w := by kernel_rfl

@[go_sem ↓] theorem idx4_3 (a b c d : Int) (w : World) : (Instr.index 105 (.agg #[.int .i64 a, .int .i64 b, .int .i64 c, .int .i64 d]) (.int .i64 3)).run Try.prog w = .ok (.int .i64 d) w := by kernel_rfl

def NewNo (b : B4) (w : World) (e : Ending) (w' : World) : Prop := e = .returned (.tuple #[.pointer none, .int .i64 (cellE b.x0 b.y0 b.x1 b.y1)]) ∧ Below w.heap.size w w'

def NewYes (b : B4) (w : World) (e : Ending) (w' : World) : Prop := ∃ g k, e = .returned (.tuple #[.pointer (some ⟨g, 0, none⟩), .int .i64 0]) ∧ Cc w' g k b (zerC (numB b)) ∧ w.heap.size ≤ g ∧ w.heap.size ≤ k ∧ Below w.heap.size w w'

def NewR (b : B4) (w : World) (e : Ending) (w' : World) : Prop := if cellE b.x0 b.y0 b.x1 b.y1 = 0 then NewYes b w e w' else NewNo b w e w'

def inM (x : Int) : Bool := withinB x (-16384) 16384

def numsB (b : B4) (k : Nat) : Int := match k with | 0 => b.x0 | 1 => b.y0 | 2 => b.x1 | _ => b.y1

def NwI (b : B4) (W : World) (r : Nat) (i : Value) (wr : World) : Prop := r ≤ 4 ∧ i = .int .i64 ((4 - r : Nat) : Int) ∧ wr = W ∧ ∀ j, j < 4 - r → inM (numsB b j) = true

set_option maxRecDepth 20000 in
set_option maxHeartbeats 4000000 in
theorem New_any (b : B4) (w : World) : Calls Try.prog 55 #[.agg #[.int .i64 b.x0, .int .i64 b.y0, .int .i64 b.x1, .int .i64 b.y1]] w (NewR b w) := by
  rcases Bool.eq_false_or_eq_true (bB b.x0 b.y0 b.x1 b.y1) with h1 | h1
  rotate_left
  · have hA : cellE b.x0 b.y0 b.x1 b.y1 = 1 := by simp [cellE, h1]
    have hN : NewR b w = NewNo b w := by funext e w'; unfold NewR; rw [if_neg (by rw [hA]; decide)]
    rw [hN]
    unfold NewNo
    rw [hA]
    have KB := fun w => MayBox_any b.x0 b.y0 b.x1 b.y1 w
    rw [h1] at KB
    have HB := Lib.hid KB
    clear KB hA hN h1
    go_enter Try.func55, Try.ntmps55
    go_wp2_with (first | (go_at_call 66; refine (HB.out _).mono ?_; rintro e w1 ⟨rfl, hb1⟩; obtain ⟨hc1, hf1, hz1⟩ := bcell hb1; (try simp at hz1)))
    go_ret2
    refine ⟨rfl, Bel.below ?_⟩
    repeat (first | with_reducible exact bel_refl | with_reducible apply bel_alloc | with_reducible apply bel_drewN | with_reducible apply bel_drew | (with_reducible refine bel_set ?_ ?_; rotate_left; · first | (simp; done) | (simp; omega) | omega) | with_reducible refine bel_call (by assumption) ?_)
  rcases Bool.eq_false_or_eq_true (emptyB b.x0 b.y0 b.x1 b.y1) with h2 | h2
  · have hA : cellE b.x0 b.y0 b.x1 b.y1 = 1 := by simp [cellE, h1, h2]
    have hN : NewR b w = NewNo b w := by funext e w'; unfold NewR; rw [if_neg (by rw [hA]; decide)]
    rw [hN]
    unfold NewNo
    rw [hA]
    have KB := fun w => MayBox_any b.x0 b.y0 b.x1 b.y1 w
    have KE := fun w => Empty_any b.x0 b.y0 b.x1 b.y1 w
    rw [h1] at KB
    rw [h2] at KE
    have HB := Lib.hid KB
    have HE := Lib.hid KE
    clear KB KE hA hN h1 h2
    go_enter Try.func55, Try.ntmps55
    go_wp2_with (first | (go_at_call 66; refine (HB.out _).mono ?_; rintro e w1 ⟨rfl, hb1⟩; obtain ⟨hc1, hf1, hz1⟩ := bcell hb1; (try simp at hz1)) | (go_at_call 53; refine (HE.out _).mono ?_; rintro e w1 ⟨rfl, hb1⟩; obtain ⟨hc1, hf1, hz1⟩ := bcell hb1; (try simp at hz1)))
    go_ret2
    refine ⟨rfl, Bel.below ?_⟩
    repeat (first | with_reducible exact bel_refl | with_reducible apply bel_alloc | with_reducible apply bel_drewN | with_reducible apply bel_drew | (with_reducible refine bel_set ?_ ?_; rotate_left; · first | (simp; done) | (simp; omega) | omega) | with_reducible refine bel_call (by assumption) ?_)
  have KB := fun w => MayBox_any b.x0 b.y0 b.x1 b.y1 w
  have KE := fun w => Empty_any b.x0 b.y0 b.x1 b.y1 w
  have HH1 := Lib.hid h1
  have HH2 := Lib.hid h2
  have hx := bB_true h1
  rw [h1] at KB
  rw [h2] at KE
  have HB := Lib.hid KB
  have HE := Lib.hid KE
  clear KB KE h1 h2
  obtain ⟨x0, y0, x1, y1⟩ := b
  dsimp only at *
  go_enter Try.func55, Try.ntmps55
  go_wp2_with (first
    | (go_at_call 66; (with_reducible refine (HB.out _).mono ?_); rintro e w1 ⟨rfl, hb1⟩; obtain ⟨hc1, hf1, hz1⟩ := bcell hb1; (try simp at hz1); have HB1 := Lib.hid hb1; clear hb1)
    | (go_at_call 53; (with_reducible refine (HE.out _).mono ?_); rintro e w2 ⟨rfl, hb2⟩; obtain ⟨hc2, hf2, hz2⟩ := bcell hb2; (try simp at hz2); have HB2 := Lib.hid hb2; clear hb2))
  have hbe1 : Below (w.heap.size + 1) (w.alloc (.cells #[.int .i64 x0, .int .i64 y0, .int .i64 x1, .int .i64 y1] 26)) w2 := (HB1.out.trans (HB2.out.mono (by simp; omega))).mono (by simp)
  have HBX : Hid (Blk w2 w.heap.size 26 [.int .i64 x0, .int .i64 y0, .int .i64 x1, .int .i64 y1]) := Lib.hid ((Blk.newAt w 26 [_, _, _, _] rfl).below hbe1 (by omega))
  have HBL : Hid (Below w.heap.size w w2) := Lib.hid ((bel_alloc bel_refl).below.trans (hbe1.mono (by omega)))
  have hwz : w.heap.size < w2.heap.size := by omega
  have hbad : ∀ j, j < 4 → inM (numsB ⟨x0, y0, x1, y1⟩ j) = false → cellE x0 y0 x1 y1 = 220 := fun j hj hf => by
    obtain ⟨he, he'⟩ := emptyB_false.1 HH2.out
    simp only [cellE, HH1.out, HH2.out]
    rw [if_neg (by decide), if_neg (by decide), if_pos]
    have hf' : ¬ (-16384 ≤ numsB ⟨x0, y0, x1, y1⟩ j ∧ numsB ⟨x0, y0, x1, y1⟩ j ≤ 16384) := fun h => by
      have := (withinB_true (x := numsB ⟨x0, y0, x1, y1⟩ j) (a := -16384) (b := 16384)).2 h
      unfold inM at hf
      rw [this] at hf
      cases hf
    rcases (show j = 0 ∨ j = 1 ∨ j = 2 ∨ j = 3 by omega) with rfl | rfl | rfl | rfl <;> simp only [numsB] at hf' <;> omega
  clear hc1 hc2 hf1 hf2 hbe1 HB1 HB2 HB HE
  go_loopg [24] 4 (fun r i wr => NwI ⟨x0, y0, x1, y1⟩ w2 r i wr)
  case atStart => exact ⟨Nat.le_refl _, rfl, rfl, fun j hj => by omega⟩
  case round =>
    obtain ⟨hr, rfl, rfl, hall⟩ := hrel
    rcases (show gk = 4 ∨ gk = 3 ∨ gk = 2 ∨ gk = 1 ∨ gk = 0 by omega) with rfl | rfl | rfl | rfl | rfl
    all_goals clear hr
    · rw [show ((4 - 4 : Nat) : Int) = 0 from rfl]
      have hin : inM x0 = true ∨ inM x0 = false := by cases inM x0 <;> simp
      have KW := fun w => cwithin_any x0 (-16384) 16384 w
      rcases hin with hin | hin
      · rw [show withinB x0 (-16384) 16384 = true from hin] at KW
        have HW := Lib.hid KW
        have hfin : NwI ⟨x0, y0, x1, y1⟩ wr 3 (.int .i64 1) wr := ⟨by omega, rfl, rfl, fun j hj => by
          rcases Nat.lt_or_ge j 0 with h | h
          · exact hall j (by omega)
          · obtain rfl : j = 0 := by omega
            exact hin⟩
        have HF := Lib.hid hfin
        clear KW hfin hall hin
        go_wp2_with (first | (go_at_call 79; refine (HW.out _).mono ?_; rintro e w1 ⟨rfl, rfl⟩))
        go_roundg 3
        case rel => exact HF.out
        case measure => omega
      · rw [show withinB x0 (-16384) 16384 = false from hin] at KW
        have HW := Lib.hid KW
        have hA : cellE x0 y0 x1 y1 = 220 := hbad 0 (by omega) hin
        have HA := Lib.hid hA
        clear KW hall hin hA
        go_wp2_with (first | (go_at_call 79; refine (HW.out _).mono ?_; rintro e w1 ⟨rfl, rfl⟩))
        go_ret2
        unfold NewR
        rw [if_neg (by show ¬ cellE x0 y0 x1 y1 = 0; rw [HA.out]; decide)]
        refine ⟨by rw [HA.out]; rfl, HBL.out⟩
    · rw [show ((4 - 3 : Nat) : Int) = 1 from rfl]
      have hin : inM y0 = true ∨ inM y0 = false := by cases inM y0 <;> simp
      have KW := fun w => cwithin_any y0 (-16384) 16384 w
      rcases hin with hin | hin
      · rw [show withinB y0 (-16384) 16384 = true from hin] at KW
        have HW := Lib.hid KW
        have hfin : NwI ⟨x0, y0, x1, y1⟩ wr 2 (.int .i64 2) wr := ⟨by omega, rfl, rfl, fun j hj => by
          rcases Nat.lt_or_ge j 1 with h | h
          · exact hall j (by omega)
          · obtain rfl : j = 1 := by omega
            exact hin⟩
        have HF := Lib.hid hfin
        clear KW hfin hall hin
        go_wp2_with (first | (go_at_call 79; refine (HW.out _).mono ?_; rintro e w1 ⟨rfl, rfl⟩))
        go_roundg 2
        case rel => exact HF.out
        case measure => omega
      · rw [show withinB y0 (-16384) 16384 = false from hin] at KW
        have HW := Lib.hid KW
        have hA : cellE x0 y0 x1 y1 = 220 := hbad 1 (by omega) hin
        have HA := Lib.hid hA
        clear KW hall hin hA
        go_wp2_with (first | (go_at_call 79; refine (HW.out _).mono ?_; rintro e w1 ⟨rfl, rfl⟩))
        go_ret2
        unfold NewR
        rw [if_neg (by show ¬ cellE x0 y0 x1 y1 = 0; rw [HA.out]; decide)]
        refine ⟨by rw [HA.out]; rfl, HBL.out⟩
    · rw [show ((4 - 2 : Nat) : Int) = 2 from rfl]
      have hin : inM x1 = true ∨ inM x1 = false := by cases inM x1 <;> simp
      have KW := fun w => cwithin_any x1 (-16384) 16384 w
      rcases hin with hin | hin
      · rw [show withinB x1 (-16384) 16384 = true from hin] at KW
        have HW := Lib.hid KW
        have hfin : NwI ⟨x0, y0, x1, y1⟩ wr 1 (.int .i64 3) wr := ⟨by omega, rfl, rfl, fun j hj => by
          rcases Nat.lt_or_ge j 2 with h | h
          · exact hall j (by omega)
          · obtain rfl : j = 2 := by omega
            exact hin⟩
        have HF := Lib.hid hfin
        clear KW hfin hall hin
        go_wp2_with (first | (go_at_call 79; refine (HW.out _).mono ?_; rintro e w1 ⟨rfl, rfl⟩))
        go_roundg 1
        case rel => exact HF.out
        case measure => omega
      · rw [show withinB x1 (-16384) 16384 = false from hin] at KW
        have HW := Lib.hid KW
        have hA : cellE x0 y0 x1 y1 = 220 := hbad 2 (by omega) hin
        have HA := Lib.hid hA
        clear KW hall hin hA
        go_wp2_with (first | (go_at_call 79; refine (HW.out _).mono ?_; rintro e w1 ⟨rfl, rfl⟩))
        go_ret2
        unfold NewR
        rw [if_neg (by show ¬ cellE x0 y0 x1 y1 = 0; rw [HA.out]; decide)]
        refine ⟨by rw [HA.out]; rfl, HBL.out⟩
    · rw [show ((4 - 1 : Nat) : Int) = 3 from rfl]
      have hin : inM y1 = true ∨ inM y1 = false := by cases inM y1 <;> simp
      have KW := fun w => cwithin_any y1 (-16384) 16384 w
      rcases hin with hin | hin
      · rw [show withinB y1 (-16384) 16384 = true from hin] at KW
        have HW := Lib.hid KW
        have hfin : NwI ⟨x0, y0, x1, y1⟩ wr 0 (.int .i64 4) wr := ⟨by omega, rfl, rfl, fun j hj => by
          rcases Nat.lt_or_ge j 3 with h | h
          · exact hall j (by omega)
          · obtain rfl : j = 3 := by omega
            exact hin⟩
        have HF := Lib.hid hfin
        clear KW hfin hall hin
        go_wp2_with (first | (go_at_call 79; refine (HW.out _).mono ?_; rintro e w1 ⟨rfl, rfl⟩))
        go_roundg 0
        case rel => exact HF.out
        case measure => omega
      · rw [show withinB y1 (-16384) 16384 = false from hin] at KW
        have HW := Lib.hid KW
        have hA : cellE x0 y0 x1 y1 = 220 := hbad 3 (by omega) hin
        have HA := Lib.hid hA
        clear KW hall hin hA
        go_wp2_with (first | (go_at_call 79; refine (HW.out _).mono ?_; rintro e w1 ⟨rfl, rfl⟩))
        go_ret2
        unfold NewR
        rw [if_neg (by show ¬ cellE x0 y0 x1 y1 = 0; rw [HA.out]; decide)]
        refine ⟨by rw [HA.out]; rfl, HBL.out⟩
    · rw [show ((4 - 0 : Nat) : Int) = 4 from rfl]
      have i0 := withinB_true.1 (hall 0 (by omega))
      have i1 := withinB_true.1 (hall 1 (by omega))
      have i2 := withinB_true.1 (hall 2 (by omega))
      have i3 := withinB_true.1 (hall 3 (by omega))
      simp only [numsB] at i0 i1 i2 i3
      obtain ⟨he, he'⟩ := emptyB_false.1 HH2.out
      have hp := prod_small he he' i0.1 i1.1 i2.2 i3.2
      have hA : cellE x0 y0 x1 y1 = if 4194304 < (x1 - x0) * (y1 - y0) then 220 else 0 := by
        simp only [cellE, HH1.out, HH2.out]; rw [if_neg (by decide), if_neg (by decide)]
        by_cases h : 4194304 < (x1 - x0) * (y1 - y0)
        · rw [if_pos (by omega), if_pos h]
        · rw [if_neg (by omega), if_neg h]
      obtain ⟨i0a, i0b⟩ := i0
      obtain ⟨i1a, i1b⟩ := i1
      obtain ⟨i2a, i2b⟩ := i2
      obtain ⟨i3a, i3b⟩ := i3
      have c0 : wr.cell? ⟨w.heap.size, 0, none⟩ = some (.int .i64 x0) := HBX.out.cell 0
      have c1 : wr.cell? ⟨w.heap.size, 1, none⟩ = some (.int .i64 y0) := HBX.out.cell 1
      have c2 : wr.cell? ⟨w.heap.size, 2, none⟩ = some (.int .i64 x1) := HBX.out.cell 2
      have c3 : wr.cell? ⟨w.heap.size, 3, none⟩ = some (.int .i64 y1) := HBX.out.cell 3
      obtain ⟨m, hm⟩ : ∃ m, (x1 - x0) * (y1 - y0) = m := ⟨_, rfl⟩
      rw [hm] at hA hp
      obtain ⟨hp1, hp2⟩ := hp
      have r1 : IntKind.i64.wrap (x1 - x0) = x1 - x0 := IntWalk.i64_in _ (by omega)
      have r2 : IntKind.i64.wrap (y1 - y0) = y1 - y0 := IntWalk.i64_in _ (by omega)
      have hw : wrap64 ((x1 - x0) * (y1 - y0)) = m := by rw [hm]; exact IntWalk.wrap64_in _ (by omega)
      have HA := Lib.hid hA
      have HMM := Lib.hid hm
      clear hA hm hall hx
      by_cases hbig : 4194304 < m
      · go_wp2_with fail
        go_quiet (fail)
        clear r1 r2
        go_wp2_with fail
        go_ret2
        unfold NewR
        rw [if_neg (by show ¬ cellE x0 y0 x1 y1 = 0; rw [HA.out, if_pos hbig]; decide)]
        exact ⟨by rw [HA.out, if_pos hbig]; rfl, HBL.out.trans ((bel_drewN bel_refl).below.mono HBL.out.size)⟩
      · have hc0 : cellE x0 y0 x1 y1 = 0 := by rw [HA.out, if_neg hbig]
        have hok := BoxOk.of (b := ⟨x0, y0, x1, y1⟩) hc0
        obtain ⟨hn1, hn2⟩ := hok.num
        obtain ⟨nn, hnn⟩ : ∃ nn, numB ⟨x0, y0, x1, y1⟩ = nn := ⟨_, rfl⟩
        rw [hnn] at hn1 hn2
        have hwd : widB ⟨x0, y0, x1, y1⟩ = x1 - x0 + 1 := rfl
        rw [hwd] at hn1
        have hw2 : IntKind.i64.wrap ((x1 - x0 + 1) * (y1 - y0)) = nn := by
          rw [← hn1]; exact IntWalk.i64_in _ (by omega)
        have r3 : IntKind.i64.wrap (x1 - x0 + 1) = x1 - x0 + 1 := IntWalk.i64_in _ (by omega)
        have hmk := fun W => make_cells nn (by omega) W
        have HN1 := Lib.hid hn1
        have HOK := Lib.hid hok
        have HC0 := Lib.hid hc0
        have HNN := Lib.hid hnn
        have hbl : ¬ 4194304 < m := hbig
        have HMK := Lib.hid (And.intro hw2 (And.intro r3 hmk))
        clear hn1 hok hc0 hnn hwd hw2 r3 hmk hbig
        go_wp2_with fail
        go_quiet (fail)
        clear r1 r2
        obtain ⟨hw2, r3, hmk⟩ := HMK.out
        go_wp2_with fail
        have hsz : nq ≤ nq := Nat.le_refl _
        go_region
        all_goals
          go_wp2_with fail
          go_ret2
          unfold NewR
          rw [if_pos HC0.out]
          unfold NewYes
          rw [HNN.out]
          have hlen : (zerC nn).length = nn := by simp [zerC]
          refine ⟨wr.heap.size + 1, wr.heap.size, rfl, ⟨?_, ?_, ?_, HOK.out⟩, by omega, by omega, ?_⟩
          · rw [hlen]
            exact Blk.newAt _ _ [_, _, _, _, _, _] (by simp)
          · exact (Blk.newAt _ _ _ (by simp)).alloc _
          · rw [hlen]; exact HN1.out
          · exact HBL.out.trans ((bel_alloc (bel_alloc (bel_drewN bel_refl))).below.mono HBL.out.size)

end Go.Proofs.Ytbflncfhbmlibaa
