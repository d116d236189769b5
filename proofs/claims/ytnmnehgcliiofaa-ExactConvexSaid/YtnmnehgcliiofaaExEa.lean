/-
  Layer 24: the document's Touches, near numbers (a).
-/
import Derived.Test.YtnmnehgcliiofaaExE
namespace Go.Proofs.Ytnmnehgcliiofaa
open Go.RowKit

section
variable {ax ay dx dy b0 b1 b2 b3 : Int} (w : World)
set_option maxRecDepth 20000 in
set_option maxHeartbeats 4000000 in
theorem rTouches_a (hT : (nearB ax ay dx dy b0 b1 b2 b3 && decide (b0 ≤ b2) && decide (b1 ≤ b3)) = true) (hx1 : b0 ≤ ax) (hx2 : ax ≤ b2) : Calls Try.prog 35 #[.agg #[.int .i64 ax, .int .i64 ay], .agg #[.int .i64 dx, .int .i64 dy], .agg #[.int .i64 b0, .int .i64 b1, .int .i64 b2, .int .i64 b3]] w fun e w' =>
      e = .returned (.bool (TouchB ax ay dx dy b0 b1 b2 b3)) ∧ Below w.heap.size w w' := by
  have K1 := Lib.hid (fits24_any ax)
  have K2 := Lib.hid (fits24_any ay)
  have K3 := Lib.hid (fits24_any dx)
  have K4 := Lib.hid (fits24_any dy)
  have K5 := Lib.hid (fits24_any b0)
  have K6 := Lib.hid (fits24_any b1)
  have K7 := Lib.hid (fits24_any b2)
  have K8 := Lib.hid (fits24_any b3)
  obtain ⟨W1, hW1⟩ : ∃ W1, (((w.alloc (.cells #[.int .i64 ax, .int .i64 ay] 72)).alloc (.cells #[.int .i64 dx, .int .i64 dy] 72)).alloc (.cells #[.int .i64 b0, .int .i64 b1, .int .i64 b2, .int .i64 b3] 32)) = W1 := ⟨_, rfl⟩
  have HB : Hid (Bel w.heap.size w W1) := Lib.hid (by rw [← hW1]; exact bel_alloc (bel_alloc (bel_alloc bel_refl)))
  have HX : Hid (Blk W1 w.heap.size 72 [.int .i64 ax, .int .i64 ay]) := Lib.hid (by rw [← hW1]; exact ((Blk.new w 72 [.int .i64 ax, .int .i64 ay]).alloc _).alloc _)
  have HY : Hid (Blk W1 (w.heap.size + 1) 72 [.int .i64 dx, .int .i64 dy]) := Lib.hid (by rw [← hW1]; exact (Blk.newAt (n := w.heap.size + 1) _ 72 [.int .i64 dx, .int .i64 dy] (by simp)).alloc _)
  have HZ : Hid (Blk W1 (w.heap.size + 1 + 1) 32 [.int .i64 b0, .int .i64 b1, .int .i64 b2, .int .i64 b3]) := Lib.hid (by rw [← hW1]; exact Blk.newAt (n := w.heap.size + 1 + 1) _ 32 [.int .i64 b0, .int .i64 b1, .int .i64 b2, .int .i64 b3] (by simp))
  have hT2 := hT
  simp only [Bool.and_eq_true, decide_eq_true_eq] at hT2
  obtain ⟨⟨hnb, hb02⟩, hb13⟩ := hT2
  have hf := hnb
  simp only [nearB, List.all_cons, List.all_nil, Bool.and_true, Bool.and_eq_true] at hf
  obtain ⟨f1, f2, f3, f4, f5, f6, f7, f8⟩ := hf
  rw [f1] at K1
  rw [f2] at K2
  rw [f3] at K3
  rw [f4] at K4
  rw [f5] at K5
  rw [f6] at K6
  rw [f7] at K7
  rw [f8] at K8
  clear f1 f2 f3 f4 f5 f6 f7 f8
  have he : TouchB ax ay dx dy b0 b1 b2 b3 = (nearB ax ay dx dy b0 b1 b2 b3 && decide (b0 ≤ b2) && decide (b1 ≤ b3) && touchB ax ay dx dy b0 b1 b2 b3) := rfl
  go_enter Try.func35, Try.ntmps35
  go_upto_region 1 with fail
  have x0 : W1.cell? ⟨w.heap.size, 0, none⟩ = _ := HX.out.cell 0
  have x1 : W1.cell? ⟨w.heap.size, 1, none⟩ = _ := HX.out.cell 1
  have y0 : W1.cell? ⟨w.heap.size + 1, 0, none⟩ = _ := HY.out.cell 0
  have y1 : W1.cell? ⟨w.heap.size + 1, 1, none⟩ = _ := HY.out.cell 1
  have z0 : W1.cell? ⟨w.heap.size + 1 + 1, 0, none⟩ = _ := HZ.out.cell 0
  have z1 : W1.cell? ⟨w.heap.size + 1 + 1, 1, none⟩ = _ := HZ.out.cell 1
  have z2 : W1.cell? ⟨w.heap.size + 1 + 1, 2, none⟩ = _ := HZ.out.cell 2
  have z3 : W1.cell? ⟨w.heap.size + 1 + 1, 3, none⟩ = _ := HZ.out.cell 3
  simp at x0 x1 y0 y1 z0 z1 z2 z3
  clear hW1
  go_upto_region 3 with (first
    | (go_at_call 64; (with_reducible refine (K1.out _).mono ?_); rintro e w1 ⟨rfl, rfl⟩) | (go_at_call 64; (with_reducible refine (K2.out _).mono ?_); rintro e w1 ⟨rfl, rfl⟩) | (go_at_call 64; (with_reducible refine (K3.out _).mono ?_); rintro e w1 ⟨rfl, rfl⟩) | (go_at_call 64; (with_reducible refine (K4.out _).mono ?_); rintro e w1 ⟨rfl, rfl⟩) | (go_at_call 64; (with_reducible refine (K5.out _).mono ?_); rintro e w1 ⟨rfl, rfl⟩) | (go_at_call 64; (with_reducible refine (K6.out _).mono ?_); rintro e w1 ⟨rfl, rfl⟩) | (go_at_call 64; (with_reducible refine (K7.out _).mono ?_); rintro e w1 ⟨rfl, rfl⟩) | (go_at_call 64; (with_reducible refine (K8.out _).mono ?_); rintro e w1 ⟨rfl, rfl⟩))
  clear K1 K2 K3 K4 K5 K6 K7 K8
  obtain ⟨n1, n2, n3, n4⟩ := (nearB_num hnb).p
  have he' : TouchB ax ay dx dy b0 b1 b2 b3 = touchB ax ay dx dy b0 b1 b2 b3 := by rw [he, hT]; simp
  have E := Lib.hid he'
  clear he he' hT hnb
  go_cut [124] (fun s wx => s = .bool (decide (apart ax ay dx dy b0 b1 b2 b3)) ∧ wx = W1)
  case first =>
    go_wp2_with fail
    all_goals go_meet
    all_goals
      refine ⟨congrArg Value.bool ?_, rfl⟩
      rw [Bool.eq_iff_iff, decide_eq_true_iff (p := apart ax ay dx dy b0 b1 b2 b3)]
      unfold apart
      first | (simp; done) | (simp; omega) | omega
  case rest =>
    obtain ⟨rfl, rfl⟩ := hcut
    by_cases h : apart ax ay dx dy b0 b1 b2 b3
    · rw [decide_eq_true h]
      have E2 : Hid (touchB ax ay dx dy b0 b1 b2 b3 = false) := Lib.hid (if_pos h)
      clear h
      go_wp2
      go_ret
      exact ⟨ret_bool' (by rw [E.out, E2.out]), HB.out.below⟩
    · rw [decide_eq_false h]
      have E2 : touchB ax ay dx dy b0 b1 b2 b3 = sidesB (crossI ax ay dx dy b0 b1) (crossI ax ay dx dy b2 b1) (crossI ax ay dx dy b0 b3) (crossI ax ay dx dy b2 b3) := if_neg h
      have K1 := fun w => rcross_any w n1
      have K2 := fun w => rcross_any w n2
      have K3 := fun w => rcross_any w n3
      have K4 := fun w => rcross_any w n4
      clear h n1 n2 n3 n4
      generalize crossI ax ay dx dy b0 b1 = p at *
      generalize crossI ax ay dx dy b2 b1 = q at *
      generalize crossI ax ay dx dy b0 b3 = r at *
      generalize crossI ax ay dx dy b2 b3 = s at *
      replace E2 := Lib.hid E2
      replace K1 := Lib.hid K1
      replace K2 := Lib.hid K2
      replace K3 := Lib.hid K3
      replace K4 := Lib.hid K4
      have hz := HZ.out.lt
      go_wp2_with fail
      refine wp_region_bw_tail 28 (by kernel_rfl) (by kernel_rfl) ?_
      simp only [List.take_succ_cons, List.take_zero, List.drop_succ_cons, List.drop_zero]
      repeat (go_big_quiet_step (first | (go_at_call 65; with_reducible exact Calls.bw_of (K1.out _)) | (go_at_call 65; with_reducible exact Calls.bw_of (K2.out _)) | (go_at_call 65; with_reducible exact Calls.bw_of (K3.out _)) | (go_at_call 65; with_reducible exact Calls.bw_of (K4.out _))))
      refine wpQuiet_nil ?_
      rintro _ ⟨u, rfl⟩
      have hbu := u.prop
      have hzu := u.prop.size
      try simp at hzu
      have HW := Lib.hid (bel_alloc (o := .cells #[.int .i64 p, .int .i64 q, .int .i64 r, .int .i64 s] 3) (bel_call hbu HB.out))
      have HS := Lib.hid (Blk.new u.val 3 [.int .i64 p, .int .i64 q, .int .i64 r, .int .i64 s])
      go_wp2_with fail
      obtain ⟨W4, hW4⟩ : ∃ W4, u.val.alloc (.cells #[.int .i64 p, .int .i64 q, .int .i64 r, .int .i64 s] 3) = W4 := ⟨_, rfl⟩
      obtain ⟨g, hg⟩ : ∃ g, u.val.heap.size = g := ⟨_, rfl⟩
      rw [hW4] at HW
      have hcell : ∀ k x, [p, q, r, s][k]? = some x → W4.cell? ⟨g, k, none⟩ = some (.int .i64 x) := fun k x hk => by
        rw [← hW4, ← hg, HS.out.cell k, show ([.int .i64 p, .int .i64 q, .int .i64 r, .int .i64 s] : List Value) = [p, q, r, s].map (Value.int .i64) from rfl, List.getElem?_map, hk]
        rfl
      rw [hW4, hg]
      have HC := Lib.hid hcell
      clear hW4 hg HS hcell hbu hzu x0 x1 y0 y1 z0 z1 z2 z3 K1 K2 K3 K4
      obtain ⟨xs, hxs⟩ : ∃ xs, xs = [p, q, r, s] := ⟨_, rfl⟩
      have HXS := Lib.hid hxs
      rw [← hxs] at HC
      clear hxs
      go_loop [8, 9, 10] (fun ab be i => ∃ k : Nat, k ≤ 4 ∧ i = .int .i64 k ∧ ab = .bool ((xs.take k).all fun x => decide (0 < x)) ∧ be = .bool ((xs.take k).all fun x => decide (x < 0))) (fun _ _ i => 4 - (intOf i).toNat)
      case atStart => exact ⟨0, Nat.zero_le _, rfl, rfl, rfl⟩
      case round =>
        obtain ⟨k, hk, rfl, rfl, rfl⟩ := hrel
        by_cases hlt : k < 4
        · obtain ⟨x, hx⟩ : ∃ x, xs[k]? = some x := ⟨xs[k]'(by rw [HXS.out]; exact hlt), List.getElem?_eq_getElem _⟩
          have hc := HC.out k x hx
          have e1 : (xs.take (k + 1)).all (fun x => decide (0 < x)) = ((xs.take k).all (fun x => decide (0 < x)) && decide (0 < x)) := by rw [List.take_add_one, hx]; simp
          have e2 : (xs.take (k + 1)).all (fun x => decide (x < 0)) = ((xs.take k).all (fun x => decide (x < 0)) && decide (x < 0)) := by rw [List.take_add_one, hx]; simp
          have F1 := Lib.hid e1
          have F2 := Lib.hid e2
          clear e1 e2 hx
          generalize (xs.take k).all (fun x => decide (0 < x)) = A1 at *
          generalize (xs.take k).all (fun x => decide (x < 0)) = A2 at *
          go_wp2_with fail
          all_goals
            refine ⟨⟨k + 1, by omega, by go_num, congrArg Value.bool ?_, congrArg Value.bool ?_⟩, by simp [intOf]; omega⟩
            · rw [F1.out]; simp [*]
            · rw [F2.out]; simp [*]
        · obtain rfl : k = 4 := by omega
          have e3 : sidesB p q r s = (!((xs.take 4).all fun x => decide (0 < x)) && !((xs.take 4).all fun x => decide (x < 0))) := by rw [sidesB_all, HXS.out]; simp [Bool.and_assoc]
          generalize (xs.take 4).all (fun x => decide (0 < x)) = A1 at *
          generalize (xs.take 4).all (fun x => decide (x < 0)) = A2 at *
          have F3 := Lib.hid e3
          clear e3
          go_wp2_with fail
          all_goals
            go_ret
            exact ⟨ret_bool' (by rw [E.out, E2.out, F3.out]; simp [*]), HW.out.below⟩
end
end Go.Proofs.Ytnmnehgcliiofaa
