/-
  Layer 22: CoverRows: a line that may be.
-/
import Derived.Test.YtbjggiihbdhmbaaCoS
namespace Go.Proofs.Ytbjggiihbdhmbaa
open Go.RowKit Go.Shelf

set_option maxRecDepth 100000 in
set_option maxHeartbeats 4000000 in
theorem coverRows_far (p q : Dt) (stop : Int) (w : World) (hp0 : dotB p = true) (hq0 : dotB q = true) (hfar : 25600 < (dnB p q).2 - (dnA p q).2) : Calls Try.prog 6 #[.agg #[.int .i64 p.1, .int .i64 p.2], .agg #[.int .i64 q.1, .int .i64 q.2], .int .i64 stop] w fun e w' => e = .returned (.bool true) ∧ Below w.heap.size w w' := by
  have hp := fun w => dot_any p w
  have hq := fun w => dot_any q w
  have hd := fun w => rDown_any p q w
  obtain ⟨fa, fd⟩ := dn_fit hp0 hq0
  rw [hp0] at hp
  rw [hq0] at hq
  have HP := Lib.hid hp
  have HQ := Lib.hid hq
  have fa' := dotB_true.1 fa
  have fd' := dotB_true.1 fd
  generalize dnA p q = A at *
  generalize dnB p q = D at *
  generalize dnS p q = sg at *
  obtain ⟨A1, A2⟩ := A
  obtain ⟨D1, D2⟩ := D
  dsimp only at *
  have s1 : IntKind.i64.wrap (D2 - A2) = D2 - A2 := IntWalk.i64_in _ (by omega)
  have HDN := Lib.hid hd
  clear hp hq hp0 hq0 hd fa fd
  obtain ⟨⟨x1, x2⟩, x3, x4⟩ := fa'
  obtain ⟨⟨y1, y2⟩, y3, y4⟩ := fd'
  refine (callsIn_wide (n := 9)).1 (callsIn_of_wp_marks Try.func6 rfl trivial ?_ rfl)
  simp only [Try.ntmps6, List.size_toArray, List.length_cons, List.length_nil, Nat.reduceAdd, Nat.reduceSub, Array.replicate_succ, Array.replicate_zero, List.push_toArray, List.append_toArray, List.nil_append, List.cons_append]
  refine wpIn_wide.2 ?_
  go_wp2_with (first
    | (go_at_call 20; (with_reducible refine (covRows_any p q _).mono ?_); rintro e w1 ⟨rfl, rfl⟩)
    | (go_at_call 10; (with_reducible refine (lives_any _).mono ?_); rintro e w2 ⟨rfl, hb2⟩; obtain ⟨hc2, hf2, hz2⟩ := bcell hb2; (try simp at hz2); have HB2 := Lib.hid hb2; clear hb2)
    | (go_at_call 21; (with_reducible refine (HP.out _).mono ?_); rintro e w3 ⟨rfl, hb3⟩; obtain ⟨hc3, hf3, hz3⟩ := bcell hb3; (try simp at hz3); have HB3 := Lib.hid hb3; clear hb3)
    | (go_at_call 21; (with_reducible refine (HQ.out _).mono ?_); rintro e w4 ⟨rfl, hb4⟩; obtain ⟨hc4, hf4, hz4⟩ := bcell hb4; (try simp at hz4); have HB4 := Lib.hid hb4; clear hb4)
    | (go_at_call 22; (with_reducible refine (HDN.out _).mono ?_); rintro e w5 ⟨rfl, hb5⟩; obtain ⟨hc5, hf5, hz5⟩ := bcell hb5; (try simp at hz5); have HB5 := Lib.hid hb5; clear hb5)
    | fail)
  have hal := bel_alloc (o := .cells #[.int .i64 q.1, .int .i64 q.2] 36) (bel_alloc (o := .cells #[.int .i64 p.1, .int .i64 p.2] 36) (bel_alloc (o := .cells #[.bool false] 4) (bel_alloc (o := .cells #[.int .i64 stop] 3) (bel_alloc (o := .cells #[.int .i64 q.1, .int .i64 q.2] 36) (bel_alloc (o := .cells #[.int .i64 p.1, .int .i64 p.2] 36) (bel_refl (a := w)))))))
  have hch : Below ((((((w.alloc (.cells #[.int .i64 p.1, .int .i64 p.2] 36)).alloc (.cells #[.int .i64 q.1, .int .i64 q.2] 36)).alloc (.cells #[.int .i64 stop] 3)).alloc (.cells #[.bool false] 4)).alloc (.cells #[.int .i64 p.1, .int .i64 p.2] 36)).alloc (.cells #[.int .i64 q.1, .int .i64 q.2] 36)).heap.size ((((((w.alloc (.cells #[.int .i64 p.1, .int .i64 p.2] 36)).alloc (.cells #[.int .i64 q.1, .int .i64 q.2] 36)).alloc (.cells #[.int .i64 stop] 3)).alloc (.cells #[.bool false] 4)).alloc (.cells #[.int .i64 p.1, .int .i64 p.2] 36)).alloc (.cells #[.int .i64 q.1, .int .i64 q.2] 36)) w5 := HB2.out.trans ((HB3.out.mono HB2.out.size).trans ((HB4.out.mono (Nat.le_trans HB2.out.size HB3.out.size)).trans (HB5.out.mono (Nat.le_trans HB2.out.size (Nat.le_trans HB3.out.size HB4.out.size)))))
  have hR := ((((Blk.newAt (n := w.heap.size + 1 + 1 + 1) (((w.alloc (.cells #[.int .i64 p.1, .int .i64 p.2] 36)).alloc (.cells #[.int .i64 q.1, .int .i64 q.2] 36)).alloc (.cells #[.int .i64 stop] 3)) 4 [.bool false] (by simp)).alloc (.cells #[.int .i64 p.1, .int .i64 p.2] 36)).alloc (.cells #[.int .i64 q.1, .int .i64 q.2] 36)).keepB hch)
  have hbw : Bel w.heap.size w w5 := ⟨hal.below.trans (hch.mono hal.below.size), Nat.le_trans hal.below.size hch.size⟩
  have hR7 := ((hR.alloc (.cells #[.int .i64 A1, .int .i64 A2] 36)).alloc (.cells #[.int .i64 D1, .int .i64 D2] 36)).set 0 (.bool true)
  have c7 := hR7.cell 0
  have hX := (bel_alloc (o := .cells #[.int .i64 D1, .int .i64 D2] 36) (bel_alloc (o := .cells #[.int .i64 A1, .int .i64 A2] 36) hbw)).below.setCell (p := ⟨w.heap.size + 1 + 1 + 1, 0, none⟩) (by simp; omega) (.bool true)
  refine ⟨.bool true, ?_, rfl, hX⟩
  simp only [List.set_cons_zero, List.getElem?_cons_zero] at c7
  simp [results, Try.f6, go_sem, c7]
end Go.Proofs.Ytbjggiihbdhmbaa
