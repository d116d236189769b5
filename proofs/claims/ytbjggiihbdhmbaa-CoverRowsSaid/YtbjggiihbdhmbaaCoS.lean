/-
  Layer 22: CoverRows.
-/
import Derived.Test.YtbjggiihbdhmbaaCoR
namespace Go.Proofs.Ytbjggiihbdhmbaa
open Go.RowKit Go.Shelf

theorem none_stable {w0 : World} {n : Nat} : BStable n (fun (_ : List Pc) W => Below n w0 W) := fun _ _ _ h hb => h.trans hb
set_option maxRecDepth 100000 in
set_option maxHeartbeats 4000000 in
theorem coverRows_no (p q : Dt) (stop : Int) (w : World) (hno : (dotB p && dotB q) = false) : Calls Try.prog 6 #[.agg #[.int .i64 p.1, .int .i64 p.2], .agg #[.int .i64 q.1, .int .i64 q.2], .int .i64 stop] w fun e w' => e = .returned (.bool true) ∧ Below w.heap.size w w' := by
  have hp := fun w => dot_any p w
  have hq := fun w => dot_any q w
  have HNO := Lib.hid hno
  cases h1 : dotB p with
  | false =>
    rw [h1] at hp
    have HP := Lib.hid hp
    clear hp hq hno h1
    refine (callsIn_wide (n := 9)).1 (callsIn_of_wp_marks Try.func6 rfl trivial ?_ rfl)
    simp only [Try.ntmps6, List.size_toArray, List.length_cons, List.length_nil, Nat.reduceAdd, Nat.reduceSub, Array.replicate_succ, Array.replicate_zero, List.push_toArray, List.append_toArray, List.nil_append, List.cons_append]
    refine wpIn_wide.2 ?_
    go_wp2_with (first
      | (go_at_call 20; (with_reducible refine (covRows_any p q _).mono ?_); rintro e w1 ⟨rfl, rfl⟩)
      | (go_at_call 10; (with_reducible refine (lives_any _).mono ?_); rintro e w2 ⟨rfl, hb2⟩; obtain ⟨hc2, hf2, hz2⟩ := bcell hb2; (try simp at hz2); have HB2 := Lib.hid hb2; clear hb2)
      | (go_at_call 21; (with_reducible refine (HP.out _).mono ?_); rintro e w3 ⟨rfl, hb3⟩; obtain ⟨hc3, hf3, hz3⟩ := bcell hb3; (try simp at hz3); have HB3 := Lib.hid hb3; clear hb3)
      | fail)
    have hal := bel_alloc (o := .cells #[.int .i64 q.1, .int .i64 q.2] 36) (bel_alloc (o := .cells #[.int .i64 p.1, .int .i64 p.2] 36) (bel_alloc (o := .cells #[.bool false] 4) (bel_alloc (o := .cells #[.int .i64 stop] 3) (bel_alloc (o := .cells #[.int .i64 q.1, .int .i64 q.2] 36) (bel_alloc (o := .cells #[.int .i64 p.1, .int .i64 p.2] 36) (bel_refl (a := w)))))))
    have hch : Below ((((((w.alloc (.cells #[.int .i64 p.1, .int .i64 p.2] 36)).alloc (.cells #[.int .i64 q.1, .int .i64 q.2] 36)).alloc (.cells #[.int .i64 stop] 3)).alloc (.cells #[.bool false] 4)).alloc (.cells #[.int .i64 p.1, .int .i64 p.2] 36)).alloc (.cells #[.int .i64 q.1, .int .i64 q.2] 36)).heap.size ((((((w.alloc (.cells #[.int .i64 p.1, .int .i64 p.2] 36)).alloc (.cells #[.int .i64 q.1, .int .i64 q.2] 36)).alloc (.cells #[.int .i64 stop] 3)).alloc (.cells #[.bool false] 4)).alloc (.cells #[.int .i64 p.1, .int .i64 p.2] 36)).alloc (.cells #[.int .i64 q.1, .int .i64 q.2] 36)) w3 := HB2.out.trans (HB3.out.mono HB2.out.size)
    have HPB := Lib.hid (((Blk.newAt (n := w.heap.size + 1 + 1 + 1 + 1) ((((w.alloc (.cells #[.int .i64 p.1, .int .i64 p.2] 36)).alloc (.cells #[.int .i64 q.1, .int .i64 q.2] 36)).alloc (.cells #[.int .i64 stop] 3)).alloc (.cells #[.bool false] 4)) 36 [.int .i64 p.1, .int .i64 p.2] (by simp)).alloc (.cells #[.int .i64 q.1, .int .i64 q.2] 36)).keepB hch)
    have HQB := Lib.hid ((Blk.newAt (n := w.heap.size + 1 + 1 + 1 + 1 + 1) (((((w.alloc (.cells #[.int .i64 p.1, .int .i64 p.2] 36)).alloc (.cells #[.int .i64 q.1, .int .i64 q.2] 36)).alloc (.cells #[.int .i64 stop] 3)).alloc (.cells #[.bool false] 4)).alloc (.cells #[.int .i64 p.1, .int .i64 p.2] 36)) 36 [.int .i64 q.1, .int .i64 q.2] (by simp)).keepB hch)
    have HRB := Lib.hid ((((Blk.newAt (n := w.heap.size + 1 + 1 + 1) (((w.alloc (.cells #[.int .i64 p.1, .int .i64 p.2] 36)).alloc (.cells #[.int .i64 q.1, .int .i64 q.2] 36)).alloc (.cells #[.int .i64 stop] 3)) 4 [.bool false] (by simp)).alloc (.cells #[.int .i64 p.1, .int .i64 p.2] 36)).alloc (.cells #[.int .i64 q.1, .int .i64 q.2] 36)).keepB hch)
    have HBW : Hid (Below w.heap.size w w3) := Lib.hid (hal.below.trans (hch.mono hal.below.size))
    have HZ : Hid (w.heap.size + 6 ≤ w3.heap.size) := Lib.hid (by have := hch.size; simp at this; omega)
    clear hal hch HB2 HB3 hc2 hf2 hc3 hf3 hz2 hz3
    refine (wpIn_wide (n := 9)).1 ?_
    refine wpIn_range_b (P := Try.prog) (n := 9) (gf := 42) (lb := #[.pointer (some ⟨w.heap.size + 1 + 1 + 1 + 1, 0, none⟩), .pointer (some ⟨w.heap.size + 1 + 1 + 1 + 1 + 1, 0, none⟩)]) rfl (enters_of Try.func42 (by kernel_rfl) rfl)
      (rows_none 8 (w.heap.size + 1 + 1 + 1 + 1) (w.heap.size + 1 + 1 + 1 + 1 + 1) HPB.out HQB.out HNO.out (Kp := fun _ _ => True))
      (fun _ _ => trivial) (fun _ _ _ _ _ _ _ _ => trivial) (Below.refl _ _) (fun _ => rfl)
      (fun _ W => Below w3.heap.size w3 W) (fun _ _ _ => False) none_stable (fun _ _ _ _ h _ => h) (Below.refl _ _)
      ?a1w3 (fun _ W => W) (fun _ _ => Below.refl _ _) (fun _ _ _ => trivial) ?assignw3 (fun _ _ _ _ _ _ _ _ _ _ _ h => h.elim) ?donew3 (fun _ _ _ _ _ h => h.elim)
    case assignw3 =>
      intro l x W K hK
      simp only [pcV, List.zip_toArray, List.zip_cons_cons, List.zip_nil_right, List.foldl_toArray, List.foldl_cons, List.foldl_nil, List.setIfInBounds_toArray, List.set_cons_succ, List.set_cons_zero]
      gi_wp2
      exact hK
    case' donew3 =>
      intro D xs W hD hS hI hDW
      have HR2 := Lib.hid (HRB.out.keepB hI)
      have HW2 := Lib.hid (HBW.out.trans (hI.mono HBW.out.size))
      have HD := Lib.hid (And.intro hD hDW)
      have r0 : W.cell? ⟨w.heap.size + 1 + 1 + 1, 0, none⟩ = some (.bool false) := HR2.out.cell 0
      have f0 := HR2.out.frozen 0
      have rl := HR2.out.lt
      clear hD hDW hI hS HPB HQB HRB HBW
      go_wp2_with fail
    case donew3 =>
      have hz := HZ.out
      have hD := HD.out.1
      have hne : D ≠ w.heap.size + 1 + 1 + 1 := by omega
      have hD6 : (W.setCell ⟨w.heap.size + 1 + 1 + 1, 0, none⟩ (.bool true)).heap[D]? = some (.deferred (some [])) := (Below.heap_setCell _ _ _ _ hne).trans HD.out.2
      have hR6 : Blk (W.setCell ⟨w.heap.size + 1 + 1 + 1, 0, none⟩ (.bool true)) (w.heap.size + 1 + 1 + 1) 4 [.bool true] := HR2.out.set 0 _
      have hpb : Below w3.heap.size (W.setCell ⟨w.heap.size + 1 + 1 + 1, 0, none⟩ (.bool true)) ((W.setCell ⟨w.heap.size + 1 + 1 + 1, 0, none⟩ (.bool true)).putObj D (.deferred none)) := belowK_b (w := w3) (Nat.le_refl _) _ D _ _ hD hD6 rfl rfl
      have hR7 := hR6.below hpb (by omega)
      have c7 : ((W.setCell ⟨w.heap.size + 1 + 1 + 1, 0, none⟩ (.bool true)).putObj D (.deferred none)).cell? ⟨w.heap.size + 1 + 1 + 1, 0, none⟩ = some (.bool true) := hR7.cell 0
      have hX : Below w.heap.size w (W.setCell ⟨w.heap.size + 1 + 1 + 1, 0, none⟩ (.bool true)) := HW2.out.setCell (by simp; omega) _
      refine ⟨by simp, .inl ⟨_, _, rfl, run_takeDeferred hD6, ?_⟩⟩
      refine ⟨.bool true, ?_, rfl, hX.trans (hpb.mono (by omega))⟩
      simp [results, Try.f6, go_sem, c7]
  | true =>
    rw [h1, Bool.true_and] at hno
    rw [h1] at hp
    rw [hno] at hq
    have HP := Lib.hid hp
    have HQ := Lib.hid hq
    clear hp hq hno h1
    refine (callsIn_wide (n := 9)).1 (callsIn_of_wp_marks Try.func6 rfl trivial ?_ rfl)
    simp only [Try.ntmps6, List.size_toArray, List.length_cons, List.length_nil, Nat.reduceAdd, Nat.reduceSub, Array.replicate_succ, Array.replicate_zero, List.push_toArray, List.append_toArray, List.nil_append, List.cons_append]
    refine wpIn_wide.2 ?_
    go_wp2_with (first
      | (go_at_call 20; (with_reducible refine (covRows_any p q _).mono ?_); rintro e w1 ⟨rfl, rfl⟩)
      | (go_at_call 10; (with_reducible refine (lives_any _).mono ?_); rintro e w2 ⟨rfl, hb2⟩; obtain ⟨hc2, hf2, hz2⟩ := bcell hb2; (try simp at hz2); have HB2 := Lib.hid hb2; clear hb2)
      | (go_at_call 21; (with_reducible refine (HP.out _).mono ?_); rintro e w3 ⟨rfl, hb3⟩; obtain ⟨hc3, hf3, hz3⟩ := bcell hb3; (try simp at hz3); have HB3 := Lib.hid hb3; clear hb3)
      | (go_at_call 21; (with_reducible refine (HQ.out _).mono ?_); rintro e w4 ⟨rfl, hb4⟩; obtain ⟨hc4, hf4, hz4⟩ := bcell hb4; (try simp at hz4); have HB4 := Lib.hid hb4; clear hb4)
      | fail)
    have hal := bel_alloc (o := .cells #[.int .i64 q.1, .int .i64 q.2] 36) (bel_alloc (o := .cells #[.int .i64 p.1, .int .i64 p.2] 36) (bel_alloc (o := .cells #[.bool false] 4) (bel_alloc (o := .cells #[.int .i64 stop] 3) (bel_alloc (o := .cells #[.int .i64 q.1, .int .i64 q.2] 36) (bel_alloc (o := .cells #[.int .i64 p.1, .int .i64 p.2] 36) (bel_refl (a := w)))))))
    have hch : Below ((((((w.alloc (.cells #[.int .i64 p.1, .int .i64 p.2] 36)).alloc (.cells #[.int .i64 q.1, .int .i64 q.2] 36)).alloc (.cells #[.int .i64 stop] 3)).alloc (.cells #[.bool false] 4)).alloc (.cells #[.int .i64 p.1, .int .i64 p.2] 36)).alloc (.cells #[.int .i64 q.1, .int .i64 q.2] 36)).heap.size ((((((w.alloc (.cells #[.int .i64 p.1, .int .i64 p.2] 36)).alloc (.cells #[.int .i64 q.1, .int .i64 q.2] 36)).alloc (.cells #[.int .i64 stop] 3)).alloc (.cells #[.bool false] 4)).alloc (.cells #[.int .i64 p.1, .int .i64 p.2] 36)).alloc (.cells #[.int .i64 q.1, .int .i64 q.2] 36)) w4 := HB2.out.trans ((HB3.out.mono HB2.out.size).trans (HB4.out.mono (Nat.le_trans HB2.out.size HB3.out.size)))
    have HPB := Lib.hid (((Blk.newAt (n := w.heap.size + 1 + 1 + 1 + 1) ((((w.alloc (.cells #[.int .i64 p.1, .int .i64 p.2] 36)).alloc (.cells #[.int .i64 q.1, .int .i64 q.2] 36)).alloc (.cells #[.int .i64 stop] 3)).alloc (.cells #[.bool false] 4)) 36 [.int .i64 p.1, .int .i64 p.2] (by simp)).alloc (.cells #[.int .i64 q.1, .int .i64 q.2] 36)).keepB hch)
    have HQB := Lib.hid ((Blk.newAt (n := w.heap.size + 1 + 1 + 1 + 1 + 1) (((((w.alloc (.cells #[.int .i64 p.1, .int .i64 p.2] 36)).alloc (.cells #[.int .i64 q.1, .int .i64 q.2] 36)).alloc (.cells #[.int .i64 stop] 3)).alloc (.cells #[.bool false] 4)).alloc (.cells #[.int .i64 p.1, .int .i64 p.2] 36)) 36 [.int .i64 q.1, .int .i64 q.2] (by simp)).keepB hch)
    have HRB := Lib.hid ((((Blk.newAt (n := w.heap.size + 1 + 1 + 1) (((w.alloc (.cells #[.int .i64 p.1, .int .i64 p.2] 36)).alloc (.cells #[.int .i64 q.1, .int .i64 q.2] 36)).alloc (.cells #[.int .i64 stop] 3)) 4 [.bool false] (by simp)).alloc (.cells #[.int .i64 p.1, .int .i64 p.2] 36)).alloc (.cells #[.int .i64 q.1, .int .i64 q.2] 36)).keepB hch)
    have HBW : Hid (Below w.heap.size w w4) := Lib.hid (hal.below.trans (hch.mono hal.below.size))
    have HZ : Hid (w.heap.size + 6 ≤ w4.heap.size) := Lib.hid (by have := hch.size; simp at this; omega)
    clear hal hch HB2 HB3 hc2 hf2 hc3 hf3 hz2 hz3 hc4 hf4 hz4 HB4
    refine (wpIn_wide (n := 9)).1 ?_
    refine wpIn_range_b (P := Try.prog) (n := 9) (gf := 42) (lb := #[.pointer (some ⟨w.heap.size + 1 + 1 + 1 + 1, 0, none⟩), .pointer (some ⟨w.heap.size + 1 + 1 + 1 + 1 + 1, 0, none⟩)]) rfl (enters_of Try.func42 (by kernel_rfl) rfl)
      (rows_none 8 (w.heap.size + 1 + 1 + 1 + 1) (w.heap.size + 1 + 1 + 1 + 1 + 1) HPB.out HQB.out HNO.out (Kp := fun _ _ => True))
      (fun _ _ => trivial) (fun _ _ _ _ _ _ _ _ => trivial) (Below.refl _ _) (fun _ => rfl)
      (fun _ W => Below w4.heap.size w4 W) (fun _ _ _ => False) none_stable (fun _ _ _ _ h _ => h) (Below.refl _ _)
      ?a1w4 (fun _ W => W) (fun _ _ => Below.refl _ _) (fun _ _ _ => trivial) ?assignw4 (fun _ _ _ _ _ _ _ _ _ _ _ h => h.elim) ?donew4 (fun _ _ _ _ _ h => h.elim)
    case assignw4 =>
      intro l x W K hK
      simp only [pcV, List.zip_toArray, List.zip_cons_cons, List.zip_nil_right, List.foldl_toArray, List.foldl_cons, List.foldl_nil, List.setIfInBounds_toArray, List.set_cons_succ, List.set_cons_zero]
      gi_wp2
      exact hK
    case' donew4 =>
      intro D xs W hD hS hI hDW
      have HR2 := Lib.hid (HRB.out.keepB hI)
      have HW2 := Lib.hid (HBW.out.trans (hI.mono HBW.out.size))
      have HD := Lib.hid (And.intro hD hDW)
      have r0 : W.cell? ⟨w.heap.size + 1 + 1 + 1, 0, none⟩ = some (.bool false) := HR2.out.cell 0
      have f0 := HR2.out.frozen 0
      have rl := HR2.out.lt
      clear hD hDW hI hS HPB HQB HRB HBW
      go_wp2_with fail
    case donew4 =>
      have hz := HZ.out
      have hD := HD.out.1
      have hne : D ≠ w.heap.size + 1 + 1 + 1 := by omega
      have hD6 : (W.setCell ⟨w.heap.size + 1 + 1 + 1, 0, none⟩ (.bool true)).heap[D]? = some (.deferred (some [])) := (Below.heap_setCell _ _ _ _ hne).trans HD.out.2
      have hR6 : Blk (W.setCell ⟨w.heap.size + 1 + 1 + 1, 0, none⟩ (.bool true)) (w.heap.size + 1 + 1 + 1) 4 [.bool true] := HR2.out.set 0 _
      have hpb : Below w4.heap.size (W.setCell ⟨w.heap.size + 1 + 1 + 1, 0, none⟩ (.bool true)) ((W.setCell ⟨w.heap.size + 1 + 1 + 1, 0, none⟩ (.bool true)).putObj D (.deferred none)) := belowK_b (w := w4) (Nat.le_refl _) _ D _ _ hD hD6 rfl rfl
      have hR7 := hR6.below hpb (by omega)
      have c7 : ((W.setCell ⟨w.heap.size + 1 + 1 + 1, 0, none⟩ (.bool true)).putObj D (.deferred none)).cell? ⟨w.heap.size + 1 + 1 + 1, 0, none⟩ = some (.bool true) := hR7.cell 0
      have hX : Below w.heap.size w (W.setCell ⟨w.heap.size + 1 + 1 + 1, 0, none⟩ (.bool true)) := HW2.out.setCell (by simp; omega) _
      refine ⟨by simp, .inl ⟨_, _, rfl, run_takeDeferred hD6, ?_⟩⟩
      refine ⟨.bool true, ?_, rfl, hX.trans (hpb.mono (by omega))⟩
      simp [results, Try.f6, go_sem, c7]
end Go.Proofs.Ytbjggiihbdhmbaa
