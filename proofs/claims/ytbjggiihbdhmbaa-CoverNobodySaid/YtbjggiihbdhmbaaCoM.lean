/-
  Layer 22: nobody's cells: CoverNobody.
-/
import Derived.Test.YtbjggiihbdhmbaaCoL
namespace Go.Proofs.Ytbjggiihbdhmbaa
open Go.RowKit Go.Shelf

theorem nil_stable {w0 : World} {n : Nat} : BStable n (fun (_ : List Cl) W => Below n w0 W) := fun _ _ _ h hb => h.trans hb
set_option maxRecDepth 100000 in
set_option maxHeartbeats 4000000 in
theorem coverNobody_any (p : Dt) (A : Option Addr) (n c : Nat) (x y : Int) (w : World) : Calls Try.prog 8 #[.agg #[.int .i64 p.1, .int .i64 p.2], .slice A n c, .int .i64 x, .int .i64 y] w fun e w' => e = .returned (.bool true) ∧ Below w.heap.size w w' := by
  refine (callsIn_wide (n := 9)).1 (callsIn_of_wp_marks Try.func8 rfl trivial ?_ rfl)
  simp only [Try.ntmps8, List.size_toArray, List.length_cons, List.length_nil, Nat.reduceAdd, Nat.reduceSub, Array.replicate_succ, Array.replicate_zero, List.push_toArray, List.append_toArray, List.nil_append, List.cons_append]
  refine wpIn_wide.2 ?_
  go_wp2_with (first
    | (go_at_call 19; (with_reducible refine (All_nil _).mono ?_); rintro e w1 ⟨rfl, rfl⟩)
    | (go_at_call 10; (with_reducible refine (lives_any _).mono ?_); rintro e w2 ⟨rfl, hb2⟩; obtain ⟨hc2, hf2, hz2⟩ := bcell hb2; (try simp at hz2); have HB2 := Lib.hid hb2; clear hb2))
  have hal := bel_alloc (o := .cells #[.pointer none] 25) (bel_alloc (o := .cells #[.bool false] 4) (bel_alloc (o := .cells #[.int .i64 p.1, .int .i64 p.2] 36) (bel_refl (a := w))))
  have HPB := Lib.hid (((Blk.newAt w 36 [.int .i64 p.1, .int .i64 p.2] rfl).alloc (.cells #[.bool false] 4)).alloc (.cells #[.pointer none] 25) |>.keepB HB2.out)
  have HRB := Lib.hid ((Blk.newAt (n := w.heap.size + 1) (w.alloc (.cells #[.int .i64 p.1, .int .i64 p.2] 36)) 4 [.bool false] (by simp)).alloc (.cells #[.pointer none] 25) |>.keepB HB2.out)
  have HCB := Lib.hid ((Blk.newAt (n := w.heap.size + 1 + 1) ((w.alloc (.cells #[.int .i64 p.1, .int .i64 p.2] 36)).alloc (.cells #[.bool false] 4)) 25 [.pointer none] (by simp)).keepB HB2.out)
  have HBW : Hid (Below w.heap.size w w2) := Lib.hid (hal.below.trans (HB2.out.mono hal.below.size))
  have HZ2 := Lib.hid hz2
  clear hal hc2 hf2 HB2
  refine (wpIn_wide (n := 9)).1 ?_
  refine wpIn_range_b (P := Try.prog) (n := 9) (gf := 41) (lb := #[.pointer (some ⟨w.heap.size + 1 + 1, 0, none⟩)]) rfl (enters_of Try.func41 (by kernel_rfl) rfl)
    (all_nil 8 (w.heap.size + 1 + 1) HCB.out (Kp := fun _ _ => True))
    (fun _ _ => trivial) (fun _ _ _ _ _ _ _ _ => trivial) (Below.refl _ _) (fun _ => rfl)
    (fun _ W => Below w2.heap.size w2 W) (fun _ _ _ => False) nil_stable (fun _ _ _ _ h _ => h) (Below.refl _ _)
    ?a1 (fun _ W => W) (fun _ _ => Below.refl _ _) (fun _ _ _ => trivial) ?assign (fun _ _ _ _ _ _ _ _ _ _ _ h => h.elim) ?done (fun _ _ _ _ _ h => h.elim)
  case assign =>
    intro l x W K hK
    simp only [clV, List.zip_toArray, List.zip_cons_cons, List.zip_nil_right, List.foldl_toArray, List.foldl_cons, List.foldl_nil, List.setIfInBounds_toArray, List.set_cons_succ, List.set_cons_zero]
    gi_wp2
    exact hK
  case' done =>
    intro D xs W hD hS hI hDW
    have HP2 := Lib.hid (HPB.out.keepB hI)
    have HR2 := Lib.hid (HRB.out.keepB hI)
    have HW2 := Lib.hid (HBW.out.trans (hI.mono HBW.out.size))
    have HD := Lib.hid (And.intro hD (And.intro hDW hI.size))
    have p0 : W.cell? ⟨w.heap.size, 0, none⟩ = some (.int .i64 p.1) := HP2.out.cell 0
    have p1 : W.cell? ⟨w.heap.size, 1, none⟩ = some (.int .i64 p.2) := HP2.out.cell 1
    have r0 : W.cell? ⟨w.heap.size + 1, 0, none⟩ = some (.bool false) := HR2.out.cell 0
    have f0 := HR2.out.frozen 0
    have pl := HP2.out.lt
    have rl := HR2.out.lt
    clear hD hDW hI hS HPB HRB HCB HBW hz2
    go_wp2_with (first
      | (go_at_call 17; (with_reducible refine (At_nil _ _ _).mono ?_); rintro e w3 ⟨rfl, hb3⟩; obtain ⟨hc3, hf3, hz3⟩ := bcell hb3; have HB3 := Lib.hid hb3; clear hb3)
      | (go_at_call 14; (with_reducible refine (Line_nil p p _).mono ?_); rintro e w4 ⟨rfl, hb4⟩; obtain ⟨hc4, hf4, hz4⟩ := bcell hb4; have HB4 := Lib.hid hb4; clear hb4)
      | (go_at_call 29; (with_reducible refine (Flat_nil (.slice A n c) _).mono ?_); rintro e w5 ⟨rfl, hb5⟩; obtain ⟨hc5, hf5, hz5⟩ := bcell hb5; have HB5 := Lib.hid hb5; clear hb5)
      | (go_at_call 30; (with_reducible refine (Box_nil _).mono ?_); rintro e w6 ⟨rfl, hb6⟩; obtain ⟨hc6, hf6, hz6⟩ := bcell hb6; have HB6 := Lib.hid hb6; clear hb6)
      | fail)
  case done =>
    have hB6 : Below W.heap.size W w6 := HB3.out.trans ((HB4.out.mono HB3.out.size).trans ((HB5.out.mono (Nat.le_trans HB3.out.size HB4.out.size)).trans (HB6.out.mono (Nat.le_trans HB3.out.size (Nat.le_trans HB4.out.size HB5.out.size)))))
    have hD := HD.out.1
    have hDl : D < W.heap.size := (Array.getElem?_eq_some_iff.1 HD.out.2.1).1
    have hz2 := HZ2.out
    have hne : D ≠ w.heap.size + 1 := by omega
    have hD6 : (w6.setCell ⟨w.heap.size + 1, 0, none⟩ (.bool true)).heap[D]? = some (.deferred (some [])) := (Below.heap_setCell _ _ _ _ hne).trans ((hB6.block D hDl).trans HD.out.2.1)
    have hR6 : Blk (w6.setCell ⟨w.heap.size + 1, 0, none⟩ (.bool true)) (w.heap.size + 1) 4 [.bool true] := (HR2.out.keepB hB6).set 0 _
    have hpb : Below w2.heap.size (w6.setCell ⟨w.heap.size + 1, 0, none⟩ (.bool true)) ((w6.setCell ⟨w.heap.size + 1, 0, none⟩ (.bool true)).putObj D (.deferred none)) := belowK_b (w := w2) (Nat.le_refl _) _ D _ _ hD hD6 rfl rfl
    have hlt2 : w.heap.size + 1 < w2.heap.size := by omega
    have hR7 := hR6.below hpb hlt2
    have c7 : ((w6.setCell ⟨w.heap.size + 1, 0, none⟩ (.bool true)).putObj D (.deferred none)).cell? ⟨w.heap.size + 1, 0, none⟩ = some (.bool true) := hR7.cell 0
    have hX : Below w.heap.size w (w6.setCell ⟨w.heap.size + 1, 0, none⟩ (.bool true)) := (HW2.out.trans (hB6.mono HW2.out.size)).setCell (by simp) _
    refine ⟨by simp, .inl ⟨_, _, rfl, run_takeDeferred hD6, ?_⟩⟩
    refine ⟨.bool true, ?_, rfl, hX.trans (hpb.mono (by omega))⟩
    simp [results, Try.f8, go_sem, c7]
end Go.Proofs.Ytbjggiihbdhmbaa
