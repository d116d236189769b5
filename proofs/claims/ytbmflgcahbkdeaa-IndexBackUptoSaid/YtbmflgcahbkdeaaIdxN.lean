/-
  Law IndexNobody: a nil Index.
-/
import Derived.Test.YtbmflgcahbkdeaaIdxL
import Derived.RangeFuncNested
import Derived.RangeFuncBound
import Derived.RangeFuncCalls
import Derived.RangeFuncLeaves
import Derived.Shelf.Abstract
import Derived.Shelf.RegionOpen
import Derived.OwnWalkIn
import Derived.TacticsInMore
import Derived.LoopNIn
import Derived.LoopIn
namespace Go.Proofs.Ytbmflgcahbkdeaa
open Go.RowKit Go.Shelf

theorem nobodyLen (w : World) : Calls Try.prog 21 #[.pointer none] w fun e w' => e = .returned (.int .i64 0) ∧ w = w' := by
  go_enter Try.func21, Try.ntmps21
  go_wp2
  go_ret
  exact ⟨rfl, rfl⟩
theorem nobodySize (w : World) : Calls Try.prog 22 #[.pointer none] w fun e w' => e = .returned (.int .i64 0) ∧ w = w' := by
  go_enter Try.func22, Try.ntmps22
  go_wp2
  go_ret
  exact ⟨rfl, rfl⟩
theorem nobodyAt (w : World) (i : Int) : Calls Try.prog 20 #[.pointer none, .int .i64 i] w fun e w' => e = .returned (.tuple #[.slice none 0 0, .int .i64 6]) ∧ w = w' := by
  go_enter Try.func20, Try.ntmps20
  go_wp2
  go_ret2
  exact ⟨rfl, rfl⟩

theorem nobody_stops (n b : Nat) (w : World) (hb : b < w.heap.size) (hc : w.cell? ⟨b, 0, none⟩ = some (.pointer none)) :
    SeqStopsK Fence.wide n Try.prog 56 #[.pointer (some ⟨b, 0, none⟩)] (fun _ : Unit => #[.int .i64 0, .slice none 0 0]) (Below w.heap.size) (fun xs => xs = []) (fun _ => False) 0 w := by
  intro l J Jx W hW hJ hJx hY h0
  have hc' : W.cell? ⟨b, 0, none⟩ = some (.pointer none) := (hW.cell (p := ⟨b, 0, none⟩) hb).trans hc
  refine callsIn_wide.2 ?_
  have HC : Calls Try.prog 56 #[.func (.yield l) #[] #[], .pointer (some ⟨b, 0, none⟩)] W fun e w' => e = .returned (.tuple #[]) ∧ W = w' := by
    clear hY h0 hJ hJx hW hc
    go_enter Try.func56, Try.ntmps56
    go_wp2_with (first | (go_at_call 21; (with_reducible refine (nobodyLen _).mono ?_); rintro e w1 ⟨rfl, rfl⟩))
    go_loop [6] (fun i => i = .int .i64 0) (fun _ => 0)
    case atStart => rfl
    case round =>
      obtain rfl := hrel
      go_wp2
      with_reducible refine bodyPost_end (v := .tuple #[]) (by simp [results, Try.results56]) rfl ?_
      exact ⟨rfl, rfl⟩
  refine HC.mono ?_
  rintro e w' ⟨rfl, rfl⟩
  exact ⟨⟨_, rfl⟩, .inl ⟨[], rfl, h0⟩⟩

set_option maxRecDepth 100000 in
set_option maxHeartbeats 4000000 in
theorem indexNobody_any (w : World) (i : Int) : Calls Try.prog 6 #[.int .i64 i] w fun e w' => e = .returned (.bool true) ∧ Below w.heap.size w w' := by
  refine (callsIn_wide (n := 5)).1 (callsIn_of_wp_marks Try.func6 rfl trivial ?_ rfl)
  simp only [Try.ntmps6, List.size_toArray, List.length_cons, List.length_nil, Nat.reduceAdd, Nat.reduceSub, Array.replicate_succ, Array.replicate_zero, List.push_toArray, List.append_toArray, List.nil_append, List.cons_append]
  refine wpIn_wide.2 ?_
  have HB0 := Lib.hid (bel_alloc (o := .cells #[.bool false] 4) (bel_refl (a := w)))
  have HX0 := Lib.hid (Blk.new w 4 [.bool false])
  go_wp2_with (first
    | (go_at_call 19; (with_reducible refine (ixAll _ _).mono ?_); rintro e w1 ⟨rfl, rfl⟩)
    | (go_at_call 12; (with_reducible refine (lives14_any _).mono ?_); rintro e w2 ⟨rfl, hb2⟩
       have HB2 := Lib.hid (bel_call hb2 (bel_alloc (o := .cells #[.pointer none] 24) HB0.out))
       have HX2 := Lib.hid ((HX0.out.alloc (.cells #[.pointer none] 24)).keepB hb2)
       have HY2 := Lib.hid ((Blk.newAt (w.alloc (.cells #[.bool false] 4)) 24 [.pointer none] (n := w.heap.size + 1) (by simp)).keepB hb2)
       clear hb2))
  refine (wpIn_wide (n := 5)).1 ?_
  refine wpIn_rangeFunc_ownF rfl (by decide) (gf := 56) (lb := #[.pointer (some ⟨w.heap.size + 1, 0, none⟩)]) rfl trivial (enters_of Try.func56 (by kernel_rfl) rfl)
    (nobody_stops 4 (w.heap.size + 1) w2 HY2.out.lt (HY2.out.cell 0)) belowK_t (belowK_b (Nat.le_refl _)) (Below.refl _ _) (fun _ => rfl)
    (fun _ W => Below w2.heap.size w2 W) (fun _ _ _ => False) (ownFrom_below (Nat.le_refl _) (Nat.le_refl _)) (fun _ _ _ _ _ hs _ _ => hs) (Below.refl _ _) ?a1 ?assign ?body ?done ?stop
  case assign =>
    intro l x W K hK
    gi_wp2
    exact hK
  case body =>
    intro l pre x W _ hlt
    exact absurd hlt (Nat.not_lt_zero _)
  case stop =>
    rintro D c pre W _ _ h _
    exact h.elim
  case done =>
    rintro D xs W hD _ hI hK
    have hx := HX2.out.keepB hI
    have k0 := hx.cell 0
    have f0 := hx.frozen 0
    have HX3 := Lib.hid hx
    have HB3 := Lib.hid (bel_call hI HB2.out)
    have HK := Lib.hid hK
    clear hx hI hK
    go_wp2_with (first
      | (go_at_call 20; (with_reducible refine (nobodyAt _ _).mono ?_); rintro e w3 ⟨rfl, rfl⟩)
      | (go_at_call 21; (with_reducible refine (nobodyLen _).mono ?_); rintro e w4 ⟨rfl, rfl⟩)
      | (go_at_call 22; (with_reducible refine (nobodySize _).mono ?_); rintro e w5 ⟨rfl, rfl⟩))
    have hK' := (KeepsOthers.setCell W ⟨w.heap.size, 0, none⟩ (.bool true)).same D _ HK.out rfl
    have hc5 := cell_kept (World.cell?_setCell_same' W ⟨w.heap.size, 0, none⟩ (.bool true) (by rw [k0]; rfl)) (grownBy_putObj' _ D (.deferred none)) (fun r e => (by cases e; exact ⟨_, hK', rfl⟩))
    refine ⟨by simp, .inl ⟨_, _, rfl, run_takeDeferred hK', ?_⟩⟩
    refine ⟨.bool true, ?_, rfl, (bel_set HB3.out (Nat.le_refl _)).below.trans (belowK_b (w := w2) HB2.out.le _ D _ _ hD hK' rfl rfl)⟩
    simp [results, Try.f6, go_sem, hc5]

end Go.Proofs.Ytbmflgcahbkdeaa
