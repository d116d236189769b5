/-
  heads: the places of a head.
-/
import Derived.Test.YtbmflgcahbkdeaaHeadsC
namespace Go.Proofs.Ytbmflgcahbkdeaa
open Go.RowKit

set_option maxRecDepth 100000 in
set_option maxHeartbeats 2000000 in
theorem headPlaces_any (w : World) (gh gl : Nat) :
    Calls Try.prog 61 #[.pointer (some ⟨gh, 0, none⟩), .pointer (some ⟨gl, 0, none⟩)] w fun e w' => ∃ g, w.heap.size ≤ g ∧ e = .returned (.slice (some ⟨g, 0, none⟩) 17 17) ∧ PlsAt w' (some ⟨g, 0, none⟩) 17 (headPl gh gl) ∧ Below w.heap.size w w' := by
  go_enter Try.func61, Try.ntmps61
  go_wp2_with fail
  refine wp_region_bw_tail 46 (by kernel_rfl) (by kernel_rfl) ?_
  simp only [List.take_succ_cons, List.take_zero, List.drop_succ_cons, List.drop_zero]
  iterate 46 (go_big_quiet_step (first | (go_at_call 81; with_reducible exact Calls.bw_of (must_any _ _)) | (go_at_call 82; with_reducible exact Calls.bw_of (anything_4 _)) | (go_at_call 82; with_reducible exact Calls.bw_of (anything_16 _)) | (go_at_call 82; with_reducible exact Calls.bw_of (anything_2 _)) | (go_at_call 83; with_reducible exact Calls.bw_of (magical_any _ _)) | (go_at_call 84; with_reducible exact Calls.bw_of (word_any _ _ _)) | (go_at_call 85; with_reducible exact Calls.bw_of (short_any _ _ _))))
  refine wpQuiet_nil ?_
  rintro _ ⟨u, rfl⟩
  have hbu := u.prop
  have hzu := u.prop.size
  try simp at hzu
  go_step
  refine wp_of_run (w' := u.val.alloc (.cells ((headPl gh gl).flatMap plCells).toArray 121)) (.slice (some ⟨u.val.heap.size, 0, none⟩) 17 17) (by kernel_rfl) ?_
  go_wp2
  go_ret
  exact ⟨_, hzu, rfl, PlsAt.new _ _, (bel_alloc ⟨hbu, hzu⟩).below⟩

def linePl (g : Nat) : List PlR := [⟨none, false, false, 0, true, 1⟩, ⟨none, false, false, 0, true, 0⟩, ⟨some (g, 0), true, false, 0, false, 0⟩, ⟨some (g, 1), true, false, 0, false, 0⟩, ⟨some (g, 2), true, false, 0, false, 0⟩,
  ⟨none, false, false, 22, false, 0⟩, ⟨none, false, false, 0, true, 0⟩, ⟨some (g, 3), false, false, 0, false, 0⟩]

set_option maxRecDepth 100000 in
set_option maxHeartbeats 2000000 in
theorem linePlaces_any (w : World) (gh : Nat) :
    Calls Try.prog 72 #[.pointer (some ⟨gh, 0, none⟩)] w fun e w' => ∃ g, w.heap.size ≤ g ∧ e = .returned (.slice (some ⟨g, 0, none⟩) 8 8) ∧ PlsAt w' (some ⟨g, 0, none⟩) 8 (linePl gh) ∧ Below w.heap.size w w' := by
  go_enter Try.func72, Try.ntmps72
  go_wp2_with fail
  refine wp_region_bw_tail 20 (by kernel_rfl) (by kernel_rfl) ?_
  simp only [List.take_succ_cons, List.take_zero, List.drop_succ_cons, List.drop_zero]
  iterate 20 (go_big_quiet_step (first | (go_at_call 81; with_reducible exact Calls.bw_of (must_any _ _)) | (go_at_call 82; with_reducible exact Calls.bw_of (anything_22 _)) | (go_at_call 84; with_reducible exact Calls.bw_of (word_any _ _ _)) | (go_at_call 85; with_reducible exact Calls.bw_of (short_any _ _ _))))
  refine wpQuiet_nil ?_
  rintro _ ⟨u, rfl⟩
  have hbu := u.prop
  have hzu := u.prop.size
  try simp at hzu
  go_step
  refine wp_of_run (w' := u.val.alloc (.cells ((linePl gh).flatMap plCells).toArray 121)) (.slice (some ⟨u.val.heap.size, 0, none⟩) 8 8) (by kernel_rfl) ?_
  go_wp2
  go_ret
  exact ⟨_, hzu, rfl, PlsAt.new _ _, (bel_alloc ⟨hbu, hzu⟩).below⟩

end Go.Proofs.Ytbmflgcahbkdeaa
