/-
  heads: the places of glyphs.
-/
import Derived.Test.YtbmflgcahbkdeaaHeadsF
namespace Go.Proofs.Ytbmflgcahbkdeaa
open Go.RowKit

def glyphPl (gv gn : Nat) (tr : Bool) : List PlR := [⟨some (gv, 0), false, true, 0, false, 0⟩, ⟨some (gn, 0), false, false, 0, false, 0⟩] ++ if tr then [⟨none, false, false, 26, false, 0⟩] else []

set_option maxHeartbeats 1000000 in
theorem glyphPlaces_f (w : World) (gv gn : Nat) :
    Calls Try.prog 70 #[.pointer (some ⟨gv, 0, none⟩), .pointer (some ⟨gn, 0, none⟩), .bool false] w fun e w' => ∃ g, w.heap.size ≤ g ∧ e = .returned (.slice (some ⟨g, 0, none⟩) 2 2) ∧ PlsAt w' (some ⟨g, 0, none⟩) 2 (glyphPl gv gn false) ∧ Below w.heap.size w w' := by
  go_enter Try.func70, Try.ntmps70
  go_wp2_with (first
    | (go_at_call 87; (with_reducible refine (wideNumber_any _ _ _).mono ?_); rintro e w1 ⟨rfl, hb1⟩)
    | (go_at_call 84; (with_reducible refine (word_any _ _ _).mono ?_); rintro e w2 ⟨rfl, hb2⟩
       have hb := hb1.trans (hb2.mono hb1.size)
       clear hb1 hb2)
    | ((with_reducible refine wpList_of_run (o := ⟨some 12, _, _, _, _, _⟩) rfl (w' := w2.alloc (.cells ((glyphPl gv gn false).flatMap plCells).toArray 121)) (.slice (some ⟨w2.heap.size, 0, none⟩) 2 2) ?_ ?_); · kernel_rfl))
  go_ret
  exact ⟨_, hb.size, rfl, PlsAt.new _ _, (bel_alloc ⟨hb, hb.size⟩).below⟩

theorem plCells_one (p : PlR) : ∀ u ∈ plCells p, u.oneCell' = true := by
  intro u hu
  simp only [plCells, List.mem_cons, List.not_mem_nil, or_false] at hu
  rcases hu with rfl | rfl | rfl | rfl | rfl | rfl <;> rfl
theorem place_info : (Try.prog.info? 121).map (fun i => (i.zero, i.size, i.bytes)) = some (some (.agg #[.pointer none, .bool false, .bool false, .int .i64 0, .bool false, .int .i64 0]), 6, 40) := by kernel_rfl

set_option maxHeartbeats 1000000 in
theorem glyphPlaces_t (w : World) (gv gn : Nat) :
    Calls Try.prog 70 #[.pointer (some ⟨gv, 0, none⟩), .pointer (some ⟨gn, 0, none⟩), .bool true] w fun e w' => ∃ A c, e = .returned (.slice A 3 c) ∧ (∀ k, rowOf A = some k → w.heap.size ≤ k) ∧ PlsAt w' A 3 (glyphPl gv gn true) ∧ Below w.heap.size w w' := by
  obtain ⟨i0, hi0, hz0, hz1, hz2⟩ := info_parts place_info
  go_enter Try.func70, Try.ntmps70
  go_wp2_with (first
    | (go_at_call 87; (with_reducible refine (wideNumber_any _ _ _).mono ?_); rintro e w1 ⟨rfl, hb1⟩)
    | (go_at_call 84; (with_reducible refine (word_any _ _ _).mono ?_); rintro e w2 ⟨rfl, hb2⟩
       have hb := hb1.trans (hb2.mono hb1.size)
       clear hb1 hb2)
    | ((with_reducible refine wpList_of_run (o := ⟨some 12, _, _, _, _, _⟩) rfl (w' := w2.alloc (.cells ((glyphPl gv gn false).flatMap plCells).toArray 121)) (.slice (some ⟨w2.heap.size, 0, none⟩) 2 2) ?_ ?_); · kernel_rfl)
    | (go_at_call 82; (with_reducible refine (anything_26 _).mono ?_); rintro e w3 ⟨rfl, hb3⟩
       have hs3 := hb3.size
       have hB3 := (Blk.new w2 121 ((glyphPl gv gn false).flatMap plCells)).below hb3 (by simp)
       have hb4 := (bel_alloc (o := .cells ((glyphPl gv gn false).flatMap plCells).toArray 121) ⟨hb, hb.size⟩).below.trans (hb3.mono (by have := hb.size; simp; omega))
       clear hb3)
    | ((with_reducible refine wpList_of_run (o := ⟨some 16, _, _, _, _, _⟩) rfl (w' := w3.alloc (.cells (plCells ⟨none, false, false, 26, false, 0⟩).toArray 121)) (.slice (some ⟨w3.heap.size, 0, none⟩) 1 1) ?_ ?_); · kernel_rfl)
    | (at_builtin; refine wpList_append_any _ (by rfl) (.tmp 14) (.tmp 16) _ (by rfl) w.heap.size 121 i0 _ 6 40 Try.underlying100 hi0 hz0 hz1 hz2 rfl (by omega) _ 2 ((glyphPl gv gn false).flatMap plCells) (by rfl) (own_of_blk (hB3.alloc _) rfl hb.size (by unfold maxLen; omega)) _ _ _ _ (plCells ⟨none, false, false, 26, false, 0⟩) (by rfl) (reads_new _ _ _ 6 1 rfl) (plCells_one _) (by unfold maxLen; omega) (by omega) (size_le hb4.size _) ?_
       intro v' w4 hown hgrow hat))
  obtain ⟨A, c, rfl, hR, hrw⟩ := RowsAt.of_own (rows := (glyphPl gv gn true).map plCells) hown rfl (fun r hr => by obtain ⟨p, _, rfl⟩ := List.mem_map.1 hr; rfl) (by omega)
  go_wp2
  go_ret
  refine ⟨A, c, rfl, fun k hk => ?_, hR, ?_⟩
  · cases A with
    | none => cases hk
    | some ad => injection hk with hk; subst hk; exact hrw _ rfl
  have h5 := (bel_alloc (o := .cells (plCells ⟨none, false, false, 26, false, 0⟩).toArray 121) ⟨hb4, hb4.size⟩)
  exact h5.below.grown hgrow h5.le (fun k hk => by simp only [Value.ownBlock, Option.some.injEq] at hk; have := hb.size; omega)

end Go.Proofs.Ytbmflgcahbkdeaa
