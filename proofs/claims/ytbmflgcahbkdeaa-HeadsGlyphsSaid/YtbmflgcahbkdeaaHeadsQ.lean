/-
  The document's PutGlyphs.
-/
import Derived.Test.YtbmflgcahbkdeaaHeadsO
namespace Go.Proofs.Ytbmflgcahbkdeaa
open Go.RowKit

theorem bytes2 (w : World) (x : Int) : Calls Try.prog 55 #[.int .i64 2, .int .i64 x] w fun e w' => ∃ A', e = .returned (.slice A' 2 2) ∧ SlAt w' A' 2 ((beB 2 x).map byteV) ∧ Below w.heap.size w w' := bytes_W w 2 x (by omega) (by omega)

set_option maxHeartbeats 2000000 in
theorem rPutGlyphs_false (w : World) (n : Int) :
    Calls Try.prog 33 #[.agg #[.int .i64 n, .bool false]] w fun e w' => ∃ A' c', e = .returned (.slice A' 6 c') ∧ SlAt w' A' 6 ((glyphB n false).map byteV) ∧ Below w.heap.size w w' ∧ (∀ k, rowOf A' = some k → w.heap.size ≤ k) := by
  obtain ⟨i0, hi0, hz0, hz1, hz2⟩ := info_parts u8_info
  have HEQ : Hid (([0, 0, 80, 0] : List UInt8) ++ beB 2 n = glyphB n false) := Lib.hid rfl
  go_enter Try.func33, Try.ntmps33
  go_wp2_with (first
    | (go_at_call 55; (with_reducible refine (bytes2 _ _).mono ?_); rintro e w1 ⟨A1, rfl, hs1, hb1⟩
       have hz := hb1.size
       have hB := (Blk.new (w.alloc (.cells #[.int .i64 n, .bool false] 59)) 5 (([0, 0, 80, 0] : List UInt8).map byteV)).below hb1 (by simp)
       simp only [World.size_alloc] at hB hz
       have HB1 := Lib.hid ((bel_alloc (o := .cells (([0, 0, 80, 0] : List UInt8).map byteV).toArray 5) (bel_alloc (o := .cells #[.int .i64 n, .bool false] 59) (bel_refl (a := w)))).below.trans (hb1.mono (by simp; omega)))
       have HO := Lib.hid (own_of_blk (n := 4) (size := 1) (base := w.heap.size) hB rfl (by omega) (by unfold maxLen; omega))
       have HR1 := Lib.hid hs1.reads
       clear hs1 hb1 hB)
    | (at_builtin; refine wpList_append_any _ (by rfl) (.tmp 6) (.tmp 9) _ (by rfl) w.heap.size 5 i0 _ 1 1 Try.underlying22 hi0 hz0 hz1 hz2 rfl (by omega) _ 4 (([0, 0, 80, 0] : List UInt8).map byteV) (by rfl) HO.out _ _ 2 _ ((beB 2 n).map byteV) (by rfl) HR1.out (bytes_one _) (by unfold maxLen; omega) (by omega) HB1.out.size ?_
       intro v2 w2 hown hgrow hat))
  rw [← List.map_append, HEQ.out] at hown
  obtain ⟨A2, c2, rfl, hsl, hge⟩ := SlAt.of_own hown
  go_wp2
  go_ret
  refine ⟨A2, c2, rfl, hsl, HB1.out.grown hgrow HB1.out.size (fun k hk => by simp only [Value.ownBlock, Option.some.injEq] at hk; omega), fun k hk => ?_⟩
  cases A2 with
  | none => cases hk
  | some ad => injection hk with hk; subst hk; exact hge _ rfl

set_option maxHeartbeats 2000000 in
theorem rPutGlyphs_true (w : World) (n : Int) :
    Calls Try.prog 33 #[.agg #[.int .i64 n, .bool true]] w fun e w' => ∃ A' c', e = .returned (.slice A' 32 c') ∧ SlAt w' A' 32 ((glyphB n true).map byteV) ∧ Below w.heap.size w w' ∧ (∀ k, rowOf A' = some k → w.heap.size ≤ k) := by
  obtain ⟨i0, hi0, hz0, hz1, hz2⟩ := info_parts u8_info
  have HEQ : Hid (([0, 1, 0, 0] : List UInt8) ++ beB 2 n ++ List.replicate 26 0 = glyphB n true) := Lib.hid rfl
  go_enter Try.func33, Try.ntmps33
  go_wp2_with (first
    | (go_at_call 55; (with_reducible refine (bytes2 _ _).mono ?_); rintro e w1 ⟨A1, rfl, hs1, hb1⟩
       have hz := hb1.size
       have hB := (Blk.new (w.alloc (.cells #[.int .i64 n, .bool true] 59)) 5 (([0, 1, 0, 0] : List UInt8).map byteV)).below hb1 (by simp)
       simp only [World.size_alloc] at hB hz
       have HB1 := Lib.hid ((bel_alloc (o := .cells (([0, 1, 0, 0] : List UInt8).map byteV).toArray 5) (bel_alloc (o := .cells #[.int .i64 n, .bool true] 59) (bel_refl (a := w)))).below.trans (hb1.mono (by simp; omega)))
       have HO := Lib.hid (own_of_blk (n := 4) (size := 1) (base := w.heap.size) hB rfl (by omega) (by unfold maxLen; omega))
       have HR1 := Lib.hid hs1.reads
       clear hs1 hb1 hB)
    | (at_builtin; refine wpList_append_any _ (by rfl) (.tmp 11) (.tmp 14) _ (by rfl) w.heap.size 5 i0 _ 1 1 Try.underlying22 hi0 hz0 hz1 hz2 rfl (by omega) _ 4 (([0, 1, 0, 0] : List UInt8).map byteV) (by rfl) HO.out _ _ 2 _ ((beB 2 n).map byteV) (by rfl) HR1.out (bytes_one _) (by unfold maxLen; omega) (by omega) HB1.out.size ?_
       intro v2 w2 hown hgrow hat
       rw [← List.map_append] at hown
       have HB2 := Lib.hid (HB1.out.grown hgrow HB1.out.size (fun k hk => by simp only [Value.ownBlock, Option.some.injEq] at hk; omega))
       have hge2 : ∀ k, v2.ownBlock = some k → w.heap.size ≤ k := fun k hk => by
         rcases hat with e | e
         · rw [e] at hk; simp only [Value.ownBlock, Option.some.injEq] at hk; omega
         · rw [e] at hk; injection hk with hk; have := HB1.out.size; omega
       obtain ⟨v3, w3, hrun, hown3, hgrow3, hat3⟩ := run_append_zeros (P := Try.prog) w2 w.heap.size 22 3 22 5 .i64 i0 Try.underlying22 Try.underlying3 hi0 hz0 hz1 hz2 v2 6 _ hown 26 (by omega) (by omega) HB2.out.size
       clear hat)
    | (at_builtin; refine Lib.wpList_append_run w2 (by rfl) (.tmp 15) (.const (.int .i64 26)) _ _ (by rfl) _ _ (by rfl) (by rfl) v3 w3 hrun ?_))
  rw [← List.map_append, HEQ.out] at hown3
  obtain ⟨A2, c2, rfl, hsl, hge⟩ := SlAt.of_own hown3
  go_wp2
  go_ret
  refine ⟨A2, c2, rfl, hsl, HB2.out.grown hgrow3 HB2.out.size hge2, fun k hk => ?_⟩
  cases A2 with
  | none => cases hk
  | some ad => injection hk with hk; subst hk; exact hge _ rfl

end Go.Proofs.Ytbmflgcahbkdeaa
