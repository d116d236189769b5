/-
  lives of layer 26: one canvas, whole.
-/
import Derived.Test.YtdapakoicegdoaaCvJ
import Derived.Test.YtdapakoicegdoaaCvF
namespace Go.Proofs.Ytdapakoicegdoaa
open Go.RowKit Go.Shelf

theorem live_new (w : World) : Calls Try.prog 15 #[.int .i64 3, .int .i64 2, .int .i64 100] w fun e w' => ∃ g k c', e = .returned (.tuple #[.pointer (some ⟨g, 0, none⟩), .int .i64 0]) ∧
    w.heap.size ≤ g ∧ w.heap.size ≤ k ∧ Cv 102 w' g k 3 2 c' [100, 100, 100, 100, 100, 100] ∧ Below w.heap.size w w' := New_yes w 3 2 100 (by decide)
theorem live_meet : MeetN 3 2 (shB 0 0 2 1 1 1) 1 1 2 1 := ⟨by decide, by decide, by decide, by decide, fun _ => by decide⟩
theorem live_box : boxG (blF 200 [255, 128] (shB 0 0 2 1 1 1) (2 - 0) 1 1) [100, 100, 100, 100, 100, 100] (1 * 3 + 1) 3 2 1 = [100, 100, 100, 100, 200, 150] := by kernel_rfl
theorem live_blend {w : World} {g k c b : Nat} (h : Cv 102 w g k 3 2 c [100, 100, 100, 100, 100, 100]) (hb : Byt w b [255, 128]) (hne : b ≠ k) :
    Calls Try.prog 16 #[.pointer (some ⟨g, 0, none⟩), .agg #[.int .i64 0, .int .i64 0, .int .i64 2, .int .i64 1, .slice (some ⟨b, 0, none⟩) 2 2], .int .i64 1, .int .i64 1, .int .i64 200] w fun e w' =>
      e = .returned (.tuple #[.agg #[.int .i64 1, .int .i64 1, .int .i64 3, .int .i64 2], .int .i64 0]) ∧ Cv 102 w' g k 3 2 c [100, 100, 100, 100, 200, 150] ∧ Turn w w' k none := by
  have K := Blend_ok (L := 2) (cm := 2) (col := 200) h (show maskE 0 0 2 1 ((2 : Nat) : Int) = 0 by decide) (hb.toBs (c := 2) (by decide) (by decide)).bw rfl (fun _ b' e => by injection e with e; exact e ▸ hne) (by decide) (by decide) (by decide) live_meet
  rw [live_box] at K
  exact K
theorem live_px : pxF 3 2 [100, 100, 100, 100, 200, 150] 1 1 = 200 ∧ pxF 3 2 [100, 100, 100, 100, 200, 150] 2 1 = 150 ∧ pxF 3 2 [100, 100, 100, 100, 200, 150] 0 0 = 100 := ⟨by decide, by decide, by decide⟩

theorem bel_turn {w a b : World} {B k : Nat} (h : Bel B w a) (ht : Turn a b k none) (hk : B ≤ k) : Bel B w b := ⟨h.below.trans (ht.below h.le hk (fun _ e => by cases e)), Nat.le_trans h.le ht.size⟩
theorem live_mix (w : World) : Calls Try.prog 19 #[.int .i64 100, .int .i64 200, .int .i64 128] w fun e w' => e = .returned (.tuple #[.int .i64 150, .int .i64 0]) ∧ Below w.heap.size w w' := Mix_any 100 200 128 w
theorem live_byt (w : World) : Byt (w.alloc (.cells #[.int .u8 255, .int .u8 128] 5)) w.heap.size [255, 128] := ⟨[], Blk.new w 5 [.int .u8 255, .int .u8 128]⟩
theorem live_str : strB [100, 100, 100, 100, 200, 150] = { data := #[100, 100, 100, 100, 200, 150] } := rfl

set_option maxRecDepth 20000 in
set_option maxHeartbeats 4000000 in
theorem lives_any (w : World) : Calls Try.prog 14 #[] w fun e w' => e = .returned (.bool true) ∧ Below w.heap.size w w' := by
  obtain ⟨hp1, hp2, hp3⟩ := live_px
  go_enter Try.func14, Try.ntmps14
  go_wp2_with (first
    | (go_at_call 15; (with_reducible refine (live_new _).mono ?_); rintro e w1 ⟨g, k, c, rfl, hg, hk, hc1, hb1⟩
       have HC1 := Lib.hid hc1
       have HB1 := Lib.hid (bel_call hb1 (bel_refl (a := w)))
       clear hc1 hb1)
    | (go_at_call 15; (with_reducible refine (New_no _ 0 2 100 (by decide)).mono ?_); rintro e w2 ⟨rfl, hb2⟩
       have HC2 := Lib.hid (HC1.out.keep hb2)
       have HB2 := Lib.hid (bel_call hb2 HB1.out)
       clear hb2 HC1 HB1)
    | (go_at_call 27; (with_reducible refine (cvFork HC2.out).mono ?_); rintro e w3 ⟨g', k', c', rfl, -, -, -, hb3⟩
       have HC3 := Lib.hid (HC2.out.keep hb3)
       have HB3 := Lib.hid (bel_call hb3 HB2.out)
       clear hb3 HC2 HB2)
    | (go_at_call 16
       have hkl := HC3.out.byt.lt
       with_reducible refine (live_blend (HC3.out.keep (bel_alloc (o := .cells #[.int .u8 255, .int .u8 128] 5) bel_refl).below) (live_byt w3) (by omega)).mono ?_
       rintro e w4 ⟨rfl, hc4, ht4⟩
       have HC4 := Lib.hid hc4
       have HB4 := Lib.hid (bel_turn (bel_alloc (o := .cells #[.int .u8 255, .int .u8 128] 5) HB3.out) ht4 hk)
       clear hc4 ht4 HC3 HB3)
    | (go_at_call 19
       with_reducible refine (live_mix _).mono ?_
       rintro e w5 ⟨rfl, hb5⟩
       have hX : Blk (w4.alloc (.cells #[.int .i64 1, .int .i64 1, .int .i64 3, .int .i64 2] 23)) w4.heap.size 23 [.int .i64 1, .int .i64 1, .int .i64 3, .int .i64 2] := Blk.new w4 23 [_, _, _, _]
       have hE : Bel w4.heap.size w4 (w4.alloc (.cells #[.int .i64 1, .int .i64 1, .int .i64 3, .int .i64 2] 23)) := bel_alloc bel_refl
       have hE5 := bel_call hb5 hE
       have HX5 := Lib.hid (hX.keepB hb5)
       have HB5 := Lib.hid (bel_call hE5.below HB4.out)
       have HC5 := Lib.hid (HC4.out.keep hE5.below)
       clear hX hE hE5 hb5 HC4 HB4)
    | (go_at_call 29; (with_reducible refine (cvSize HC5.out).mono ?_); rintro e w6 ⟨rfl, hb6⟩
       have hx := HX5.out.keepB hb6
       have z0 := hx.cell 0
       have z1 := hx.cell 1
       have z2 := hx.cell 2
       have z3 := hx.cell 3
       simp at z0 z1 z2 z3
       have HC6 := Lib.hid (HC5.out.keep hb6)
       have HB6 := Lib.hid (bel_call hb6 HB5.out)
       clear hx hb6 HC5 HB5)
    | (go_at_call 17; (with_reducible refine (cvAt HC6.out 1 1).mono ?_); rintro e w7 ⟨rfl, hb7⟩
       have HC7 := Lib.hid (HC6.out.keep hb7)
       have HB7 := Lib.hid (bel_call hb7 HB6.out)
       rw [hp1]
       clear hb7 HC6 HB6)
    | (go_at_call 17; (with_reducible refine (cvAt HC7.out 2 1).mono ?_); rintro e w8 ⟨rfl, hb8⟩
       have HC8 := Lib.hid (HC7.out.keep hb8)
       have HB8 := Lib.hid (bel_call hb8 HB7.out)
       rw [hp2]
       clear hb8 HC7 HB7)
    | (go_at_call 17; (with_reducible refine (cvAt HC8.out 0 0).mono ?_); rintro e w9 ⟨rfl, hb9⟩
       have HC9 := Lib.hid (HC8.out.keep hb9)
       have HB9 := Lib.hid (bel_call hb9 HB8.out)
       rw [hp3]
       clear hb9 HC8 HB8)
    | (go_at_call 23; (with_reducible refine (cvBytes HC9.out).mono ?_); rintro e w10 ⟨b, c'', rfl, hb, hB, hl, hb10⟩
       have HB10 := Lib.hid (bel_call hb10 HB9.out)
       have hq : ∀ c, (convert 24 9 (.slice (some ⟨b, 0, none⟩) 6 c)).run Try.prog w10 = .ok (.string (strB [100, 100, 100, 100, 200, 150])) w10 := fun c => run_str (P := Try.prog) hB.sl Try.underlying24 Try.underlying5 Try.underlying9 c
       clear hb10 hB HC9 HB9))
  go_ret
  exact ⟨rfl, HB10.out.below⟩

end Go.Proofs.Ytdapakoicegdoaa
