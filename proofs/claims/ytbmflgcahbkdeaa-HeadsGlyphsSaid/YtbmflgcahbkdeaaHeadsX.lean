/-
  lives of law 05.
-/
import Derived.Test.YtbmflgcahbkdeaaHeadsW
namespace Go.Proofs.Ytbmflgcahbkdeaa
open Go.RowKit

set_option maxHeartbeats 4000000 in
theorem lives5_any (w : World) : Calls Try.prog 24 #[] w fun e w' => e = .returned (.bool true) ∧ Below w.heap.size w w' := by
  go_enter Try.func24, Try.ntmps24
  go_wp2_with (first
    | (go_at_call 23; (with_reducible refine (liveA _).mono ?_); rintro e w1 ⟨A1, c1, rfl, hs1, hb1⟩
       have HS1 := Lib.hid hs1
       have HB1 := Lib.hid (Bel.mk hb1 hb1.size)
       clear hs1 hb1)
    | (go_at_call 26; (with_reducible refine (liveB _ _ _ HS1.out).mono ?_); rintro e w2 ⟨rfl, hb2⟩
       have HB2 := Lib.hid (bel_alloc (o := .cells #[.int .i64 1000, .int .i64 0, .int .i64 0, .int .i64 0, .int .i64 0, .int .i64 0, .int .i64 0, .int .i64 0, .bool true] 48) (bel_call hb2 HB1.out))
       have HH := Lib.hid (Blk.new w2 48 [.int .i64 1000, .int .i64 0, .int .i64 0, .int .i64 0, .int .i64 0, .int .i64 0, .int .i64 0, .int .i64 0, .bool true])
       clear hb2)
    | (go_at_call 29; (with_reducible refine (liveC _).mono ?_); rintro e w3 ⟨A3, c3, rfl, hs3, hb3⟩
       have HS3 := Lib.hid hs3
       have HB3 := Lib.hid (bel_call hb3 HB2.out)
       have HH3 := Lib.hid (HH.out.keepB hb3)
       clear hs3 hb3)
    | (go_at_call 30; (with_reducible refine (liveD _ _ _ HS3.out).mono ?_); rintro e w4 ⟨rfl, hb4⟩
       have HS4 := Lib.hid ((HS3.out.keep hb4).keep (bel_alloc (o := .cells #[.int .i64 3, .bool false] 59) (bel_refl (a := w4))).below)
       have HB4 := Lib.hid (bel_alloc (o := .cells #[.int .i64 3, .bool false] 59) (bel_call hb4 HB3.out))
       have HH4 := Lib.hid ((HH3.out.keepB hb4).alloc (.cells #[.int .i64 3, .bool false] 59))
       have HG4 := Lib.hid (Blk.new w4 59 [.int .i64 3, .bool false])
       clear hb4)
    | (go_at_call 34; (with_reducible refine (liveE _).mono ?_); rintro e w5 ⟨A5, c5, rfl, hs5, hb5⟩
       have HS5 := Lib.hid hs5
       have HB5 := Lib.hid (bel_call hb5 HB4.out)
       have HH5 := Lib.hid (HH4.out.keepB hb5)
       have HG5 := Lib.hid (HG4.out.keepB hb5)
       have HT5 := Lib.hid (HS4.out.keep hb5)
       clear hs5 hb5)
    | (go_at_call 36; (with_reducible refine (liveF _ _ _ HS5.out).mono ?_); rintro e w6 ⟨rfl, hb6⟩
       have HB6 := Lib.hid (bel_alloc (o := .cells #[.int .i64 800, .int .i64 (-200), .int .i64 0, .int .i64 2] 69) (bel_call hb6 HB5.out))
       have HH6 := Lib.hid ((HH5.out.keepB hb6).alloc (.cells #[.int .i64 800, .int .i64 (-200), .int .i64 0, .int .i64 2] 69))
       have HG6 := Lib.hid ((HG5.out.keepB hb6).alloc (.cells #[.int .i64 800, .int .i64 (-200), .int .i64 0, .int .i64 2] 69))
       have HT6 := Lib.hid ((HT5.out.keep hb6).keep (bel_alloc (o := .cells #[.int .i64 800, .int .i64 (-200), .int .i64 0, .int .i64 2] 69) (bel_refl (a := w6))).below)
       have HL6 := Lib.hid (Blk.new w6 69 [.int .i64 800, .int .i64 (-200), .int .i64 0, .int .i64 2])
       clear hb6)
    | (go_at_call 26; (with_reducible refine (liveG _).mono ?_); rintro e w7 ⟨rfl, hb7⟩
       have HB7 := Lib.hid (bel_call hb7 HB6.out)
       have hh := HH6.out.keepB hb7
       have hg := HG6.out.keepB hb7
       have hl := HL6.out.keepB hb7
       have h0 := hh.cell 0
       have h1 := hh.cell 1
       have h2 := hh.cell 2
       have h3 := hh.cell 3
       have h4 := hh.cell 4
       have h5 := hh.cell 5
       have h6 := hh.cell 6
       have h7 := hh.cell 7
       have h8 := hh.cell 8
       have g0 := hg.cell 0
       have l1 := hl.cell 1
       have hlt := hh.lt
       have glt := hg.lt
       have llt := hl.lt
       simp at h0 h1 h2 h3 h4 h5 h6 h7 h8 g0 l1
       have hq : ∀ o c, (convert 22 9 (.slice A3 6 c)).run Try.prog (w7.alloc o) = .ok (.string (strB [0, 0, 80, 0, 0, 3])) (w7.alloc o) := fun o c => run_str (P := Try.prog) ((HT6.out.keep hb7).keep (bel_alloc (o := o) (bel_refl (a := w7))).below).sl Try.underlying22 Try.underlying5 Try.underlying9 c
       clear hh hg hl hb7))
  go_ret
  exact ⟨rfl, (bel_alloc (o := .cells #[.int .i64 0, .int .i64 0, .int .i64 0, .int .i64 0, .int .i64 0, .int .i64 0, .int .i64 0, .int .i64 0, .bool false] 48) HB7.out).below⟩

end Go.Proofs.Ytbmflgcahbkdeaa
