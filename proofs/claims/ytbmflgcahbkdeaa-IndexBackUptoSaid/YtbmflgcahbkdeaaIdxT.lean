/-
  Laws IndexLoads and IndexBack, walked.
-/
import Derived.Test.YtbmflgcahbkdeaaIdxM
import Derived.Test.YtbmflgcahbkdeaaIdxP
import Derived.Test.YtbmflgcahbkdeaaIdxR
import Derived.Test.YtbmflgcahbkdeaaIdxS
namespace Go.Proofs.Ytbmflgcahbkdeaa
open Go.RowKit

theorem rLoad_any (w : World) (A : Option Addr) (bs : List UInt8) (c : Nat) (h : Bs w A bs c) : Calls Try.prog 14 #[.slice A bs.length c] w (RLPost bs w) := by
  rcases Nat.lt_or_ge bs.length 2 with h1 | h1
  · exact rLoad_short w A bs c h h1
  · by_cases h0 : ixN bs = 0
    · exact rLoad_zero w A bs c h h1 h0
    · rcases Bool.eq_false_or_eq_true (ixHeadOk bs) with hh | hh
      · exact rLoad_rest w A bs c h h0 hh
      · exact rLoad_head w A bs c h h1 h0 hh
theorem Load_yes {bs : List UInt8} (hf : ixOk bs = true) (w : World) (A : Option Addr) (c : Nat) (h : Bs w A bs c) :
    Calls Try.prog 13 #[.slice A bs.length c] w fun e w' => ∃ g Ab cb ds Ao co os, e = .returned (.tuple #[.pointer (some ⟨g, 0, none⟩), .int .i64 0]) ∧ Ix w' g (ixLists bs) (ixBytes bs) Ab cb ds Ao co os ∧ Below w.heap.size w w' := by
  refine (Load_any w A bs c h).mono ?_
  rintro e w' ⟨hb, ⟨_, g, Ab, cb, ds, Ao, co, os, he, hx⟩ | ⟨hn, _⟩⟩
  · exact ⟨g, Ab, cb, ds, Ao, co, os, he, hx, hb⟩
  · rw [hf] at hn; cases hn
theorem Load_no {bs : List UInt8} (hf : ixOk bs = false) (w : World) (A : Option Addr) (c : Nat) (h : Bs w A bs c) :
    Calls Try.prog 13 #[.slice A bs.length c] w fun e w' => e = .returned (.tuple #[.pointer none, .int .i64 140]) ∧ Below w.heap.size w w' := by
  refine (Load_any w A bs c h).mono ?_
  rintro e w' ⟨hb, ⟨hn, _⟩ | ⟨_, he⟩⟩
  · rw [hf] at hn; cases hn
  · exact ⟨he, hb⟩
theorem rLoad_yes {bs : List UInt8} (hf : ixOk bs = true) (w : World) (A : Option Addr) (c : Nat) (h : Bs w A bs c) :
    Calls Try.prog 14 #[.slice A bs.length c] w fun e w' => ∃ A' c', e = .returned (.tuple #[.slice A' (ixLists bs).length c', .int .i64 (ixBytes bs), .bool true]) ∧ Ls w' A' (ixLists bs) ∧ Below w.heap.size w w' := by
  refine (rLoad_any w A bs c h).mono ?_
  rintro e w' ⟨hb, ⟨_, A', c', he, hx⟩ | ⟨hn, _⟩⟩
  · exact ⟨A', c', he, hx, hb⟩
  · rw [hf] at hn; cases hn
theorem rLoad_no {bs : List UInt8} (hf : ixOk bs = false) (w : World) (A : Option Addr) (c : Nat) (h : Bs w A bs c) :
    Calls Try.prog 14 #[.slice A bs.length c] w fun e w' => ∃ x : Int, e = .returned (.tuple #[.slice none 0 0, .int .i64 x, .bool false]) ∧ Below w.heap.size w w' := by
  refine (rLoad_any w A bs c h).mono ?_
  rintro e w' ⟨hb, ⟨hn, _⟩ | ⟨_, x, he⟩⟩
  · rw [hf] at hn; cases hn
  · exact ⟨x, he, hb⟩
theorem owb_empty (w : World) : OwB w.heap.size w (w.alloc (.cells #[] 5)) (some ⟨w.heap.size, 0, none⟩) 0 0 [] := ⟨rfl, own_empty w _, (bel_alloc bel_refl).below, by simp⟩

set_option maxHeartbeats 4000000 in
theorem indexLoads_big (w : World) (A : Option Addr) (bs : List UInt8) (c : Nat) (stop : Int) (h : (20000 : Int) < bs.length) :
    Calls Try.prog 3 #[.slice A bs.length c, .int .i64 stop] w fun e w' => e = .returned (.bool true) ∧ Below w.heap.size w w' := by
  go_enter Try.func3, Try.ntmps3
  go_wp2_with (go_at_call 12; (with_reducible refine (lives14_any _).mono ?_); rintro e w1 ⟨rfl, hb1⟩)
  go_ret
  exact ⟨rfl, hb1⟩

set_option maxHeartbeats 4000000 in
theorem indexLoads_yes (w : World) (A : Option Addr) (bs : List UInt8) (c : Nat) (stop : Int) (h : Bs w A bs c) (hs : (bs.length : Int) ≤ 20000) (hf : ixOk bs = true) :
    Calls Try.prog 3 #[.slice A bs.length c, .int .i64 stop] w fun e w' => e = .returned (.bool true) ∧ Below w.heap.size w w' := by
  have HE := Lib.hid (owb_empty w)
  have HSE := Lib.hid (h.sl.keep (bel_alloc (o := .cells #[] 5) bel_refl).below)
  have HS := Lib.hid h
  have KL := fun w A c h => Load_yes hf w A c h
  have KR := fun w A c h => rLoad_yes hf w A c h
  generalize ixLists bs = ls at KL KR
  generalize ixBytes bs = size at KL KR
  replace KL := Lib.hid KL
  replace KR := Lib.hid KR
  clear h hf
  go_enter Try.func3, Try.ntmps3
  go_wp2_with (first
    | (at_builtin; refine wpList_append_ow (by rfl) (.tmp 15) (.tmp 16) (by rfl) (by rfl) HE.out _ _ _ (by rfl) bs HSE.out (by omega) ?_; intro A1 c1 w1 ho1; rw [Nat.zero_add, List.nil_append] at ho1; rw [Nat.zero_add]
       have HO1 := Lib.hid (ho1.toBs (by omega))
       have HB1 := Lib.hid (Bel.mk ho1.bel ho1.le)
       have HS1 := Lib.hid (HS.out.keep ho1.bel)
       clear ho1)
    | (go_at_call 13; (with_reducible refine (KL.out _ _ _ HO1.out).mono ?_); rintro e w2 ⟨g, Ab, cb, ds, Ao, co, os, rfl, hx2, hb2⟩
       have HX2 := Lib.hid hx2
       have HO2 := Lib.hid (HO1.out.keep hb2)
       have HS2 := Lib.hid (HS1.out.keep hb2)
       have HB2 := Lib.hid (bel_call hb2 HB1.out)
       clear hx2 hb2)
    | (go_at_call 14; (with_reducible refine (KR.out _ _ _ HS2.out).mono ?_); rintro e w3 ⟨A3, c3, rfl, hl3, hb3⟩
       have HX3 := Lib.hid (HX2.out.keep hb3)
       have HO3 := Lib.hid (HO2.out.keep hb3)
       have HS3 := Lib.hid (HS2.out.keep hb3)
       have HL3 := Lib.hid hl3
       have HB3 := Lib.hid (bel_call hb3 HB2.out)
       clear hl3 hb3)
    | (go_at_call 12; (with_reducible refine (lives14_any _).mono ?_); rintro e w4 ⟨rfl, hb4⟩
       have HX4 := Lib.hid (HX3.out.keep hb4)
       have HO4 := Lib.hid (HO3.out.keep hb4)
       have HS4 := Lib.hid (HS3.out.keep hb4)
       have HL4 := Lib.hid (HL3.out.keep hb4)
       have HB4 := Lib.hid (bel_call hb4 HB3.out)
       clear hb4)
    | (go_at_call 15; (with_reducible refine (holds_any HX4.out _ _ HL4.out _).mono ?_); rintro e w5 ⟨rfl, hb5⟩
       have hq1 := slat_str HO4.out.sl hb5
       have hq2 := slat_str HS4.out.sl hb5
       have HB5 := Lib.hid (bel_call hb5 HB4.out)
       clear hb5))
  go_ret
  exact ⟨rfl, HB5.out.below⟩

set_option maxHeartbeats 4000000 in
theorem indexLoads_no (w : World) (A : Option Addr) (bs : List UInt8) (c : Nat) (stop : Int) (h : Bs w A bs c) (hs : (bs.length : Int) ≤ 20000) (hf : ixOk bs = false) :
    Calls Try.prog 3 #[.slice A bs.length c, .int .i64 stop] w fun e w' => e = .returned (.bool true) ∧ Below w.heap.size w w' := by
  have HE := Lib.hid (owb_empty w)
  have HSE := Lib.hid (h.sl.keep (bel_alloc (o := .cells #[] 5) bel_refl).below)
  have HS := Lib.hid h
  have KL := Lib.hid (fun w A c h => Load_no hf w A c h)
  have KR := Lib.hid (fun w A c h => rLoad_no hf w A c h)
  clear h hf
  go_enter Try.func3, Try.ntmps3
  go_wp2_with (first
    | (at_builtin; refine wpList_append_ow (by rfl) (.tmp 15) (.tmp 16) (by rfl) (by rfl) HE.out _ _ _ (by rfl) bs HSE.out (by omega) ?_; intro A1 c1 w1 ho1; rw [Nat.zero_add, List.nil_append] at ho1; rw [Nat.zero_add]
       have HO1 := Lib.hid (ho1.toBs (by omega))
       have HB1 := Lib.hid (Bel.mk ho1.bel ho1.le)
       have HS1 := Lib.hid (HS.out.keep ho1.bel)
       clear ho1)
    | (go_at_call 13; (with_reducible refine (KL.out _ _ _ HO1.out).mono ?_); rintro e w2 ⟨rfl, hb2⟩
       have HS2 := Lib.hid (HS1.out.keep hb2)
       have HB2 := Lib.hid (bel_call hb2 HB1.out)
       clear hb2)
    | (go_at_call 14; (with_reducible refine (KR.out _ _ _ HS2.out).mono ?_); rintro e w3 ⟨x, rfl, hb3⟩
       have HB3 := Lib.hid (bel_call hb3 HB2.out)
       clear hb3)
    | (go_at_call 12; (with_reducible refine (lives14_any _).mono ?_); rintro e w4 ⟨rfl, hb4⟩
       have HB4 := Lib.hid (bel_call hb4 HB3.out)
       clear hb4))
  go_ret
  exact ⟨rfl, HB4.out.below⟩

theorem indexLoads_any (w : World) (A : Option Addr) (bs : List UInt8) (c : Nat) (stop : Int) (h : Bs w A bs c) :
    Calls Try.prog 3 #[.slice A bs.length c, .int .i64 stop] w fun e w' => e = .returned (.bool true) ∧ Below w.heap.size w w' := by
  rcases Int.lt_or_le 20000 bs.length with h1 | h1
  · exact indexLoads_big w A bs c stop h1
  · rcases Bool.eq_false_or_eq_true (ixOk bs) with hf | hf
    · exact indexLoads_yes w A bs c stop h h1 hf
    · exact indexLoads_no w A bs c stop h h1 hf

set_option maxHeartbeats 4000000 in
theorem indexBack_long (w : World) (A Ab : Option Addr) (ls : List (List UInt8)) (c m cb : Nat) (stop : Int) (h : Ls w A ls) (hl : (3000 : Int) < ls.length) :
    Calls Try.prog 5 #[.slice A ls.length c, .slice Ab m cb, .int .i64 stop] w fun e w' => e = .returned (.bool true) ∧ Below w.heap.size w w' := by
  have KL := Lib.hid (large_any w A c ls h)
  obtain ⟨n, hn⟩ : ∃ n, ls.length = n := ⟨_, rfl⟩
  rw [hn] at KL hl ⊢
  clear h hn
  go_enter Try.func5, Try.ntmps5
  go_wp2_with (first
    | (go_at_call 16; (with_reducible refine KL.out.mono ?_); rintro e w1 ⟨b, rfl, rfl⟩; clear KL; cases b)
    | (go_at_call 12; (with_reducible refine (lives14_any _).mono ?_); rintro e w1 ⟨rfl, hb1⟩))
  all_goals
    go_ret
    exact ⟨rfl, hb1⟩

set_option maxHeartbeats 4000000 in
theorem indexBack_no (w : World) (A Ab : Option Addr) (ls : List (List UInt8)) (c m cb : Nat) (stop : Int) (h : Ls w A ls) (hl : (ls.length : Int) ≤ 3000) (hf : ixFit ls = false) :
    Calls Try.prog 5 #[.slice A ls.length c, .slice Ab m cb, .int .i64 stop] w fun e w' => e = .returned (.bool true) ∧ Below w.heap.size w w' := by
  have KL := Lib.hid (large_any w A c ls h)
  have HLS := Lib.hid h
  have KP := fun w A c h => Put_no hf w A c h
  obtain ⟨n, hn⟩ : ∃ n, ls.length = n := ⟨_, rfl⟩
  rw [hn] at KL KP hl ⊢
  replace KP := Lib.hid KP
  clear h hn hf
  go_enter Try.func5, Try.ntmps5
  go_wp2_with (first
    | (go_at_call 16; (with_reducible refine KL.out.mono ?_); rintro e w1 ⟨b, rfl, rfl⟩; clear KL; cases b)
    | (go_at_call 17; (with_reducible refine (KP.out _ _ _ HLS.out).mono ?_); rintro e w2 ⟨rfl, hb2⟩
       have HB := Lib.hid (Bel.mk hb2 hb2.size); clear hb2)
    | (go_at_call 12; (with_reducible refine (lives14_any _).mono ?_); rintro e w3 ⟨rfl, hb3⟩
       first
         | (replace HB := Lib.hid (bel_call hb3 HB.out); clear hb3)
         | (have HB := Lib.hid (Bel.mk hb3 hb3.size); clear hb3)))
  all_goals
    go_ret
    exact ⟨rfl, HB.out.below⟩

set_option maxHeartbeats 4000000 in
theorem indexBack_yes (w : World) (A Ab : Option Addr) (ls : List (List UInt8)) (bb : List UInt8) (c cb : Nat) (stop : Int) (h : Ls w A ls) (hbb : Bs w Ab bb cb) (hbl : bb.length ≤ 1048576) (hl : (ls.length : Int) ≤ 3000) (hf : ixFit ls = true) :
    Calls Try.prog 5 #[.slice A ls.length c, .slice Ab bb.length cb, .int .i64 stop] w fun e w' => e = .returned (.bool true) ∧ Below w.heap.size w w' := by
  have KL := Lib.hid (large_any w A c ls h)
  have HLS := Lib.hid h
  have HBB := Lib.hid hbb
  have KP := fun w A c h => Put_yes hf w A c h
  obtain ⟨g1, g2, g3, g4⟩ := back_any (b := bb) hf
  have KB := fun w A c h => Load_yes g1 w A c h
  rw [g2, g3, List.length_append] at KB
  have KH := fun (w : World) (g size : Nat) (Ab : Option Addr) (cb : Nat) (ds : List UInt8) (Ao : Option Addr) (co : Nat) (os : List Nat) (hx : Ix w g ls size Ab cb ds Ao co os) (A : Option Addr) (c : Nat) (hl : Ls w A ls) (stop : Int) => holds_any hx A c hl stop
  generalize ixOut ls = bo at KP KB g4
  obtain ⟨n, hn⟩ : ∃ n, ls.length = n := ⟨_, rfl⟩
  obtain ⟨M, hM⟩ : ∃ M, bo.length = M := ⟨_, rfl⟩
  obtain ⟨K, hK⟩ : ∃ K, bb.length = K := ⟨_, rfl⟩
  rw [hn] at KL KP KH hl ⊢
  rw [hM] at KP KB g4
  rw [hK] at KB hbl ⊢
  replace KP := Lib.hid KP
  replace KB := Lib.hid KB
  have HM := Lib.hid hM
  have HK := Lib.hid hK
  have HKH := Lib.hid KH
  clear h hn hf hbb g1 g2 g3 hM hK KH
  go_enter Try.func5, Try.ntmps5
  go_wp2_with (first
    | (go_at_call 16; (with_reducible refine KL.out.mono ?_); rintro e w1 ⟨b, rfl, rfl⟩; clear KL; cases b)
    | (go_at_call 17; (with_reducible refine (KP.out _ _ _ HLS.out).mono ?_); rintro e w2 ⟨A2, c2, rfl, hs2, _, hb2⟩
       have HB2 := Lib.hid (Bel.mk hb2 hb2.size)
       have HL2 := Lib.hid (HLS.out.keep hb2)
       have HK2 := Lib.hid (HBB.out.keep hb2)
       have HS2 := Lib.hid hs2
       clear hb2 hs2)
    | (go_at_call 12; (with_reducible refine (lives14_any _).mono ?_); rintro e w3 ⟨rfl, hb3⟩
       first
         | (have HB3 := Lib.hid (bel_call hb3 HB2.out)
            have HL3 := Lib.hid (HL2.out.keep hb3)
            have HK3 := Lib.hid (HK2.out.keep hb3)
            have HS3 := Lib.hid (HS2.out.keep hb3)
            clear hb3)
         | (have HB := Lib.hid (Bel.mk hb3 hb3.size); clear hb3))
    | (at_builtin; refine wpList_append_ow (by rfl) (.tmp 37) (.tmp 38) (by rfl) (by rfl) (owb_empty w3) _ _ _ (by rfl) bo (HS3.out.keep (bel_alloc (o := .cells #[] 5) bel_refl).below) (by omega) ?_; intro A4 c4 w4 ho4; rw [Nat.zero_add, List.nil_append] at ho4; rw [Nat.zero_add]
       have HO4 := Lib.hid ho4
       have HB4 := Lib.hid (bel_call ho4.bel HB3.out)
       have HL4 := Lib.hid (HL3.out.keep ho4.bel)
       have HK4 := Lib.hid (HK3.out.keep ho4.bel)
       clear ho4)
    | (at_builtin; refine wpList_append_ow (by rfl) (.tmp 39) (.tmp 40) (by rfl) (by rfl) HO4.out _ _ _ (by rfl) bb (by rw [← HK.out]; exact HK4.out.sl) (by omega) ?_; intro A5 c5 w5 ho5
       have HO5 := Lib.hid (ho5.toBs (by omega))
       have HB5 := Lib.hid (bel_call ho5.bel HB3.out)
       have HL5 := Lib.hid (HL3.out.keep ho5.bel)
       clear ho5)
    | (go_at_call 13; (with_reducible refine (KB.out _ _ _ HO5.out).mono ?_); rintro e w6 ⟨g, Ab, cb, ds, Ao, co, os, rfl, hx6, hb6⟩
       have HX6 := Lib.hid hx6
       have HL6 := Lib.hid (HL5.out.keep hb6)
       have HB6 := Lib.hid (bel_call hb6 HB5.out)
       clear hx6 hb6)
    | (go_at_call 15; (with_reducible refine (HKH.out _ _ _ _ _ _ _ _ _ HX6.out _ _ HL6.out _).mono ?_); rintro e w7 ⟨rfl, hb7⟩
       have HB := Lib.hid (bel_call hb7 HB6.out)
       clear hb7))
  all_goals
    go_ret
    exact ⟨rfl, HB.out.below⟩

theorem indexBack_any (w : World) (A Ab : Option Addr) (ls : List (List UInt8)) (bb : List UInt8) (c cb : Nat) (stop : Int) (h : Ls w A ls) (hbb : Bs w Ab bb cb) (hbl : bb.length ≤ 1048576) :
    Calls Try.prog 5 #[.slice A ls.length c, .slice Ab bb.length cb, .int .i64 stop] w fun e w' => e = .returned (.bool true) ∧ Below w.heap.size w w' := by
  rcases Int.lt_or_le 3000 ls.length with h1 | h1
  · exact indexBack_long w A Ab ls c _ cb stop h h1
  · rcases Bool.eq_false_or_eq_true (ixFit ls) with hf | hf
    · exact indexBack_yes w A Ab ls bb c cb stop h hbb hbl h1 hf
    · exact indexBack_no w A Ab ls c _ cb stop h h1 hf

end Go.Proofs.Ytbmflgcahbkdeaa
