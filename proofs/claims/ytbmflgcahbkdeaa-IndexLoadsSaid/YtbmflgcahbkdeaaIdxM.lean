/-
  Law IndexPuts: the INDEX of any lists.
-/
import Derived.Test.YtbmflgcahbkdeaaIdxL
namespace Go.Proofs.Ytbmflgcahbkdeaa
open Go.RowKit

theorem Put_yes {ls : List (List UInt8)} (hf : ixFit ls = true) (w : World) (A : Option Addr) (c : Nat) (h : Ls w A ls) :
    Calls Try.prog 17 #[.slice A ls.length c] w fun e w' => ∃ A' c', e = .returned (.tuple #[.slice A' (ixOut ls).length c', .int .i64 0]) ∧ SlAt w' A' (ixOut ls).length ((ixOut ls).map byteV) ∧ (ixOut ls).length ≤ c' ∧ Below w.heap.size w w' := by
  refine (Put_any w A c ls h).mono ?_
  rintro e w' ⟨hb, ⟨_, A', c', he, hs, hc⟩ | ⟨hn, _⟩⟩
  · exact ⟨A', c', he, hs, hc, hb⟩
  · rw [hf] at hn; cases hn
theorem Put_no {ls : List (List UInt8)} (hf : ixFit ls = false) (w : World) (A : Option Addr) (c : Nat) (h : Ls w A ls) :
    Calls Try.prog 17 #[.slice A ls.length c] w fun e w' => e = .returned (.tuple #[.slice none 0 0, .int .i64 3]) ∧ Below w.heap.size w w' := by
  refine (Put_any w A c ls h).mono ?_
  rintro e w' ⟨hb, ⟨hn, _⟩ | ⟨_, he⟩⟩
  · rw [hf] at hn; cases hn
  · exact ⟨he, hb⟩
theorem rPut_yes {ls : List (List UInt8)} (hf : ixFit ls = true) (w : World) (A : Option Addr) (c : Nat) (h : Ls w A ls) :
    Calls Try.prog 18 #[.slice A ls.length c] w fun e w' => ∃ A' c', e = .returned (.tuple #[.slice A' (ixOut ls).length c', .bool true]) ∧ SlAt w' A' (ixOut ls).length ((ixOut ls).map byteV) ∧ Below w.heap.size w w' := by
  refine (rPut_any w A c ls h).mono ?_
  rintro e w' ⟨hb, ⟨_, A', c', he, hs⟩ | ⟨hn, _⟩⟩
  · exact ⟨A', c', he, hs, hb⟩
  · rw [hf] at hn; cases hn
theorem rPut_no {ls : List (List UInt8)} (hf : ixFit ls = false) (w : World) (A : Option Addr) (c : Nat) (h : Ls w A ls) :
    Calls Try.prog 18 #[.slice A ls.length c] w fun e w' => e = .returned (.tuple #[.slice none 0 0, .bool false]) ∧ Below w.heap.size w w' := by
  refine (rPut_any w A c ls h).mono ?_
  rintro e w' ⟨hb, ⟨hn, _⟩ | ⟨_, he⟩⟩
  · rw [hf] at hn; cases hn
  · exact ⟨he, hb⟩

theorem slat_str {w w' : World} {A : Option Addr} {n : Nat} {bs : List UInt8} (h : SlAt w A n (bs.map byteV)) (hb : Below w.heap.size w w') : ∀ c, (convert 22 9 (.slice A n c)).run Try.prog w' = .ok (.string (strB bs)) w' := h.aft w' hb

set_option maxHeartbeats 4000000 in
theorem indexPuts_yes (w : World) (A : Option Addr) (c : Nat) (ls : List (List UInt8)) (h : Ls w A ls) (hf : ixFit ls = true) :
    Calls Try.prog 4 #[.slice A ls.length c] w fun e w' => e = .returned (.bool true) ∧ Below w.heap.size w w' := by
  have KL := Lib.hid (large_any w A c ls h)
  have HLS := Lib.hid h
  have KP := fun w A c h => Put_yes hf w A c h
  have KR := fun w A c h => rPut_yes hf w A c h
  generalize ixOut ls = bs at KP KR
  obtain ⟨n, hn⟩ : ∃ n, ls.length = n := ⟨_, rfl⟩
  rw [hn] at KL KP KR ⊢
  replace KP := Lib.hid KP
  replace KR := Lib.hid KR
  clear h hn hf
  go_enter Try.func4, Try.ntmps4
  go_wp2_with (first
    | (go_at_call 16; (with_reducible refine KL.out.mono ?_); rintro e w1 ⟨b, rfl, rfl⟩; clear KL; cases b)
    | (go_at_call 17; (with_reducible refine (KP.out _ _ _ HLS.out).mono ?_); rintro e w2 ⟨A2, c2, rfl, hs2, _, hb2⟩
       have HB2 := Lib.hid (Bel.mk hb2 hb2.size)
       have HL2 := Lib.hid (HLS.out.keep hb2)
       have HS2 := Lib.hid hs2; clear hs2
       clear hb2)
    | (go_at_call 18; (with_reducible refine (KR.out _ _ _ HL2.out).mono ?_); rintro e w3 ⟨A3, c3, rfl, hs3, hb3⟩
       have HB3 := Lib.hid (bel_call hb3 HB2.out)
       have HS3 := Lib.hid (HS2.out.keep hb3); have HR3 := Lib.hid hs3; clear hs3
       clear hb3)
    | (go_at_call 12; (with_reducible refine (lives14_any _).mono ?_); rintro e w4 ⟨rfl, hb4⟩
       first
         | (have HB4 := Lib.hid (bel_call hb4 HB3.out)
            have hq1 := slat_str HS3.out hb4; have hq2 := slat_str HR3.out hb4
            clear hb4)
         | (have HB4 := Lib.hid (Bel.mk hb4 hb4.size)
            clear hb4)))
  all_goals
    go_ret
    exact ⟨rfl, HB4.out.below⟩

set_option maxHeartbeats 4000000 in
theorem indexPuts_no (w : World) (A : Option Addr) (c : Nat) (ls : List (List UInt8)) (h : Ls w A ls) (hf : ixFit ls = false) :
    Calls Try.prog 4 #[.slice A ls.length c] w fun e w' => e = .returned (.bool true) ∧ Below w.heap.size w w' := by
  have KL := Lib.hid (large_any w A c ls h)
  have HLS := Lib.hid h
  have KP := fun w A c h => Put_no hf w A c h
  have KR := fun w A c h => rPut_no hf w A c h
  obtain ⟨n, hn⟩ : ∃ n, ls.length = n := ⟨_, rfl⟩
  rw [hn] at KL KP KR ⊢
  replace KP := Lib.hid KP
  replace KR := Lib.hid KR
  clear h hn hf
  go_enter Try.func4, Try.ntmps4
  go_wp2_with (first
    | (go_at_call 16; (with_reducible refine KL.out.mono ?_); rintro e w1 ⟨b, rfl, rfl⟩; clear KL; cases b)
    | (go_at_call 17; (with_reducible refine (KP.out _ _ _ HLS.out).mono ?_); rintro e w2 ⟨rfl, hb2⟩
       have HB2 := Lib.hid (Bel.mk hb2 hb2.size)
       have HL2 := Lib.hid (HLS.out.keep hb2)
       skip
       clear hb2)
    | (go_at_call 18; (with_reducible refine (KR.out _ _ _ HL2.out).mono ?_); rintro e w3 ⟨rfl, hb3⟩
       have HB3 := Lib.hid (bel_call hb3 HB2.out)
       skip
       clear hb3)
    | (go_at_call 12; (with_reducible refine (lives14_any _).mono ?_); rintro e w4 ⟨rfl, hb4⟩
       first
         | (have HB4 := Lib.hid (bel_call hb4 HB3.out)
            have hq1 := slat_str (SlAt.nil w3 none) (bs := []) hb4
            clear hb4)
         | (have HB4 := Lib.hid (Bel.mk hb4 hb4.size)
            clear hb4)))
  all_goals
    go_ret
    exact ⟨rfl, HB4.out.below⟩

theorem indexPuts_any (w : World) (A : Option Addr) (c : Nat) (ls : List (List UInt8)) (h : Ls w A ls) :
    Calls Try.prog 4 #[.slice A ls.length c] w fun e w' => e = .returned (.bool true) ∧ Below w.heap.size w w' := by
  rcases Bool.eq_false_or_eq_true (ixFit ls) with hf | hf
  · exact indexPuts_yes w A c ls h hf
  · exact indexPuts_no w A c ls h hf

end Go.Proofs.Ytbmflgcahbkdeaa
