/-
  The walk of the law AffineHulls: it answers true.
-/
import Derived.Test.YtdkjjppbcilcfaaAffH
import Derived.Test.YtdkjjppbcilcfaaSlice
namespace Go.Proofs.Ytdkjjppbcilcfaa
open Go.RowKit

theorem ints_of_sl {w : World} {A : Option Addr} {n : Nat} {xs : List Int} (h : SlAt w A n (xs.map (Value.int .i64))) : IntsAt w A n xs := by
  have hl : xs.length = n := by simpa using h.1
  refine ⟨hl, fun k hk => ?_⟩
  obtain ⟨b, o, hA, hb, hc⟩ := h.2 k hk
  refine ⟨b, o, hA, hb, ?_⟩
  rw [hc, List.getElem?_map, List.getElem?_eq_getElem (by omega)]
  simp [at0, List.getD_eq_getElem?_getD, List.getElem?_eq_getElem (show k < xs.length by omega)]
theorem sl_of_ints {w : World} {A : Option Addr} {n : Nat} {xs : List Int} (h : IntsAt w A n xs) : SlAt w A n (xs.map (Value.int .i64)) := by
  refine ⟨by simpa using h.1, fun k hk => ?_⟩
  obtain ⟨b, o, hA, hb, hc⟩ := h.2 k hk
  refine ⟨b, o, hA, hb, ?_⟩
  rw [hc, List.getElem?_map, List.getElem?_eq_getElem (by have := h.1; omega)]
  simp [at0, List.getD_eq_getElem?_getD, List.getElem?_eq_getElem (show k < xs.length by have := h.1; omega)]
theorem ints_keep {w w' : World} {A : Option Addr} {n : Nat} {xs : List Int} (h : IntsAt w A n xs) (hb : Below w.heap.size w w') : IntsAt w' A n xs := ints_of_sl ((sl_of_ints h).keep hb)
theorem ints_one (xs : List Int) : ∀ u ∈ xs.map (Value.int .i64), u.oneCell' = true := by
  intro u hu
  obtain ⟨x, _, rfl⟩ := List.mem_map.1 hu
  rfl

theorem int_info : (Try.prog.info? 3).map (fun i => (i.zero, i.size, i.bytes)) = some (some (.int .i64 0), 1, 8) := by kernel_rfl

set_option maxHeartbeats 1000000 in
theorem Hull_ne (A C : Option Addr) (n m ca cc : Nat) (w : World) (h : n ≠ m) :
    Calls Try.prog 40 #[.slice A n ca, .slice C m cc] w fun e w' =>
      e = .returned (.tuple #[.agg #[.int .i64 0, .int .i64 0, .int .i64 0, .int .i64 0], .int .i64 1]) ∧ Below w.heap.size w w' := by
  have h1 : ((n : Int) != (m : Int)) = true := by simp; omega
  go_enter Try.func40, Try.ntmps40
  go_wp2_with (with_reducible refine bodyPost_ret (v := .tuple #[.agg #[.int .i64 0, .int .i64 0, .int .i64 0, .int .i64 0], .int .i64 1]) (by simp [results, Try.results40, go_sem, *]) rfl ⟨rfl, Bel.below ?_⟩; (repeat (first | with_reducible exact bel_refl | with_reducible apply bel_alloc | with_reducible apply bel_drewN | with_reducible apply bel_drew | (with_reducible refine bel_set ?_ ?_; rotate_left; · first | (simp; done) | (simp; omega) | omega) | with_reducible refine bel_call (by assumption) ?_)))

set_option maxHeartbeats 1000000 in
theorem hulls_far (A C : Option Addr) (n m ca cc : Nat) (w : World) (h : 5000 < n ∨ n ≤ 5000 ∧ 5000 < m) :
    Calls Try.prog 9 #[.slice A n ca, .slice C m cc] w fun e w' => e = .returned (.bool true) ∧ Below w.heap.size w w' := by
  rcases h with h | ⟨h, h'⟩
  · have h1 : decide ((5000 : Int) < (n : Int)) = true := by simp; omega
    go_enter Try.func9, Try.ntmps9
    go_wp2_with (first | (go_at_call 19; refine (lives2_any _).mono ?_; rintro e w1 ⟨rfl, hb1⟩; obtain ⟨hc1, hf1, hz1⟩ := bcell hb1; (try simp at hz1)) | (with_reducible refine bodyPost_ret (results_tmp rfl _ _ _) rfl ⟨rfl, Bel.below ?_⟩; (repeat (first | with_reducible exact bel_refl | with_reducible apply bel_alloc | with_reducible apply bel_drewN | with_reducible apply bel_drew | (with_reducible refine bel_set ?_ ?_; rotate_left; · first | (simp; done) | (simp; omega) | omega) | with_reducible refine bel_call (by assumption) ?_))))
  · have h1 : decide ((5000 : Int) < (n : Int)) = false := by simp; omega
    have h2 : decide ((5000 : Int) < (m : Int)) = true := by simp; omega
    go_enter Try.func9, Try.ntmps9
    go_wp2_with (first | (go_at_call 19; refine (lives2_any _).mono ?_; rintro e w1 ⟨rfl, hb1⟩; obtain ⟨hc1, hf1, hz1⟩ := bcell hb1; (try simp at hz1)) | (with_reducible refine bodyPost_ret (results_tmp rfl _ _ _) rfl ⟨rfl, Bel.below ?_⟩; (repeat (first | with_reducible exact bel_refl | with_reducible apply bel_alloc | with_reducible apply bel_drewN | with_reducible apply bel_drew | (with_reducible refine bel_set ?_ ?_; rotate_left; · first | (simp; done) | (simp; omega) | omega) | with_reducible refine bel_call (by assumption) ?_))))

set_option maxHeartbeats 1000000 in
theorem hulls_ne (A C : Option Addr) (n m ca cc : Nat) (xs ys : List Int) (w : World) (hx : IntsAt w A n xs) (hy : IntsAt w C m ys) (hn : n ≤ 5000) (hm : m ≤ 5000) (hnm : n ≠ m) :
    Calls Try.prog 9 #[.slice A n ca, .slice C m cc] w fun e w' => e = .returned (.bool true) ∧ Below w.heap.size w w' := by
  have h1 : decide ((5000 : Int) < (n : Int)) = false := by simp; omega
  have h2 : decide ((5000 : Int) < (m : Int)) = false := by simp; omega
  obtain ⟨i0, hi0, hz0, hz1, hz2⟩ := info_parts int_info
  have HI := Lib.hid (And.intro hi0 (And.intro hz0 (And.intro hz1 hz2)))
  clear hi0 hz0 hz1 hz2
  have HX := Lib.hid hx
  have HY := Lib.hid hy
  clear hx hy
  have h3 : ((n : Int) != (m : Int)) = true := by simp; omega
  go_enter Try.func9, Try.ntmps9
  go_wp2_with (first
    | (at_builtin; refine wpList_append_fresh rfl (.tmp 18) (.tmp 19) _ rfl 3 i0 _ 8 Try.underlying64 HI.out.1 HI.out.2.1 HI.out.2.2.1 HI.out.2.2.2 rfl w.heap.size rfl (heap_alloc_new _ _) A n ca (xs.map (Value.int .i64)) rfl ((sl_of_ints HX.out).keep (bel_alloc bel_refl).below) (ints_one _) (by unfold maxLen; omega) (by omega) ?_; intro A1 c1 w1 hs1 hb1 hl1; have hB1 : Below w.heap.size w w1 := ((Below.refl _ _).alloc (Nat.le_refl _) _).trans hb1; have HS1 := Lib.hid hs1; clear hs1 hl1 hb1)
    | (at_builtin; refine wpList_append_fresh rfl (.tmp 21) (.tmp 22) _ rfl 3 i0 _ 8 Try.underlying64 HI.out.1 HI.out.2.1 HI.out.2.2.1 HI.out.2.2.2 rfl w1.heap.size rfl (heap_alloc_new _ _) C m cc (ys.map (Value.int .i64)) rfl (((sl_of_ints HY.out).keep hB1).keep (bel_alloc bel_refl).below) (ints_one _) (by unfold maxLen; omega) (by omega) ?_; intro A2 c2 w2 hs2 hb2 hl2; have hB2 : Below w1.heap.size w1 w2 := ((Below.refl _ _).alloc (Nat.le_refl _) _).trans hb2; have HS2 := Lib.hid hs2; clear hs2 hl2 hb2)
    | (go_at_call 40; refine (Hull_ne _ _ _ _ _ _ _ hnm).mono ?_; rintro e w1 ⟨rfl, hb1⟩; obtain ⟨hc1, hf1, hz1⟩ := bcell hb1; (try simp at hz1)) | (go_at_call 19; refine (lives2_any _).mono ?_; rintro e w1 ⟨rfl, hb1⟩; obtain ⟨hc1, hf1, hz1⟩ := bcell hb1; (try simp at hz1)) | (with_reducible refine bodyPost_ret (results_tmp rfl _ _ _) rfl ⟨rfl, Bel.below ?_⟩; (repeat (first | with_reducible exact bel_refl | with_reducible apply bel_alloc | with_reducible apply bel_drewN | with_reducible apply bel_drew | (with_reducible refine bel_set ?_ ?_; rotate_left; · first | (simp; done) | (simp; omega) | omega) | with_reducible refine bel_call (by assumption) ?_))))

set_option maxHeartbeats 1000000 in
theorem hulls_eq (A C : Option Addr) (n ca cc : Nat) (xs ys : List Int) (w : World) (hx : IntsAt w A n xs) (hy : IntsAt w C n ys) (hn : n ≤ 5000) :
    Calls Try.prog 9 #[.slice A n ca, .slice C n cc] w fun e w' => e = .returned (.bool true) ∧ Below w.heap.size w w' := by
  have h1 : decide ((5000 : Int) < (n : Int)) = false := by simp; omega
  obtain ⟨i0, hi0, hz0, hz1, hz2⟩ := info_parts int_info
  have HI := Lib.hid (And.intro hi0 (And.intro hz0 (And.intro hz1 hz2)))
  clear hi0 hz0 hz1 hz2
  have HX := Lib.hid hx
  have HY := Lib.hid hy
  clear hx hy
  go_enter Try.func9, Try.ntmps9
  go_wp2_with (first
    | (at_builtin; refine wpList_append_fresh rfl (.tmp 18) (.tmp 19) _ rfl 3 i0 _ 8 Try.underlying64 HI.out.1 HI.out.2.1 HI.out.2.2.1 HI.out.2.2.2 rfl w.heap.size rfl (heap_alloc_new _ _) A n ca (xs.map (Value.int .i64)) rfl ((sl_of_ints HX.out).keep (bel_alloc bel_refl).below) (ints_one _) (by unfold maxLen; omega) (by omega) ?_; intro A1 c1 w1 hs1 hb1 hl1; have hB1 : Below w.heap.size w w1 := ((Below.refl _ _).alloc (Nat.le_refl _) _).trans hb1; have HS1 := Lib.hid hs1; clear hs1 hl1 hb1)
    | (at_builtin; refine wpList_append_fresh rfl (.tmp 21) (.tmp 22) _ rfl 3 i0 _ 8 Try.underlying64 HI.out.1 HI.out.2.1 HI.out.2.2.1 HI.out.2.2.2 rfl w1.heap.size rfl (heap_alloc_new _ _) C n cc (ys.map (Value.int .i64)) rfl (((sl_of_ints HY.out).keep hB1).keep (bel_alloc bel_refl).below) (ints_one _) (by unfold maxLen; omega) (by omega) ?_; intro A2 c2 w2 hs2 hb2 hl2; have hB2 : Below w1.heap.size w1 w2 := ((Below.refl _ _).alloc (Nat.le_refl _) _).trans hb2; have HS2 := Lib.hid hs2; clear hs2 hl2 hb2)
    | (go_at_call 40; refine (Hull_any _ _ _ _ _ xs ys _ hn (ints_of_sl (HS1.out.keep hB2)) (ints_of_sl HS2.out)).mono ?_; rintro e w3 ⟨rfl, hb3⟩; obtain ⟨hc3, hf3, hz3⟩ := bcell hb3; (try simp at hz3))
    | (go_at_call 19; refine (lives2_any _).mono ?_; rintro e w4 ⟨rfl, hb4⟩; obtain ⟨hc4, hf4, hz4⟩ := bcell hb4; (try simp at hz4)))
  have q0 : w4.cell? ⟨w3.heap.size, 0, none⟩ = some (.int .i64 (hullE xs ys n).1.x0) := by simp [hc4, go_sem]
  have q1 : w4.cell? ⟨w3.heap.size, 1, none⟩ = some (.int .i64 (hullE xs ys n).1.y0) := by simp [hc4, go_sem]
  have q2 : w4.cell? ⟨w3.heap.size, 2, none⟩ = some (.int .i64 (hullE xs ys n).1.x1) := by simp [hc4, go_sem]
  have q3 : w4.cell? ⟨w3.heap.size, 3, none⟩ = some (.int .i64 (hullE xs ys n).1.y1) := by simp [hc4, go_sem]
  have HB4 : Below w.heap.size w w4 := by
    refine Bel.below ?_
    repeat (first | with_reducible exact bel_refl | with_reducible apply bel_alloc | with_reducible apply bel_drewN | with_reducible apply bel_drew | (with_reducible refine bel_set ?_ ?_; rotate_left; · first | (simp; done) | (simp; omega) | omega) | with_reducible refine bel_call (by assumption) ?_)
  have HXW := Lib.hid (ints_keep HX.out HB4)
  have HYW := Lib.hid (ints_keep HY.out HB4)
  clear hc4 hf4 hc3 hf3 HX HY HS1 HS2 hB1 hB2 hb3 hb4 HI hz3
  go_loop [7] (fun i => ∃ k : Nat, k ≤ n ∧ i = .int .i64 k ∧ allMay xs ys k = true) (fun i => n - (intOf i).toNat)
  case atStart => exact ⟨0, Nat.zero_le _, rfl, rfl⟩
  case round =>
    obtain ⟨k, hk, rfl, hall⟩ := hrel
    have HALL := Lib.hid hall
    clear hall
    by_cases hlt : k < n
    · obtain ⟨b, o, rfl, hbl, hxc⟩ := HXW.out.2 k hlt
      obtain ⟨b', o', rfl, hbl', hyc⟩ := HYW.out.2 k hlt
      rcases Bool.eq_false_or_eq_true (mayB (at0 xs k)) with m1 | m1
      rcases Bool.eq_false_or_eq_true (mayB (at0 ys k)) with m2 | m2
      rotate_left
      · have hA : hullE xs ys n = (⟨0, 0, 0, 0⟩, 10) := by simp [hullE, allMay_bad hlt (show (mayB (at0 xs k) && mayB (at0 ys k)) = false by simp [m1, m2])]
        go_wp2_with (first | (go_at_call 18; refine (rmay_any _ _).mono ?_; rintro e w1 ⟨rfl, rfl⟩) | (with_reducible refine bodyPost_ret (results_tmp rfl _ _ _) rfl ⟨rfl, HB4⟩))
      · have hA : hullE xs ys n = (⟨0, 0, 0, 0⟩, 10) := by simp [hullE, allMay_bad hlt (show (mayB (at0 xs k) && mayB (at0 ys k)) = false by simp [m1])]
        go_wp2_with (first | (go_at_call 18; refine (rmay_any _ _).mono ?_; rintro e w1 ⟨rfl, rfl⟩) | (with_reducible refine bodyPost_ret (results_tmp rfl _ _ _) rfl ⟨rfl, HB4⟩))
      · have HALL2 := Lib.hid (show allMay xs ys (k + 1) = true by simp [allMay, HALL.out, m1, m2])
        go_wp2_with (go_at_call 18; refine (rmay_any _ _).mono ?_; rintro e w1 ⟨rfl, rfl⟩)
        go_round
        case rel => exact ⟨k + 1, by omega, by go_num, HALL2.out⟩
        case measure => simp [intOf]; omega
    · obtain rfl : n = k := by omega
      have hA : hullE xs ys n = (hullTo xs ys n, 0) := by rw [hullE, if_pos HALL.out]
      go_wp2_with fail
      refine wp_region_bw_lit (by kernel_rfl) (by kernel_rfl) ?_
      repeat (go_big_quiet_step ((go_at_call 41; exact Calls.bw_of (rHull_any _ _ _ _ _ xs ys _ hn (ints_keep HXW.out (BW.prop _)) (ints_keep HYW.out (BW.prop _))))))
      refine wpQuiet_nil ?_
      rintro _ ⟨u, rfl⟩
      have hbu := u.prop
      have hzu := u.prop.size
      try simp at hzu
      go_wp2_with (with_reducible refine bodyPost_ret (results_tmp rfl _ _ _) rfl ⟨rfl, HB4.trans (hbu.mono HB4.size)⟩)

theorem hulls_any (A C : Option Addr) (n m ca cc : Nat) (w : World) (h : (n ≤ 5000 ∧ m ≤ 5000) → ∃ xs ys, IntsAt w A n xs ∧ IntsAt w C m ys) :
    Calls Try.prog 9 #[.slice A n ca, .slice C m cc] w fun e w' => e = .returned (.bool true) ∧ Below w.heap.size w w' := by
  by_cases hn : n ≤ 5000
  · by_cases hm : m ≤ 5000
    · obtain ⟨xs, ys, hx, hy⟩ := h ⟨hn, hm⟩
      by_cases hnm : n = m
      · subst hnm
        exact hulls_eq A C n ca cc xs ys w hx hy hn
      · exact hulls_ne A C n m ca cc xs ys w hx hy hn hm hnm
    · exact hulls_far A C n m ca cc w (.inr ⟨hn, by omega⟩)
  · exact hulls_far A C n m ca cc w (.inl (by omega))

end Go.Proofs.Ytdkjjppbcilcfaa
