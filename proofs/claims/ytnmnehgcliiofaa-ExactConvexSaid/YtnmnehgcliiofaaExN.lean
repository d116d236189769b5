/-
  exact.touched: the lines that touch a box.
-/
import Derived.Test.YtnmnehgcliiofaaExM
namespace Go.Proofs.Ytnmnehgcliiofaa
open Go.RowKit Go.Shelf

section
variable {w : World} {A : Option Addr} {c : Nat} {l : List Sg} {b0 b1 b2 b3 : Int}
set_option maxRecDepth 20000 in
set_option maxHeartbeats 2000000 in
theorem touched_any (h : RowsAt w A l.length 4 (l.map sgC)) (hN : ∀ s ∈ l, Num8 s.1.1 s.1.2 s.2.1 s.2.2 b0 b1 b2 b3) (hl : l.length ≤ 1000) :
    Calls Try.prog 67 #[.slice A l.length c, .agg #[.int .i64 b0, .int .i64 b1, .int .i64 b2, .int .i64 b3]] w fun e w' =>
      ∃ A' c', e = .returned (.slice A' (touchL b0 b1 b2 b3 l).length c') ∧ OwS (w.heap.size + 1) w' A' (touchL b0 b1 b2 b3 l).length c' (touchL b0 b1 b2 b3 l) ∧ Below w.heap.size w w' := by
  obtain ⟨W1, hW1⟩ : ∃ W1, w.alloc (.cells #[.int .i64 b0, .int .i64 b1, .int .i64 b2, .int .i64 b3] 32) = W1 := ⟨_, rfl⟩
  have HB1 : Hid (Bel w.heap.size w W1) := Lib.hid (by rw [← hW1]; exact bel_alloc bel_refl)
  have HX : Hid (Blk W1 w.heap.size 32 [.int .i64 b0, .int .i64 b1, .int .i64 b2, .int .i64 b3]) := Lib.hid (by rw [← hW1]; exact Blk.new w _ _)
  have hs1 : W1.heap.size = w.heap.size + 1 := by rw [← hW1]; simp
  have HH := Lib.hid h
  have HN := Lib.hid hN
  clear h hN
  go_enter Try.func67, Try.ntmps67
  go_wp2_with fail
  clear hW1
  go_loopw [5, 10] (fun out i wr => ∃ k : Nat, k ≤ l.length ∧ i = .int .i64 k ∧ ∃ A1 c1, out = .slice A1 (touchL b0 b1 b2 b3 (l.take k)).length c1 ∧ Hid (OwS (w.heap.size + 1) wr A1 (touchL b0 b1 b2 b3 (l.take k)).length c1 (touchL b0 b1 b2 b3 (l.take k))) ∧ Hid (Below (w.heap.size + 1) W1 wr)) (fun _ i _ => l.length - (intOf i).toNat)
  case atStart => exact ⟨0, Nat.zero_le _, rfl, none, 0, rfl, Lib.hid (OwS.nil (by omega)), Lib.hid (Below.refl _ _)⟩
  case round =>
    obtain ⟨k, hk, rfl, A1, c1, rfl, HO, HB⟩ := hrel
    by_cases hlt : k < l.length
    · obtain ⟨⟨⟨ax, ay⟩, ⟨dx, dy⟩⟩, hsg⟩ := get_some hlt
      obtain ⟨b, o, rfl, hb, hc⟩ := RowsAt.at_ HH.out (i := k) (r := sgC ((ax, ay), (dx, dy))) (by rw [List.getElem?_map, hsg]; rfl)
      have hcell : ∀ p v, w.cell? ⟨b, p, none⟩ = some v → wr.cell? ⟨b, p, none⟩ = some v := fun p v hv => (HB.out.cell (p := ⟨b, p, none⟩) (by show b < w.heap.size + 1; omega)).trans ((HB1.out.below.cell (p := ⟨b, p, none⟩) hb).trans hv)
      have q0 : wr.cell? ⟨b, o + k * 4, none⟩ = some (.int .i64 ax) := hcell _ _ (hc 0 _ rfl)
      have q1 : wr.cell? ⟨b, o + k * 4 + 1, none⟩ = some (.int .i64 ay) := hcell _ _ (hc 1 _ rfl)
      have q2 : wr.cell? ⟨b, o + k * 4 + 2, none⟩ = some (.int .i64 dx) := hcell _ _ (hc 2 _ rfl)
      have q3 : wr.cell? ⟨b, o + k * 4 + 3, none⟩ = some (.int .i64 dy) := hcell _ _ (hc 3 _ rfl)
      have hbx := HX.out.below HB.out (Nat.lt_succ_self _)
      have x0 := hbx.cell 0
      have x1 := hbx.cell 1
      have x2 := hbx.cell 2
      have x3 := hbx.cell 3
      simp at x0 x1 x2 x3
      have hwl := HB.out.size
      have KT := fun W => touches_any W (HN.out _ (List.mem_of_getElem? hsg))
      dsimp only at KT
      have hsn := touchL_snoc (b0 := b0) (b1 := b1) (b2 := b2) (b3 := b3) hsg
      rw [show touchS b0 b1 b2 b3 ((ax, ay), (dx, dy)) = touchB ax ay dx dy b0 b1 b2 b3 from rfl] at hsn
      have hln := touchL_len b0 b1 b2 b3 l k
      have hl' : (touchL b0 b1 b2 b3 (l.take k)).length ≤ 1000 := by omega
      generalize touchL b0 b1 b2 b3 (l.take k) = T at *
      generalize touchB ax ay dx dy b0 b1 b2 b3 = tb at *
      have HBX := Lib.hid (Blk.new wr 100 (sgC ((ax, ay), (dx, dy))))
      have HO1 := Lib.hid (HO.out.keep (bel_alloc (o := .cells #[.int .i64 ax, .int .i64 ay, .int .i64 dx, .int .i64 dy] 100) (bel_refl (a := wr))).below)
      clear hcell hsg hbx hc hln
      cases tb
      · replace KT := Lib.hid KT
        simp at hsn
        have HT := Lib.hid hsn
        clear hsn
        go_wp2_with (first
          | (go_at_call 63; (with_reducible refine (KT.out _).mono ?_); rintro e w2 ⟨rfl, hb2⟩
             have HO2 := Lib.hid (HO1.out.keep hb2)
             have HB2 := Lib.hid (HB.out.trans (((bel_alloc bel_refl).below.trans (hb2.mono (by simp))).mono (by omega)))
             clear hb2))
        go_roundw
        case rel => exact ⟨k + 1, by omega, by go_num, A1, c1, by rw [HT.out], by rw [HT.out]; exact HO2, HB2⟩
        case measure => simp [intOf]; omega
      · replace KT := Lib.hid KT
        simp at hsn
        have HT := Lib.hid hsn
        clear hsn
        go_wp2_with (first
          | (go_at_call 63; (with_reducible refine (KT.out _).mono ?_); rintro e w2 ⟨rfl, hb2⟩
             have HO2 := Lib.hid (HO1.out.keep hb2)
             have HB2 := Lib.hid (HB.out.trans (((bel_alloc bel_refl).below.trans (hb2.mono (by simp))).mono (by omega)))
             have hb7 := HBX.out.keepB hb2
             have y0 := hb7.cell 0
             have y1 := hb7.cell 1
             have y2 := hb7.cell 2
             have y3 := hb7.cell 3
             have hb7l := hb7.lt
             simp [sgC] at y0 y1 y2 y3
             have HO3 := Lib.hid (HO2.out.keep (bel_alloc (o := .cells #[.int .i64 ax, .int .i64 ay, .int .i64 dx, .int .i64 dy] 100) (bel_refl (a := w2))).below)
             have hz2 := HB2.out.size
             have HB3 := Lib.hid (HB2.out.trans ((bel_alloc (o := .cells #[.int .i64 ax, .int .i64 ay, .int .i64 dx, .int .i64 dy] 100) (bel_refl (a := w2))).below.mono (by omega)))
             clear hb2 hb7)
          | (at_builtin; refine wpList_append_sg (by rfl) (.tmp 20) (.tmp 22) (by rfl) (by rfl) HO3.out (some ⟨w2.heap.size, 0, none⟩) 1 (by rfl) ((ax, ay), (dx, dy)) (reads_sg w2 ((ax, ay), (dx, dy))) (by omega) ?_; intro A3 c3 w3 ho3 hg3
             have HO4 := Lib.hid ho3
             have HB4 := Lib.hid (HB3.out.grown hg3 HO3.out.le (fun q hq => (own_lt HO3.out.own q hq).1))
             clear ho3 hg3))
        go_roundw
        case rel => exact ⟨k + 1, by omega, by go_num, A3, c3, by rw [HT.out]; simp, by rw [HT.out]; simpa using HO4, HB4⟩
        case measure => simp [intOf]; omega
    · obtain rfl : k = l.length := by omega
      have ht : l.take l.length = l := List.take_of_length_le (Nat.le_refl _)
      rw [ht] at HO ⊢
      have HBW := Lib.hid (HB1.out.below.trans (HB.out.mono (Nat.le_succ _)))
      clear ht
      go_wp2_with fail
      go_ret
      exact ⟨A1, c1, rfl, HO.out, HBW.out⟩
end
end Go.Proofs.Ytnmnehgcliiofaa
