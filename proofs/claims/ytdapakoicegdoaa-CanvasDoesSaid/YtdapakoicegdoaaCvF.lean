/-
  The document's New; canvas.Mix.
-/
import Derived.Test.YtdapakoicegdoaaCvE
namespace Go.Proofs.Ytdapakoicegdoaa
open Go.RowKit

theorem rep_set (V : Value) (j n : Nat) (h : j < n) : (rep V j n).set j V = rep V (j + 1) n := by
  unfold rep
  rw [List.set_append_right _ _ (by simp), List.length_replicate, Nat.sub_self, show n - j = (n - (j + 1)) + 1 by omega, List.replicate_succ, List.set_cons_zero, ← List.replicate_append_replicate]
  simp

set_option maxRecDepth 20000 in
set_option maxHeartbeats 2000000 in
theorem rNew_yes (w : World) (a b c : Int) (h : newB a b c = true) : Calls Try.prog 26 #[.int .i64 a, .int .i64 b, .int .i64 c] w fun e w' => ∃ g k c', e = .returned (.pointer (some ⟨g, 0, none⟩)) ∧
    w.heap.size ≤ g ∧ w.heap.size ≤ k ∧ Cv 54 w' g k a.toNat b.toNat c' (List.replicate (b.toNat * a.toNat) (byt c)) ∧ Below w.heap.size w w' := by
  obtain ⟨n, hm, hn1, hn2, hn3, ha1, ha2, hb1, hb2, hc1, hc2⟩ := new_nums h
  obtain ⟨h1, h2, h3⟩ := new_parts h
  have HB := Lib.hid (byteV_byt h3)
  have HN := Lib.hid hn3
  have hwm : wrap64 (a * b) = n := by rw [hm]; exact IntWalk.wrap64_in _ (by omega)
  have HNN : Hid (1 ≤ n ∧ n ≤ 16777216) := Lib.hid ⟨hn1, hn2⟩
  have hni : (n : Int) ≤ 16777216 := by omega
  have HA0 := Lib.hid (show (a.toNat : Int) = a from Int.toNat_of_nonneg (by omega))
  have HB0 := Lib.hid (show (b.toNat : Int) = b from Int.toNat_of_nonneg (by omega))
  have hu : IntKind.u8.wrap c = c := by rw [IntKind.wrap_u8]; omega
  have hmk := mk_bytes n (by omega) w
  obtain ⟨W, hW⟩ : ∃ W, w.alloc (.cells (List.replicate n (Value.int .u8 0)).toArray 5) = W := ⟨_, rfl⟩
  have hBk : Blk W w.heap.size 5 (rep (.int .u8 c) 0 n) := by rw [← hW]; exact Blk.new w _ _
  have hbW : Bel w.heap.size w W := by rw [← hW]; exact bel_alloc bel_refl
  have hsz : W.heap.size = w.heap.size + 1 := by rw [← hW]; simp
  rw [hW] at hmk
  have HBK := Lib.hid hBk
  have HBW := Lib.hid hbW
  have HSZ := Lib.hid hsz
  obtain ⟨k, hk⟩ : ∃ k, w.heap.size = k := ⟨_, rfl⟩
  have HK := Lib.hid hk
  rw [hk] at hmk
  clear h h1 h2 h3 hm hn3 hn1 hn2 hW hBk hbW hsz hk
  go_enter Try.func26, Try.ntmps26
  go_wp2_with fail
  go_loopw [8] (fun i wr => ∃ j : Nat, j ≤ n ∧ i = .int .i64 j ∧ Hid (Blk wr k 5 (rep (.int .u8 c) j n)) ∧ Hid (Blk wr W.heap.size 54 [.int .i64 a, .int .i64 b, .slice (some ⟨k, 0, none⟩) n n]) ∧ Hid (Bel w.heap.size w wr)) (fun i _ => n - (intOf i).toNat)
  case atStart =>
    refine ⟨0, Nat.zero_le _, rfl, Lib.hid ?_, Lib.hid (Blk.new W 54 [.int .i64 a, .int .i64 b, .slice (some ⟨k, 0, none⟩) n n]), Lib.hid (bel_alloc HBW.out)⟩
    rw [← HK.out]
    exact HBK.out.alloc _
  case round =>
    obtain ⟨j, hj, rfl, HB1, HB2, HBE⟩ := hrel
    have k2 : wr.cell? ⟨W.heap.size, 2, none⟩ = some (.slice (some ⟨k, 0, none⟩) n n) := HB2.out.cell 2
    by_cases hlt : j < n
    · have f1 := HB1.out.frozen j
      obtain ⟨v0, hv0⟩ : ∃ v0, wr.cell? ⟨k, j, none⟩ = some v0 := by
        rw [HB1.out.cell]
        exact ⟨_, List.getElem?_eq_getElem (by rw [rep_length _ _ _ hj]; exact hlt)⟩
      go_wp2
      go_roundw
      case rel =>
        have hne : W.heap.size ≠ k := by have := HSZ.out; have := HK.out; omega
        exact ⟨j + 1, by omega, by go_num, Lib.hid (by rw [← rep_set _ _ _ hlt]; exact HB1.out.set j _), Lib.hid (HB2.out.far (p := ⟨k, j, none⟩) hne _), Lib.hid (bel_set HBE.out (by show w.heap.size ≤ k; rw [HK.out]; exact Nat.le_refl _))⟩
      case measure => simp [intOf]; omega
    · obtain rfl : j = n := by omega
      go_wp2
      go_ret
      have hlen : (List.replicate (b.toNat * a.toNat) (byt c)).length = j := by rw [List.length_replicate, HN.out]
      have hz := HSZ.out
      have hk := HK.out
      refine ⟨W.heap.size, k, j, rfl, by omega, by omega, ⟨?_, ?_, ?_, ?_, ?_, ?_, ?_⟩, HBE.out.below⟩
      · rw [hlen, HA0.out, HB0.out]
        exact HB2.out
      · refine Byt.of_blk ?_
        rw [List.map_replicate, HB.out, ← HN.out]
        have h := HB1.out
        simpa [rep] using h
      · rw [hlen, HN.out]
      · omega
      · omega
      · rw [hlen]; exact Nat.le_refl _
      · omega

theorem isByte_three (w : World) (x y z : Int) :
    Calls Try.prog 55 #[.slice (some ⟨w.heap.size, 0, none⟩) 3 3] (w.alloc (.cells #[.int .i64 x, .int .i64 y, .int .i64 z] 3)) fun e w' => e = .returned (.bool (byteB x && (byteB y && byteB z))) ∧ w.alloc (.cells #[.int .i64 x, .int .i64 y, .int .i64 z] 3) = w' := by
  have hB := Blk.new w 3 [.int .i64 x, .int .i64 y, .int .i64 z]
  have := isByte_any (w.alloc (.cells #[.int .i64 x, .int .i64 y, .int .i64 z] 3)) w.heap.size 3 3 [x, y, z] rfl (by decide) (fun i hi => by
    rw [hB.cell i]
    match i, hi with
    | 0, _ => rfl
    | 1, _ => rfl
    | 2, _ => rfl)
  simpa using this

set_option maxRecDepth 20000 in
theorem Mix_any (d c m : Int) (w : World) : Calls Try.prog 19 #[.int .i64 d, .int .i64 c, .int .i64 m] w fun e w' =>
    e = .returned (if (byteB d && (byteB c && byteB m)) = true then .tuple #[.int .i64 (mixI d c m), .int .i64 0] else .tuple #[.int .i64 0, .int .i64 1]) ∧ Below w.heap.size w w' := by
  have K := fun w => isByte_three w d c m
  rcases Bool.eq_false_or_eq_true (byteB d && (byteB c && byteB m)) with hb | hb
  · rw [if_pos hb]
    rw [hb] at K
    replace K := Lib.hid K
    simp only [Bool.and_eq_true, byteB_true] at hb
    have KX := Lib.hid (fun w => mix_any d c m w hb.1 hb.2.1 hb.2.2)
    clear hb
    go_enter Try.func19, Try.ntmps19
    go_wp2_with (first
      | (go_at_call 55; (with_reducible refine (K.out _).mono ?_); rintro e w1 ⟨rfl, rfl⟩)
      | (go_at_call 62; (with_reducible refine (KX.out _).mono ?_); rintro e w1 ⟨rfl, rfl⟩))
    go_ret2
    exact ⟨rfl, (bel_alloc bel_refl).below⟩
  · rw [if_neg (by rw [hb]; decide)]
    rw [hb] at K
    replace K := Lib.hid K
    clear hb
    go_enter Try.func19, Try.ntmps19
    go_wp2_with (first
      | (go_at_call 55; (with_reducible refine (K.out _).mono ?_); rintro e w1 ⟨rfl, rfl⟩))
    go_ret2
    exact ⟨rfl, (bel_alloc bel_refl).below⟩

end Go.Proofs.Ytdapakoicegdoaa
