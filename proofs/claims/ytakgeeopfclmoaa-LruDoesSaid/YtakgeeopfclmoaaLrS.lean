/-
  Layer 25: the law's masks.
-/
import Derived.Test.YtakgeeopfclmoaaLrR
namespace Go.Proofs.Ytakgeeopfclmoaa
open Go.RowKit Go.Maps

/-- A mask of n bytes. -/
def MaskR (w : World) (n : Nat) (b : UInt8) (e : Ending) (w' : World) : Prop :=
  ∃ A c bs, bs = List.replicate n b ∧ bs.length = n ∧ e = .returned (.agg #[.int .i64 0, .int .i64 0, .int .i64 n, .int .i64 1, .slice A bs.length c]) ∧ Bu w' A bs c ∧ Below w.heap.size w w'
/-- The bytes of a mask that is being filled. -/
def MskR (w : World) (b1 : Nat) (n : Nat) (b : UInt8) (k : Nat) (i : Value) (wr : World) : Prop :=
  k ≤ n ∧ i = .int .i64 ((n - k : Nat) : Int) ∧ Blk wr (w.heap.size + 1) 5 ((List.replicate (n - k) b ++ List.replicate k 0).map byteV) ∧ w.heap.size + 1 < b1 ∧ Blk wr b1 35 [.int .i64 0, .int .i64 0, .int .i64 n, .int .i64 1, .slice (some ⟨w.heap.size + 1, 0, none⟩) n n] ∧
    Blk wr w.heap.size 35 [.int .i64 0, .int .i64 0, .int .i64 0, .int .i64 0, .slice none 0 0] ∧ Below w.heap.size w wr
theorem blk_of_full {w : World} {base g n : Nat} {e : TypeId} {xs : List Value} (h : w.ownsRow base e 1 (.slice (some ⟨g, 0, none⟩) n n) n xs) : Blk w g e xs := by
  obtain ⟨h1, ⟨h2, _⟩ | ⟨g', cap, cur, h2, h3, h4, h5, h6, h7, h8⟩⟩ := h
  · simp at h2
  · injection h2 with e1 _ e3
    injection e1 with e1
    injection e1 with e1
    subst e1 e3
    unfold Blk
    rw [h4, ← h8, List.take_of_length_le (by simp; omega)]
theorem fill_step (j k : Nat) (b : UInt8) : ((List.replicate j b ++ List.replicate (k + 1) 0).map byteV).set j (.int .u8 b.toNat) = (List.replicate (j + 1) b ++ List.replicate k 0).map byteV := by
  show ((List.replicate j b ++ List.replicate (k + 1) 0).map byteV).set j (byteV b) = _
  rw [← List.map_set]
  congr 1
  rw [List.set_append_right _ _ (by simp)]
  have e1 : List.replicate (j + 1) b = List.replicate j b ++ [b] := List.replicate_succ'
  rw [e1]
  simp [List.replicate_succ]
section
variable {w : World}
set_option maxRecDepth 20000 in
set_option maxHeartbeats 2000000 in
theorem mask_any (n : Nat) (b : UInt8) (hn : 1 ≤ n) (hn2 : n ≤ 300) : Calls Try.prog 16 #[.int .i64 n, .int .u8 b.toNat] w (MaskR w n b) := by
  obtain ⟨i0, hi0, hz0, hz1, hz2⟩ := info_parts u8_info
  have e0 : ((n : Int) == 0) = false := by simp; omega
  have HW := Lib.hid (rfl : w = w)
  go_enter Try.func16, Try.ntmps16
  go_upto_region 2 with (first
    | (at_make; refine wpList_make_full _ rfl _ _ 33 rfl w.heap.size 5 i0 _ 1 Try.underlying33 hi0 hz0 hz1 .i64 .i64 _ _ n rfl rfl rfl rfl (by rw [hz2]; omega) (by unfold maxLen; omega) (by simp) ?_; intro w1 hown1 hgrow1
       rw [Nat.mul_one, show (Value.int IntKind.u8 0).cells = #[.int .u8 0] from rfl, toList_madeCells_one] at hown1
       have hb1 := blk_of_full hown1
       simp at hb1
       have hz1' : w.heap.size + 1 < w1.heap.size := by have := hb1.lt; simpa using this
       have hr0 : Blk w1 w.heap.size 35 [.int .i64 0, .int .i64 0, .int .i64 0, .int .i64 0, .slice none 0 0] := (hgrow1.block w.heap.size (by simp) (by simp)).trans (Blk.newAt w _ [_, _, _, _, _] rfl)
       have hbe1 : Below w.heap.size w w1 := (bel_alloc bel_refl).below.grown hgrow1 (by simp) (by simp)
       have HB1 := Lib.hid hb1
       have HR0 := Lib.hid hr0
       have HBE := Lib.hid hbe1
       clear hown1 hgrow1 hb1 hr0 hbe1))
  go_wp2_with fail
  go_loopg [6] n (fun k i wr => MskR w w1.heap.size n b k i wr)
  case atStart =>
    refine ⟨Nat.le_refl _, by simp, ?_, hz1', ?_, ?_, ?_⟩
    · have h1 := HB1.out.alloc (.cells #[.int .i64 0, .int .i64 0, .int .i64 n, .int .i64 1, .slice (some ⟨w.heap.size + 1, 0, none⟩) n n] 35)
      simpa [byteV] using h1
    · exact Blk.newAt _ _ [_, _, _, _, _] rfl
    · exact HR0.out.alloc _
    · exact (bel_alloc (b := w1) ⟨HBE.out, by omega⟩).below
  case round =>
    obtain ⟨hkn, rfl, hb, hz, hm, hr, hbe⟩ := hrel
    have m4 : wr.cell? ⟨w1.heap.size, 4, none⟩ = some (.slice (some ⟨w.heap.size + 1, 0, none⟩) n n) := hm.cell 4
    have hml := hm.lt
    have hbl := hb.lt
    cases gk with
    | zero =>
      have m0 : wr.cell? ⟨w1.heap.size, 0, none⟩ = some (.int .i64 0) := hm.cell 0
      have m1 : wr.cell? ⟨w1.heap.size, 1, none⟩ = some (.int .i64 0) := hm.cell 1
      have m2 : wr.cell? ⟨w1.heap.size, 2, none⟩ = some (.int .i64 n) := hm.cell 2
      have m3 : wr.cell? ⟨w1.heap.size, 3, none⟩ = some (.int .i64 1) := hm.cell 3
      have r0 : wr.cell? ⟨w.heap.size, 0, none⟩ = some (.int .i64 0) := hr.cell 0
      have r1 : wr.cell? ⟨w.heap.size, 1, none⟩ = some (.int .i64 0) := hr.cell 1
      have r2 : wr.cell? ⟨w.heap.size, 2, none⟩ = some (.int .i64 0) := hr.cell 2
      have r3 : wr.cell? ⟨w.heap.size, 3, none⟩ = some (.int .i64 0) := hr.cell 3
      have r4 : wr.cell? ⟨w.heap.size, 4, none⟩ = some (.slice none 0 0) := hr.cell 4
      have q0 := hr.frozen 0
      have q1 := hr.frozen 1
      have q2 := hr.frozen 2
      have q3 := hr.frozen 3
      have q4 := hr.frozen 4
      have hrl := hr.lt
      have hbs : Blk wr (w.heap.size + 1) 5 ((List.replicate n b).map byteV) := by simpa using hb
      have HBS := Lib.hid hbs
      have HBE2 := Lib.hid hbe
      rw [Nat.sub_zero]
      clear hb hm hr hbe hkn hbs
      go_wp2_with fail
      have hl : (List.replicate n b).length = n := by simp
      refine bodyPost_ret (v := .agg #[.int .i64 0, .int .i64 0, .int .i64 n, .int .i64 1, .slice (some ⟨w.heap.size + 1, 0, none⟩) n n]) (by simp [results, Try.results16, go_sem, *]) rfl ⟨some ⟨w.heap.size + 1, 0, none⟩, n, List.replicate n b, rfl, hl, by rw [hl], ?_, ?_⟩
      · have hbu : Bu wr (some ⟨w.heap.size + 1, 0, none⟩) (List.replicate n b) n := by
          refine ⟨⟨?_, by omega, by omega, fun k hk => ?_⟩, fun k hk => ?_⟩
          · exact slat_blk HBS.out (n := (List.replicate n b).length) (by simp)
          · simp [rowOf] at hk; subst hk; exact HBS.out.lt
          · simp [rowOf] at hk; subst hk; exact ⟨_, _, HBS.out⟩
        have hne : rowOf (some ⟨w.heap.size + 1, 0, none⟩) ≠ some w.heap.size := by simp [rowOf]
        exact ((((hbu.set (p := ⟨_, 0, none⟩) hne _).set (p := ⟨_, 1, none⟩) hne _).set (p := ⟨_, 2, none⟩) hne _).set (p := ⟨_, 3, none⟩) hne _).set (p := ⟨_, 4, none⟩) hne _
      · have hbe3 := HBE2.out
        refine Bel.below (bel_set (bel_set (bel_set (bel_set (bel_set ⟨hbe3, hbe3.size⟩ ?_) ?_) ?_) ?_) ?_) <;> exact Nat.le_refl _
    | succ k =>
      obtain ⟨j, hj⟩ : ∃ j, n - (k + 1) = j := ⟨_, rfl⟩
      rw [hj] at hb ⊢
      have hjn : (j : Int) < n := by omega
      have hnew := hb.set j (.int .u8 b.toNat)
      rw [fill_step] at hnew
      have cj : wr.cell? ⟨w.heap.size + 1, j, none⟩ = some (.int .u8 0) := by
        rw [hb.cell j, List.getElem?_map, List.getElem?_append_right (by simp)]
        simp [byteV]
      have fj := hb.frozen j
      have hfin : MskR w w1.heap.size n b k (.int .i64 ((j : Int) + 1)) (wr.setCell ⟨w.heap.size + 1, j, none⟩ (.int .u8 b.toNat)) := by
        refine ⟨by omega, by congr 1; omega, ?_, hz, hm.far (by simp; omega) _, hr.far (by simp) _, (bel_set (b := wr) ⟨hbe, hbe.size⟩ (by simp)).below⟩
        rw [show n - k = j + 1 by omega]
        exact hnew
      have HF := Lib.hid hfin
      clear hb hm hr hbe hnew hfin hj
      go_wp2_with fail
      go_roundg k
      case rel => exact HF.out
      case measure => omega
end
end Go.Proofs.Ytakgeeopfclmoaa
