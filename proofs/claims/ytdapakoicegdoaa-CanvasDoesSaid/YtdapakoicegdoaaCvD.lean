/-
  A canvas: New, Bytes, Fork, Size; the document's New and At.
-/
import Derived.Test.YtdapakoicegdoaaCvC
namespace Go.Proofs.Ytdapakoicegdoaa
open Go.RowKit

section
variable {w : World} {g k W H c : Nat} {bs : List UInt8}
set_option maxRecDepth 20000 in
set_option maxHeartbeats 2000000 in
theorem rcvAt (h : Cv 54 w g k W H c bs) (x y : Int) : Calls Try.prog 30 #[.pointer (some ⟨g, 0, none⟩), .int .i64 x, .int .i64 y] w fun e w' => e = .returned (.int .i64 (pxF W H bs x y)) ∧ ∃ n, w' = w.drewN n := by
  by_cases hin : 0 ≤ x ∧ x < W ∧ 0 ≤ y ∧ y < H
  · obtain ⟨i, u, hi, hil, hm0, hm1, kc, hp, -, -⟩ := pix_in h hin
    obtain ⟨hx0, hx1, hy0, hy1⟩ := hin
    have HP := Lib.hid hp
    have k0 : w.cell? ⟨g, 0, none⟩ = some (.int .i64 W) := h.blk.cell 0
    have k1 : w.cell? ⟨g, 1, none⟩ = some (.int .i64 H) := h.blk.cell 1
    have k2 : w.cell? ⟨g, 2, none⟩ = some (.slice (some ⟨k, 0, none⟩) bs.length c) := h.blk.cell 2
    have hul := u8_le u
    have hcap := h.cap
    have hbl : (bs.length : Int) ≤ 16777216 := by have := h.bd; omega
    obtain ⟨Wi, hWi⟩ : ∃ Wi : Int, (W : Int) = Wi := ⟨_, rfl⟩
    rw [hWi] at k0 hi hm0 hm1 hx1
    obtain ⟨m, hm⟩ : ∃ m : Int, y * Wi = m := ⟨_, rfl⟩
    have hq0 : IntKind.i64.wrap (y * Wi) = m := by rw [← hm]; exact IntWalk.i64_in _ (by omega)
    rw [hm] at hi hm0 hm1
    have hq1 : IntKind.i64.wrap (m + x) = m + x := IntWalk.i64_in _ (by omega)
    have hq2 : (m + x).toNat = i := by omega
    have hq3 : m + x < bs.length := by omega
    have hq4 : 0 ≤ m + x := by omega
    clear h hp hWi hm hi
    go_enter Try.func30, Try.ntmps30
    go_wp2_with fail
    go_quiet (fail)
    go_wp2
    go_ret
    exact ⟨ret_int HP.out.symm, ⟨_, rfl⟩⟩
  · have HP : Hid (pxF W H bs x y = 0) := Lib.hid (if_neg hin)
    have k0 : w.cell? ⟨g, 0, none⟩ = some (.int .i64 W) := h.blk.cell 0
    have k1 : w.cell? ⟨g, 1, none⟩ = some (.int .i64 H) := h.blk.cell 1
    have key : x < 0 ∨ (0 ≤ x ∧ (W : Int) ≤ x) ∨ (0 ≤ x ∧ x < W ∧ y < 0) ∨ (0 ≤ x ∧ x < W ∧ 0 ≤ y ∧ (H : Int) ≤ y) := by omega
    clear h hin
    rcases key with k | ⟨k, k'⟩ | ⟨k, k', k''⟩ | ⟨k, k', k'', k3⟩
    all_goals
      go_enter Try.func30, Try.ntmps30
      go_wp2
      go_ret
      exact ⟨ret_int HP.out.symm, ⟨0, rfl⟩⟩

set_option maxRecDepth 20000 in
set_option maxHeartbeats 1000000 in
theorem cvSize (h : Cv 102 w g k W H c bs) : Calls Try.prog 29 #[.pointer (some ⟨g, 0, none⟩)] w fun e w' => e = .returned (.tuple #[.int .i64 W, .int .i64 H]) ∧ Below w.heap.size w w' := by
  have k0 : w.cell? ⟨g, 0, none⟩ = some (.int .i64 W) := h.blk.cell 0
  have k1 : w.cell? ⟨g, 1, none⟩ = some (.int .i64 H) := h.blk.cell 1
  clear h
  go_enter Try.func29, Try.ntmps29
  go_wp2_with fail
  go_quiet (fail)
  go_wp2
  go_ret2
  exact ⟨rfl, (bel_drewN bel_refl).below⟩

set_option maxRecDepth 20000 in
set_option maxHeartbeats 1000000 in
theorem cvBytes (h : Cv 102 w g k W H c bs) : Calls Try.prog 23 #[.pointer (some ⟨g, 0, none⟩)] w fun e w' => ∃ b c', e = .returned (.slice (some ⟨b, 0, none⟩) bs.length c') ∧ w.heap.size ≤ b ∧ Byt w' b bs ∧ bs.length ≤ c' ∧ Below w.heap.size w w' := by
  have k2 : w.cell? ⟨g, 2, none⟩ = some (.slice (some ⟨k, 0, none⟩) bs.length c) := h.blk.cell 2
  have HC := Lib.hid (clone_new w ⟨k, 0, none⟩ bs.length c bs h.byt.sl (by have := h.bd; omega) h.bd.2)
  clear h
  go_enter Try.func23, Try.ntmps23
  go_wp2_with (go_at_call 68; (with_reducible refine HC.out.mono ?_); rintro e w1 ⟨b, c', rfl, hb, hB, hc, hb1⟩; have HB := Lib.hid hB; have HB1 := Lib.hid hb1; clear hB hb1)
  go_ret
  exact ⟨b, c', rfl, hb, HB.out, hc, HB1.out⟩

set_option maxRecDepth 20000 in
set_option maxHeartbeats 2000000 in
theorem cvFork (h : Cv 102 w g k W H c bs) : Calls Try.prog 27 #[.pointer (some ⟨g, 0, none⟩)] w fun e w' => ∃ g' k' c', e = .returned (.pointer (some ⟨g', 0, none⟩)) ∧ w.heap.size ≤ g' ∧ w.heap.size ≤ k' ∧ Cv 102 w' g' k' W H c' bs ∧ Below w.heap.size w w' := by
  have hgl := h.blk.lt
  have k0 : ∀ u, Aft w u → u.cell? ⟨g, 0, none⟩ = some (.int .i64 W) := fun u hu => h.blk.aft u hu 0
  have k1 : ∀ u, Aft w u → u.cell? ⟨g, 1, none⟩ = some (.int .i64 H) := fun u hu => h.blk.aft u hu 1
  have k2 : ∀ u, Aft w u → u.cell? ⟨g, 2, none⟩ = some (.slice (some ⟨k, 0, none⟩) bs.length c) := fun u hu => h.blk.aft u hu 2
  have HC := Lib.hid (clone_new w.drew ⟨k, 0, none⟩ bs.length c bs h.byt.drew.sl (by have := h.bd; omega) h.bd.2)
  have HH := Lib.hid h
  clear h
  go_enter Try.func27, Try.ntmps27
  go_wp2_with fail
  go_region_held (fun u => Aft w u) (first | (with_reducible exact aft_drew) | (with_reducible exact HA.out) | (with_reducible exact HA.out.alloc _)) (first | (go_at_call 68; (with_reducible refine HC.out.mono ?_); rintro e w1 ⟨b, c', rfl, hb, hB, hc, hb1⟩; have HB := Lib.hid hB; have HA := Lib.hid (aft_drew.call hb1); clear hB hb1))
  all_goals
    go_wp2
    go_ret
    have hbl := HB.out.lt
    refine ⟨w1.heap.size, b, c', rfl, HA.out.size, hb, ⟨Blk.new w1 102 [.int .i64 W, .int .i64 H, .slice (some ⟨b, 0, none⟩) bs.length c'], HB.out.keepB (bel_alloc bel_refl).below, HH.out.len, HH.out.w1, HH.out.h1, hc, by omega⟩, HA.out.alloc _⟩

end
end Go.Proofs.Ytdapakoicegdoaa
