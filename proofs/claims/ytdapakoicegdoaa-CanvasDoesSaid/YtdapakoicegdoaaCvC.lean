/-
  A canvas in memory: New, Size, At, Bytes, Fork; the document's New, At, Mix.
-/
import Derived.Test.YtdapakoicegdoaaCvB
import Derived.Test.YtdapakoicegdoaaClone
import Derived.StillTailTactics
namespace Go.Proofs.Ytdapakoicegdoaa
open Go.RowKit

/-- Block g (of type T) is a width, a height and bytes in block k. -/
structure Cv (T : TypeId) (w : World) (g k W H c : Nat) (bs : List UInt8) : Prop where
  blk : Blk w g T [.int .i64 W, .int .i64 H, .slice (some ⟨k, 0, none⟩) bs.length c]
  byt : Byt w k bs
  len : bs.length = H * W
  w1 : 1 ≤ W ∧ W ≤ 4096
  h1 : 1 ≤ H ∧ H ≤ 4096
  cap : bs.length ≤ c
  ne : g ≠ k
section
variable {T : TypeId} {w w' : World} {g k W H c : Nat} {bs : List UInt8}
theorem Cv.keep (h : Cv T w g k W H c bs) (hb : Below w.heap.size w w') : Cv T w' g k W H c bs := ⟨h.blk.keepB hb, h.byt.keepB hb, h.len, h.w1, h.h1, h.cap, h.ne⟩
theorem Cv.drewN (h : Cv T w g k W H c bs) (n : Nat) : Cv T (w.drewN n) g k W H c bs := ⟨h.blk.drewN n, h.byt.drewN n, h.len, h.w1, h.h1, h.cap, h.ne⟩
theorem Cv.drew (h : Cv T w g k W H c bs) : Cv T w.drew g k W H c bs := ⟨h.blk.drew, h.byt.drew, h.len, h.w1, h.h1, h.cap, h.ne⟩
theorem Cv.turn {b : Nat} (h : Cv T w g k W H c bs) (ht : Turn w w' b none) (h1 : g ≠ b) (h2 : k ≠ b) : Cv T w' g k W H c bs := ⟨ht.blk h.blk h1 (fun e => by cases e), h.byt.turn ht h2, h.len, h.w1, h.h1, h.cap, h.ne⟩
theorem Cv.bd (h : Cv T w g k W H c bs) : bs.length ≤ 16777216 ∧ 1 ≤ bs.length := by
  have h1 := h.w1
  have h2 := h.h1
  have h3 : H * W ≤ 4096 * 4096 := Nat.mul_le_mul h2.2 h1.2
  have h4 : 1 * 1 ≤ H * W := Nat.mul_le_mul h2.1 h1.1
  have := h.len
  omega
theorem Cv.rd (h : Cv T w g k W H c bs) : Bs w (some ⟨k, 0, none⟩) bs c := h.byt.toBs h.cap (by have := h.bd; omega)

theorem u8_le (u : UInt8) : (u.toNat : Int) ≤ 255 := by have := u.toNat_lt; omega
/-- A pixel's byte. -/
def pxF (W H : Nat) (bs : List UInt8) (x y : Int) : Int := if 0 ≤ x ∧ x < W ∧ 0 ≤ y ∧ y < H then ((bs[y.toNat * W + x.toNat]?.getD 0).toNat : Int) else 0
theorem pix_idx {x y : Nat} (hx : x < W) (hy : y < H) : y * W + x < H * W := by
  have h1 : (y + 1) * W ≤ H * W := Nat.mul_le_mul_right W hy
  rw [Nat.succ_mul] at h1
  omega
theorem bB_side (h1 : W ≤ 4096) (h2 : H ≤ 4096) : bB 0 0 W H = true := by
  simp only [bB, mayB]
  simp
  omega
theorem holds_side (h1 : W ≤ 4096) (h2 : H ≤ 4096) (x y : Int) : holdsB 0 0 W H x y = decide (0 ≤ x ∧ x < W ∧ 0 ≤ y ∧ y < H) := by
  rw [holdsB, bB_side h1 h2, Bool.eq_iff_iff]
  simp
  omega
theorem emptyB_side (h1 : 1 ≤ W) (h2 : 1 ≤ H) : emptyB 0 0 W H = false := emptyB_false.2 (by omega)
end

section
variable {w : World} {g k W H c : Nat} {bs : List UInt8}
set_option maxRecDepth 20000 in
set_option maxHeartbeats 1000000 in
theorem cvAll (h : Cv 102 w g k W H c bs) : Calls Try.prog 64 #[.pointer (some ⟨g, 0, none⟩)] w fun e w' => e = .returned (.agg #[.int .i64 0, .int .i64 0, .int .i64 W, .int .i64 H]) ∧ Below w.heap.size w w' := by
  have k0 : w.cell? ⟨g, 0, none⟩ = some (.int .i64 W) := h.blk.cell 0
  have k1 : w.cell? ⟨g, 1, none⟩ = some (.int .i64 H) := h.blk.cell 1
  have hlt := h.blk.lt
  clear h
  go_enter Try.func64, Try.ntmps64
  go_wp2_with fail
  refine wp_region_drew_tail 9 (by kernel_rfl) (by kernel_rfl) ?_
  simp only [List.take_succ_cons, List.take_zero, List.drop_succ_cons, List.drop_zero]
  repeat (go_big_quiet_step (fail))
  refine wpQuiet_nil ?_
  rintro _ ⟨nq, rfl⟩
  go_wp2
  refine bodyPost_ret (v := .agg #[.int .i64 _, .int .i64 _, .int .i64 _, .int .i64 _]) (by simp [results, Try.results64, go_sem, *]) rfl ⟨rfl, Bel.below ?_⟩
  repeat (first | with_reducible exact bel_refl | with_reducible apply bel_alloc | with_reducible apply bel_drewN | with_reducible apply bel_drew | (with_reducible refine bel_set ?_ ?_; rotate_left; · first | (simp; done) | (simp; omega) | omega) | with_reducible refine bel_call (by assumption) ?_)
set_option maxRecDepth 20000 in
set_option maxHeartbeats 1000000 in
theorem rcvAll (h : Cv 54 w g k W H c bs) : Calls Try.prog 99 #[.pointer (some ⟨g, 0, none⟩)] w fun e w' => e = .returned (.agg #[.int .i64 0, .int .i64 0, .int .i64 W, .int .i64 H]) ∧ Below w.heap.size w w' := by
  have k0 : w.cell? ⟨g, 0, none⟩ = some (.int .i64 W) := h.blk.cell 0
  have k1 : w.cell? ⟨g, 1, none⟩ = some (.int .i64 H) := h.blk.cell 1
  have hlt := h.blk.lt
  clear h
  go_enter Try.func99, Try.ntmps99
  go_wp2_with fail
  refine wp_region_drew_tail 9 (by kernel_rfl) (by kernel_rfl) ?_
  simp only [List.take_succ_cons, List.take_zero, List.drop_succ_cons, List.drop_zero]
  repeat (go_big_quiet_step (fail))
  refine wpQuiet_nil ?_
  rintro _ ⟨nq, rfl⟩
  go_wp2
  refine bodyPost_ret (v := .agg #[.int .i64 _, .int .i64 _, .int .i64 _, .int .i64 _]) (by simp [results, Try.results99, go_sem, *]) rfl ⟨rfl, Bel.below ?_⟩
  repeat (first | with_reducible exact bel_refl | with_reducible apply bel_alloc | with_reducible apply bel_drewN | with_reducible apply bel_drew | (with_reducible refine bel_set ?_ ?_; rotate_left; · first | (simp; done) | (simp; omega) | omega) | with_reducible refine bel_call (by assumption) ?_)

/-- What a walk wants of a pixel's place: numbers that are Int's variables. -/
theorem pix_in {T : TypeId} (h : Cv T w g k W H c bs) {x y : Int} (hin : 0 ≤ x ∧ x < W ∧ 0 ≤ y ∧ y < H) :
    ∃ (i : Nat) (u : UInt8), y * W = (i : Int) - x ∧ i < bs.length ∧ 0 ≤ y * W ∧ y * W ≤ 16777216 ∧ w.cell? ⟨k, i, none⟩ = some (.int .u8 u.toNat) ∧ pxF W H bs x y = u.toNat ∧ bs[i]? = some u ∧ i = y.toNat * W + x.toNat := by
  have hp : pxF W H bs x y = ((bs[y.toNat * W + x.toNat]?.getD 0).toNat : Int) := if_pos hin
  obtain ⟨x, rfl⟩ := Int.eq_ofNat_of_zero_le hin.1
  obtain ⟨y, rfl⟩ := Int.eq_ofNat_of_zero_le hin.2.2.1
  have hx : x < W := Int.ofNat_lt.1 hin.2.1
  have hy : y < H := Int.ofNat_lt.1 hin.2.2.2
  have hi := pix_idx hx hy
  have hbd := h.bd.1
  rw [← h.len] at hi
  rw [Int.toNat_natCast, Int.toNat_natCast] at hp
  have hc := h.byt.cell _ hi
  refine ⟨y * W + x, bs[y * W + x]?.getD 0, ?_, hi, ?_, ?_, hc, hp, ?_, ?_⟩
  · rw [Int.natCast_add, Int.natCast_mul]; omega
  · rw [← Int.natCast_mul]; exact Int.natCast_nonneg _
  · rw [← Int.natCast_mul]; omega
  · rw [List.getElem?_eq_getElem hi]; rfl
  · simp

set_option maxRecDepth 20000 in
set_option maxHeartbeats 2000000 in
theorem cvAt (h : Cv 102 w g k W H c bs) (x y : Int) : Calls Try.prog 17 #[.pointer (some ⟨g, 0, none⟩), .int .i64 x, .int .i64 y] w fun e w' => e = .returned (.int .i64 (pxF W H bs x y)) ∧ Below w.heap.size w w' := by
  have HA := Lib.hid (cvAll h)
  have KH := fun w => Holds_any 0 0 W H x y w
  rw [holds_side h.w1.2 h.h1.2] at KH
  by_cases hin : 0 ≤ x ∧ x < W ∧ 0 ≤ y ∧ y < H
  · rw [decide_eq_true hin] at KH
    obtain ⟨i, u, hi, hil, hm0, hm1, kc, hp, -, -⟩ := pix_in h hin
    have HKH := Lib.hid KH
    have HP := Lib.hid hp
    have k0 : w.cell? ⟨g, 0, none⟩ = some (.int .i64 W) := h.blk.cell 0
    have k2 : w.cell? ⟨g, 2, none⟩ = some (.slice (some ⟨k, 0, none⟩) bs.length c) := h.blk.cell 2
    have hgl := h.blk.lt
    have hkl := h.byt.lt
    have hul := u8_le u
    have hcap := h.cap
    have hbl : (bs.length : Int) ≤ 16777216 := by have := h.bd; omega
    obtain ⟨Wi, hWi⟩ : ∃ Wi : Int, (W : Int) = Wi := ⟨_, rfl⟩
    rw [hWi] at k0 hi hm0 hm1
    obtain ⟨m, hm⟩ : ∃ m : Int, y * Wi = m := ⟨_, rfl⟩
    have hq0 : IntKind.i64.wrap (y * Wi) = m := by rw [← hm]; exact IntWalk.i64_in _ (by omega)
    rw [hm] at hi hm0 hm1
    have hq1 : IntKind.i64.wrap (m + x) = m + x := IntWalk.i64_in _ (by omega)
    have hq2 : (m + x).toNat = i := by omega
    have hq3 : m + x < bs.length := by omega
    have hq4 : 0 ≤ m + x := by omega
    have HWi := Lib.hid hWi
    clear h hp hin KH hWi hm hi
    go_enter Try.func17, Try.ntmps17
    go_wp2_with (first
      | (go_at_call 64; (with_reducible refine HA.out.mono ?_); rintro e w1 ⟨rfl, hb1⟩; have HB1 := Lib.hid hb1; clear hb1)
      | (go_at_call 63; (with_reducible refine (HKH.out _).mono ?_); rintro e w2 ⟨rfl, hb2⟩
         have HB2 := Lib.hid (HB1.out.trans (hb2.mono HB1.out.size))
         have kw2 : w2.cell? ⟨g, 0, none⟩ = some (.int .i64 Wi) := (HB2.out.cell (p := ⟨g, 0, none⟩) hgl).trans k0
         have kw3 : w2.cell? ⟨g, 2, none⟩ = some (.slice (some ⟨k, 0, none⟩) bs.length c) := (HB2.out.cell (p := ⟨g, 2, none⟩) hgl).trans k2
         have kw4 : w2.cell? ⟨k, i, none⟩ = some (.int .u8 u.toNat) := (HB2.out.cell (p := ⟨k, i, none⟩) hkl).trans kc
         clear hb2))
    go_quiet (fail)
    go_wp2
    go_ret
    exact ⟨ret_int HP.out.symm, below_drewN HB2.out _⟩
  · rw [decide_eq_false hin] at KH
    have HP : Hid (pxF W H bs x y = 0) := Lib.hid (if_neg hin)
    have HKH := Lib.hid KH
    clear h KH hin
    go_enter Try.func17, Try.ntmps17
    go_wp2_with (first
      | (go_at_call 64; (with_reducible refine HA.out.mono ?_); rintro e w1 ⟨rfl, hb1⟩; have HB1 := Lib.hid hb1; clear hb1)
      | (go_at_call 63; (with_reducible refine (HKH.out _).mono ?_); rintro e w2 ⟨rfl, hb2⟩; have HB2 := Lib.hid (HB1.out.trans (hb2.mono HB1.out.size)); clear hb2))
    go_ret
    exact ⟨ret_int HP.out.symm, HB2.out⟩
end
end Go.Proofs.Ytdapakoicegdoaa
