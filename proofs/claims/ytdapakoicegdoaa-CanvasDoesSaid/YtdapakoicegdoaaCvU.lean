/-
  The document's At of a mask; what stays behind Blend, in plain Lean.
-/
import Derived.Test.YtdapakoicegdoaaCvQ
import Derived.Test.YtdapakoicegdoaaCvM
namespace Go.Proofs.Ytdapakoicegdoaa
open Go.RowKit

theorem px_nat {W H : Nat} (bs : List UInt8) {X Y : Nat} (hX : X < W) (hY : Y < H) : pxF W H bs X Y = ((bs[Y * W + X]?.getD 0).toNat : Int) := by
  unfold pxF
  rw [if_pos (by omega), Int.toNat_natCast, Int.toNat_natCast]
theorem rep77 {W H : Nat} {X Y : Nat} (hX : X < W) (hY : Y < H) : (List.replicate (H * W) (byt 77))[Y * W + X]? = some 77 := by
  rw [List.getElem?_replicate, if_pos (pix_idx hX hY)]
  rfl
theorem inB_blBox {W H : Nat} {a : Cl} {X Y : Nat} (h : inB (blBox W H a) X Y) : blErr a = 0 ∧ inB (blMt W H a) X Y := by
  unfold blBox at h
  by_cases hz : blErr a = 0
  · rw [if_pos hz] at h; exact ⟨hz, h⟩
  · rw [if_neg hz] at h
    unfold inB at h
    simp only at h
    omega
theorem stays_out {W H : Nat} {a : Cl} {X Y : Nat} (hX : X < W) (hY : Y < H) (h : ¬ inB (blBox W H a) X Y) : pxF W H (blBs W H a (List.replicate (H * W) (byt 77))) X Y = 77 := by
  rw [px_nat _ hX hY, blBs_px a (by simp) hX hY, rep77 hX hY, if_neg]
  · rfl
  · rintro ⟨hz, hi⟩
    unfold blBox at h
    rw [if_pos hz] at h
    exact h hi
theorem stays_zero {W H : Nat} {a : Cl} {X Y : Nat} (hX : X < W) (hY : Y < H) (h : inB (blBox W H a) X Y) (hm : (mAt a X Y).toNat = 0) : pxF W H (blBs W H a (List.replicate (H * W) (byt 77))) X Y = 77 := by
  rw [px_nat _ hX hY, blBs_px a (by simp) hX hY, rep77 hX hY, if_pos (inB_blBox h)]
  have hc := byteB_true.1 (blErr_zero (inB_blBox h).1).2.1
  show (((blendB a.c (mAt a X Y) 77).toNat : Nat) : Int) = 77
  rw [blendB_val hc, hm]
  exact mixI_zero _ _
theorem stays_in {W H : Nat} {a : Cl} {X Y : Nat} (h : inB (blBox W H a) X Y) :
    maskE a.m0 a.m1 a.m2 a.m3 a.ms.length = 0 ∧ (-1048576 ≤ a.x ∧ a.x ≤ 1048576) ∧ (-1048576 ≤ a.y ∧ a.y ≤ 1048576) ∧ (a.m0 ≤ X - a.x ∧ X - a.x < a.m2) ∧ (a.m1 ≤ Y - a.y ∧ Y - a.y < a.m3) ∧ a.ms[((Y - a.y - a.m1) * (a.m2 - a.m0) + (X - a.x) - a.m0).toNat]?.getD 0 = mAt a X Y := by
  obtain ⟨hz, hi⟩ := inB_blBox h
  obtain ⟨h1, h2, h3, h4⟩ := blErr_zero hz
  obtain ⟨x0, y0, n, m, hM⟩ := meetN W H a.sh
  obtain ⟨_, _, _, _, e5⟩ := bl_parts hM
  rw [e5] at hi
  unfold inB at hi
  simp only at hi
  obtain ⟨l1, l2, l3, l4⟩ := hM.lo (by omega)
  have e : a.sh = ⟨a.m0 + a.x, a.m1 + a.y, a.m2 + a.x, a.m3 + a.y⟩ := by
    unfold Cl.sh shB at l1 l2 ⊢
    by_cases hq : eq4 a.m0 a.m1 a.m2 a.m3 0 0 0 0 = true
    · rw [if_pos hq] at l1 l2
      simp only at l1 l2
      omega
    · rw [if_neg hq]
  unfold mAt
  rw [e] at l1 l2 l3 l4 ⊢
  simp only at l1 l2 l3 l4 ⊢
  have d1 : (Y : Int) - (a.m1 + a.y) = Y - a.y - a.m1 := by omega
  have d2 : ∀ p : Int, p + X - (a.m0 + a.x) = p + (X - a.x) - a.m0 := fun p => by omega
  rw [d1, d2]
  exact ⟨h1, farB_false.1 h3, farB_false.1 h4, by omega, by omega, rfl⟩

set_option maxRecDepth 20000 in
set_option maxHeartbeats 2000000 in
theorem rAt23 {w : World} {A : Option Addr} {ms : List UInt8} {cm : Nat} {a b c d x y : Int} (hm : maskE a b c d ms.length = 0) (hms : Bw w A ms cm) (hx : a ≤ x ∧ x < c) (hy : b ≤ y ∧ y < d) :
    Calls Try.prog 18 #[.agg #[.int .i64 a, .int .i64 b, .int .i64 c, .int .i64 d, .slice A ms.length cm], .int .i64 x, .int .i64 y] w fun e w' => e = .returned (.int .i64 (ms[((y - b) * (c - a) + x - a).toNat]?.getD 0).toNat) ∧ Below w.heap.size w w' := by
  rcases maskE_ok hm with ⟨rfl, rfl, rfl, rfl, _⟩ | ⟨_, hc, hn⟩
  · omega
  obtain ⟨_, g2, g3, g4, g5, g6, g7, g8⟩ := cellE_zero.1 hc
  obtain ⟨r, hr⟩ : ∃ r, y - b = r := ⟨_, rfl⟩
  obtain ⟨wd, hwd⟩ : ∃ wd, c - a = wd := ⟨_, rfl⟩
  have h1 : (y - b) * (c - a) ≤ (d - b - 1) * (c - a) := Int.mul_le_mul_of_nonneg_right (by omega) (by omega)
  have h2 : 0 ≤ (y - b) * (c - a) := Int.mul_nonneg (by omega) (by omega)
  have h3 : (d - b - 1) * (c - a) = ms.length - (c - a) := by rw [hn, Int.sub_mul, Int.one_mul, Int.mul_comm]
  obtain ⟨i, hi⟩ := Int.eq_ofNat_of_zero_le (show 0 ≤ (y - b) * (c - a) + x - a by omega)
  have hil : i < ms.length := by omega
  rw [hi, Int.toNat_natCast]
  rw [hr, hwd] at h1 h2 hi
  obtain ⟨m, hmm⟩ : ∃ m, r * wd = m := ⟨_, rfl⟩
  rw [hmm] at h1 h2 hi
  obtain ⟨mb, mo, rfl, hmb, kc⟩ := hms.sl.2 i (by rw [hms.sl.1.symm] at *; simpa using hil)
  have hq0 : IntKind.i64.wrap (y - b) = r := by rw [hr]; exact IntWalk.i64_in _ (by omega)
  have hq1 : IntKind.i64.wrap (c - a) = wd := by rw [hwd]; exact IntWalk.i64_in _ (by omega)
  have hm4 : m ≤ 4194304 := by omega
  have hq2 : IntKind.i64.wrap (r * wd) = m := by rw [hmm]; exact IntWalk.i64_in _ (by omega)
  have hq2' : wrap64 (r * wd) = m := by rw [hmm]; exact IntWalk.wrap64_in _ (by omega)
  have hq3 : IntKind.i64.wrap (m + x) = m + x := IntWalk.i64_in _ (by omega)
  have hq4 : IntKind.i64.wrap (m + x - a) = m + x - a := IntWalk.i64_in _ (by omega)
  have hq5 : (m + x - a).toNat = i := by omega
  have hq6 : 0 ≤ m + x - a := by omega
  have hq7 : m + x - a < ms.length := by omega
  have hkc : w.cell? ⟨mb, mo + i, none⟩ = some (.int .u8 (ms[i]?.getD 0).toNat) := by
    rw [kc, List.getElem?_map, List.getElem?_eq_getElem hil]; rfl
  have hcap := hms.cap
  have hul := u8_le (ms[i]?.getD 0)
  generalize ms[i]?.getD 0 = u at *
  clear hms kc hm hn hc h1 h2 h3 g8 hmm hi
  go_enter Try.func18, Try.ntmps18
  go_wp2
  go_ret
  exact ⟨rfl, (bel_alloc (bel_alloc bel_refl)).below⟩

end Go.Proofs.Ytdapakoicegdoaa
