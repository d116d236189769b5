/-
  The document's Load of layer 14: heads that may not be.
-/
import Derived.Test.YtbmflgcahbkdeaaIdxL
import Derived.Test.YtbmflgcahbkdeaaRefRd
namespace Go.Proofs.Ytbmflgcahbkdeaa
open Go.RowKit

section
variable {w w' : World} {r : Nat} {bs : List UInt8} {pos : Nat} {bad : Bool} {A : Option Addr} {c : Nat}
theorem xU_p (h : Rx w r bs pos false A c) (n : Nat) (hn : n ≤ 4) (hp : pos + n ≤ bs.length) :
    Calls Try.prog 47 #[.pointer (some ⟨r, 0, none⟩), .int .i64 n] w fun e w' => e = .returned (.int .i64 (nAt bs pos n)) ∧ Rx w' r bs (pos + n) false A c ∧ Turn w w' r none := by
  have := xU_any w r bs (pos, false) A c n h hn
  rwa [numF_ok hp, advF_ok hp] at this
theorem xU2_p (h : Rx w r bs pos false A c) (hp : pos + 2 ≤ bs.length) :
    Calls Try.prog 47 #[.pointer (some ⟨r, 0, none⟩), .int .i64 2] w fun e w' => e = .returned (.int .i64 (nAt bs pos 2)) ∧ Rx w' r bs (pos + 2) false A c ∧ Turn w w' r none := xU_p h 2 (by decide) hp
theorem xU1_p (h : Rx w r bs pos false A c) (hp : pos + 1 ≤ bs.length) :
    Calls Try.prog 47 #[.pointer (some ⟨r, 0, none⟩), .int .i64 1] w fun e w' => e = .returned (.int .i64 (nAt bs pos 1)) ∧ Rx w' r bs (pos + 1) false A c ∧ Turn w w' r none := xU_p h 1 (by decide) hp
theorem xU_n (h : Rx w r bs pos false A c) (n : Nat) (hn : n ≤ 4) (hp : bs.length < pos + n) :
    Calls Try.prog 47 #[.pointer (some ⟨r, 0, none⟩), .int .i64 n] w fun e w' => e = .returned (.int .i64 0) ∧ Rx w' r bs pos true A c ∧ Turn w w' r none := by
  have hb : badF bs (pos, false) n = true := by simp [badF]; omega
  have := xU_any w r bs (pos, false) A c n h hn
  rwa [show numF bs (pos, false) n = 0 by simp [numF, takF, hb, numB], show advF bs (pos, false) n = (pos, true) by simp [advF, hb]] at this
theorem xU2_n (h : Rx w r bs pos false A c) (hp : bs.length < pos + 2) :
    Calls Try.prog 47 #[.pointer (some ⟨r, 0, none⟩), .int .i64 2] w fun e w' => e = .returned (.int .i64 0) ∧ Rx w' r bs pos true A c ∧ Turn w w' r none := xU_n h 2 (by decide) hp
theorem xU1_n (h : Rx w r bs pos false A c) (hp : bs.length < pos + 1) :
    Calls Try.prog 47 #[.pointer (some ⟨r, 0, none⟩), .int .i64 1] w fun e w' => e = .returned (.int .i64 0) ∧ Rx w' r bs pos true A c ∧ Turn w w' r none := xU_n h 1 (by decide) hp
theorem Rx.keepB {B : Nat} (h : Rx w r bs pos bad A c) (hb : Below B w w') (hB : B ≤ w.heap.size) (hr : r < B) (hA : 0 < bs.length → ∀ b, rowOf A = some b → b < B) : Rx w' r bs pos bad A c :=
  ⟨h.blk.below hb hr, h.sl.keepB hb hB hA, h.apart, h.cap, h.pos_le, h.small⟩
theorem Rx.badC (h : Rx w r bs pos bad A c) : w.cell? ⟨r, 2, none⟩ = some (.bool bad) := by rw [h.blk.cell 2]; rfl
theorem Rx.atC (h : Rx w r bs pos bad A c) : w.cell? ⟨r, 1, none⟩ = some (.int .i64 pos) := by rw [h.blk.cell 1]; rfl
theorem Rx.new (h : Bs w A bs c) : Rx (w.alloc (.cells #[.slice A bs.length c, .int .i64 0, .bool false] 89)) w.heap.size bs 0 false A c :=
  ⟨Blk.new w _ [.slice A bs.length c, .int .i64 0, .bool false], h.sl.keep (bel_alloc bel_refl).below, fun _ e => by have := h.row _ e; omega, h.cap, Nat.zero_le _, h.small⟩
end

/-- What the document's Load answers. -/
def RLPost (bs : List UInt8) (w : World) (e : Ending) (w' : World) : Prop :=
  Below w.heap.size w w' ∧ ((ixOk bs = true ∧ ∃ A' c', e = .returned (.tuple #[.slice A' (ixLists bs).length c', .int .i64 (ixBytes bs), .bool true]) ∧ Ls w' A' (ixLists bs)) ∨
    (ixOk bs = false ∧ ∃ x : Int, e = .returned (.tuple #[.slice none 0 0, .int .i64 x, .bool false])))

set_option maxHeartbeats 1000000 in
theorem rLoad_short (w : World) (A : Option Addr) (bs : List UInt8) (c : Nat) (h : Bs w A bs c) (hl : bs.length < 2) :
    Calls Try.prog 14 #[.slice A bs.length c] w (RLPost bs w) := by
  have HOK : Hid (ixOk bs = false) := Lib.hid (by simp [ixOk]; omega)
  have HR0 := Lib.hid (Rx.new h)
  have HB0 := Lib.hid (bel_alloc (o := .cells #[.slice A bs.length c, .int .i64 0, .bool false] 89) (bel_refl (a := w)))
  clear h
  go_enter Try.func14, Try.ntmps14
  go_wp2_with (first
    | (go_at_call 47; (with_reducible refine (xU2_n HR0.out (by omega)).mono ?_); rintro e w1 ⟨rfl, hr1, ht1⟩; have k2 := hr1.badC; have HB1 := Lib.hid (HB0.out.below.trans (ht1.below HB0.out.le (Nat.le_refl _) (by intro k e; cases e))); clear hr1 ht1))
  go_quiet (fail)
  go_wp2
  go_ret3
  exact ⟨below_drewN HB1.out _, .inr ⟨HOK.out, 2, rfl⟩⟩

set_option maxHeartbeats 1000000 in
theorem rLoad_zero (w : World) (A : Option Addr) (bs : List UInt8) (c : Nat) (h : Bs w A bs c) (hl : 2 ≤ bs.length) (h0 : ixN bs = 0) :
    Calls Try.prog 14 #[.slice A bs.length c] w (RLPost bs w) := by
  have HOK : Hid (ixOk bs = true) := Lib.hid (by simp [ixOk, hl, h0])
  have HN : Hid (nAt bs 0 2 = 0) := Lib.hid h0
  have HL : Hid (ixLists bs = []) := Lib.hid (ixLists_zero h0)
  have HY : Hid (ixBytes bs = 2) := Lib.hid (by rw [ixBytes]; exact if_pos h0)
  have HR0 := Lib.hid (Rx.new h)
  have HB0 := Lib.hid (bel_alloc (o := .cells #[.slice A bs.length c, .int .i64 0, .bool false] 89) (bel_refl (a := w)))
  have hsm := h.small
  clear h h0
  go_enter Try.func14, Try.ntmps14
  go_wp2_with (first | (go_at_call 47; (with_reducible refine (xU2_p HR0.out (by omega)).mono ?_); rintro e w1 ⟨rfl, hr1, ht1⟩; rw [HN.out]; have k2 := hr1.badC; have HR1 := Lib.hid hr1; have HB1 := Lib.hid (HB0.out.below.trans (ht1.below HB0.out.le (Nat.le_refl _) (by intro k e; cases e))); clear hr1 ht1))
  go_quiet (fail)
  go_wp2
  go_ret3
  exact ⟨below_drewN HB1.out _, .inl ⟨HOK.out, none, 0, by rw [HL.out, HY.out]; rfl, by rw [HL.out]; intro i l hl; simp at hl⟩⟩

set_option maxHeartbeats 2000000 in
theorem rLoad_head (w : World) (A : Option Addr) (bs : List UInt8) (c : Nat) (h : Bs w A bs c) (hl : 2 ≤ bs.length) (h0 : ixN bs ≠ 0) (hh : ixHeadOk bs = false) :
    Calls Try.prog 14 #[.slice A bs.length c] w (RLPost bs w) := by
  have HOK : Hid (ixOk bs = false) := Lib.hid (ixOk_no h0 hh)
  have HR0 := Lib.hid (Rx.new h)
  have HB0 := Lib.hid (bel_alloc (o := .cells #[.slice A bs.length c, .int .i64 0, .bool false] 89) (bel_refl (a := w)))
  have hsm := h.small
  clear h
  obtain ⟨n, hn⟩ : ∃ n, ixN bs = n := ⟨_, rfl⟩
  obtain ⟨z, hz⟩ : ∃ z, ixS bs = z := ⟨_, rfl⟩
  have hn2 : (n : Int) ≤ 65535 := by rw [← hn]; exact nAt_lt2 bs 0
  have hz2 : (z : Int) ≤ 255 := by rw [← hz]; exact nAt_lt1 bs 2
  rw [hn] at h0
  have hb0 : ((n : Int) == 0) = false := by simp; omega
  have HN : Hid (nAt bs 0 2 = n) := Lib.hid hn
  have HZ : Hid (nAt bs 2 1 = z) := Lib.hid hz
  have key : bs.length < 3 ∨ (3 ≤ bs.length ∧ z < 1) ∨ (3 ≤ bs.length ∧ 1 ≤ z ∧ 4 < z) ∨ (3 ≤ bs.length ∧ 1 ≤ z ∧ z ≤ 4 ∧ bs.length < 3 + (n + 1) * z) := by
    simp only [ixHeadOk, ixBase, hn, hz] at hh
    simp at hh
    rcases Nat.lt_or_ge bs.length 3 with h1 | h1
    · exact .inl h1
    · rcases Nat.lt_or_ge z 1 with h2 | h2
      · exact .inr (.inl ⟨h1, h2⟩)
      · rcases Nat.lt_or_ge 4 z with h3 | h3
        · exact .inr (.inr (.inl ⟨h1, h2, h3⟩))
        · exact .inr (.inr (.inr ⟨h1, h2, h3, hh h1 h2 h3⟩))
  clear hh hn hz
  rcases key with h1 | ⟨h1, h2⟩ | ⟨h1, h2, h3⟩ | ⟨h1, h2, h3, h4⟩
  · go_enter Try.func14, Try.ntmps14
    go_wp2_with (first | (go_at_call 47; (with_reducible refine (xU2_p HR0.out (by omega)).mono ?_); rintro e w1 ⟨rfl, hr1, ht1⟩; rw [HN.out]; have k2 := hr1.badC; have HR1 := Lib.hid hr1; have HB1 := Lib.hid (HB0.out.below.trans (ht1.below HB0.out.le (Nat.le_refl _) (by intro k e; cases e))); clear hr1 ht1) | (go_at_call 47; (with_reducible refine (xU1_n HR1.out (by omega)).mono ?_); rintro e w2 ⟨rfl, hr2, ht2⟩; have k3 := hr2.badC; have HR2 := Lib.hid hr2; have HB2 := Lib.hid (HB1.out.trans (ht2.below HB1.out.size (Nat.le_refl _) (by intro k e; cases e))); clear hr2 ht2))
    go_ret3
    exact ⟨HB2.out, .inr ⟨HOK.out, 0, rfl⟩⟩
  · go_enter Try.func14, Try.ntmps14
    go_wp2_with (first | (go_at_call 47; (with_reducible refine (xU2_p HR0.out (by omega)).mono ?_); rintro e w1 ⟨rfl, hr1, ht1⟩; rw [HN.out]; have k2 := hr1.badC; have HR1 := Lib.hid hr1; have HB1 := Lib.hid (HB0.out.below.trans (ht1.below HB0.out.le (Nat.le_refl _) (by intro k e; cases e))); clear hr1 ht1) | (go_at_call 47; (with_reducible refine (xU1_p HR1.out (by omega)).mono ?_); rintro e w2 ⟨rfl, hr2, ht2⟩; rw [HZ.out]; have k3 := hr2.badC; have HR2 := Lib.hid hr2; have HB2 := Lib.hid (HB1.out.trans (ht2.below HB1.out.size (Nat.le_refl _) (by intro k e; cases e))); clear hr2 ht2))
    go_ret3
    exact ⟨HB2.out, .inr ⟨HOK.out, 0, rfl⟩⟩
  · go_enter Try.func14, Try.ntmps14
    go_wp2_with (first | (go_at_call 47; (with_reducible refine (xU2_p HR0.out (by omega)).mono ?_); rintro e w1 ⟨rfl, hr1, ht1⟩; rw [HN.out]; have k2 := hr1.badC; have HR1 := Lib.hid hr1; have HB1 := Lib.hid (HB0.out.below.trans (ht1.below HB0.out.le (Nat.le_refl _) (by intro k e; cases e))); clear hr1 ht1) | (go_at_call 47; (with_reducible refine (xU1_p HR1.out (by omega)).mono ?_); rintro e w2 ⟨rfl, hr2, ht2⟩; rw [HZ.out]; have k3 := hr2.badC; have HR2 := Lib.hid hr2; have HB2 := Lib.hid (HB1.out.trans (ht2.below HB1.out.size (Nat.le_refl _) (by intro k e; cases e))); clear hr2 ht2))
    go_ret3
    exact ⟨HB2.out, .inr ⟨HOK.out, 0, rfl⟩⟩
  · obtain ⟨q, hq, hq0⟩ : ∃ q : Nat, (n + 1) * z = q ∧ q ≤ 262144 := ⟨_, rfl, Nat.mul_le_mul (show n + 1 ≤ 65536 by omega) h3⟩
    have hqi : wrap64 (((n : Int) + 1) * (z : Int)) = (q : Int) := by
      have e : ((n : Int) + 1) * z = (((n + 1) * z : Nat) : Int) := by simp
      rw [e, hq]
      exact IntWalk.wrap64_in _ ⟨by omega, by omega⟩
    rw [hq] at h4
    clear hq
    have h5 : (bs.length : Int) - 3 < q := by omega
    go_enter Try.func14, Try.ntmps14
    go_wp2_with (first | (go_at_call 47; (with_reducible refine (xU2_p HR0.out (by omega)).mono ?_); rintro e w1 ⟨rfl, hr1, ht1⟩; rw [HN.out]; have k2 := hr1.badC; have HR1 := Lib.hid hr1; have HB1 := Lib.hid (HB0.out.below.trans (ht1.below HB0.out.le (Nat.le_refl _) (by intro k e; cases e))); clear hr1 ht1) | (go_at_call 47; (with_reducible refine (xU1_p HR1.out (by omega)).mono ?_); rintro e w2 ⟨rfl, hr2, ht2⟩; rw [HZ.out]; have k3 := hr2.badC; have HR2 := Lib.hid hr2; have HB2 := Lib.hid (HB1.out.trans (ht2.below HB1.out.size (Nat.le_refl _) (by intro k e; cases e))); clear hr2 ht2))
    go_ret3
    exact ⟨HB2.out, .inr ⟨HOK.out, 0, rfl⟩⟩

end Go.Proofs.Ytbmflgcahbkdeaa
