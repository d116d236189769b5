/-
  index.Load.
-/
import Derived.Test.YtbmflgcahbkdeaaIdxI
import Derived.Test.YtbmflgcahbkdeaaReadB
import Derived.Test.YtbmflgcahbkdeaaOwI
namespace Go.Proofs.Ytbmflgcahbkdeaa
open Go.RowKit

def ixN (bs : List UInt8) : Nat := nAt bs 0 2
def ixS (bs : List UInt8) : Nat := nAt bs 2 1
def ixO (bs : List UInt8) (i : Nat) : Nat := offAt bs 3 (ixS bs) i
def ixBase (bs : List UInt8) : Nat := 3 + (ixN bs + 1) * ixS bs
def ixHeadOk (bs : List UInt8) : Bool := decide (3 ≤ bs.length) && (decide (1 ≤ ixS bs) && (decide (ixS bs ≤ 4) && decide (ixBase bs ≤ bs.length)))
/-- Are these bytes an INDEX of lists? -/
def ixGood (bs : List UInt8) : Bool := ixHeadOk bs && (offGood bs 3 (ixS bs) (ixN bs) && decide (ixBase bs + (ixO bs (ixN bs) - 1) ≤ bs.length))
/-- Are these bytes an INDEX? -/
def ixOk (bs : List UInt8) : Bool := decide (2 ≤ bs.length) && (decide (ixN bs = 0) || ixGood bs)
def ixLists (bs : List UInt8) : List (List UInt8) := (List.range (ixN bs)).map fun i => (bs.drop (ixBase bs + (ixO bs i - 1))).take (ixO bs (i + 1) - ixO bs i)
def ixBytes (bs : List UInt8) : Nat := if ixN bs = 0 then 2 else ixBase bs + (ixO bs (ixN bs) - 1)
theorem ixLists_zero {bs : List UInt8} (h : ixN bs = 0) : ixLists bs = [] := by simp [ixLists, h]

/-- What Load answers. -/
def IxPost (bs : List UInt8) (w : World) (e : Ending) (w' : World) : Prop :=
  Below w.heap.size w w' ∧ ((ixOk bs = true ∧ ∃ g Ab cb ds Ao co os, e = .returned (.tuple #[.pointer (some ⟨g, 0, none⟩), .int .i64 0]) ∧ Ix w' g (ixLists bs) (ixBytes bs) Ab cb ds Ao co os) ∨
    (ixOk bs = false ∧ e = .returned (.tuple #[.pointer none, .int .i64 140])))

theorem new_G (w : World) (bs : List UInt8) (A : Option Addr) (c : Nat) (h : SlAt w A bs.length (bs.map byteV)) (hc : bs.length ≤ c) (hs : bs.length ≤ 140737488355328) (hA : ∀ k, rowOf A = some k → k < w.heap.size) :
    Calls Try.prog 39 #[.slice A bs.length c] w fun e w' => ∃ g, w.heap.size ≤ g ∧ e = .returned (.pointer (some ⟨g, 0, none⟩)) ∧ Rd w' g bs 0 false A c ∧ Below w.heap.size w w' :=
  (new_W w bs A c h hc hs hA).mono fun _ _ ⟨he, hr, hb⟩ => ⟨_, Nat.le_refl _, he, hr, hb⟩
section
variable {w : World} {r : Nat} {bs : List UInt8} {pos : Nat} {A : Option Addr} {c : Nat}
theorem rU16_p (h : Rd w r bs pos false A c) (hp : pos + 2 ≤ bs.length) :
    Calls Try.prog 40 #[.pointer (some ⟨r, 0, none⟩)] w fun e w' => e = .returned (.int .i64 (nAt bs pos 2)) ∧ Rd w' r bs (pos + 2) false A c ∧ Turn w w' r none := by
  have := rU16_any w r bs (pos, false) A c h
  rwa [numF_ok hp, advF_ok hp] at this
theorem rU8_p (h : Rd w r bs pos false A c) (hp : pos + 1 ≤ bs.length) :
    Calls Try.prog 43 #[.pointer (some ⟨r, 0, none⟩)] w fun e w' => e = .returned (.int .i64 (nAt bs pos 1)) ∧ Rd w' r bs (pos + 1) false A c ∧ Turn w w' r none := by
  have := rU8_any w r bs (pos, false) A c h
  rwa [numF_ok hp, advF_ok hp] at this
theorem rU16_n (h : Rd w r bs pos false A c) (hp : bs.length < pos + 2) :
    Calls Try.prog 40 #[.pointer (some ⟨r, 0, none⟩)] w fun e w' => e = .returned (.int .i64 0) ∧ Rd w' r bs pos true A c ∧ Turn w w' r none := by
  have hb : badF bs (pos, false) 2 = true := by simp [badF]; omega
  have := rU16_any w r bs (pos, false) A c h
  rwa [show numF bs (pos, false) 2 = 0 by simp [numF, takF, hb, numB], show advF bs (pos, false) 2 = (pos, true) by simp [advF, hb]] at this
theorem rU8_n (h : Rd w r bs pos false A c) (hp : bs.length < pos + 1) :
    Calls Try.prog 43 #[.pointer (some ⟨r, 0, none⟩)] w fun e w' => e = .returned (.int .i64 0) ∧ Rd w' r bs pos true A c ∧ Turn w w' r none := by
  have hb : badF bs (pos, false) 1 = true := by simp [badF]; omega
  have := rU8_any w r bs (pos, false) A c h
  rwa [show numF bs (pos, false) 1 = 0 by simp [numF, takF, hb, numB], show advF bs (pos, false) 1 = (pos, true) by simp [advF, hb]] at this
theorem rTake_p (h : Rd w r bs pos false A c) (n : Nat) (hp : pos + n ≤ bs.length) :
    Calls Try.prog 46 #[.pointer (some ⟨r, 0, none⟩), .int .i64 n] w fun e w' => ∃ A' c', e = .returned (.slice A' n c') ∧ SlAt w' A' n (((bs.drop pos).take n).map byteV) ∧
      Rd w' r bs (pos + n) false A c ∧ Turn w w' r none ∧ (∀ k, rowOf A' = some k → w.heap.size ≤ k) := by
  have := rTake_any w r bs (pos, false) A c n h (by have := h.small; omega)
  rw [takF_ok hp, advF_ok hp] at this
  have hl : ((bs.drop pos).take n).length = n := by simp; omega
  rwa [hl] at this
theorem rleft_p (h : Rd w r bs pos false A c) : Calls Try.prog 44 #[.pointer (some ⟨r, 0, none⟩)] w fun e w' => e = .returned (.int .i64 ((bs.length : Int) - pos)) ∧ Below w.heap.size w w' := by
  have := left_W w r bs pos false A c h
  simpa using this
end

theorem nAt_lt2 (bs : List UInt8) (pos : Nat) : (nAt bs pos 2 : Int) ≤ 65535 := by have := nAt_lt bs pos 2; omega
theorem nAt_lt1 (bs : List UInt8) (pos : Nat) : (nAt bs pos 1 : Int) ≤ 255 := by have := nAt_lt bs pos 1; omega
theorem nAt_zero {bs : List UInt8} {pos size : Nat} (h : bs.length ≤ pos) : nAt bs pos size = 0 := by
  unfold nAt
  rw [List.drop_eq_nil_of_le h]
  simp [numB]
theorem ixOk_no {bs : List UInt8} (h0 : ixN bs ≠ 0) (h : ixHeadOk bs = false) : ixOk bs = false := by simp [ixOk, ixGood, h, h0]

set_option maxHeartbeats 1000000 in
theorem Load_short (w : World) (A : Option Addr) (bs : List UInt8) (c : Nat) (h : Bs w A bs c) (hl : bs.length < 2) :
    Calls Try.prog 13 #[.slice A bs.length c] w (IxPost bs w) := by
  have HOK : Hid (ixOk bs = false) := Lib.hid (by simp [ixOk]; omega)
  have H := Lib.hid h
  clear h
  go_enter Try.func13, Try.ntmps13
  go_wp2_with (first
    | (go_at_call 39; (with_reducible refine (new_G w bs A c H.out.sl H.out.cap H.out.small H.out.row).mono ?_); rintro e w1 ⟨r, hr, rfl, hr1, hb1⟩; have HR1 := Lib.hid hr1; have HT1 := Lib.hid (hb1); have HL := Lib.hid hr; clear hr1 hb1 hr)
    | (go_at_call 40; (with_reducible refine (rU16_n HR1.out (by omega)).mono ?_); rintro e w2 ⟨rfl, hr2, ht2⟩; have HR2 := Lib.hid hr2; have HT2 := Lib.hid (HT1.out.trans (ht2.below HT1.out.size HL.out (by intro k e; cases e))); clear hr2 ht2)
    | (go_at_call 41; (with_reducible refine (rdone_W _ _ _ _ _ _ _ HR2.out).mono ?_); rintro e w3 ⟨rfl, rfl⟩))
  go_ret2
  exact ⟨HT2.out, .inr ⟨HOK.out, rfl⟩⟩


set_option maxHeartbeats 1000000 in
theorem Load_zero (w : World) (A : Option Addr) (bs : List UInt8) (c : Nat) (h : Bs w A bs c) (hl : 2 ≤ bs.length) (h0 : ixN bs = 0) :
    Calls Try.prog 13 #[.slice A bs.length c] w (IxPost bs w) := by
  have HOK : Hid (ixOk bs = true) := Lib.hid (by simp [ixOk, hl, h0])
  have H := Lib.hid h
  have HN : Hid (nAt bs 0 2 = 0) := Lib.hid h0
  clear h h0
  go_enter Try.func13, Try.ntmps13
  go_wp2_with (first
    | (go_at_call 39; (with_reducible refine (new_G w bs A c H.out.sl H.out.cap H.out.small H.out.row).mono ?_); rintro e w1 ⟨r, hr, rfl, hr1, hb1⟩; have HR1 := Lib.hid hr1; have HT1 := Lib.hid (hb1); have HL := Lib.hid hr; clear hr1 hb1 hr)
    | (go_at_call 40; (with_reducible refine (rU16_p HR1.out (by omega)).mono ?_); rintro e w2 ⟨rfl, hr2, ht2⟩; rw [HN.out]; have HR2 := Lib.hid hr2; have HT2 := Lib.hid (HT1.out.trans (ht2.below HT1.out.size HL.out (by intro k e; cases e))); clear hr2 ht2)
    | (go_at_call 41; (with_reducible refine (rdone_W _ _ _ _ _ _ _ HR2.out).mono ?_); rintro e w3 ⟨rfl, rfl⟩)
    | (go_at_call 42; (with_reducible refine (at_W _ _ _ _ _ _ _ (HR2.out.keep (bel_alloc bel_refl).below)).mono ?_); rintro e w4 ⟨rfl, rfl⟩))
  go_ret2
  have hbel := ((bel_alloc (o := .cells #[.int .i64 1] 3) (bel_refl (a := w2))))
  refine ⟨HT2.out.trans ((bel_alloc hbel).below.mono HT2.out.size), .inl ⟨HOK.out, w2.heap.size + 1, none, 0, [], some ⟨w2.heap.size, 0, none⟩, 1, [1], rfl, ?_⟩⟩
  rw [ixLists_zero HN.out, show ixBytes bs = 2 by rw [ixBytes]; exact if_pos HN.out]
  refine ⟨Blk.newAt _ _ [_, _, _] (by simp), Bs.nil _, ?_, rfl, by decide, by decide, ?_, ?_, ?_, ?_⟩
  · exact ((slat_int w2 1).keep (bel_alloc bel_refl).below)
  · intro i hi; obtain rfl : i = 0 := by simpa using hi
    simp
  · intro i hi; simp at hi
  · intro i hi; obtain rfl : i = 0 := by simpa using hi
    simp
  · intro i hi; simp at hi

set_option maxHeartbeats 2000000 in
theorem Load_head (w : World) (A : Option Addr) (bs : List UInt8) (c : Nat) (h : Bs w A bs c) (hl : 2 ≤ bs.length) (h0 : ixN bs ≠ 0) (hh : ixHeadOk bs = false) :
    Calls Try.prog 13 #[.slice A bs.length c] w (IxPost bs w) := by
  have HOK : Hid (ixOk bs = false) := Lib.hid (ixOk_no h0 hh)
  have hsm := h.small
  have H := Lib.hid h
  obtain ⟨n, hn⟩ : ∃ n, ixN bs = n := ⟨_, rfl⟩
  obtain ⟨z, hz⟩ : ∃ z, ixS bs = z := ⟨_, rfl⟩
  have hn2 : (n : Int) ≤ 65535 := by rw [← hn]; exact nAt_lt2 bs 0
  have hz2 : (z : Int) ≤ 255 := by rw [← hz]; exact nAt_lt1 bs 2
  rw [hn] at h0
  have hb0 : ((n : Int) == 0) = false := by simp; omega
  have HN : Hid (nAt bs 0 2 = n) := Lib.hid hn
  have HZ : Hid (nAt bs 2 1 = z) := Lib.hid hz
  have key : bs.length < 3 ∨ (3 ≤ bs.length ∧ z < 1) ∨ (3 ≤ bs.length ∧ 1 ≤ z ∧ 4 < z) ∨ (3 ≤ bs.length ∧ 1 ≤ z ∧ z ≤ 4 ∧ bs.length < 3 + (n + 1) * z) := by
    simp only [ixHeadOk, ixBase, hn, hz] at hh
    simp at hh
    rcases Nat.lt_or_ge bs.length 3 with h1 | h1
    · exact .inl h1
    · rcases Nat.lt_or_ge z 1 with h2 | h2
      · exact .inr (.inl ⟨h1, h2⟩)
      · rcases Nat.lt_or_ge 4 z with h3 | h3
        · exact .inr (.inr (.inl ⟨h1, h2, h3⟩))
        · exact .inr (.inr (.inr ⟨h1, h2, h3, hh h1 h2 h3⟩))
  clear h hh hn hz
  rcases key with h1 | ⟨h1, h2⟩ | ⟨h1, h2, h3⟩ | ⟨h1, h2, h3, h4⟩
  · go_enter Try.func13, Try.ntmps13
    go_wp2_with (first
      | (go_at_call 39; (with_reducible refine (new_G w bs A c H.out.sl H.out.cap H.out.small H.out.row).mono ?_); rintro e w1 ⟨r, hr, rfl, hr1, hb1⟩; have HR1 := Lib.hid hr1; have HT1 := Lib.hid (hb1); have HL := Lib.hid hr; clear hr1 hb1 hr)
      | (go_at_call 40; (with_reducible refine (rU16_p HR1.out (by omega)).mono ?_); rintro e w2 ⟨rfl, hr2, ht2⟩; rw [HN.out]; have HR2 := Lib.hid hr2; have HT2 := Lib.hid (HT1.out.trans (ht2.below HT1.out.size HL.out (by intro k e; cases e))); clear hr2 ht2)
      | (go_at_call 41; (with_reducible refine (rdone_W _ _ _ _ _ _ _ HR2.out).mono ?_); rintro e w3 ⟨rfl, rfl⟩)
      | (go_at_call 43; (with_reducible refine (rU8_n HR2.out (by omega)).mono ?_); rintro e w4 ⟨rfl, hr4, ht4⟩; have HT4 := Lib.hid (HT2.out.trans (ht4.below HT2.out.size HL.out (by intro k e; cases e))); clear hr4 ht4))
    go_ret2
    exact ⟨HT4.out, .inr ⟨HOK.out, rfl⟩⟩
  · go_enter Try.func13, Try.ntmps13
    go_wp2_with (first
      | (go_at_call 39; (with_reducible refine (new_G w bs A c H.out.sl H.out.cap H.out.small H.out.row).mono ?_); rintro e w1 ⟨r, hr, rfl, hr1, hb1⟩; have HR1 := Lib.hid hr1; have HT1 := Lib.hid (hb1); have HL := Lib.hid hr; clear hr1 hb1 hr)
      | (go_at_call 40; (with_reducible refine (rU16_p HR1.out (by omega)).mono ?_); rintro e w2 ⟨rfl, hr2, ht2⟩; rw [HN.out]; have HR2 := Lib.hid hr2; have HT2 := Lib.hid (HT1.out.trans (ht2.below HT1.out.size HL.out (by intro k e; cases e))); clear hr2 ht2)
      | (go_at_call 41; (with_reducible refine (rdone_W _ _ _ _ _ _ _ HR2.out).mono ?_); rintro e w3 ⟨rfl, rfl⟩)
      | (go_at_call 43; (with_reducible refine (rU8_p HR2.out (by omega)).mono ?_); rintro e w4 ⟨rfl, hr4, ht4⟩; rw [HZ.out]; have HT4 := Lib.hid (HT2.out.trans (ht4.below HT2.out.size HL.out (by intro k e; cases e))); clear hr4 ht4))
    go_ret2
    exact ⟨HT4.out, .inr ⟨HOK.out, rfl⟩⟩
  · go_enter Try.func13, Try.ntmps13
    go_wp2_with (first
      | (go_at_call 39; (with_reducible refine (new_G w bs A c H.out.sl H.out.cap H.out.small H.out.row).mono ?_); rintro e w1 ⟨r, hr, rfl, hr1, hb1⟩; have HR1 := Lib.hid hr1; have HT1 := Lib.hid (hb1); have HL := Lib.hid hr; clear hr1 hb1 hr)
      | (go_at_call 40; (with_reducible refine (rU16_p HR1.out (by omega)).mono ?_); rintro e w2 ⟨rfl, hr2, ht2⟩; rw [HN.out]; have HR2 := Lib.hid hr2; have HT2 := Lib.hid (HT1.out.trans (ht2.below HT1.out.size HL.out (by intro k e; cases e))); clear hr2 ht2)
      | (go_at_call 41; (with_reducible refine (rdone_W _ _ _ _ _ _ _ HR2.out).mono ?_); rintro e w3 ⟨rfl, rfl⟩)
      | (go_at_call 43; (with_reducible refine (rU8_p HR2.out (by omega)).mono ?_); rintro e w4 ⟨rfl, hr4, ht4⟩; rw [HZ.out]; have HT4 := Lib.hid (HT2.out.trans (ht4.below HT2.out.size HL.out (by intro k e; cases e))); clear hr4 ht4))
    go_ret2
    exact ⟨HT4.out, .inr ⟨HOK.out, rfl⟩⟩
  · obtain ⟨q, hq, hq0⟩ : ∃ q : Nat, (n + 1) * z = q ∧ q ≤ 262144 := ⟨_, rfl, Nat.mul_le_mul (show n + 1 ≤ 65536 by omega) h3⟩
    have hqi : wrap64 (((n : Int) + 1) * (z : Int)) = (q : Int) := by
      have e : ((n : Int) + 1) * z = (((n + 1) * z : Nat) : Int) := by simp
      rw [e, hq]
      exact IntWalk.wrap64_in _ ⟨by omega, by omega⟩
    rw [hq] at h4
    clear hq
    have h5 : (bs.length : Int) - 3 < q := by omega
    go_enter Try.func13, Try.ntmps13
    go_wp2_with (first
      | (go_at_call 39; (with_reducible refine (new_G w bs A c H.out.sl H.out.cap H.out.small H.out.row).mono ?_); rintro e w1 ⟨r, hr, rfl, hr1, hb1⟩; have HR1 := Lib.hid hr1; have HT1 := Lib.hid (hb1); have HL := Lib.hid hr; clear hr1 hb1 hr)
      | (go_at_call 40; (with_reducible refine (rU16_p HR1.out (by omega)).mono ?_); rintro e w2 ⟨rfl, hr2, ht2⟩; rw [HN.out]; have HR2 := Lib.hid hr2; have HT2 := Lib.hid (HT1.out.trans (ht2.below HT1.out.size HL.out (by intro k e; cases e))); clear hr2 ht2)
      | (go_at_call 41; (with_reducible refine (rdone_W _ _ _ _ _ _ _ HR2.out).mono ?_); rintro e w3 ⟨rfl, rfl⟩)
      | (go_at_call 43; (with_reducible refine (rU8_p HR2.out (by omega)).mono ?_); rintro e w4 ⟨rfl, hr4, ht4⟩; rw [HZ.out]; have HR4 := Lib.hid hr4; have HT4 := Lib.hid (HT2.out.trans (ht4.below HT2.out.size HL.out (by intro k e; cases e))); clear hr4 ht4)
      | (go_at_call 44; (with_reducible refine (rleft_p HR4.out).mono ?_); rintro e w5 ⟨rfl, hb5⟩; have HT5 := Lib.hid (HT4.out.trans (hb5.mono HT4.out.size)); clear hb5))
    go_ret2
    exact ⟨HT5.out, .inr ⟨HOK.out, rfl⟩⟩

end Go.Proofs.Ytbmflgcahbkdeaa
