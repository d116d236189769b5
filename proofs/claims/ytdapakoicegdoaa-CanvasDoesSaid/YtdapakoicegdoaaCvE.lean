/-
  A canvas: New and Mix; the document's May, New and Mix.
-/
import Derived.Test.YtdapakoicegdoaaCvD
namespace Go.Proofs.Ytdapakoicegdoaa
open Go.RowKit

theorem isByte_one (w : World) (b c : Nat) (x : Int) (h : w.cell? ⟨b, 0, none⟩ = some (.int .i64 x)) :
    Calls Try.prog 55 #[.slice (some ⟨b, 0, none⟩) 1 c] w fun e w' => e = .returned (.bool (byteB x)) ∧ w = w' := by
  have := isByte_any w b c 1 [x] rfl (by decide) (fun i hi => by obtain rfl : i = 0 := by omega
                                                                 exact h)
  simpa using this
theorem isByte_new (w : World) (x : Int) :
    Calls Try.prog 55 #[.slice (some ⟨w.heap.size, 0, none⟩) 1 1] (w.alloc (.cells #[.int .i64 x] 3)) fun e w' => e = .returned (.bool (byteB x)) ∧ w.alloc (.cells #[.int .i64 x] 3) = w' :=
  isByte_one _ _ _ x ((Blk.new w 3 [.int .i64 x]).cell 0)

theorem repeat_new (w : World) (n : Nat) (c : Int) (h1 : 1 ≤ n) (h2 : n ≤ 16777216) :
    Calls Try.prog 56 #[.slice (some ⟨w.heap.size, 0, none⟩) 1 1, .int .i64 n] (w.alloc (.cells #[.int .u8 c] 5)) fun e w' =>
      ∃ g, e = .returned (.slice (some ⟨g, 0, none⟩) n n) ∧ w.heap.size + 1 ≤ g ∧ Blk w' g 5 (List.replicate n (.int .u8 c)) ∧ Below w.heap.size w w' := by
  have := repeat_any (w.alloc (.cells #[.int .u8 c] 5)) w.heap.size 1 n c h1 h2 ((Blk.new w 5 [.int .u8 c]).cell 0)
  rw [World.size_alloc] at this
  exact this.mono fun e w' ⟨g, he, hg, hB, hb⟩ => ⟨g, he, hg, hB, (bel_alloc (o := .cells #[.int .u8 c] 5) (bel_refl (a := w))).below.trans (hb.mono (by omega))⟩

/-- The byte of a number. -/
def byt (x : Int) : UInt8 := UInt8.ofNat x.toNat
theorem byt_val {x : Int} (h : byteB x = true) : ((byt x).toNat : Int) = x := by
  have := byteB_true.1 h
  unfold byt
  rw [UInt8.toNat_ofNat']
  omega
theorem byteV_byt {x : Int} (h : byteB x = true) : byteV (byt x) = .int .u8 x := by unfold byteV; rw [byt_val h]

def newB (a b c : Int) : Bool := sideB a && sideB b && byteB c
set_option maxRecDepth 20000 in
set_option maxHeartbeats 2000000 in
theorem New_no (w : World) (a b c : Int) (h : newB a b c = false) : Calls Try.prog 15 #[.int .i64 a, .int .i64 b, .int .i64 c] w fun e w' => e = .returned (.tuple #[.pointer none, .int .i64 1]) ∧ Below w.heap.size w w' := by
  rcases Bool.eq_false_or_eq_true (sideB a) with h1 | h1
  · rcases Bool.eq_false_or_eq_true (sideB b) with h2 | h2
    · have h3 : byteB c = false := by simpa [newB, h1, h2] using h
      have K1 := fun w => side_any a w
      have K2 := fun w => side_any b w
      have K3 := fun w => isByte_new w c
      rw [h1] at K1; rw [h2] at K2; rw [h3] at K3
      replace K1 := Lib.hid K1
      replace K2 := Lib.hid K2
      replace K3 := Lib.hid K3
      clear h h1 h2 h3
      go_enter Try.func15, Try.ntmps15
      go_wp2_with (first
        | (go_at_call 54; (with_reducible refine (K1.out _).mono ?_); rintro e w1 ⟨rfl, rfl⟩)
        | (go_at_call 54; (with_reducible refine (K2.out _).mono ?_); rintro e w1 ⟨rfl, rfl⟩)
        | (go_at_call 55; (with_reducible refine (K3.out _).mono ?_); rintro e w1 ⟨rfl, rfl⟩))
      go_ret2
      exact ⟨rfl, (bel_alloc bel_refl).below⟩
    · have K1 := fun w => side_any a w
      have K2 := fun w => side_any b w
      rw [h1] at K1; rw [h2] at K2
      replace K1 := Lib.hid K1
      replace K2 := Lib.hid K2
      clear h h1 h2
      go_enter Try.func15, Try.ntmps15
      go_wp2_with (first
        | (go_at_call 54; (with_reducible refine (K1.out _).mono ?_); rintro e w1 ⟨rfl, rfl⟩)
        | (go_at_call 54; (with_reducible refine (K2.out _).mono ?_); rintro e w1 ⟨rfl, rfl⟩))
      go_ret2
      exact ⟨rfl, bel_refl.below⟩
  · have K1 := fun w => side_any a w
    rw [h1] at K1
    replace K1 := Lib.hid K1
    clear h h1
    go_enter Try.func15, Try.ntmps15
    go_wp2_with (first | (go_at_call 54; (with_reducible refine (K1.out _).mono ?_); rintro e w1 ⟨rfl, rfl⟩))
    go_ret2
    exact ⟨rfl, bel_refl.below⟩

theorem new_parts {a b c : Int} (h : newB a b c = true) : sideB a = true ∧ sideB b = true ∧ byteB c = true := by
  simp only [newB, Bool.and_eq_true] at h
  exact ⟨h.1.1, h.1.2, h.2⟩
/-- The numbers of a canvas that may be. -/
theorem new_nums {a b c : Int} (h : newB a b c = true) : ∃ n : Nat, a * b = n ∧ 1 ≤ n ∧ n ≤ 16777216 ∧ n = b.toNat * a.toNat ∧ 1 ≤ a ∧ a ≤ 4096 ∧ 1 ≤ b ∧ b ≤ 4096 ∧ 0 ≤ c ∧ c ≤ 255 := by
  obtain ⟨h1, h2, h3⟩ := new_parts h
  have h1 := sideB_true.1 h1
  have h2 := sideB_true.1 h2
  have h3 := byteB_true.1 h3
  obtain ⟨x, rfl⟩ := Int.eq_ofNat_of_zero_le (show 0 ≤ a by omega)
  obtain ⟨y, rfl⟩ := Int.eq_ofNat_of_zero_le (show 0 ≤ b by omega)
  have g1 : x * y ≤ 4096 * 4096 := Nat.mul_le_mul (by omega) (by omega)
  have g2 : 1 * 1 ≤ x * y := Nat.mul_le_mul (by omega) (by omega)
  refine ⟨x * y, (Int.natCast_mul x y).symm, by omega, by omega, ?_, h1.1, h1.2, h2.1, h2.2, h3.1, h3.2⟩
  rw [Int.toNat_natCast, Int.toNat_natCast, Nat.mul_comm]

set_option maxRecDepth 20000 in
set_option maxHeartbeats 2000000 in
theorem New_yes (w : World) (a b c : Int) (h : newB a b c = true) : Calls Try.prog 15 #[.int .i64 a, .int .i64 b, .int .i64 c] w fun e w' => ∃ g k c', e = .returned (.tuple #[.pointer (some ⟨g, 0, none⟩), .int .i64 0]) ∧
    w.heap.size ≤ g ∧ w.heap.size ≤ k ∧ Cv 102 w' g k a.toNat b.toNat c' (List.replicate (b.toNat * a.toNat) (byt c)) ∧ Below w.heap.size w w' := by
  obtain ⟨n, hm, hn1, hn2, hn3, ha1, ha2, hb1, hb2, hc1, hc2⟩ := new_nums h
  obtain ⟨h1, h2, h3⟩ := new_parts h
  have HB := Lib.hid (byteV_byt h3)
  have HN := Lib.hid hn3
  have hwm : wrap64 (a * b) = n := by rw [hm]; exact IntWalk.wrap64_in _ (by omega)
  have K1 := fun w => side_any a w
  have K2 := fun w => side_any b w
  have K3 := fun w => isByte_new w c
  rw [h1] at K1; rw [h2] at K2; rw [h3] at K3
  replace K1 := Lib.hid K1
  replace K2 := Lib.hid K2
  replace K3 := Lib.hid K3
  have hr := repeat_new (w.alloc (.cells #[.int .i64 c] 3)) n c hn1 hn2
  rw [World.size_alloc] at hr
  have HR := Lib.hid hr
  have HNN : Hid (1 ≤ n ∧ n ≤ 16777216) := Lib.hid ⟨hn1, hn2⟩
  have ha0 : (a.toNat : Int) = a := Int.toNat_of_nonneg (by omega)
  have hb0 : (b.toNat : Int) = b := Int.toNat_of_nonneg (by omega)
  have HA0 := Lib.hid ha0
  have HB0 := Lib.hid hb0
  have hu : IntKind.u8.wrap c = c := by rw [IntKind.wrap_u8]; omega
  clear h h1 h2 h3 hm hn3 ha0 hb0 hn1 hn2 hr
  go_enter Try.func15, Try.ntmps15
  go_wp2_with (first
    | (go_at_call 54; (with_reducible refine (K1.out _).mono ?_); rintro e w1 ⟨rfl, rfl⟩)
    | (go_at_call 54; (with_reducible refine (K2.out _).mono ?_); rintro e w1 ⟨rfl, rfl⟩)
    | (go_at_call 55; (with_reducible refine (K3.out _).mono ?_); rintro e w1 ⟨rfl, rfl⟩)
    | (go_at_call 56; (with_reducible refine HR.out.mono ?_); rintro e w2 ⟨k, rfl, hk, hB, hb2⟩; have HBK := Lib.hid hB; have HB2 := Lib.hid hb2; clear hB hb2))
  go_ret2
  have hkl := HBK.out.lt
  have hz := HB2.out.size
  simp at hz
  have hbel : Bel w.heap.size w w2 := ⟨(bel_alloc (o := .cells #[.int .i64 c] 3) (bel_refl (a := w))).below.trans (HB2.out.mono (by omega)), by omega⟩
  have hlen : (List.replicate (b.toNat * a.toNat) (byt c)).length = n := by rw [List.length_replicate, HN.out]
  refine ⟨w2.heap.size, k, n, rfl, by omega, by omega, ⟨?_, ?_, ?_, ?_, ?_, ?_, ?_⟩, (bel_alloc hbel).below⟩
  · rw [hlen, HA0.out, HB0.out]
    exact Blk.new w2 102 [.int .i64 a, .int .i64 b, .slice (some ⟨k, 0, none⟩) n n]
  · refine (Byt.of_blk ?_ : Byt w2 k _).keepB (bel_alloc bel_refl).below
    rw [List.map_replicate, HB.out, ← HN.out]
    exact HBK.out
  · rw [hlen, HN.out]
  · omega
  · omega
  · rw [hlen]; exact Nat.le_refl _
  · omega

theorem ret26_May (a b c : Int) (w : World) : Calls Try.prog 25 #[.int .i64 a, .int .i64 b, .int .i64 c] w fun e w' => e = .returned (.bool (newB a b c)) ∧ w = w' := by
  have e : newB a b c = (decide (1 ≤ a) && decide (a ≤ 4096) && (decide (1 ≤ b) && decide (b ≤ 4096)) && byteB c) := rfl
  have E := Lib.hid e
  clear e
  have key : a < 1 ∨ (1 ≤ a ∧ 4096 < a) ∨ (1 ≤ a ∧ a ≤ 4096 ∧ b < 1) ∨ (1 ≤ a ∧ a ≤ 4096 ∧ 1 ≤ b ∧ 4096 < b) ∨ (1 ≤ a ∧ a ≤ 4096 ∧ 1 ≤ b ∧ b ≤ 4096) := by omega
  rcases key with k1 | ⟨k1, k2⟩ | ⟨k1, k2, k3⟩ | ⟨k1, k2, k3, k4⟩ | ⟨k1, k2, k3, k4⟩
  all_goals
    go_enter Try.func25, Try.ntmps25
    go_wp2_with (go_at_call 20; (with_reducible refine (rIs_any c _).mono ?_); rintro e w1 ⟨rfl, rfl⟩)
    go_ret
    refine ⟨ret_bool ?_, rfl⟩
    rw [E.out, Bool.eq_iff_iff]
    simp
    omega

theorem rMix_any (d c m : Int) (w : World) (hd : 0 ≤ d ∧ d ≤ 255) (hc : 0 ≤ c ∧ c ≤ 255) (hm : 0 ≤ m ∧ m ≤ 255) :
    Calls Try.prog 21 #[.int .i64 d, .int .i64 c, .int .i64 m] w fun e w' => e = .returned (.int .i64 (mixI d c m)) ∧ w = w' := by
  have h1 := mul_le255 (a := d) (b := 255 - m) hd.1 hd.2 (by omega) (by omega)
  have h2 := mul_le255 (a := c) (b := m) hc.1 hc.2 hm.1 hm.2
  have E : Hid (mixI d c m = (d * (255 - m) + c * m + 127) / 255) := Lib.hid rfl
  obtain ⟨p, hp⟩ : ∃ p, d * (255 - m) = p := ⟨_, rfl⟩
  obtain ⟨q, hq⟩ : ∃ q, c * m = q := ⟨_, rfl⟩
  rw [hp] at h1
  rw [hq] at h2
  have hpp : wrap64 (d * (255 - m)) = p := by rw [hp]; exact IntWalk.wrap64_in _ (by omega)
  have hqq : wrap64 (c * m) = q := by rw [hq]; exact IntWalk.wrap64_in _ (by omega)
  have EP := Lib.hid hp
  have EQ := Lib.hid hq
  clear hp hq
  go_enter Try.func21, Try.ntmps21
  go_wp2
  go_ret
  exact ⟨ret_int (by rw [E.out, EP.out, EQ.out]), rfl⟩

end Go.Proofs.Ytdapakoicegdoaa
