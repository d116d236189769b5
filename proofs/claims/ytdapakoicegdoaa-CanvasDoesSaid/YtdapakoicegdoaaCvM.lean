/-
  Law CanvasMixes.
-/
import Derived.Test.YtdapakoicegdoaaCvL
import Derived.Test.YtdapakoicegdoaaCvE
namespace Go.Proofs.Ytdapakoicegdoaa
open Go.RowKit

theorem mixI_zero (d c : Int) : mixI d c 0 = d := by unfold mixI; omega
theorem mixI_full (d c : Int) : mixI d c 255 = c := by unfold mixI; omega
theorem mixI_lo {d c m : Int} (hm : 0 ≤ m ∧ m ≤ 255) (h : d ≤ c) : d ≤ mixI d c m ∧ mixI d c m ≤ c := by
  have h1 : d * m ≤ c * m := Int.mul_le_mul_of_nonneg_right h hm.1
  have h2 : d * (255 - m) ≤ c * (255 - m) := Int.mul_le_mul_of_nonneg_right h (by omega)
  unfold mixI
  rw [Int.mul_sub] at h2 ⊢
  rw [Int.mul_sub] at h2
  generalize d * m = p at *
  generalize c * m = q at *
  omega
theorem mixI_hi {d c m : Int} (hm : 0 ≤ m ∧ m ≤ 255) (h : c ≤ d) : c ≤ mixI d c m ∧ mixI d c m ≤ d := by
  have h1 : c * m ≤ d * m := Int.mul_le_mul_of_nonneg_right h hm.1
  have h2 : c * (255 - m) ≤ d * (255 - m) := Int.mul_le_mul_of_nonneg_right h (by omega)
  unfold mixI
  rw [Int.mul_sub] at h2 ⊢
  rw [Int.mul_sub] at h2
  generalize d * m = p at *
  generalize c * m = q at *
  omega

set_option maxRecDepth 20000 in
set_option maxHeartbeats 4000000 in
theorem canvasMixes_any (d c m : Int) (w : World) : Calls Try.prog 4 #[.int .i64 d, .int .i64 c, .int .i64 m] w fun e w' => e = .returned (.bool true) ∧ Below w.heap.size w w' := by
  have KM := fun w => Mix_any d c m w
  have KD := fun w => rIs_any d w
  have KC := fun w => rIs_any c w
  have K3 := fun w => rIs_any m w
  have key : (byteB d = true ∧ byteB c = true ∧ byteB m = true) ∨ byteB d = false ∨ (byteB d = true ∧ byteB c = false) ∨ (byteB d = true ∧ byteB c = true ∧ byteB m = false) := by
    cases byteB d <;> cases byteB c <;> cases byteB m <;> simp
  rcases key with ⟨h1, h2, h3⟩ | h1 | ⟨h1, h2⟩ | ⟨h1, h2, h3⟩
  · rw [h1, h2, h3] at KM
    rw [h1] at KD; rw [h2] at KC; rw [h3] at K3
    have g1 := byteB_true.1 h1
    have g2 := byteB_true.1 h2
    have g3 := byteB_true.1 h3
    have KX := fun w => rMix_any d c m w g1 g2 g3
    have f0 : m = 0 → mixI d c m = d := fun e => by rw [e]; exact mixI_zero d c
    have f1 : m = 255 → mixI d c m = c := fun e => by rw [e]; exact mixI_full d c
    have fl : ¬ c < d → d ≤ mixI d c m ∧ mixI d c m ≤ c := fun e => mixI_lo g3 (by omega)
    have fh : c < d → c ≤ mixI d c m ∧ mixI d c m ≤ d := fun e => mixI_hi g3 (by omega)
    generalize mixI d c m = x at *
    simp only [Bool.and_self, if_true] at KM
    replace KM := Lib.hid KM
    replace KD := Lib.hid KD
    replace KC := Lib.hid KC
    replace K3 := Lib.hid K3
    replace KX := Lib.hid KX
    clear h1 h2 h3 g1 g2
    by_cases hcd : c < d
    · obtain ⟨l1, l2⟩ := fh hcd
      clear fl fh
      by_cases h0 : m = 0
      · have e0 := f0 h0
        subst h0 e0
        clear f0 f1 g3
        go_enter Try.func4, Try.ntmps4
        go_wp2_with (first
          | (go_at_call 19; (with_reducible refine (KM.out _).mono ?_); rintro e w1 ⟨rfl, hb1⟩; have HB1 := Lib.hid (bel_call hb1 (bel_refl (a := w))); clear hb1)
          | (go_at_call 14; (with_reducible refine (lives_any _).mono ?_); rintro e w2 ⟨rfl, hb2⟩; have HB2 := Lib.hid (bel_call hb2 HB1.out); clear hb2)
          | (go_at_call 20; (with_reducible refine (KD.out _).mono ?_); rintro e w3 ⟨rfl, rfl⟩)
          | (go_at_call 20; (with_reducible refine (KC.out _).mono ?_); rintro e w3 ⟨rfl, rfl⟩)
          | (go_at_call 20; (with_reducible refine (K3.out _).mono ?_); rintro e w3 ⟨rfl, rfl⟩)
          | (go_at_call 21; (with_reducible refine (KX.out _).mono ?_); rintro e w3 ⟨rfl, rfl⟩))
        go_ret
        exact ⟨rfl, HB2.out.below⟩
      · by_cases h5 : m = 255
        · have e0 := f1 h5
          subst h5 e0
          clear f0 f1 g3
          go_enter Try.func4, Try.ntmps4
          go_wp2_with (first
            | (go_at_call 19; (with_reducible refine (KM.out _).mono ?_); rintro e w1 ⟨rfl, hb1⟩; have HB1 := Lib.hid (bel_call hb1 (bel_refl (a := w))); clear hb1)
            | (go_at_call 14; (with_reducible refine (lives_any _).mono ?_); rintro e w2 ⟨rfl, hb2⟩; have HB2 := Lib.hid (bel_call hb2 HB1.out); clear hb2)
            | (go_at_call 20; (with_reducible refine (KD.out _).mono ?_); rintro e w3 ⟨rfl, rfl⟩)
            | (go_at_call 20; (with_reducible refine (KC.out _).mono ?_); rintro e w3 ⟨rfl, rfl⟩)
            | (go_at_call 20; (with_reducible refine (K3.out _).mono ?_); rintro e w3 ⟨rfl, rfl⟩)
            | (go_at_call 21; (with_reducible refine (KX.out _).mono ?_); rintro e w3 ⟨rfl, rfl⟩))
          go_ret
          exact ⟨rfl, HB2.out.below⟩
        · clear f0 f1 g3
          go_enter Try.func4, Try.ntmps4
          go_wp2_with (first
            | (go_at_call 19; (with_reducible refine (KM.out _).mono ?_); rintro e w1 ⟨rfl, hb1⟩; have HB1 := Lib.hid (bel_call hb1 (bel_refl (a := w))); clear hb1)
            | (go_at_call 14; (with_reducible refine (lives_any _).mono ?_); rintro e w2 ⟨rfl, hb2⟩; have HB2 := Lib.hid (bel_call hb2 HB1.out); clear hb2)
            | (go_at_call 20; (with_reducible refine (KD.out _).mono ?_); rintro e w3 ⟨rfl, rfl⟩)
            | (go_at_call 20; (with_reducible refine (KC.out _).mono ?_); rintro e w3 ⟨rfl, rfl⟩)
            | (go_at_call 20; (with_reducible refine (K3.out _).mono ?_); rintro e w3 ⟨rfl, rfl⟩)
            | (go_at_call 21; (with_reducible refine (KX.out _).mono ?_); rintro e w3 ⟨rfl, rfl⟩))
          go_ret
          exact ⟨rfl, HB2.out.below⟩
    · obtain ⟨l1, l2⟩ := fl hcd
      clear fl fh
      by_cases h0 : m = 0
      · have e0 := f0 h0
        subst h0 e0
        clear f0 f1 g3
        go_enter Try.func4, Try.ntmps4
        go_wp2_with (first
          | (go_at_call 19; (with_reducible refine (KM.out _).mono ?_); rintro e w1 ⟨rfl, hb1⟩; have HB1 := Lib.hid (bel_call hb1 (bel_refl (a := w))); clear hb1)
          | (go_at_call 14; (with_reducible refine (lives_any _).mono ?_); rintro e w2 ⟨rfl, hb2⟩; have HB2 := Lib.hid (bel_call hb2 HB1.out); clear hb2)
          | (go_at_call 20; (with_reducible refine (KD.out _).mono ?_); rintro e w3 ⟨rfl, rfl⟩)
          | (go_at_call 20; (with_reducible refine (KC.out _).mono ?_); rintro e w3 ⟨rfl, rfl⟩)
          | (go_at_call 20; (with_reducible refine (K3.out _).mono ?_); rintro e w3 ⟨rfl, rfl⟩)
          | (go_at_call 21; (with_reducible refine (KX.out _).mono ?_); rintro e w3 ⟨rfl, rfl⟩))
        go_ret
        exact ⟨rfl, HB2.out.below⟩
      · by_cases h5 : m = 255
        · have e0 := f1 h5
          subst h5 e0
          clear f0 f1 g3
          go_enter Try.func4, Try.ntmps4
          go_wp2_with (first
            | (go_at_call 19; (with_reducible refine (KM.out _).mono ?_); rintro e w1 ⟨rfl, hb1⟩; have HB1 := Lib.hid (bel_call hb1 (bel_refl (a := w))); clear hb1)
            | (go_at_call 14; (with_reducible refine (lives_any _).mono ?_); rintro e w2 ⟨rfl, hb2⟩; have HB2 := Lib.hid (bel_call hb2 HB1.out); clear hb2)
            | (go_at_call 20; (with_reducible refine (KD.out _).mono ?_); rintro e w3 ⟨rfl, rfl⟩)
            | (go_at_call 20; (with_reducible refine (KC.out _).mono ?_); rintro e w3 ⟨rfl, rfl⟩)
            | (go_at_call 20; (with_reducible refine (K3.out _).mono ?_); rintro e w3 ⟨rfl, rfl⟩)
            | (go_at_call 21; (with_reducible refine (KX.out _).mono ?_); rintro e w3 ⟨rfl, rfl⟩))
          go_ret
          exact ⟨rfl, HB2.out.below⟩
        · clear f0 f1 g3
          go_enter Try.func4, Try.ntmps4
          go_wp2_with (first
            | (go_at_call 19; (with_reducible refine (KM.out _).mono ?_); rintro e w1 ⟨rfl, hb1⟩; have HB1 := Lib.hid (bel_call hb1 (bel_refl (a := w))); clear hb1)
            | (go_at_call 14; (with_reducible refine (lives_any _).mono ?_); rintro e w2 ⟨rfl, hb2⟩; have HB2 := Lib.hid (bel_call hb2 HB1.out); clear hb2)
            | (go_at_call 20; (with_reducible refine (KD.out _).mono ?_); rintro e w3 ⟨rfl, rfl⟩)
            | (go_at_call 20; (with_reducible refine (KC.out _).mono ?_); rintro e w3 ⟨rfl, rfl⟩)
            | (go_at_call 20; (with_reducible refine (K3.out _).mono ?_); rintro e w3 ⟨rfl, rfl⟩)
            | (go_at_call 21; (with_reducible refine (KX.out _).mono ?_); rintro e w3 ⟨rfl, rfl⟩))
          go_ret
          exact ⟨rfl, HB2.out.below⟩
  · rw [h1] at KM KD
    replace KM := Lib.hid KM
    replace KD := Lib.hid KD
    clear h1 KC K3
    go_enter Try.func4, Try.ntmps4
    go_wp2_with (first
      | (go_at_call 19; (with_reducible refine (KM.out _).mono ?_); rintro e w1 ⟨rfl, hb1⟩; have HB1 := Lib.hid (bel_call hb1 (bel_refl (a := w))); clear hb1)
      | (go_at_call 14; (with_reducible refine (lives_any _).mono ?_); rintro e w2 ⟨rfl, hb2⟩; have HB2 := Lib.hid (bel_call hb2 HB1.out); clear hb2)
      | (go_at_call 20; (with_reducible refine (KD.out _).mono ?_); rintro e w3 ⟨rfl, rfl⟩)
      | (go_at_call 20; (with_reducible refine (KC.out _).mono ?_); rintro e w3 ⟨rfl, rfl⟩)
      | (go_at_call 20; (with_reducible refine (K3.out _).mono ?_); rintro e w3 ⟨rfl, rfl⟩)
      | (go_at_call 21; (with_reducible refine (KX.out _).mono ?_); rintro e w3 ⟨rfl, rfl⟩))
    go_ret
    exact ⟨rfl, HB2.out.below⟩
  · rw [h1, h2] at KM
    rw [h1] at KD; rw [h2] at KC
    replace KM := Lib.hid KM
    replace KD := Lib.hid KD
    replace KC := Lib.hid KC
    clear h1 h2 K3
    go_enter Try.func4, Try.ntmps4
    go_wp2_with (first
      | (go_at_call 19; (with_reducible refine (KM.out _).mono ?_); rintro e w1 ⟨rfl, hb1⟩; have HB1 := Lib.hid (bel_call hb1 (bel_refl (a := w))); clear hb1)
      | (go_at_call 14; (with_reducible refine (lives_any _).mono ?_); rintro e w2 ⟨rfl, hb2⟩; have HB2 := Lib.hid (bel_call hb2 HB1.out); clear hb2)
      | (go_at_call 20; (with_reducible refine (KD.out _).mono ?_); rintro e w3 ⟨rfl, rfl⟩)
      | (go_at_call 20; (with_reducible refine (KC.out _).mono ?_); rintro e w3 ⟨rfl, rfl⟩)
      | (go_at_call 20; (with_reducible refine (K3.out _).mono ?_); rintro e w3 ⟨rfl, rfl⟩)
      | (go_at_call 21; (with_reducible refine (KX.out _).mono ?_); rintro e w3 ⟨rfl, rfl⟩))
    go_ret
    exact ⟨rfl, HB2.out.below⟩
  · rw [h1, h2, h3] at KM
    rw [h1] at KD; rw [h2] at KC; rw [h3] at K3
    replace KM := Lib.hid KM
    replace KD := Lib.hid KD
    replace KC := Lib.hid KC
    replace K3 := Lib.hid K3
    clear h1 h2 h3
    go_enter Try.func4, Try.ntmps4
    go_wp2_with (first
      | (go_at_call 19; (with_reducible refine (KM.out _).mono ?_); rintro e w1 ⟨rfl, hb1⟩; have HB1 := Lib.hid (bel_call hb1 (bel_refl (a := w))); clear hb1)
      | (go_at_call 14; (with_reducible refine (lives_any _).mono ?_); rintro e w2 ⟨rfl, hb2⟩; have HB2 := Lib.hid (bel_call hb2 HB1.out); clear hb2)
      | (go_at_call 20; (with_reducible refine (KD.out _).mono ?_); rintro e w3 ⟨rfl, rfl⟩)
      | (go_at_call 20; (with_reducible refine (KC.out _).mono ?_); rintro e w3 ⟨rfl, rfl⟩)
      | (go_at_call 20; (with_reducible refine (K3.out _).mono ?_); rintro e w3 ⟨rfl, rfl⟩)
      | (go_at_call 21; (with_reducible refine (KX.out _).mono ?_); rintro e w3 ⟨rfl, rfl⟩))
    go_ret
    exact ⟨rfl, HB2.out.below⟩

end Go.Proofs.Ytdapakoicegdoaa
