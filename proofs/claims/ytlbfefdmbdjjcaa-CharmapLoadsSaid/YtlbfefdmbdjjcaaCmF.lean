/-
  Layer 08: how long a subtable is; which formats there are; format 12.
-/
import Derived.Test.YtlbfefdmbdjjcaaCmE
namespace Go.Proofs.Ytlbfefdmbdjjcaa
open Go.RowKit

def be32 (bs : List UInt8) (p : Nat) : Int := (numB ((bs.drop p).take 4) : Nat)
theorem be32_bd (bs : List UInt8) (p : Nat) : 0 ≤ be32 bs p ∧ be32 bs p ≤ 4294967295 := by
  unfold be32
  have := numB_lt ((bs.drop p).take 4)
  have h2 : 256 ^ ((bs.drop p).take 4).length ≤ 256 ^ 4 := Nat.pow_le_pow_right (by omega) (by simp; omega)
  omega
def sizeS (bs : List UInt8) (fmt : Int) : Int := if fmt = 12 then (if bs.length < 16 then -1 else be32 bs 4) else if bs.length < 4 then -1 else be16 bs 2
theorem sk_of {bs : List UInt8} {s : Nat × Bool} {k : Nat} : skF bs s k = if s.2 = true ∨ bs.length < k then (s.1, true) else (k, false) := by
  unfold skF
  by_cases h : s.2 = true ∨ bs.length < k
  · rw [if_pos (by simpa using h), if_pos h]
  · rw [if_neg (by simpa using h), if_neg h]
set_option maxRecDepth 20000 in
set_option maxHeartbeats 8000000 in
theorem size_any {w : World} {bs : List UInt8} {A : Option Addr} {n c : Nat} (fmt : Int) (hn : bs.length = n) (hs : SlAt w A n (bs.map byteV)) (hc : n ≤ c) (hm : n ≤ 140737488355328) (hA : ∀ k, rowOf A = some k → k < w.heap.size) :
    Calls Try.prog 25 #[.slice A n c, .int .i64 fmt] w (IntR (sizeS bs fmt) w) := by
  have HN := Lib.hid (cu_new hn hs hc hm hA)
  clear hs hA
  by_cases h12 : fmt = 12
  · subst h12
    obtain ⟨s1, h1⟩ : ∃ s, skF bs (0, false) 4 = s := ⟨_, rfl⟩
    obtain ⟨f, hf⟩ : ∃ f : Int, (numF bs s1 4 : Int) = f := ⟨_, rfl⟩
    obtain ⟨s2, h2⟩ : ∃ s, advF bs s1 4 = s := ⟨_, rfl⟩
    obtain ⟨s3, h3⟩ : ∃ s, skF bs s2 16 = s := ⟨_, rfl⟩
    have H1 := Lib.hid h1
    have HF := Lib.hid hf
    have H2 := Lib.hid h2
    have H3 := Lib.hid h3
    have key : (s3.2 = true ∧ sizeS bs 12 = -1) ∨ (s3.2 = false ∧ sizeS bs 12 = f) := by
      unfold sizeS
      rw [if_pos rfl]
      by_cases h16 : bs.length < 16
      · left
        rw [if_pos h16, ← h3, sk_of, if_pos (.inr h16)]
        exact ⟨rfl, rfl⟩
      · right
        rw [sk_of, if_neg (by simp; omega)] at h1
        rw [← h1, advF_ok (by omega)] at h2
        rw [← h2, sk_of, if_neg (by simp; omega)] at h3
        rw [← h1, numF_ok (by omega)] at hf
        rw [if_neg h16, ← h3, ← hf]
        exact ⟨rfl, rfl⟩
    clear h1 hf h2 h3 hn
    rcases key with ⟨hb, hv⟩ | ⟨hb, hv⟩
    · have HV := Lib.hid hv
      have HD : Hid (∀ wi, Cu w wi bs s3 A c → Calls Try.prog 23 #[.pointer (some ⟨w.heap.size, 0, none⟩)] wi fun e w' => e = .returned (.int .i64 30) ∧ wi = w') := Lib.hid fun wi h => by have := cu_done h; rw [hb] at this; exact this
      clear hb hv
      go_enter Try.func25, Try.ntmps25
      go_wp2_with (first
        | (go_at_call 21; (with_reducible refine HN.out.mono ?_); rintro e w1 ⟨rfl, hu⟩; have HC0 := Lib.hid hu; clear hu)
        | (go_at_call 48; (with_reducible refine (cu_seek HC0.out 4 nat4 H1.out).mono ?_); rintro e w2 ⟨⟨v2, rfl⟩, hu⟩; have HC1 := Lib.hid hu; clear hu HC0)
        | (go_at_call 49; (with_reducible refine (cu_u32 HC1.out HF.out H2.out).mono ?_); rintro e w3 ⟨rfl, hu⟩; have HC2 := Lib.hid hu; clear hu HC1)
        | (go_at_call 48; (with_reducible refine (cu_seek HC2.out 16 nat16 H3.out).mono ?_); rintro e w4 ⟨⟨v4, rfl⟩, hu⟩; have HC3 := Lib.hid hu; clear hu HC2)
        | (go_at_call 23; (with_reducible refine (HD.out _ HC3.out).mono ?_); rintro e w1 ⟨rfl, rfl⟩)
        | fail)
      go_ret
      exact int_is HV.out HC3.out.bel
    · have HV := Lib.hid hv
      have HD : Hid (∀ wi, Cu w wi bs s3 A c → Calls Try.prog 23 #[.pointer (some ⟨w.heap.size, 0, none⟩)] wi fun e w' => e = .returned (.int .i64 0) ∧ wi = w') := Lib.hid fun wi h => by have := cu_done h; rw [hb] at this; exact this
      clear hb hv
      go_enter Try.func25, Try.ntmps25
      go_wp2_with (first
        | (go_at_call 21; (with_reducible refine HN.out.mono ?_); rintro e w1 ⟨rfl, hu⟩; have HC0 := Lib.hid hu; clear hu)
        | (go_at_call 48; (with_reducible refine (cu_seek HC0.out 4 nat4 H1.out).mono ?_); rintro e w2 ⟨⟨v2, rfl⟩, hu⟩; have HC1 := Lib.hid hu; clear hu HC0)
        | (go_at_call 49; (with_reducible refine (cu_u32 HC1.out HF.out H2.out).mono ?_); rintro e w3 ⟨rfl, hu⟩; have HC2 := Lib.hid hu; clear hu HC1)
        | (go_at_call 48; (with_reducible refine (cu_seek HC2.out 16 nat16 H3.out).mono ?_); rintro e w4 ⟨⟨v4, rfl⟩, hu⟩; have HC3 := Lib.hid hu; clear hu HC2)
        | (go_at_call 23; (with_reducible refine (HD.out _ HC3.out).mono ?_); rintro e w1 ⟨rfl, rfl⟩)
        | fail)
      go_ret
      exact int_is HV.out HC3.out.bel
  · have h12' : (fmt == 12) = false := by rw [beq_eq_false_iff_ne]; exact h12
    obtain ⟨s1, h1⟩ : ∃ s, skF bs (0, false) 2 = s := ⟨_, rfl⟩
    obtain ⟨f, hf⟩ : ∃ f : Int, (numF bs s1 2 : Int) = f := ⟨_, rfl⟩
    obtain ⟨s2, h2⟩ : ∃ s, advF bs s1 2 = s := ⟨_, rfl⟩
    have H1 := Lib.hid h1
    have HF := Lib.hid hf
    have H2 := Lib.hid h2
    have key : (s2.2 = true ∧ sizeS bs fmt = -1) ∨ (s2.2 = false ∧ sizeS bs fmt = f) := by
      unfold sizeS
      rw [if_neg h12]
      by_cases h4 : bs.length < 4
      · left
        rw [if_pos h4]
        refine ⟨?_, rfl⟩
        rw [sk_of] at h1
        by_cases h22 : bs.length < 2
        · rw [if_pos (.inr h22)] at h1
          rw [← h2, ← h1, advF_bad (.inl rfl)]
        · rw [if_neg (by simp; omega)] at h1
          rw [← h2, ← h1, advF_bad (.inr (by show bs.length < 2 + 2; omega))]
      · right
        rw [sk_of, if_neg (by simp; omega)] at h1
        rw [← h1, advF_ok (by omega)] at h2
        rw [← h1, numF_ok (by omega)] at hf
        rw [if_neg h4, ← h2, ← hf]
        exact ⟨rfl, rfl⟩
    clear h1 hf h2 hn h12
    rcases key with ⟨hb, hv⟩ | ⟨hb, hv⟩
    · have HV := Lib.hid hv
      have HD : Hid (∀ wi, Cu w wi bs s2 A c → Calls Try.prog 23 #[.pointer (some ⟨w.heap.size, 0, none⟩)] wi fun e w' => e = .returned (.int .i64 30) ∧ wi = w') := Lib.hid fun wi h => by have := cu_done h; rw [hb] at this; exact this
      clear hb hv
      go_enter Try.func25, Try.ntmps25
      go_wp2_with (first
        | (go_at_call 21; (with_reducible refine HN.out.mono ?_); rintro e w1 ⟨rfl, hu⟩; have HC0 := Lib.hid hu; clear hu)
        | (go_at_call 48; (with_reducible refine (cu_seek HC0.out 2 nat2 H1.out).mono ?_); rintro e w2 ⟨⟨v2, rfl⟩, hu⟩; have HC1 := Lib.hid hu; clear hu HC0)
        | (go_at_call 22; (with_reducible refine (cu_u16 HC1.out HF.out H2.out).mono ?_); rintro e w3 ⟨rfl, hu⟩; have HC2 := Lib.hid hu; clear hu HC1)
        | (go_at_call 23; (with_reducible refine (HD.out _ HC2.out).mono ?_); rintro e w1 ⟨rfl, rfl⟩)
        | fail)
      go_ret
      exact int_is HV.out HC2.out.bel
    · have HV := Lib.hid hv
      have HD : Hid (∀ wi, Cu w wi bs s2 A c → Calls Try.prog 23 #[.pointer (some ⟨w.heap.size, 0, none⟩)] wi fun e w' => e = .returned (.int .i64 0) ∧ wi = w') := Lib.hid fun wi h => by have := cu_done h; rw [hb] at this; exact this
      clear hb hv
      go_enter Try.func25, Try.ntmps25
      go_wp2_with (first
        | (go_at_call 21; (with_reducible refine HN.out.mono ?_); rintro e w1 ⟨rfl, hu⟩; have HC0 := Lib.hid hu; clear hu)
        | (go_at_call 48; (with_reducible refine (cu_seek HC0.out 2 nat2 H1.out).mono ?_); rintro e w2 ⟨⟨v2, rfl⟩, hu⟩; have HC1 := Lib.hid hu; clear hu HC0)
        | (go_at_call 22; (with_reducible refine (cu_u16 HC1.out HF.out H2.out).mono ?_); rintro e w3 ⟨rfl, hu⟩; have HC2 := Lib.hid hu; clear hu HC1)
        | (go_at_call 23; (with_reducible refine (HD.out _ HC2.out).mono ?_); rintro e w1 ⟨rfl, rfl⟩)
        | fail)
      go_ret
      exact int_is HV.out HC2.out.bel
def isFmtB (f : Int) : Bool := decide (f = 0 ∨ f = 4 ∨ f = 6 ∨ f = 12)
theorem index_any {w : World} {A : Option Addr} {n c : Nat} {xs : List Int} (v : Int) (hn : xs.length = n) (h : SlAt w A n (xs.map (Value.int .i64))) (hb : n ≤ 100) :
    Calls Try.prog 75 #[.slice A n c, .int .i64 v] w fun e w' => (∃ i : Int, e = .returned (.int .i64 i) ∧ (v ∈ xs ↔ 0 ≤ i)) ∧ w = w' := by
  subst hn
  have H := Lib.hid h
  clear h
  go_enter Try.func75, Try.ntmps75
  go_wp2_with fail
  go_loop [8] (fun i => ∃ k : Nat, k ≤ xs.length ∧ i = .int .i64 k ∧ Hid (¬ v ∈ xs.take k)) (fun i => xs.length - (intOf i).toNat)
  case atStart => exact ⟨0, Nat.zero_le _, rfl, Lib.hid (by simp)⟩
  case round =>
    obtain ⟨k, hk, rfl, HK⟩ := hrel
    by_cases hlt : k < xs.length
    · obtain ⟨x, hx⟩ := get_some' hlt
      obtain ⟨b, o, rfl, hb2, hc⟩ := slat_get H.out hx
      by_cases hv : v = x
      · have HM : Hid (v ∈ xs) := Lib.hid (by rw [hv]; exact List.mem_of_getElem? hx)
        have hve : (v == x) = true := by simpa using hv
        clear hv hx
        go_wp2_with fail
        go_ret
        exact ⟨⟨_, rfl, by simp [HM.out]⟩, rfl⟩
      · have HM : Hid (¬ v ∈ xs.take (k + 1)) := Lib.hid (by
          rw [take_snoc' hx, List.mem_append, List.mem_singleton]
          rintro (h | h)
          · exact HK.out h
          · exact hv h)
        have hve : (v == x) = false := by simpa using hv
        clear hv hx
        go_wp2_with fail
        go_round
        case rel => exact ⟨k + 1, by omega, by go_num, HM⟩
        case measure => simp [intOf]; omega
    · obtain rfl : k = xs.length := by omega
      have hn := HK.out
      rw [List.take_length] at hn
      have HM := Lib.hid hn
      clear hn
      go_wp2_with fail
      go_ret
      exact ⟨⟨_, rfl, by simp [HM.out]⟩, rfl⟩
theorem contains_any {w : World} {A : Option Addr} {n c : Nat} {xs : List Int} (v : Int) (hn : xs.length = n) (h : SlAt w A n (xs.map (Value.int .i64))) (hb : n ≤ 100) :
    Calls Try.prog 47 #[.slice A n c, .int .i64 v] w fun e w' => e = .returned (.bool (decide (v ∈ xs))) ∧ w = w' := by
  have HI := Lib.hid (index_any (c := c) v hn h hb)
  clear h
  by_cases hv : v ∈ xs
  · have HV : Hid (decide (v ∈ xs) = true) := Lib.hid (by simpa using hv)
    have HI2 : Hid (Calls Try.prog 75 #[.slice A n c, .int .i64 v] w fun e w' => (∃ i : Int, e = .returned (.int .i64 i) ∧ 0 ≤ i) ∧ w = w') := Lib.hid (HI.out.mono fun e w' ⟨⟨i, h1, h2⟩, h3⟩ => ⟨⟨i, h1, h2.1 hv⟩, h3⟩)
    clear hv HI
    go_enter Try.func47, Try.ntmps47
    go_wp2_with (first | (go_at_call 75; (with_reducible refine HI2.out.mono ?_); rintro e w1 ⟨⟨i, rfl, hi⟩, rfl⟩) | fail)
    go_ret
    exact ⟨by rw [HV.out]; rfl, rfl⟩
  · have HV : Hid (decide (v ∈ xs) = false) := Lib.hid (by simpa using hv)
    have HI2 : Hid (Calls Try.prog 75 #[.slice A n c, .int .i64 v] w fun e w' => (∃ i : Int, e = .returned (.int .i64 i) ∧ decide (0 ≤ i) = false) ∧ w = w') := Lib.hid (HI.out.mono fun e w' ⟨⟨i, h1, h2⟩, h3⟩ => ⟨⟨i, h1, decide_eq_false fun h => hv (h2.2 h)⟩, h3⟩)
    clear hv HI
    go_enter Try.func47, Try.ntmps47
    go_wp2_with (first | (go_at_call 75; (with_reducible refine HI2.out.mono ?_); rintro e w1 ⟨⟨i, rfl, hi⟩, rfl⟩) | fail)
    go_ret
    exact ⟨by rw [HV.out]; rfl, rfl⟩
theorem isFormat_any (f : Int) (w : World) : Calls Try.prog 24 #[.int .i64 f] w fun e w' => e = .returned (.bool (isFmtB f)) ∧ Below w.heap.size w w' := by
  have hv : decide (f ∈ [(0 : Int), 4, 6, 12]) = isFmtB f := by unfold isFmtB; simp
  have hs : SlAt (w.alloc (.cells #[.int .i64 0, .int .i64 4, .int .i64 6, .int .i64 12] 3)) (some ⟨w.heap.size, 0, none⟩) 4 (([0, 4, 6, 12] : List Int).map (Value.int .i64)) := slat_blk (Blk.newAt w 3 [.int .i64 0, .int .i64 4, .int .i64 6, .int .i64 12] rfl) rfl
  have HI := Lib.hid (contains_any (n := 4) (c := 4) f rfl hs (by omega))
  rw [hv] at HI
  clear hs hv
  go_enter Try.func24, Try.ntmps24
  go_wp2_with (first | (go_at_call 47; (with_reducible refine HI.out.mono ?_); rintro e w1 ⟨rfl, rfl⟩) | fail)
  go_ret
  exact ⟨rfl, (bel_alloc bel_refl).below⟩
end Go.Proofs.Ytlbfefdmbdjjcaa
