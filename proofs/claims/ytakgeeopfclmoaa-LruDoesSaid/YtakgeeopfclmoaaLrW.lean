/-
  Layer 25: as many masks are kept as the budget has room for.
-/
import Derived.Test.YtakgeeopfclmoaaLrV
namespace Go.Proofs.Ytakgeeopfclmoaa
open Go.RowKit Go.Maps

def mkn (n i : Nat) : Ms := ⟨⟨0, 0, n, 1⟩, List.replicate n (UInt8.ofNat i)⟩
/-- What is kept behind i masks of n bytes, where there is room for q. -/
def fullL (n q : Nat) : Nat → List En
  | 0 => []
  | i + 1 => ((kx i, mkn n i) :: fullL n q i).take q
theorem costn (n i : Nat) : costM (mkn n i) = 64 + n := by unfold costM mkn; simp
theorem fullL_len (n q : Nat) : ∀ i, (fullL n q i).length = min i q
  | 0 => by simp [fullL]
  | i + 1 => by rw [fullL, List.length_take, List.length_cons, fullL_len n q i]; omega
theorem fullL_at (n q : Nat) : ∀ i j, j < min i q → (fullL n q i)[j]? = some (kx ((i - 1 - j : Nat) : Int), mkn n (i - 1 - j))
  | 0, j, h => by omega
  | i + 1, 0, h => by
    rw [fullL, List.getElem?_take, if_pos (by omega)]
    simp
  | i + 1, j + 1, h => by
    rw [fullL, List.getElem?_take, if_pos (by omega), List.getElem?_cons_succ, fullL_at n q i j (by omega)]
    simp only [Nat.add_sub_cancel]
    rw [show i - 1 - j = i - (j + 1) by omega]
theorem fullL_keys (n q : Nat) (i : Nat) : ∀ e ∈ fullL n q i, ∃ j, j < i ∧ e = (kx (j : Int), mkn n j) := by
  induction i with
  | zero => intro e he; simp [fullL] at he
  | succ i ih =>
    intro e he
    rw [fullL] at he
    rcases List.mem_cons.1 (List.mem_of_mem_take he) with rfl | he
    · exact ⟨i, by omega, rfl⟩
    · obtain ⟨j, hj, h⟩ := ih e he
      exact ⟨j, by omega, h⟩
theorem held_same (s : Int) : ∀ (L : List En), (∀ e ∈ L, costM e.2 = s) → heldL L = L.length * s
  | [], _ => by simp [heldL]
  | e :: L, h => by
    simp only [heldL, List.length_cons]
    rw [h e (by simp), held_same s L (fun x hx => h x (by simp [hx])), Int.natCast_add, Int.add_mul]
    omega
theorem full_put {budget : Int} {n q i : Nat} (hq1 : (q : Int) * (64 + n) ≤ budget) (hq2 : budget < (q + 1) * (64 + (n : Int))) (hm : maskM (mkn n i) = 0) : putM budget (kx i) (mkn n i) (fullL n q i) = fullL n q (i + 1) := by
  have hd : dropL (kx i) (fullL n q i) = fullL n q i := dropL_none fun hmm => by
    obtain ⟨e, he, e2⟩ := List.mem_map.1 hmm
    obtain ⟨j, hj, rfl⟩ := fullL_keys n q i e he
    simp only [kx, K4.mk.injEq, and_true] at e2
    omega
  have hlen := fullL_len n q i
  have hcost : ∀ e ∈ (kx (i : Int), mkn n i) :: fullL n q i, costM e.2 = 64 + n := fun e he => by
    rcases List.mem_cons.1 he with rfl | he
    · exact costn n i
    · obtain ⟨j, _, rfl⟩ := fullL_keys n q i e he
      exact costn n j
  unfold putM putL
  rw [if_pos hm, hd, costn, fullL]
  rcases Nat.eq_zero_or_pos q with h0 | h0
  · subst h0
    rw [if_pos (by simpa using hq2), List.take_zero]
    exact List.eq_nil_of_length_eq_zero (by omega)
  · have h1 : (1 : Int) * (64 + n) ≤ q * (64 + n) := Int.mul_le_mul_of_nonneg_right (by omega) (by omega)
    rw [if_neg (by omega)]
    rcases Nat.lt_or_ge i q with hi | hi
    · rw [shrinkL_fit, List.take_of_length_le (by simp; omega)]
      rw [held_same (64 + n) _ hcost]
      have h2 : (((kx (i : Int), mkn n i) :: fullL n q i).length : Int) * (64 + n) ≤ q * (64 + n) := Int.mul_le_mul_of_nonneg_right (by simp; omega) (by omega)
      omega
    · have hl : ((kx (i : Int), mkn n i) :: fullL n q i).length = q + 1 := by simp; omega
      obtain ⟨M, e, hM⟩ : ∃ M e, (kx (i : Int), mkn n i) :: fullL n q i = M ++ [e] := by
        rcases List.eq_nil_or_concat ((kx (i : Int), mkn n i) :: fullL n q i) with h | ⟨M, e, h⟩
        · simp at h
        · exact ⟨M, e, by rw [h, List.concat_eq_append]⟩
      rw [hM] at hl hcost ⊢
      have hMl : M.length = q := by simp at hl; exact hl
      rw [shrinkL_snoc, shrinkL_fit, List.take_left' hMl]
      · rw [held_same (64 + n) M (fun x hx => hcost x (by simp [hx])), hMl]; exact hq1
      · rw [held_same (64 + n) _ hcost, hl]; simpa using hq2
theorem full_ok {budget : Int} {n i : Nat} (hm : maskM (mkn n i) = 0) : okP budget (mkn n i) = decide ((64 : Int) + n ≤ budget) := by
  unfold okP
  rw [hm, costn]
  simp only [decide_true, Bool.true_and]
  rw [Bool.eq_iff_iff]
  simp
theorem maskn {n i : Nat} (h1 : 1 ≤ n) (h2 : n ≤ 300) : maskM (mkn n i) = 0 := by
  have hc : cellE 0 0 n 1 = 0 := by
    rw [cellE_zero]
    refine ⟨?_, by omega, by omega, by omega, by omega, by omega, by omega, by omega⟩
    simp [bB, mayB]
    omega
  unfold maskM mkn maskE
  simp only [List.length_replicate]
  rw [if_neg, if_pos ⟨hc, by omega⟩]
  intro h
  have := (eq4_true.1 h).2.2.1
  omega

section
variable {B g : Nat} {w : World} {budget : Int}
def FPut (w : World) (g B : Nat) (budget : Int) (n q i : Nat) (e : Ending) (w' : World) : Prop :=
  e = .returned (.tuple #[.bool (decide ((64 : Int) + n ≤ budget)), .int .i64 0]) ∧ LruS w' g B budget (fullL n q (i + 1)) ∧ KeepT B w w'
theorem fput {n q i : Nat} (h : LruS w g B budget (fullL n q i)) (h1 : 1 ≤ n) (h2 : n ≤ 300) (hi : i ≤ 60) (hq1 : (q : Int) * (64 + n) ≤ budget) (hq2 : budget < (q + 1) * (64 + (n : Int))) {bs : List UInt8} (hb : bs = List.replicate n (UInt8.ofNat i)) (A : Option Addr) (c : Nat) (ha : Ar B w A bs c) :
    Calls Try.prog 12 #[.pointer (some ⟨g, 0, none⟩), .agg #[.int .i64 i, .int .i64 0, .int .i64 0, .int .i64 0], .agg #[.int .i64 0, .int .i64 0, .int .i64 n, .int .i64 1, .slice A bs.length c]] w (FPut w g B budget n q i) := by
  subst hb
  have hm := maskn (i := i) h1 h2
  refine (Put_any h (kx i) (kx_wf i (WalkArith.wf_i64 (by omega))) (mkn n i) A c ha (fun _ h => h.elim)).mono ?_
  rintro e w' ⟨h3, h4, h5⟩
  rw [full_ok hm, hm] at h3
  rw [full_put hq1 hq2 hm] at h4
  exact ⟨h3, h4, h5⟩
theorem fmask (w : World) (n i : Nat) (h1 : 1 ≤ n) (h2 : n ≤ 300) (hi : i ≤ 60) : Calls Try.prog 16 #[.int .i64 n, .int .u8 i] w (MaskR w n (UInt8.ofNat i)) := by
  have := mask_any (w := w) n (UInt8.ofNat i) h1 h2
  rwa [show ((UInt8.ofNat i).toNat : Int) = i by simp [UInt8.toNat_ofNat']; omega] at this
end
def FKeys (w : World) (k want : Nat) (e : Ending) (w' : World) : Prop :=
  ∃ A c, e = .returned (.slice A want c) ∧ want ≤ c ∧ (∀ j : Nat, j < want → ∃ b, A = some ⟨b, 0, none⟩ ∧ b < w'.heap.size ∧ w'.cell? ⟨b, j * 4, none⟩ = some (.int .i64 ((k : Int) - 1 - j))) ∧ Below w.heap.size w w'
theorem kcs_at (L : List En) : ∀ (j : Nat) (e : En), L[j]? = some e → (L.flatMap fun en => kcs en.1)[j * 4]? = some (.int .i64 e.1.g) := by
  induction L with
  | nil => intro j e h; simp at h
  | cons a L ih =>
    intro j e h
    cases j with
    | zero =>
      simp at h
      subst h
      simp [kcs]
    | succ j =>
      rw [List.flatMap_cons, List.getElem?_append_right (by simp [kcs]; omega)]
      have := ih j e (by simpa using h)
      rw [← this]
      congr 1
      simp [kcs]; omega
theorem fkeys {g B : Nat} {w : World} {budget : Int} {n q k want : Nat} (h : LruS w g B budget (fullL n q k)) (hw : min k q = want) : Calls Try.prog 17 #[.pointer (some ⟨g, 0, none⟩)] w (FKeys w k want) := by
  refine (Keys_any h.h).mono ?_
  rintro e w' ⟨A, c, rfl, hown, hb⟩
  have hlen : (fullL n q k).length = want := by rw [fullL_len, hw]
  refine ⟨A, c, by rw [hlen], ?_, fun j hj => ?_, hb⟩
  · obtain ⟨_, ⟨h2, h3⟩ | ⟨b, cap, cur, h2, h3, h4, h5, _⟩⟩ := hown
    · omega
    · injection h2 with _ _ e3
      omega
  · have hc := kcs_at (fullL n q k) j _ (fullL_at n q k j (by omega))
    have hown2 := hown
    obtain ⟨_, ⟨h2, h3⟩ | ⟨b, cap, cur, h2, h3, h4, h5, _⟩⟩ := hown
    · omega
    · injection h2 with e1 _ e3
      refine ⟨b, e1, (Array.getElem?_eq_some_iff.1 h4).1, ?_⟩
      have := hown2.cells (g := b) (by rw [e1]; rfl) (j * 4) _ hc
      rw [show (⟨b, 0, none⟩ : Addr).add (j * 4) = ⟨b, j * 4, none⟩ by unfold Addr.add; split <;> simp [*]] at this
      rw [this]
      simp only [kx, Option.some.injEq, Value.int.injEq, true_and]
      omega
def FulR (w : World) (g B : Nat) (budget : Int) (n q k : Nat) (r : Nat) (i : Value) (wr : World) : Prop :=
  r ≤ k ∧ i = .int .i64 ((k - r : Nat) : Int) ∧ LruS wr g B budget (fullL n q (k - r)) ∧ Below w.heap.size w wr ∧ B ≤ wr.heap.size
def FlkR (w : World) (want : Nat) (W : World) (r : Nat) (i : Value) (wr : World) : Prop := r ≤ want ∧ i = .int .i64 ((want - r : Nat) : Int) ∧ wr = W
set_option maxRecDepth 20000 in
set_option maxHeartbeats 4000000 in
theorem lruFull_in (budget : Int) (n q k : Nat) {w : World} (h0 : 0 ≤ budget) (hb2 : budget ≤ 20000) (h1 : 1 ≤ n) (h2 : n ≤ 300) (hk : k ≤ 60) (hq : budget / (64 + n) = q) :
    Calls Try.prog 4 #[.int .i64 budget, .int .i64 n, .int .i64 k] w fun e w' => e = .returned (.bool true) ∧ Below w.heap.size w w' := by
  have hq1 : (q : Int) * (64 + n) ≤ budget := by rw [← hq]; exact Int.ediv_mul_le budget (by omega)
  have hq2 : budget < (q + 1) * (64 + (n : Int)) := by rw [← hq]; exact Int.lt_ediv_add_one_mul_self budget (by omega)
  have hn := New_yes (w := w) budget (budB_true.2 ⟨h0, by omega⟩)
  have HN := Lib.hid hn
  have HQ := Lib.hid hq
  have HQ1 := Lib.hid hq1
  have HQ2 := Lib.hid hq2
  clear hn hq1 hq2 hq
  go_enter Try.func4, Try.ntmps4
  go_wp2_with (first
      | (go_at_call 8; (with_reducible refine HN.out.mono ?_); rintro e w1 ⟨g, rfl, hh, hb1⟩
         have HS := Lib.hid (LruS.mk (L := []) hh h0 h0 (by omega))
         have HB := Lib.hid hb1
         clear hh hb1)
      | (go_at_call 9; (with_reducible refine (lives_any _).mono ?_); rintro e w2 ⟨rfl, hb2⟩
         have HS2 := Lib.hid (HS.out.keep hb2)
         have HB2 := Lib.hid (HB.out.trans (hb2.mono HB.out.size))
         clear hb2))
  go_loopg [9] k (fun r i wr => FulR w g w.heap.size budget n q k r i wr)
  case atStart => exact ⟨Nat.le_refl _, by simp, by simpa [fullL] using HS2.out, HB2.out, HB2.out.size⟩
  case round =>
    obtain ⟨hr, rfl, hS, hbel, hBs⟩ := hrel
    obtain ⟨j, hj⟩ : ∃ j, k - gk = j := ⟨_, rfl⟩
    rw [hj] at hS ⊢
    by_cases hjk : j < k
    · have hjk' : (j : Int) < k := by omega
      obtain ⟨r, rfl⟩ : ∃ r, gk = r + 1 := ⟨gk - 1, by omega⟩
      have hfin : ∀ w', LruS w' g w.heap.size budget (fullL n q (j + 1)) → Below w.heap.size w w' → FulR w g w.heap.size budget n q k r (.int .i64 ((j : Int) + 1)) w' := fun w' h3 h4 =>
        ⟨by omega, by rw [show k - r = j + 1 by omega]; rfl, by rw [show k - r = j + 1 by omega]; exact h3, h4, h4.size⟩
      have HF := Lib.hid hfin
      have HS := Lib.hid hS
      have HBL := Lib.hid hbel
      have HMK := Lib.hid (fun w => fmask w n j h1 h2 (by omega))
      have hj60 : (j : Int) ≤ 60 := by omega
      clear hfin hS hbel hBs hj hr
      go_wp2_with (first
        | (go_at_call 16; (with_reducible refine (HMK.out _).mono ?_); rintro e w3 ⟨A3, c3, bs, hbs, hbl, rfl, hbu, hb3⟩
           have HBB := Lib.hid hbs
           have HAR := Lib.hid (Ar.mk (B := w.heap.size) hbu.bs.bw (fun _ b e => .inr (hbu.typed b e)))
           have HS3 := Lib.hid (HS.out.keep hb3)
           have HB3 := Lib.hid (HBL.out.trans (hb3.mono HBL.out.size))
           clear hbs hbl hbu hb3)
        | (go_at_call 12; (with_reducible refine (fput HS3.out h1 h2 (by omega) HQ1.out HQ2.out HBB.out A3 c3 HAR.out).mono ?_); rintro e w4 ⟨rfl, h4, k4⟩
           have HS4 := Lib.hid h4
           have HB4 := Lib.hid (HB3.out.trans k4.toBelow)
           clear h4 k4))
      go_roundg r
      case rel => exact HF.out _ HS4.out HB4.out
      case measure => omega
    · obtain rfl : gk = 0 := by omega
      have hjk' : (k : Int) ≤ j := by omega
      obtain rfl : k = j := by omega
      have hqo := HQ.out
      have HS := Lib.hid hS
      have HBL := Lib.hid hbel
      clear hS hbel hBs hj hjk hr
      rcases Nat.lt_or_ge k q with hkq | hkq
      · have hkq' : (k : Int) < q := by omega
        have HKY := Lib.hid (fkeys HS.out (show min k q = k by omega))
        go_wp2_with (first
          | (go_at_call 17; (with_reducible refine HKY.out.mono ?_); rintro e w5 ⟨A5, c5, rfl, hwc, hcl, hb5⟩
             have HCL := Lib.hid hcl
             have HB5 := Lib.hid (HBL.out.trans (hb5.mono HBL.out.size))
             clear hcl hb5))
        clear hqo
        go_loopg [14] k (fun r i wr => FlkR w k w5 r i wr)
        case atStart => exact ⟨Nat.le_refl _, by simp, rfl⟩
        case round =>
          obtain ⟨hr2, rfl, rfl⟩ := hrel
          obtain ⟨j2, hj2⟩ : ∃ j2, k - gk = j2 := ⟨_, rfl⟩
          rw [hj2]
          by_cases hjw : j2 < k
          · have hjw' : (j2 : Int) < k := by omega
            obtain ⟨b, rfl, hbl, hcc⟩ := HCL.out j2 hjw
            obtain ⟨r, rfl⟩ : ∃ r, gk = r + 1 := ⟨gk - 1, by omega⟩
            go_wp2_with fail
            go_roundg r
            case rel => exact ⟨by omega, by rw [show k - r = j2 + 1 by omega]; rfl, rfl⟩
            case measure => omega
          · have hjw' : (k : Int) ≤ j2 := by omega
            go_wp2_with fail
            go_ret
            exact ⟨rfl, HB5.out⟩
      · have hkq' : (q : Int) ≤ k := by omega
        have HKY := Lib.hid (fkeys HS.out (show min k q = q by omega))
        go_wp2_with (first
          | (go_at_call 17; (with_reducible refine HKY.out.mono ?_); rintro e w5 ⟨A5, c5, rfl, hwc, hcl, hb5⟩
             have HCL := Lib.hid hcl
             have HB5 := Lib.hid (HBL.out.trans (hb5.mono HBL.out.size))
             clear hcl hb5))
        clear hqo
        go_loopg [14] q (fun r i wr => FlkR w q w5 r i wr)
        case atStart => exact ⟨Nat.le_refl _, by simp, rfl⟩
        case round =>
          obtain ⟨hr2, rfl, rfl⟩ := hrel
          obtain ⟨j2, hj2⟩ : ∃ j2, q - gk = j2 := ⟨_, rfl⟩
          rw [hj2]
          by_cases hjw : j2 < q
          · have hjw' : (j2 : Int) < q := by omega
            obtain ⟨b, rfl, hbl, hcc⟩ := HCL.out j2 hjw
            obtain ⟨r, rfl⟩ : ∃ r, gk = r + 1 := ⟨gk - 1, by omega⟩
            go_wp2_with fail
            go_roundg r
            case rel => exact ⟨by omega, by rw [show q - r = j2 + 1 by omega]; rfl, rfl⟩
            case measure => omega
          · have hjw' : (q : Int) ≤ j2 := by omega
            go_wp2_with fail
            go_ret
            exact ⟨rfl, HB5.out⟩
theorem lruFull_any (budget n k : Int) {w : World} (bn : -9223372036854775808 ≤ n ∧ n ≤ 9223372036854775807) (bk : -9223372036854775808 ≤ k ∧ k ≤ 9223372036854775807) :
    Calls Try.prog 4 #[.int .i64 budget, .int .i64 n, .int .i64 k] w fun e w' => e = .returned (.bool true) ∧ Below w.heap.size w w' := by
  by_cases h : 0 ≤ budget ∧ budget ≤ 20000 ∧ 1 ≤ n ∧ n ≤ 300 ∧ 0 ≤ k ∧ k ≤ 60
  · obtain ⟨h1, h2, h3, h4, h5, h6⟩ := h
    obtain ⟨n, rfl⟩ := Int.eq_ofNat_of_zero_le (show 0 ≤ n by omega)
    obtain ⟨k, rfl⟩ := Int.eq_ofNat_of_zero_le h5
    obtain ⟨q, hq⟩ := Int.eq_ofNat_of_zero_le (show 0 ≤ budget / (64 + (n : Int)) from Int.ediv_nonneg h1 (by omega))
    exact lruFull_in budget n q k h1 h2 (by omega) (by omega) (by omega) hq
  · clear bn bk
    have key : budget < 0 ∨ (0 ≤ budget ∧ 20000 < budget) ∨ (0 ≤ budget ∧ budget ≤ 20000 ∧ n < 1) ∨ (0 ≤ budget ∧ budget ≤ 20000 ∧ 1 ≤ n ∧ 300 < n) ∨ (0 ≤ budget ∧ budget ≤ 20000 ∧ 1 ≤ n ∧ n ≤ 300 ∧ k < 0) ∨ (0 ≤ budget ∧ budget ≤ 20000 ∧ 1 ≤ n ∧ n ≤ 300 ∧ 0 ≤ k ∧ 60 < k) := by omega
    clear h
    rcases key with h1 | ⟨h1, h2⟩ | ⟨h1, h2, h3⟩ | ⟨h1, h2, h3, h4⟩ | ⟨h1, h2, h3, h4, h5⟩ | ⟨h1, h2, h3, h4, h5, h6⟩
    all_goals
      go_enter Try.func4, Try.ntmps4
      go_wp2_with (first | (go_at_call 9; (with_reducible refine (lives_any _).mono ?_); rintro e w3 ⟨rfl, hb3⟩))
      go_ret
      exact ⟨rfl, hb3⟩
end Go.Proofs.Ytakgeeopfclmoaa
