/-
  Layer 15: what may be put: entries.
-/
import Derived.Test.YtoofjkhigonppaaDcL
namespace Go.Proofs.Ytoofjkhigonppaa
open Go.RowKit

theorem may_any {w : World} (op : Int) {A : Option Addr} {c : Nat} {xs : List Int} (h : SlAt w A xs.length (xs.map (Value.int .i64))) (hi : InI xs) (hn : xs.length ≤ 17592186044416) :
    Calls Try.prog 31 #[.agg #[.int .i64 op, .slice A xs.length c]] w fun e w' => e = .returned (.bool (mayB (op, xs))) ∧ Below w.heap.size w w' := by
  have KC := fun w' (hb : Below w.heap.size w w') => contains_ints (c := c) (h.keep hb) hi hn
  have KO := fun w => isOp_any op w
  have hm : mayB (op, xs) = (isOpB op && decide (xs.length ≤ 48) && xs.all wholeB) := rfl
  rw [hm]
  clear h hi hm
  generalize isOpB op = b1 at *
  generalize xs.all wholeB = b2 at *
  have HO := Lib.hid KO
  have HC := Lib.hid KC
  clear KO KC
  cases b1
  · go_enter Try.func31, Try.ntmps31
    go_wp2_with (first | (go_at_call 46; (with_reducible refine (HO.out _).mono ?_); rintro e w1 ⟨rfl, rfl⟩) | fail)
    go_ret
    exact ⟨rfl, (bel_alloc bel_refl).below⟩
  · by_cases hl : xs.length ≤ 48
    · have hl' : (xs.length : Int) ≤ 48 := by omega
      rw [decide_eq_true hl]
      have hbb := (bel_alloc (o := .cells #[.int .i64 op, .slice A xs.length c] 42) (bel_refl (a := w))).below
      have HBB := Lib.hid hbb
      clear hbb
      cases b2
      all_goals
        go_enter Try.func31, Try.ntmps31
        go_wp2_with (first | (go_at_call 46; (with_reducible refine (HO.out _).mono ?_); rintro e w1 ⟨rfl, rfl⟩) | (go_at_call 47; (with_reducible refine (HC.out _ HBB.out).mono ?_); rintro e w1 ⟨rfl, rfl⟩) | fail)
        go_ret
        exact ⟨rfl, (bel_alloc bel_refl).below⟩
    · have hl' : ¬ (xs.length : Int) ≤ 48 := by omega
      rw [decide_eq_false hl]
      go_enter Try.func31, Try.ntmps31
      go_wp2_with (first | (go_at_call 46; (with_reducible refine (HO.out _).mono ?_); rintro e w1 ⟨rfl, rfl⟩) | fail)
      go_ret
      exact ⟨rfl, (bel_alloc bel_refl).below⟩
theorem notMay_any {w : World} (op : Int) {A : Option Addr} {c : Nat} {xs : List Int} (h : SlAt w A xs.length (xs.map (Value.int .i64))) (hi : InI xs) (hn : xs.length ≤ 17592186044416) :
    Calls Try.prog 30 #[.agg #[.int .i64 op, .slice A xs.length c]] w fun e w' => e = .returned (.bool (!mayB (op, xs))) ∧ Below w.heap.size w w' := by
  have KC := fun w' (hb : Below w.heap.size w w') => may_any (c := c) op (h.keep hb) hi hn
  clear h hi
  generalize mayB (op, xs) = b at *
  have hbb := (bel_alloc (o := .cells #[.int .i64 op, .slice A xs.length c] 42) (bel_refl (a := w))).below
  have HBB := Lib.hid hbb
  have HC := Lib.hid KC
  clear hbb KC
  go_enter Try.func30, Try.ntmps30
  go_wp2_with (first | (go_at_call 31; (with_reducible refine (HC.out _ HBB.out).mono ?_); rintro e w1 ⟨rfl, hb1⟩) | fail)
  go_ret
  exact ⟨rfl, HBB.out.trans (hb1.mono (by simp))⟩
/-- Entries whose numbers are in range. -/
def EnIn (es : List En) : Prop := ∀ v ∈ es, (-9223372036854775808 ≤ v.op ∧ v.op ≤ 9223372036854775807) ∧ InI v.xs
theorem EnL.at_ {w : World} {A : Option Addr} {n : Nat} {es : List En} (h : EnL w A n es) {k : Nat} {v : En} (hv : es[k]? = some v) : ∃ b o, A = some ⟨b, o, none⟩ ∧ b < w.heap.size ∧ w.cell? ⟨b, o + k * 2, none⟩ = some (.int .i64 v.op) ∧ w.cell? ⟨b, o + k * 2 + 1, none⟩ = some (.slice v.A v.xs.length v.c) := by
  obtain ⟨b, o, hA, hb, hc⟩ := h.rows.at_ (i := k) (r := enC v) (by rw [List.getElem?_map, hv]; rfl)
  exact ⟨b, o, hA, hb, hc 0 _ rfl, hc 1 _ rfl⟩
theorem index_ens {w : World} {A : Option Addr} {n c : Nat} {es : List En} (h : EnL w A n es) (hi : EnIn es) (hn : n ≤ 4398046511104) :
    Calls Try.prog 45 #[.slice A n c, .func (.func 30) #[] #[]] w fun e w' => IxR ((es.map enV).all mayB) e ∧ Below w.heap.size w w' := by
  have hl : es.length = n := by have := h.rows.len; simpa using this
  subst hl
  have H := Lib.hid h
  have HI := Lib.hid hi
  clear h hi
  go_enter Try.func45, Try.ntmps45
  go_wp2_with fail
  go_loopw [5, 8] (fun _ i wr => ∃ k : Nat, k ≤ es.length ∧ i = .int .i64 k ∧ Hid (((es.map enV).take k).all mayB = true) ∧ Hid (Below w.heap.size w wr)) (fun _ i _ => es.length - (intOf i).toNat)
  case atStart => exact ⟨0, Nat.zero_le _, rfl, Lib.hid rfl, Lib.hid (Below.refl _ _)⟩
  case round =>
    obtain ⟨k, hk, rfl, HT, HB⟩ := hrel
    by_cases hlt : k < es.length
    · obtain ⟨v, hv⟩ := get_some' hlt
      have hv2 : (es.map enV)[k]? = some (enV v) := by rw [List.getElem?_map, hv]; rfl
      obtain ⟨b, o, rfl, hb, hc1, hc2⟩ := H.out.at_ hv
      have hsz := HB.out.size
      have q0 : wr.cell? ⟨b, o + k * 2, none⟩ = some (.int .i64 v.op) := (HB.out.cell (p := ⟨b, _, none⟩) hb).trans hc1
      have q1 : wr.cell? ⟨b, o + k * 2 + 1, none⟩ = some (.slice v.A v.xs.length v.c) := (HB.out.cell (p := ⟨b, _, none⟩) hb).trans hc2
      have hmem := List.mem_of_getElem? hv
      have KN := notMay_any (c := v.c) v.op ((H.out.args v hmem).keep HB.out) (HI.out v hmem).2 (H.out.short v hmem)
      have hnx := fun h => all_take (p := mayB) hv2 HT.out h
      have hno := fun h => all_not (p := mayB) hv2 h
      have HNX := Lib.hid hnx
      have HNO := Lib.hid hno
      unfold enV at HNX HNO
      obtain ⟨wx, hwx⟩ : ∃ wx, mayB (v.op, v.xs) = wx := ⟨_, rfl⟩
      rw [hwx] at KN
      have HW := Lib.hid hwx
      have HKN := Lib.hid KN
      clear KN hnx hno hwx hv hv2 hc1 hc2 hmem
      cases wx
      · go_wp2_with (first | (go_at_call 30; (with_reducible refine HKN.out.mono ?_); rintro e w1 ⟨rfl, hb1⟩; have HB1 := Lib.hid (HB.out.trans (hb1.mono hsz)); clear hb1) | fail)
        go_ret
        exact ⟨ix_yes (HNO.out HW.out), HB1.out⟩
      · go_wp2_with (first | (go_at_call 30; (with_reducible refine HKN.out.mono ?_); rintro e w1 ⟨rfl, hb1⟩; have HB1 := Lib.hid (HB.out.trans (hb1.mono hsz)); clear hb1) | fail)
        go_roundw
        case rel => exact ⟨k + 1, by omega, by go_num, Lib.hid (HNX.out HW.out), HB1⟩
        case measure => simp [intOf]; omega
    · obtain rfl : k = es.length := by omega
      go_wp2_with fail
      go_ret
      have ht := HT.out
      rw [List.take_of_length_le (by simp)] at ht
      exact ⟨ix_no ht, HB.out⟩
theorem contains_ens {w : World} {A : Option Addr} {n c : Nat} {es : List En} (h : EnL w A n es) (hi : EnIn es) (hn : n ≤ 4398046511104) :
    Calls Try.prog 29 #[.slice A n c, .func (.func 30) #[] #[]] w fun e w' => e = .returned (.bool (!(es.map enV).all mayB)) ∧ Below w.heap.size w w' := by
  have H := index_ens (c := c) h hi hn
  clear h hi
  generalize (es.map enV).all mayB = b at *
  have HH := Lib.hid H
  clear H
  cases b
  all_goals
    go_enter Try.func29, Try.ntmps29
    go_wp2_with (first | (go_at_call 45; (with_reducible refine HH.out.mono ?_); rintro e w1 ⟨⟨i, rfl, hi1, hi2⟩, hb1⟩; simp at hi1 hi2) | fail)
    go_ret
    first
      | exact ⟨rfl, hb1⟩
      | (subst hi1; exact ⟨rfl, hb1⟩)
end Go.Proofs.Ytoofjkhigonppaa
