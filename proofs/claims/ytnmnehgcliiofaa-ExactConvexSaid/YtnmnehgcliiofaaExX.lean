/-
  How often a sign changes: the document's.
-/
import Derived.Test.YtnmnehgcliiofaaExW
import Derived.Test.YtnmnehgcliiofaaOwN
import Derived.Test.YtnmnehgcliiofaaExI
namespace Go.Proofs.Ytnmnehgcliiofaa
open Go.RowKit

def nzL (l : List Int) : List Int := l.filter fun x => decide (x ≠ 0)
def parts (s : List Int) (i : Nat) : Bool := decide (0 < s.getD i 0) != decide (0 < s.getD ((i + 1) % s.length) 0)
def cycN (s : List Int) (k : Nat) : Nat := ((List.range k).filter (parts s)).length
def chgR (l : List Int) : Nat := cycN (nzL l) (nzL l).length
theorem nz_snoc {l : List Int} {k : Nat} {x : Int} (h : l[k]? = some x) : nzL (l.take (k + 1)) = nzL (l.take k) ++ (if x ≠ 0 then [x] else []) := by
  rw [take_snoc h]
  unfold nzL
  rw [List.filter_append]
  by_cases hx : x = 0
  · simp [hx]
  · simp [hx]
theorem nz_len (l : List Int) (k : Nat) : (nzL (l.take k)).length ≤ l.length := by
  refine Nat.le_trans (List.length_filter_le _ _) ?_
  rw [List.length_take]
  omega
theorem cyc_snoc (s : List Int) (k : Nat) : cycN s (k + 1) = cycN s k + (if parts s k = true then 1 else 0) := by
  unfold cycN
  rw [List.range_succ, List.filter_append, List.length_append]
  simp only [List.filter_cons, List.filter_nil]
  split <;> simp
theorem cyc_le (s : List Int) (k : Nat) : cycN s k ≤ k := by
  have h := List.length_filter_le (parts s) (List.range k)
  rw [List.length_range] at h
  exact h

set_option maxRecDepth 20000 in
set_option maxHeartbeats 2000000 in
theorem rchanges_any {w : World} {A : Option Addr} {c : Nat} {l : List Int} (h : SlAt w A l.length (l.map (Value.int .i64))) (hl : l.length ≤ 1000) :
    Calls Try.prog 73 #[.slice A l.length c] w fun e w' => e = .returned (.int .i64 (chgR l)) ∧ Below w.heap.size w w' := by
  have HH := Lib.hid h
  clear h
  go_enter Try.func73, Try.ntmps73
  go_wp2
  go_loopw [3, 4] (fun s i wr => ∃ k : Nat, k ≤ l.length ∧ i = .int .i64 k ∧ ∃ A1 c1, s = .slice A1 (nzL (l.take k)).length c1 ∧ Hid (OwI w.heap.size wr A1 (nzL (l.take k)).length c1 (nzL (l.take k))) ∧ Hid (Below w.heap.size w wr)) (fun _ i _ => l.length - (intOf i).toNat)
  case atStart => exact ⟨0, Nat.zero_le _, rfl, none, 0, rfl, Lib.hid (OwI.nil w), Lib.hid (Below.refl _ _)⟩
  case round =>
    obtain ⟨k, hk, rfl, A1, c1, rfl, HO, HB⟩ := hrel
    by_cases hlt : k < l.length
    · obtain ⟨x, hx⟩ := get_some hlt
      obtain ⟨b, o, rfl, hb, hc⟩ := HH.out.2 k hlt
      rw [List.getElem?_map, hx] at hc
      have hc' : wr.cell? ⟨b, o + k, none⟩ = some (.int .i64 x) := (HB.out.cell (p := ⟨b, _, none⟩) hb).trans hc
      have hsn := nz_snoc hx
      have hln := nz_len l k
      have hle := HO.out.le
      generalize nzL (l.take k) = T at *
      clear hc hx
      by_cases h0 : x = 0
      · rw [if_neg (by simpa using h0)] at hsn
        rw [List.append_nil] at hsn
        have HS := Lib.hid hsn
        clear hsn
        subst h0
        go_wp2
        go_roundw
        case rel => exact ⟨k + 1, by omega, by go_num, A1, c1, by rw [HS.out], by rw [HS.out]; exact HO, HB⟩
        case measure => simp [intOf]; omega
      · rw [if_pos h0] at hsn
        have HS := Lib.hid hsn
        have h1 : (x != 0) = true := by simpa using h0
        have HO1 := Lib.hid (HO.out.keep (bel_alloc (o := .cells #[.int .i64 x] 3) (bel_refl (a := wr))).below)
        clear hsn
        go_wp2_with (first
          | (at_builtin; refine wpList_append_oi (by rfl) (.tmp 18) (.tmp 23) (by rfl) (by rfl) HO1.out (some ⟨wr.heap.size, 0, none⟩) 1 1 (by rfl) [x] (slat_int wr x) (by omega) ?_; intro A3 c3 w3 ho3 hg3
             have HO3 := Lib.hid ho3
             have HB3 := Lib.hid ((HB.out.trans ((bel_alloc (o := .cells #[.int .i64 x] 3) (bel_refl (a := wr))).below.mono hle)).grown (by rw [ownBlock_slice]; exact hg3) HO1.out.le (fun q hq => (own_lt HO1.out.own q hq).1))
             clear ho3 hg3))
        go_roundw
        case rel => exact ⟨k + 1, by omega, by go_num, A3, c3, by rw [HS.out]; simp, by rw [HS.out]; simpa using HO3, HB3⟩
        case measure => simp [intOf]; omega
    · obtain rfl : k = l.length := by omega
      have ht : l.take l.length = l := List.take_of_length_le (Nat.le_refl _)
      have hln := nz_len l l.length
      rw [ht] at HO hln ⊢
      have hr : chgR l = cycN (nzL l) (nzL l).length := rfl
      have HR := Lib.hid hr
      generalize nzL l = T at *
      have hsl := HO.out.sl
      have HSL := Lib.hid hsl
      clear ht hsl hr
      go_wp2_with fail
      go_loopw [5, 6] (fun n i wq => ∃ j : Nat, j ≤ T.length ∧ i = .int .i64 j ∧ n = .int .i64 (cycN T j) ∧ ∃ m, wq = wr.drewN m) (fun _ i _ => T.length - (intOf i).toNat)
      case atStart => exact ⟨0, Nat.zero_le _, rfl, rfl, 0, rfl⟩
      case round =>
        obtain ⟨j, hj, rfl, rfl, md, rfl⟩ := hrel
        by_cases hlt2 : j < T.length
        · obtain ⟨x, hx⟩ := get_some hlt2
          obtain ⟨m, hm⟩ : ∃ m, (j + 1) % T.length = m := ⟨_, rfl⟩
          have hml : m < T.length := hm ▸ next_lt hlt2
          have hrem : ((j : Int) + 1).tmod (T.length : Int) = m := by rw [next_rem, hm]
          obtain ⟨y, hy⟩ := get_some hml
          obtain ⟨b, o, rfl, hb, hc⟩ := HSL.out.2 j hlt2
          obtain ⟨b', o', hA', hb', hc2⟩ := HSL.out.2 m hml
          injection hA' with hA'
          injection hA' with h1 h2
          subst h1 h2
          rw [List.getElem?_map, hx] at hc
          rw [List.getElem?_map, hy] at hc2
          simp at hc hc2
          have hsn := cyc_snoc T j
          have hpt : parts T j = (decide (0 < x) != decide (0 < y)) := by unfold parts; rw [hm]; simp [hx, hy]
          rw [hpt] at hsn
          have hcl := cyc_le T j
          have hT0 : (T.length : Int) ≠ 0 := by omega
          generalize cycN T j = nn at *
          have HS := Lib.hid hsn
          clear hsn hx hy hm hpt
          go_wp2_with fail
          go_quiet (fail)
          go_wp2_with fail
          all_goals
            refine ⟨⟨j + 1, by omega, by go_num, ?_, _, rfl⟩, by simp [intOf]; omega⟩
            rw [HS.out]
            generalize decide (0 < x) = p at *
            generalize decide (0 < y) = q at *
            cases p <;> cases q <;> simp_all
        · obtain rfl : j = T.length := by omega
          go_wp2_with fail
          go_ret
          exact ⟨ret_int' (by rw [HR.out]), (below_drewN HB.out _)⟩
end Go.Proofs.Ytnmnehgcliiofaa
