/-
  exact.Tally of anything; how many lines touch a box, by the document.
-/
import Derived.Test.YtnmnehgcliiofaaExR
import Derived.Test.YtnmnehgcliiofaaExEz
namespace Go.Proofs.Ytnmnehgcliiofaa
open Go.RowKit Go.Shelf

def inP (x : Int) : Bool := decide (-16384 ≤ x) && decide (x ≤ 16384)
theorem inP_true {x : Int} : inP x = true ↔ -16384 ≤ x ∧ x ≤ 16384 := by simp [inP]
def TallyE (ls : List (List Dt)) (x y : Int) : Int := if mayL ls = false then 10 else if inP x = true ∧ inP y = true then 0 else 10
def zeroTally : Value := .agg #[.int .i64 0, .int .i64 0, .int .i64 0, .int .i64 0, .int .i64 0]
def TallyV (ls : List (List Dt)) (x y : Int) : Value := if TallyE ls x y = 0 then tyV (tallyT ls x y) else zeroTally

section
variable {w : World} {A : Option Addr} {c : Nat} {ls : List (List Dt)} {x y : Int}
set_option maxRecDepth 20000 in
set_option maxHeartbeats 2000000 in
theorem Tally_may (h : Dl w A ls) (hn : ls.length ≤ 1000) (hc : cnt ls ≤ 1000) (hm : mayL ls = false) :
    Calls Try.prog 36 #[.slice A ls.length c, .int .i64 x, .int .i64 y] w fun e w' => e = .returned (.tuple #[zeroTally, .int .i64 10]) ∧ Below w.heap.size w w' := by
  obtain ⟨W0, hW0⟩ : ∃ W0, ((w.alloc (.cells #[.slice A ls.length c] 63)).alloc (.cells #[.int .i64 0, .int .i64 0, .int .i64 0, .int .i64 0, .int .i64 0] 75)) = W0 := ⟨_, rfl⟩
  obtain ⟨s, hs⟩ : ∃ s, w.heap.size = s := ⟨_, rfl⟩
  have HB0 : Hid (Bel w.heap.size w W0) := Lib.hid (by rw [← hW0]; exact bel_alloc (bel_alloc bel_refl))
  have HBR0 : Hid (Blk W0 (s + 1) 75 [.int .i64 0, .int .i64 0, .int .i64 0, .int .i64 0, .int .i64 0]) := Lib.hid (by rw [← hW0, ← hs]; exact Blk.newAt _ _ [.int .i64 0, .int .i64 0, .int .i64 0, .int .i64 0, .int .i64 0] (by simp))
  have k0 : W0.cell? ⟨s, 0, none⟩ = some (.slice A ls.length c) := by rw [← hW0, ← hs]; exact ((Blk.new w 63 [.slice A ls.length c]).alloc _).cell 0
  have KM := flatMay_any (w := W0) (c := c) (h.keep HB0.out.below) hn hc
  rw [show mayE ls = 10 by unfold mayE; rw [hm]; rfl] at KM
  replace KM := Lib.hid KM
  have HS := Lib.hid hs
  clear h hm hn hc
  go_enter Try.func36, Try.ntmps36
  go_wp2_with (first
    | (go_at_call 56; (with_reducible refine KM.out.mono ?_); rintro e w1 ⟨rfl, hb1⟩
       have HB1 := Lib.hid (bel_call hb1 HB0.out)
       have hbr := HBR0.out.keepB hb1
       have HBR1 := Lib.hid hbr
       have r0 := hbr.cell 0
       have r1 := hbr.cell 1
       have r2 := hbr.cell 2
       have r3 := hbr.cell 3
       have r4 := hbr.cell 4
       have f0 := hbr.frozen 0
       have f1 := hbr.frozen 1
       have f2 := hbr.frozen 2
       have f3 := hbr.frozen 3
       have f4 := hbr.frozen 4
       simp at r0 r1 r2 r3 r4
       clear hbr hb1))
  have hss := HS.out
  refine bodyPost_ret (v := .tuple #[zeroTally, .int .i64 10]) ?_ rfl ⟨rfl, ?_⟩
  · unfold zeroTally; simp [results, Try.results36, go_sem, *]
  · exact ((((HB1.out.below.setCell (by show w.heap.size ≤ s + 1; omega) _).setCell (by show w.heap.size ≤ s + 1; omega) _).setCell (by show w.heap.size ≤ s + 1; omega) _).setCell (by show w.heap.size ≤ s + 1; omega) _).setCell (by show w.heap.size ≤ s + 1; omega) _

set_option maxRecDepth 20000 in
set_option maxHeartbeats 2000000 in
theorem Tally_far (h : Dl w A ls) (hn : ls.length ≤ 1000) (hc : cnt ls ≤ 1000) (hm : mayL ls = true) (hf : inP x = false ∨ inP x = true ∧ inP y = false) :
    Calls Try.prog 36 #[.slice A ls.length c, .int .i64 x, .int .i64 y] w fun e w' => e = .returned (.tuple #[zeroTally, .int .i64 10]) ∧ Below w.heap.size w w' := by
  obtain ⟨W0, hW0⟩ : ∃ W0, ((w.alloc (.cells #[.slice A ls.length c] 63)).alloc (.cells #[.int .i64 0, .int .i64 0, .int .i64 0, .int .i64 0, .int .i64 0] 75)) = W0 := ⟨_, rfl⟩
  obtain ⟨s, hs⟩ : ∃ s, w.heap.size = s := ⟨_, rfl⟩
  have HB0 : Hid (Bel w.heap.size w W0) := Lib.hid (by rw [← hW0]; exact bel_alloc (bel_alloc bel_refl))
  have HBR0 : Hid (Blk W0 (s + 1) 75 [.int .i64 0, .int .i64 0, .int .i64 0, .int .i64 0, .int .i64 0]) := Lib.hid (by rw [← hW0, ← hs]; exact Blk.newAt _ _ [.int .i64 0, .int .i64 0, .int .i64 0, .int .i64 0, .int .i64 0] (by simp))
  have k0 : W0.cell? ⟨s, 0, none⟩ = some (.slice A ls.length c) := by rw [← hW0, ← hs]; exact ((Blk.new w 63 [.slice A ls.length c]).alloc _).cell 0
  have KM := flatMay_any (w := W0) (c := c) (h.keep HB0.out.below) hn hc
  rw [show mayE ls = 0 by unfold mayE; rw [hm]; rfl] at KM
  have KX := withinP x
  have KY := withinP y
  rw [show (decide (-16384 ≤ x) && decide (x ≤ 16384)) = inP x from rfl] at KX
  rw [show (decide (-16384 ≤ y) && decide (y ≤ 16384)) = inP y from rfl] at KY
  generalize inP x = px at *
  generalize inP y = py at *
  replace KM := Lib.hid KM
  replace KX := Lib.hid KX
  replace KY := Lib.hid KY
  have HS := Lib.hid hs
  clear h hm hn hc
  rcases hf with rfl | ⟨rfl, rfl⟩
  all_goals
    go_enter Try.func36, Try.ntmps36
    go_wp2_with (first
      | (go_at_call 56; (with_reducible refine KM.out.mono ?_); rintro e w1 ⟨rfl, hb1⟩
         have HB1 := Lib.hid (bel_call hb1 HB0.out)
         have hbr := HBR0.out.keepB hb1
         have HBR1 := Lib.hid hbr
         have r0 := hbr.cell 0
         have r1 := hbr.cell 1
         have r2 := hbr.cell 2
         have r3 := hbr.cell 3
         have r4 := hbr.cell 4
         have f0 := hbr.frozen 0
         have f1 := hbr.frozen 1
         have f2 := hbr.frozen 2
         have f3 := hbr.frozen 3
         have f4 := hbr.frozen 4
         simp at r0 r1 r2 r3 r4
         clear hbr hb1)
      | (go_at_call 57; (with_reducible refine (KX.out _).mono ?_); rintro e w1 ⟨rfl, rfl⟩) | (go_at_call 57; (with_reducible refine (KY.out _).mono ?_); rintro e w1 ⟨rfl, rfl⟩))
    have hss := HS.out
    refine bodyPost_ret (v := .tuple #[zeroTally, .int .i64 10]) ?_ rfl ⟨rfl, ?_⟩
    · unfold zeroTally; simp [results, Try.results36, go_sem, *]
    · exact ((((HB1.out.below.setCell (by show w.heap.size ≤ s + 1; omega) _).setCell (by show w.heap.size ≤ s + 1; omega) _).setCell (by show w.heap.size ≤ s + 1; omega) _).setCell (by show w.heap.size ≤ s + 1; omega) _).setCell (by show w.heap.size ≤ s + 1; omega) _

theorem Tally_any (h : Dl w A ls) (hn : ls.length ≤ 1000) (hc : cnt ls ≤ 1000) :
    Calls Try.prog 36 #[.slice A ls.length c, .int .i64 x, .int .i64 y] w fun e w' => e = .returned (.tuple #[TallyV ls x y, .int .i64 (TallyE ls x y)]) ∧ Below w.heap.size w w' := by
  unfold TallyV
  rcases Bool.eq_false_or_eq_true (mayL ls) with hm | hm
  · by_cases hp : inP x = true ∧ inP y = true
    · have hE : TallyE ls x y = 0 := by unfold TallyE; rw [hm]; simp [hp]
      rw [hE, if_pos rfl]
      exact Tally_ok h hn hc hm (inP_true.1 hp.1) (inP_true.1 hp.2)
    · have hE : TallyE ls x y = 10 := by unfold TallyE; rw [hm, if_neg (by decide), if_neg hp]
      rw [hE, if_neg (by decide)]
      refine Tally_far h hn hc hm ?_
      generalize inP x = px at *
      generalize inP y = py at *
      cases px <;> cases py <;> simp_all
  · have hE : TallyE ls x y = 10 := by unfold TallyE; rw [hm, if_pos rfl]
    rw [hE, if_neg (by decide)]
    exact Tally_may h hn hc hm

/-! ### The document's touched: how many lines touch a box -/
def TouchS (b0 b1 b2 b3 : Int) (s : Sg) : Bool := TouchB s.1.1 s.1.2 s.2.1 s.2.2 b0 b1 b2 b3
def cntT (b0 b1 b2 b3 : Int) (l : List Sg) : Nat := (l.filter (TouchS b0 b1 b2 b3)).length
theorem cntT_le (b0 b1 b2 b3 : Int) (l : List Sg) : cntT b0 b1 b2 b3 l ≤ l.length := List.length_filter_le _ _
theorem cntT_snoc (b0 b1 b2 b3 : Int) (l : List Sg) (s : Sg) : cntT b0 b1 b2 b3 (l ++ [s]) = cntT b0 b1 b2 b3 l + (if TouchS b0 b1 b2 b3 s = true then 1 else 0) := by
  unfold cntT
  rw [List.filter_append, List.length_append]
  simp only [List.filter_cons, List.filter_nil]
  split <;> simp

set_option maxRecDepth 20000 in
set_option maxHeartbeats 4000000 in
theorem rtouched_any {b0 b1 b2 b3 : Int} (h : Dl w A ls) (hn : ls.length ≤ 1000) (hc : cnt ls ≤ 1000) :
    Calls Try.prog 70 #[.slice A ls.length c, .agg #[.int .i64 b0, .int .i64 b1, .int .i64 b2, .int .i64 b3]] w fun e w' => e = .returned (.int .i64 (cntT b0 b1 b2 b3 (segs ls))) ∧ Below w.heap.size w w' := by
  obtain ⟨W1, hW1⟩ : ∃ W1, w.alloc (.cells #[.int .i64 b0, .int .i64 b1, .int .i64 b2, .int .i64 b3] 32) = W1 := ⟨_, rfl⟩
  have HB1 : Hid (Bel w.heap.size w W1) := Lib.hid (by rw [← hW1]; exact bel_alloc bel_refl)
  have HX : Hid (Blk W1 w.heap.size 32 [.int .i64 b0, .int .i64 b1, .int .i64 b2, .int .i64 b3]) := Lib.hid (by rw [← hW1]; exact Blk.new w _ _)
  have hs1 : W1.heap.size = w.heap.size + 1 := by rw [← hW1]; simp
  have HL := Lib.hid h
  have HC := Lib.hid hc
  have KT := Lib.hid (fun (a1 a2 d1 d2 : Int) (W : World) => rTouches_any (ax := a1) (ay := a2) (dx := d1) (dy := d2) (b0 := b0) (b1 := b1) (b2 := b2) (b3 := b3) W)
  clear h hc
  go_enter Try.func70, Try.ntmps70
  go_wp2_with fail
  clear hW1
  go_loopw [5, 6] (fun n i wr => ∃ k : Nat, k ≤ ls.length ∧ i = .int .i64 k ∧ n = .int .i64 (cntT b0 b1 b2 b3 ((ls.map segsOf).take k).flatten) ∧ Hid (Below (w.heap.size + 1) W1 wr)) (fun _ i _ => ls.length - (intOf i).toNat)
  case atStart => exact ⟨0, Nat.zero_le _, rfl, rfl, Lib.hid (Below.refl _ _)⟩
  case round =>
    obtain ⟨k, hk, rfl, rfl, HB⟩ := hrel
    by_cases hlt : k < ls.length
    · obtain ⟨cl, hcl⟩ := get_some hlt
      obtain ⟨b1', o1, A1, c1, rfl, hb1, hc0, hd1, hs1'⟩ := HL.out k cl hcl
      have hcc : cl.length ≤ 1000 := Nat.le_trans (cnt_mem hcl) HC.out
      have HCL := Lib.hid hcl
      have HD1 := Lib.hid hd1
      have HC0 := Lib.hid hc0
      obtain ⟨pf, hpf⟩ : ∃ pf, ((ls.map segsOf).take k).flatten = pf := ⟨_, rfl⟩
      have HPF := Lib.hid hpf
      rw [hpf]
      have hk64 : (k : Int) < ls.length := by omega
      clear hcl hd1 hc0 hs1' hpf
      go_wp2_with fail
      go_loopw [5, 7] (fun n i wq => ∃ j : Nat, j ≤ cl.length ∧ i = .int .i64 j ∧ n = .int .i64 (cntT b0 b1 b2 b3 (pf ++ (segsOf cl).take j)) ∧ Hid (Below (w.heap.size + 1) W1 wq)) (fun _ i _ => cl.length - (intOf i).toNat)
      case atStart => exact ⟨0, Nat.zero_le _, rfl, by simp, HB⟩
      case round =>
        obtain ⟨j, hj, rfl, rfl, HB2⟩ := hrel
        have hww : Below w.heap.size w wr := HB1.out.below.trans (HB2.out.mono (Nat.le_succ _))
        have c1' : wr.cell? ⟨b1', o1 + k, none⟩ = some (.slice A1 cl.length c1) := (hww.cell (p := ⟨b1', _, none⟩) hb1).trans HC0.out
        by_cases hlt2 : j < cl.length
        · obtain ⟨⟨ax, ay⟩, ha⟩ := get_some hlt2
          obtain ⟨m, hm⟩ : ∃ m, (j + 1) % cl.length = m := ⟨_, rfl⟩
          have hml : m < cl.length := hm ▸ next_lt hlt2
          have hrem : ((j : Int) + 1).tmod (cl.length : Int) = m := by rw [next_rem, hm]
          obtain ⟨⟨dx, dy⟩, hd⟩ := get_some hml
          have HS : Hid ((segsOf cl)[j]? = some ((ax, ay), (dx, dy))) := Lib.hid (segsOf_at ha (by rw [hm]; exact hd))
          have hpre : (pf ++ (segsOf cl).take j) ++ [((ax, ay), (dx, dy))] <+: segs ls := by rw [← HPF.out]; exact prefix_flat (segs_at HCL.out) HS.out
          obtain ⟨b2', o2, rfl, hb2, a0, a1⟩ := (HD1.out.keep hww) j _ ha
          obtain ⟨b3', o3, hA3, hb3, d0, d1⟩ := (HD1.out.keep hww) m _ hd
          injection hA3 with hA3
          injection hA3 with h1 h2
          subst h1 h2
          dsimp only at a0 a1 d0 d1
          have hcl0 : (cl.length : Int) ≠ 0 := by omega
          have hlen := hpre.length_le
          rw [segs_len, List.length_append] at hlen
          have hcle := cntT_le b0 b1 b2 b3 (pf ++ (segsOf cl).take j)
          have hsn := cntT_snoc b0 b1 b2 b3 (pf ++ (segsOf cl).take j) ((ax, ay), (dx, dy))
          rw [show TouchS b0 b1 b2 b3 ((ax, ay), (dx, dy)) = TouchB ax ay dx dy b0 b1 b2 b3 from rfl, List.append_assoc, ← take_snoc HS.out] at hsn
          have KK := KT.out ax ay dx dy
          have hcnt := HC.out
          have hnn : cntT b0 b1 b2 b3 (pf ++ (segsOf cl).take j) ≤ 1000 := by simp only [List.length_singleton] at hlen; omega
          have hbx := HX.out.below HB2.out (Nat.lt_succ_self _)
          have x0 := hbx.cell 0
          have x1 := hbx.cell 1
          have x2 := hbx.cell 2
          have x3 := hbx.cell 3
          simp at x0 x1 x2 x3
          have hbl := hbx.lt
          have hzz := HB2.out.size
          generalize TouchB ax ay dx dy b0 b1 b2 b3 = tb at *
          generalize cntT b0 b1 b2 b3 (pf ++ (segsOf cl).take j) = nn at *
          have HSN := Lib.hid hsn
          clear hlen hcle hcnt hpre ha hd hm hsn hbx
          replace KK := Lib.hid KK
          cases tb
          all_goals
            simp at HSN
            go_wp2_with fail
            refine wp_region_bw_lit (by kernel_rfl) (by kernel_rfl) ?_
            repeat (go_big_quiet_step (first | (go_at_call 35; with_reducible exact Calls.bw_of (KK.out _))))
            refine wpQuiet_nil ?_
            rintro _ ⟨u, rfl⟩
            have hbu := u.prop
            have hzu := u.prop.size
            try simp at hzu
            go_wp2_with fail
            go_roundw
            case rel => exact ⟨j + 1, by omega, by go_num, by (rw [HSN.out]; first | done | go_num), Lib.hid (HB2.out.trans (hbu.mono (by omega)))⟩
            case measure => simp [intOf]; omega
        · obtain rfl : j = cl.length := by omega
          have HT : Hid ((segsOf cl).take cl.length = segsOf cl) := Lib.hid (List.take_of_length_le (Nat.le_of_eq (segsOf_len cl)))
          have HE : Hid (((ls.map segsOf).take (k + 1)).flatten = pf ++ (segsOf cl).take cl.length) := Lib.hid (by rw [flat_snoc (segs_at HCL.out), HPF.out, HT.out])
          generalize hsm : cntT b0 b1 b2 b3 (pf ++ (segsOf cl).take cl.length) = sm at *
          have HSM := Lib.hid hsm
          clear hsm hww
          go_wp2_with fail
          go_roundw
          case rel => exact ⟨k + 1, by omega, by go_num, by rw [HE.out, HSM.out], HB2⟩
          case measure => simp [intOf]; omega
    · obtain rfl : k = ls.length := by omega
      have HE : Hid (((ls.map segsOf).take ls.length).flatten = segs ls) := Lib.hid (by rw [List.take_of_length_le (by simp)]; rfl)
      obtain ⟨sm, hsm⟩ : ∃ sm, cntT b0 b1 b2 b3 (segs ls) = sm := ⟨_, rfl⟩
      have HSM := Lib.hid hsm
      rw [HE.out, hsm]
      clear hsm
      have HBW := Lib.hid (HB1.out.below.trans (HB.out.mono (Nat.le_succ _)))
      go_wp2_with fail
      go_ret
      exact ⟨ret_int' (by rw [HSM.out]), HBW.out⟩
end
end Go.Proofs.Ytnmnehgcliiofaa
