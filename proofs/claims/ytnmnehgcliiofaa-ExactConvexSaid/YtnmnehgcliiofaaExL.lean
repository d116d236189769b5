/-
  The document's Winding.
-/
import Derived.Test.YtnmnehgcliiofaaExK
import Derived.Deep.DeepCutAuto
namespace Go.Proofs.Ytnmnehgcliiofaa
open Go.RowKit Go.Shelf

theorem Num6.swap {ax ay dx dy x y : Int} (h : Num6 ax ay dx dy x y) : Num6 dx dy ax ay x y := by unfold Num6 at *; omega
theorem dots_blk {w w1 : World} {s : Nat} {ax ay dx dy : Int} (hs : w.heap.size = s) (hb : Below ((((w.alloc (.cells #[.int .i64 0, .int .i64 0] 72)).setCell ⟨s, 0, none⟩ (.int .i64 ax)).setCell ⟨s, 1, none⟩ (.int .i64 ay)).alloc (.cells #[.int .i64 dx, .int .i64 dy] 72)).heap.size ((((w.alloc (.cells #[.int .i64 0, .int .i64 0] 72)).setCell ⟨s, 0, none⟩ (.int .i64 ax)).setCell ⟨s, 1, none⟩ (.int .i64 ay)).alloc (.cells #[.int .i64 dx, .int .i64 dy] 72)) w1) :
    Blk w1 s 72 [.int .i64 ax, .int .i64 ay] ∧ Blk w1 (s + 1) 72 [.int .i64 dx, .int .i64 dy] ∧ Bel s w w1 := by
  subst hs
  have h1 := ((((Blk.new w 72 [.int .i64 0, .int .i64 0]).set 0 (.int .i64 ax)).set 1 (.int .i64 ay)).alloc (.cells #[.int .i64 dx, .int .i64 dy] 72)).keepB hb
  exact ⟨h1, (Blk.newAt (n := w.heap.size + 1) _ 72 [.int .i64 dx, .int .i64 dy] (by simp)).keepB hb, bel_call hb (bel_alloc (bel_set (bel_set (bel_alloc bel_refl) (Nat.le_refl _)) (Nat.le_refl _)))⟩
section
variable {w : World} {A : Option Addr} {c : Nat} {ls : List (List Dt)} {x y : Int}
set_option maxRecDepth 20000 in
set_option maxHeartbeats 4000000 in
theorem rWinding_any (h : Dl w A ls) (hn : ls.length ≤ 1000) (hc : cnt ls ≤ 1000) (hm : mayL ls = true) (hx : fit2 x = true) (hy : fit2 y = true) :
    Calls Try.prog 33 #[.slice A ls.length c, .int .i64 x, .int .i64 y] w fun e w' => e = .returned (.tuple #[.int .i64 (windN x y (segs ls)), .bool (offS x y (segs ls))]) ∧ Below w.heap.size w w' := by
  have HL := Lib.hid h
  have HC := Lib.hid hc
  have HM := Lib.hid hm
  have HX := Lib.hid hx
  have HY := Lib.hid hy
  clear h hc hm hx hy
  go_enter Try.func33, Try.ntmps33
  go_wp2_with fail
  go_loopw [8, 9] (fun n i wr => ∃ k : Nat, k ≤ ls.length ∧ i = .int .i64 k ∧ n = .int .i64 (sumS x y ((ls.map segsOf).take k).flatten) ∧ offS x y ((ls.map segsOf).take k).flatten = true ∧ Hid (Below w.heap.size w wr)) (fun _ i _ => ls.length - (intOf i).toNat)
  case atStart => exact ⟨0, Nat.zero_le _, rfl, rfl, rfl, Lib.hid (Below.refl _ _)⟩
  case round =>
    obtain ⟨k, hk, rfl, rfl, hoff, HB⟩ := hrel
    have HOFF := Lib.hid hoff
    clear hoff
    by_cases hlt : k < ls.length
    · obtain ⟨cl, hcl⟩ := get_some hlt
      obtain ⟨b1, o1, A1, c1, rfl, hb1, hc0, hd1, hs1⟩ := HL.out k cl hcl
      have hcc : cl.length ≤ 1000 := Nat.le_trans (cnt_mem hcl) HC.out
      have HCL := Lib.hid hcl
      have HD1 := Lib.hid hd1
      have HC0 := Lib.hid hc0
      obtain ⟨pf, hpf⟩ : ∃ pf, ((ls.map segsOf).take k).flatten = pf := ⟨_, rfl⟩
      have HPF := Lib.hid hpf
      rw [hpf] at HOFF ⊢
      clear hcl hd1 hc0 hs1 hpf
      go_wp2_with fail
      go_loopw [8, 10] (fun n i wq => ∃ j : Nat, j ≤ cl.length ∧ i = .int .i64 j ∧ n = .int .i64 (sumS x y (pf ++ (segsOf cl).take j)) ∧ offS x y (pf ++ (segsOf cl).take j) = true ∧ Hid (Below w.heap.size w wq)) (fun _ i _ => cl.length - (intOf i).toNat)
      case atStart => exact ⟨0, Nat.zero_le _, rfl, by simp, by simpa using HOFF.out, HB⟩
      case round =>
        obtain ⟨j, hj, rfl, rfl, hoff, HB2⟩ := hrel
        have HJ := Lib.hid hoff
        clear hoff
        have c1' : wr.cell? ⟨b1, o1 + k, none⟩ = some (.slice A1 cl.length c1) := (HB2.out.cell (p := ⟨b1, _, none⟩) hb1).trans HC0.out
        by_cases hlt2 : j < cl.length
        · obtain ⟨⟨ax, ay⟩, ha⟩ := get_some hlt2
          obtain ⟨m, hm⟩ : ∃ m, (j + 1) % cl.length = m := ⟨_, rfl⟩
          have hml : m < cl.length := hm ▸ next_lt hlt2
          have hrem : ((j : Int) + 1).tmod (cl.length : Int) = m := by rw [next_rem, hm]
          obtain ⟨⟨dx, dy⟩, hd⟩ := get_some hml
          have HS : Hid ((segsOf cl)[j]? = some ((ax, ay), (dx, dy))) := Lib.hid (segsOf_at ha (by rw [hm]; exact hd))
          have hpre : (pf ++ (segsOf cl).take j) ++ [((ax, ay), (dx, dy))] <+: segs ls := by rw [← HPF.out]; exact prefix_flat (segs_at HCL.out) HS.out
          obtain ⟨b2, o2, rfl, hb2, a0, a1⟩ := (HD1.out.keep HB2.out) j _ ha
          obtain ⟨b3, o3, hA3, hb3, d0, d1⟩ := (HD1.out.keep HB2.out) m _ hd
          injection hA3 with hA3
          injection hA3 with h1 h2
          subst h1 h2
          dsimp only at a0 a1 d0 d1
          have hcl0 : (cl.length : Int) ≠ 0 := by omega
          have hmem : ((ax, ay), (dx, dy)) ∈ segs ls := hpre.subset (by simp)
          have hnum : Num6 ax ay dx dy x y := segs_num HM.out hmem HX.out HY.out
          have KO := fun w => On_any w hnum
          have KR := fun w => right_any w hnum
          have KS := fun w => right_any w hnum.swap
          rw [cross_swap] at KS
          have hlen := hpre.length_le
          rw [segs_len, List.length_append] at hlen
          have hsum := sumS_bd x y (pf ++ (segsOf cl).take j)
          have hs1 := sumS_snoc x y (pf ++ (segsOf cl).take j) ((ax, ay), (dx, dy))
          have hs2 := offS_snoc x y (pf ++ (segsOf cl).take j) ((ax, ay), (dx, dy))
          rw [show stepS x y ((ax, ay), (dx, dy)) = stepN ax ay dx dy x y from rfl] at hs1
          rw [show onS x y ((ax, ay), (dx, dy)) = onB ax ay dx dy x y from rfl] at hs2
          rw [List.append_assoc, ← take_snoc HS.out] at hs1 hs2
          have hno : onB ax ay dx dy x y = true → offS x y (segs ls) = false := fun h => off_no hmem h
          have hst : stepN ax ay dx dy x y = if ay ≤ y ∧ y < dy ∧ 0 < crossI ax ay dx dy x y then 1 else if dy ≤ y ∧ y < ay ∧ crossI ax ay dx dy x y < 0 then -1 else 0 := rfl
          generalize stepN ax ay dx dy x y = st at *
          generalize onB ax ay dx dy x y = on at *
          generalize crossI ax ay dx dy x y = s at *
          generalize sumS x y (pf ++ (segsOf cl).take j) = sm at *
          have hcnt := HC.out
          have hsm : -1000 ≤ sm ∧ sm ≤ 1000 := by simp at hlen hsum; omega
          have HS1 := Lib.hid hs1
          have HS2 := Lib.hid hs2
          have HST := Lib.hid hst
          obtain ⟨p, hp⟩ : ∃ p, decide (0 < s) = p := ⟨_, rfl⟩
          obtain ⟨q, hq⟩ : ∃ q, decide (0 < -s) = q := ⟨_, rfl⟩
          have keyy : (ay ≤ y ∧ y < dy ∧ p = true ∧ st = 1) ∨ (ay ≤ y ∧ y < dy ∧ p = false ∧ st = 0) ∨ (y < ay ∧ dy ≤ y ∧ q = true ∧ st = -1) ∨ (y < ay ∧ dy ≤ y ∧ q = false ∧ st = 0) ∨ (ay ≤ y ∧ dy ≤ y ∧ st = 0) ∨ (y < ay ∧ y < dy ∧ st = 0) := by
            rw [HST.out, ← hp, ← hq]
            simp only [decide_eq_true_eq, decide_eq_false_iff_not]
            repeat' split
            all_goals omega
          rw [hp] at KR
          rw [hq] at KS
          have HKEY := Lib.hid keyy
          have HNO := Lib.hid hno
          replace KR := Lib.hid KR
          replace KS := Lib.hid KS
          clear hp hq HST keyy hno hlen hsum hcnt hpre ha hd hm hmem hnum hs1 hs2 hst
          replace KO := Lib.hid KO
          have kx0 : ∀ u, Aft wr u → u.cell? ⟨b1, o1 + k, none⟩ = some (.slice (some ⟨b2, o2, none⟩) cl.length c1) := fun u hu => (hu.cell (p := ⟨b1, _, none⟩) (Nat.lt_of_lt_of_le hb1 HB2.out.size)).trans c1'
          have kx1 : ∀ u, Aft wr u → u.cell? ⟨b2, o2 + j * 2, none⟩ = some (.int .i64 ax) := fun u hu => (hu.cell (p := ⟨b2, _, none⟩) hb2).trans a0
          have kx2 : ∀ u, Aft wr u → u.cell? ⟨b2, o2 + j * 2 + 1, none⟩ = some (.int .i64 ay) := fun u hu => (hu.cell (p := ⟨b2, _, none⟩) hb2).trans a1
          have kx3 : ∀ u, Aft wr u → u.cell? ⟨b2, o2 + m * 2, none⟩ = some (.int .i64 dx) := fun u hu => (hu.cell (p := ⟨b2, _, none⟩) hb2).trans d0
          have kx4 : ∀ u, Aft wr u → u.cell? ⟨b2, o2 + m * 2 + 1, none⟩ = some (.int .i64 dy) := fun u hu => (hu.cell (p := ⟨b2, _, none⟩) hb2).trans d1
          have hcl3 : cl ≠ [] := by rintro rfl; simp at hcl0
          have hcl4 : ((cl.length : Int) == 0) = false := by simpa using hcl0
          have hrem2 : ((j : Int) + 1) % (cl.length : Int) = m := by rw [← hrem, Int.tmod_eq_emod_of_nonneg (by omega)]
          have hmN : (j + 1) % cl.length = m := by have := hrem; rw [next_rem] at this; omega
          have hwj : IntKind.i64.wrap ((j : Int) + 1) = (j : Int) + 1 := IntWalk.i64_in _ (by omega)
          have hwj2 : wrap64 ((j : Int) + 1) = (j : Int) + 1 := IntWalk.wrap64_in _ (by omega)
          have hml2 : (m : Int) < cl.length := by omega
          have hml3 : decide ((cl.length : Int) ≤ m) = false := by simp; omega
          have hml4 : ¬ cl.length ≤ m := by omega
          go_wp2_with fail
          clear a0 a1 d0 d1 c1'
          go_cut [11, 12] (fun s1 s2 wx => ∃ p1 p2, s1 = .pointer (some ⟨p1, 0, none⟩) ∧ s2 = .pointer (some ⟨p2, 0, none⟩) ∧ Hid (Blk wx p1 72 [.int .i64 ax, .int .i64 ay]) ∧ Hid (Blk wx p2 72 [.int .i64 dx, .int .i64 dy]) ∧ Hid (Aft wr wx))
          case first =>
            go_region_held (fun u => Aft wr u) (first | (with_reducible exact aft_drew) | (with_reducible refine Aft.drew ?_; (repeat (first | (with_reducible exact aft_refl) | (with_reducible refine Aft.alloc ?_ _) | (with_reducible refine Aft.set ?_ ?_ _; rotate_left; (· simp)))); done)) (fail)
            all_goals (go_wp2_with fail; go_meet)
            all_goals first
              | exact ⟨_, _, rfl, rfl, Lib.hid ((Blk.new wr 72 [.int .i64 ax, .int .i64 ay]).alloc _).drew, Lib.hid (Blk.newAt _ 72 [.int .i64 dx, .int .i64 dy] (by simp)).drew, Lib.hid ((aft_refl.alloc _).alloc _).drew⟩
              | exact ⟨_, _, rfl, rfl, Lib.hid (Blk.newAt _ 72 [.int .i64 ax, .int .i64 ay] (by simp)).drew, Lib.hid ((Blk.new wr 72 [.int .i64 dx, .int .i64 dy]).alloc _).drew, Lib.hid ((aft_refl.alloc _).alloc _).drew⟩
          case rest =>
            obtain ⟨p1, p2, rfl, rfl, HA, HD, hAf⟩ := hcut
            have HBX := Lib.hid (HB2.out.trans (Below.mono hAf.out HB2.out.size))
            clear kx0 kx1 kx2 kx3 kx4 hcl3 hcl4 hrem2 hmN hwj hwj2 hml2 hml3 hml4 hAf
            have a0 := HA.out.cell 0
            have a1 := HA.out.cell 1
            have d0 := HD.out.cell 0
            have d1 := HD.out.cell 1
            simp at a0 a1 d0 d1
            cases on
            · have keyy := HKEY.out
              clear HNO HKEY
              rcases keyy with ⟨h1, h2, rfl, rfl⟩ | ⟨h1, h2, rfl, rfl⟩ | ⟨h1, h2, rfl, rfl⟩ | ⟨h1, h2, rfl, rfl⟩ | ⟨h1, h2, rfl⟩ | ⟨h1, h2, rfl⟩
              all_goals
                go_wp2_with (first
                | (go_at_call 60; (with_reducible refine (KO.out _).mono ?_); rintro e w1 ⟨rfl, hb1⟩
                   have ha := HA.out.keepB hb1
                   have hd := HD.out.keepB hb1
                   have HA1 := Lib.hid ha
                   have HD1' := Lib.hid hd
                   have HBB : Hid (Below w.heap.size w w1) := Lib.hid (Aft.call HBX.out hb1)
                   have a0' := ha.cell 0
                   have a1' := ha.cell 1
                   have d0' := hd.cell 0
                   have d1' := hd.cell 1
                   simp at a0' a1' d0' d1'
                   clear hb1 ha hd)
                | (go_at_call 61; (with_reducible refine (KR.out _).mono ?_); rintro e w2 ⟨rfl, hb2⟩
                   have ha := HA1.out.keepB hb2
                   have hd := HD1'.out.keepB hb2
                   replace HBB := Lib.hid (Aft.call HBB.out hb2)
                   have a0'' := ha.cell 0
                   have a1'' := ha.cell 1
                   have d0'' := hd.cell 0
                   have d1'' := hd.cell 1
                   simp at a0'' a1'' d0'' d1''
                   clear hb2 ha hd)
                | (go_at_call 61; (with_reducible refine (KS.out _).mono ?_); rintro e w2 ⟨rfl, hb2⟩
                   replace HBB := Lib.hid (Aft.call HBB.out hb2)
                   clear hb2))
                go_roundw
                case rel => exact ⟨j + 1, by omega, by go_num, by (rw [HS1.out]; first | done | go_num), by (rw [HS2.out, HJ.out]; first | done | rfl), HBB⟩
                case measure => simp [intOf]; omega
            · have hno := HNO.out rfl
              have HWN : Hid (windN x y (segs ls) = 0) := Lib.hid (by unfold windN; rw [hno]; rfl)
              have HNN := Lib.hid hno
              clear HNO HKEY hno
              go_wp2_with (first
                | (go_at_call 60; (with_reducible refine (KO.out _).mono ?_); rintro e w1 ⟨rfl, hb1⟩
                   have ha := HA.out.keepB hb1
                   have hd := HD.out.keepB hb1
                   have HA1 := Lib.hid ha
                   have HD1' := Lib.hid hd
                   have HBB : Hid (Below w.heap.size w w1) := Lib.hid (Aft.call HBX.out hb1)
                   have a0' := ha.cell 0
                   have a1' := ha.cell 1
                   have d0' := hd.cell 0
                   have d1' := hd.cell 1
                   simp at a0' a1' d0' d1'
                   clear hb1 ha hd)
                | (go_at_call 61; (with_reducible refine (KR.out _).mono ?_); rintro e w2 ⟨rfl, hb2⟩
                   have ha := HA1.out.keepB hb2
                   have hd := HD1'.out.keepB hb2
                   replace HBB := Lib.hid (Aft.call HBB.out hb2)
                   have a0'' := ha.cell 0
                   have a1'' := ha.cell 1
                   have d0'' := hd.cell 0
                   have d1'' := hd.cell 1
                   simp at a0'' a1'' d0'' d1''
                   clear hb2 ha hd)
                | (go_at_call 61; (with_reducible refine (KS.out _).mono ?_); rintro e w2 ⟨rfl, hb2⟩
                   replace HBB := Lib.hid (Aft.call HBB.out hb2)
                   clear hb2))
              go_ret2
              exact ⟨ret_pair HWN.out.symm HNN.out.symm, HBB.out⟩
        · obtain rfl : j = cl.length := by omega
          have HT : Hid ((segsOf cl).take cl.length = segsOf cl) := Lib.hid (List.take_of_length_le (Nat.le_of_eq (segsOf_len cl)))
          have HE : Hid (((ls.map segsOf).take (k + 1)).flatten = pf ++ (segsOf cl).take cl.length) := Lib.hid (by rw [flat_snoc (segs_at HCL.out), HPF.out, HT.out])
          generalize hsm : sumS x y (pf ++ (segsOf cl).take cl.length) = sm at *
          have HSM := Lib.hid hsm
          clear hsm
          go_wp2_with fail
          go_roundw
          case rel => exact ⟨k + 1, by omega, by go_num, by rw [HE.out, HSM.out], by rw [HE.out, HJ.out], HB2⟩
          case measure => simp [intOf]; omega
    · obtain rfl : k = ls.length := by omega
      have HE : Hid (((ls.map segsOf).take ls.length).flatten = segs ls) := Lib.hid (by rw [List.take_of_length_le (by simp)]; rfl)
      have ho := HOFF.out
      rw [HE.out] at ho
      have HO := Lib.hid ho
      have HWN : Hid (windN x y (segs ls) = sumS x y (segs ls)) := Lib.hid (by unfold windN; rw [ho]; rfl)
      rw [HE.out]
      clear ho
      generalize sumS x y (segs ls) = sm at *
      go_wp2_with fail
      go_ret2
      exact ⟨ret_pair HWN.out.symm HO.out.symm, HB.out⟩
end
end Go.Proofs.Ytnmnehgcliiofaa
