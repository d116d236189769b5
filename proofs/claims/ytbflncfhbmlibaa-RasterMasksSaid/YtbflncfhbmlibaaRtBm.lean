/-
  Layer 23: the walkers of closed lines: the program's walkers.
-/
import Derived.Test.YtbflncfhbmlibaaRsGm
namespace Go.Proofs.Ytbflncfhbmlibaa
open Go.RowKit Go.Shelf

set_option maxRecDepth 20000 in
set_option maxHeartbeats 4000000 in
theorem walkers_any {w : World} {A : Option Addr} {c : Nat} {ls : List (List Dt)} (hd : Dl w A ls) (hn : ls.length ≤ 1000) (hcn : cnt ls ≤ 1000) :
    Calls Try.prog 33 #[.slice A ls.length c] w fun e w' => ∃ ws gs c, e = .returned (.pointer (some ⟨w.heap.size + 1, 0, none⟩)) ∧ Qm w' w.heap.size (w.heap.size + 1) gs c ws ∧ HpK ws ws.length 0 ∧ (ws.map bareW).Perm (segsW (segs ls)) ∧ Below w.heap.size w w' := by
  obtain ⟨i0, hi0, hz0, hz1, hz2⟩ := info_parts wkp_info
  have HL := Lib.hid hd
  have HCN := Lib.hid hcn
  clear hd hcn
  go_enter Try.func33, Try.ntmps33
  go_wp2_with fail
  go_loopw [13] (fun i wr => ∃ k : Nat, k ≤ ls.length ∧ i = .int .i64 k ∧ Hid (∃ ws, ws.map bareW = segsW ((ls.take k).flatMap segsOf) ∧ WqI w wr ws)) (fun i _ => ls.length - (intOf i).toNat)
  case atStart => exact ⟨0, Nat.zero_le _, rfl, Lib.hid ⟨[], rfl, WqI.start w⟩⟩
  case round =>
    obtain ⟨k, hk, rfl, HR⟩ := hrel
    by_cases hlt : k < ls.length
    · obtain ⟨cl, hcl⟩ := get_some hlt
      obtain ⟨ab, ao, Ai, ci, hA, hab, hc, hd, hs⟩ := HL.out k cl hcl
      have hcc : cl.length ≤ 1000 := Nat.le_trans (cnt_mem hcl) HCN.out
      have HLL := Lib.hid hcl
      have HD := Lib.hid hd
      have HC := Lib.hid hc
      subst hA
      obtain ⟨ws, hws, hwq⟩ := HR.out
      have c0 : wr.cell? ⟨ab, ao + k, none⟩ = some (.slice Ai cl.length ci) := (hwq.bel.cell (p := ⟨ab, _, none⟩) hab).trans hc
      clear hcl hd hc hs
      go_wp2_with fail
      go_loopw [19] (fun i wq => ∃ j : Nat, j ≤ cl.length ∧ i = .int .i64 j ∧ Hid (∃ ws, ws.map bareW = segsW ((ls.take k).flatMap segsOf ++ (segsOf cl).take j) ∧ WqI w wq ws)) (fun i _ => cl.length - (intOf i).toNat)
      case atStart => exact ⟨0, Nat.zero_le _, rfl, Lib.hid ⟨ws, by simpa using hws, hwq⟩⟩
      case round =>
        clear c0 hwq hws
        obtain ⟨j, hj, rfl, HRQ⟩ := hrel
        by_cases hlt2 : j < cl.length
        · obtain ⟨a, ha⟩ := get_some hlt2
          obtain ⟨m, hm⟩ : ∃ m, (j + 1) % cl.length = m := ⟨_, rfl⟩
          have hml : m < cl.length := hm ▸ next_lt hlt2
          have hrem : ((j : Int) + 1).tmod (cl.length : Int) = m := by rw [next_rem, hm]
          obtain ⟨d, hd⟩ := get_some hml
          have HS : Hid ((segsOf cl)[j]? = some (a, d)) := Lib.hid (segsOf_at ha (by rw [hm]; exact hd))
          obtain ⟨db, do', hA', hdb, hx1, hy1⟩ := HD.out j a ha
          obtain ⟨db2, do2, hA2, -, hx2, hy2⟩ := HD.out m d hd
          rw [hA'] at hA2
          injection hA2 with hA2
          injection hA2 with e1 e2
          subst e1 e2
          obtain ⟨wj, hwj, hwq⟩ := HRQ.out
          have x1 : wr.cell? ⟨db, do' + j * 2, none⟩ = some (.int .i64 a.1) := (hwq.bel.cell (p := ⟨db, _, none⟩) hdb).trans hx1
          have y1 : wr.cell? ⟨db, do' + j * 2 + 1, none⟩ = some (.int .i64 a.2) := (hwq.bel.cell (p := ⟨db, _, none⟩) hdb).trans hy1
          have x2 : wr.cell? ⟨db, do' + m * 2, none⟩ = some (.int .i64 d.1) := (hwq.bel.cell (p := ⟨db, _, none⟩) hdb).trans hx2
          have y2 : wr.cell? ⟨db, do' + m * 2 + 1, none⟩ = some (.int .i64 d.2) := (hwq.bel.cell (p := ⟨db, _, none⟩) hdb).trans hy2
          have hdbl : db < wr.heap.size := Nat.lt_of_lt_of_le hdb hwq.bel.size
          have hw1 : IntKind.i64.wrap ((j : Int) + 1) = (j : Int) + 1 := IntWalk.i64_in _ (by omega)
          have hcl0 : ((cl.length : Int) == 0) = false := by rw [beq_eq_false_iff_ne]; omega
          have hcl1 : (cl.length : Int) ≠ 0 := by omega
          have hml2 : (m : Int) < cl.length := by omega
          have hj2 : (j : Int) < cl.length := by omega
          have hk2 : (k : Int) < ls.length := by omega
          have hcl3 : cl ≠ [] := by rintro rfl; simp at hlt2
          have HWJ := Lib.hid hwj
          have HWQ := Lib.hid hwq
          subst hA'
          clear ha hd hm hx1 hy1 hx2 hy2 hwj hwq
          rcases Int.lt_trichotomy a.2 d.2 with hv | hv | hv
          · have hlt3 := hv
            go_wp2_with fail
            have hwq := HWQ.out.keep (wr' := (wr.alloc (.cells #[.int .i64 a.1, .int .i64 a.2] 37)).alloc (.cells #[.int .i64 d.1, .int .i64 d.2] 37)) (((Below.refl _ _).alloc (Nat.le_refl _) _).alloc (by simp) _)
            have hbA : Blk ((wr.alloc (.cells #[.int .i64 a.1, .int .i64 a.2] 37)).alloc (.cells #[.int .i64 d.1, .int .i64 d.2] 37)) wr.heap.size 37 [.int .i64 a.1, .int .i64 a.2] := (Blk.new _ _ [_, _]).alloc _
            have hbD : Blk ((wr.alloc (.cells #[.int .i64 a.1, .int .i64 a.2] 37)).alloc (.cells #[.int .i64 d.1, .int .i64 d.2] 37)) (wr.heap.size + 1) 37 [.int .i64 d.1, .int .i64 d.2] := Blk.newAt _ _ [_, _] (by simp)
            generalize (wr.alloc (.cells #[.int .i64 a.1, .int .i64 a.2] 37)).alloc (.cells #[.int .i64 d.1, .int .i64 d.2] 37) = W at hwq hbA hbD ⊢
            obtain ⟨v, hv, hown, hvb, hvn⟩ := hwq.own
            obtain ⟨A0, cp0, rfl⟩ := own_slice hown
            have q0 : W.cell? ⟨w.heap.size + 1, 0, none⟩ = some (.slice A0 wj.length cp0) := hv.cell 0
            have qf := hv.frozen 0
            have ql := hv.lt
            have a0 : W.cell? ⟨wr.heap.size, 0, none⟩ = some (.int .i64 a.1) := hbA.cell 0
            have a1 : W.cell? ⟨wr.heap.size, 1, none⟩ = some (.int .i64 a.2) := hbA.cell 1
            have d0 : W.cell? ⟨wr.heap.size + 1, 0, none⟩ = some (.int .i64 d.1) := hbD.cell 0
            have d1 : W.cell? ⟨wr.heap.size + 1, 1, none⟩ = some (.int .i64 d.2) := hbD.cell 1
            have al := hbA.lt
            have dl := hbD.lt
            have HW7 := Lib.hid hwq
            have HO7 := Lib.hid ((hown.alloc (.cells #[.int .i64 a.1, .int .i64 a.2, .int .i64 d.1, .int .i64 d.2, .int .i64 a.1, .int .i64 a.2, .bool false] 86)).alloc (.cells #[.pointer (some ⟨W.heap.size, 0, none⟩)] 84))
            have HV := Lib.hid ((hv.alloc (.cells #[.int .i64 a.1, .int .i64 a.2, .int .i64 d.1, .int .i64 d.2, .int .i64 a.1, .int .i64 a.2, .bool false] 86)).alloc (.cells #[.pointer (some ⟨W.heap.size, 0, none⟩)] 84))
            have hr7 := reads_new (W.alloc (.cells #[.int .i64 a.1, .int .i64 a.2, .int .i64 d.1, .int .i64 d.2, .int .i64 a.1, .int .i64 a.2, .bool false] 86)) [.pointer (some ⟨W.heap.size, 0, none⟩)] 84 1 1 (by rfl)
            rw [show (W.alloc (.cells #[.int .i64 a.1, .int .i64 a.2, .int .i64 d.1, .int .i64 d.2, .int .i64 a.1, .int .i64 a.2, .bool false] 86)).heap.size = W.heap.size + 1 by simp] at hr7
            have HR7 := Lib.hid hr7
            have HO8 := Lib.hid (own_keep (w' := ((W.alloc (.cells #[.int .i64 a.1, .int .i64 a.2, .int .i64 d.1, .int .i64 d.2, .int .i64 a.1, .int .i64 a.2, .bool false] 86)).alloc (.cells #[.pointer (some ⟨W.heap.size, 0, none⟩)] 84)).drew) HO7.out (fun _ _ => rfl))
            have HV8 : Hid (Blk (((W.alloc (.cells #[.int .i64 a.1, .int .i64 a.2, .int .i64 d.1, .int .i64 d.2, .int .i64 a.1, .int .i64 a.2, .bool false] 86)).alloc (.cells #[.pointer (some ⟨W.heap.size, 0, none⟩)] 84)).drew) (w.heap.size + 1) 83 [.slice A0 wj.length cp0]) := Lib.hid HV.out
            have HR8 : Hid (Reads (((W.alloc (.cells #[.int .i64 a.1, .int .i64 a.2, .int .i64 d.1, .int .i64 d.2, .int .i64 a.1, .int .i64 a.2, .bool false] 86)).alloc (.cells #[.pointer (some ⟨W.heap.size, 0, none⟩)] 84)).drew) (W.heap.size + 1 + 1) 1 (some ⟨W.heap.size + 1, 0, none⟩) 1 [.pointer (some ⟨W.heap.size, 0, none⟩)]) := Lib.hid hr7
            have q8 : (((W.alloc (.cells #[.int .i64 a.1, .int .i64 a.2, .int .i64 d.1, .int .i64 d.2, .int .i64 a.1, .int .i64 a.2, .bool false] 86)).alloc (.cells #[.pointer (some ⟨W.heap.size, 0, none⟩)] 84)).drew).cell? ⟨w.heap.size + 1, 0, none⟩ = some (.slice A0 wj.length cp0) := HV8.out.cell 0
            clear hr7
            have HKB7 : Hid (Blk ((W.alloc (.cells #[.int .i64 a.1, .int .i64 a.2, .int .i64 d.1, .int .i64 d.2, .int .i64 a.1, .int .i64 a.2, .bool false] 86)).alloc (.cells #[.pointer (some ⟨W.heap.size, 0, none⟩)] 84)) W.heap.size 86 (wkC ⟨W.heap.size, a, d, a, false⟩)) := Lib.hid ((Blk.new W 86 [_, _, _, _, _, _, _]).alloc _)
            have HKB8 : Hid (Blk ((W.alloc (.cells #[.int .i64 a.1, .int .i64 a.2, .int .i64 d.1, .int .i64 d.2, .int .i64 a.1, .int .i64 a.2, .bool false] 86)).alloc (.cells #[.pointer (some ⟨W.heap.size, 0, none⟩)] 84)).drew W.heap.size 86 (wkC ⟨W.heap.size, a, d, a, false⟩)) := Lib.hid (HKB7.out.drew)
            have HBL7 : Hid (Below W.heap.size W ((W.alloc (.cells #[.int .i64 a.1, .int .i64 a.2, .int .i64 d.1, .int .i64 d.2, .int .i64 a.1, .int .i64 a.2, .bool false] 86)).alloc (.cells #[.pointer (some ⟨W.heap.size, 0, none⟩)] 84))) := Lib.hid (((Below.refl _ _).alloc (Nat.le_refl _) _).alloc (by simp) _)
            have HBL8 : Hid (Below W.heap.size W ((W.alloc (.cells #[.int .i64 a.1, .int .i64 a.2, .int .i64 d.1, .int .i64 d.2, .int .i64 a.1, .int .i64 a.2, .bool false] 86)).alloc (.cells #[.pointer (some ⟨W.heap.size, 0, none⟩)] 84)).drew) := Lib.hid ⟨HBL7.out.os, HBL7.out.tape, HBL7.out.output, HBL7.out.size, HBL7.out.block⟩
            have HPL : Hid ((wj ++ [(⟨W.heap.size, a, d, a, false⟩ : Wk)]).map bareW = segsW ((ls.take k).flatMap segsOf ++ (segsOf cl).take (j + 1))) := Lib.hid (by
              rw [List.map_append, HWJ.out, List.take_add_one, HS.out]
              simp [segsW, segW, bareW, hlt3, List.filterMap_append])
            have HVB := Lib.hid hvb
            have HVN := Lib.hid hvn
            have hwl : wj.length ≤ 1000 := by
              have e1 := congrArg List.length HWJ.out
              rw [List.length_map] at e1
              have e2 := segsW_len ((ls.take k).flatMap segsOf ++ (segsOf cl).take j)
              have e3 := pre_segs_len (j := j) HLL.out
              have e4 := HCN.out
              omega
            clear hwq hbA hbD hv hown hvb hvn x1 y1 x2 y2
            go_region_law
              (first
                | (refine step_append_any _ (by rfl) (.tmp 41) (.tmp 47) _ (by rfl) w.heap.size 84 i0 _ 1 8 Try.underlying83 hi0 hz0 hz1 hz2 rfl (by omega) _ wj.length _ (by rfl) HO7.out _ _ 1 _ _ (by rfl) HR7.out (by intro u hu; simp at hu; rcases hu with rfl; rfl) (by unfold maxLen; omega) (by omega) (by simp; omega) ?_; intro v' w7 hown7 hgrow7 hat7
                   obtain ⟨A7, c7, rfl⟩ := own_slice hown7
                   have hq7 : Blk w7 (w.heap.size + 1) 83 [.slice A0 wj.length cp0] := (hgrow7.block _ (by simp; omega) (fun e => HVB.out e.symm)).trans HV.out
                   have z1 : w7.cell? ⟨w.heap.size + 1, 0, none⟩ = some (.slice A0 wj.length cp0) := hq7.cell 0
                   have zf := hq7.frozen 0
                   have HP := Lib.hid (HW7.out.push (k := ⟨W.heap.size, a, d, a, false⟩) (Nat.le_refl _) HBL7.out HKB7.out HO7.out HV.out HVN.out hgrow7 hown7 rfl hat7)
                   clear hown7 hgrow7 hat7 hq7)
                | (refine step_append_any _ (by rfl) (.tmp 41) (.tmp 47) _ (by rfl) w.heap.size 84 i0 _ 1 8 Try.underlying83 hi0 hz0 hz1 hz2 rfl (by omega) _ wj.length _ (by rfl) HO8.out _ _ 1 _ _ (by rfl) HR8.out (by intro u hu; simp at hu; rcases hu with rfl; rfl) (by unfold maxLen; omega) (by omega) (by simp; omega) ?_; intro v' w7 hown7 hgrow7 hat7
                   obtain ⟨A7, c7, rfl⟩ := own_slice hown7
                   have hq7 : Blk w7 (w.heap.size + 1) 83 [.slice A0 wj.length cp0] := (hgrow7.block _ (by simp; omega) (fun e => HVB.out e.symm)).trans HV8.out
                   have z1 : w7.cell? ⟨w.heap.size + 1, 0, none⟩ = some (.slice A0 wj.length cp0) := hq7.cell 0
                   have zf := hq7.frozen 0
                   have HP := Lib.hid (HW7.out.push (k := ⟨W.heap.size, a, d, a, false⟩) (Nat.le_refl _) HBL8.out HKB8.out HO8.out HV8.out HVN.out hgrow7 hown7 rfl hat7)
                   clear hown7 hgrow7 hat7 hq7))
            all_goals
              go_wp2_with fail
              go_roundw
              case rel => exact ⟨j + 1, by omega, by go_num, Lib.hid ⟨_, HPL.out, HP.out⟩⟩
              case measure => simp [intOf]; omega
          · rw [hv] at y1
            go_wp2_with fail
            go_roundw
            case rel =>
              refine ⟨j + 1, by omega, by go_num, Lib.hid ⟨wj, ?_, HWQ.out.keep ((((Below.refl _ _).alloc (Nat.le_refl _) _)).alloc (by simp) _)⟩⟩
              rw [HWJ.out, List.take_add_one, HS.out]
              simp [segsW, segW, hv, List.filterMap_append]
            case measure => simp [intOf]; omega
          · have hlt3 := hv
            go_wp2_with fail
            have hwq := HWQ.out.keep (wr' := (wr.alloc (.cells #[.int .i64 a.1, .int .i64 a.2] 37)).alloc (.cells #[.int .i64 d.1, .int .i64 d.2] 37)) (((Below.refl _ _).alloc (Nat.le_refl _) _).alloc (by simp) _)
            have hbA : Blk ((wr.alloc (.cells #[.int .i64 a.1, .int .i64 a.2] 37)).alloc (.cells #[.int .i64 d.1, .int .i64 d.2] 37)) wr.heap.size 37 [.int .i64 a.1, .int .i64 a.2] := (Blk.new _ _ [_, _]).alloc _
            have hbD : Blk ((wr.alloc (.cells #[.int .i64 a.1, .int .i64 a.2] 37)).alloc (.cells #[.int .i64 d.1, .int .i64 d.2] 37)) (wr.heap.size + 1) 37 [.int .i64 d.1, .int .i64 d.2] := Blk.newAt _ _ [_, _] (by simp)
            generalize (wr.alloc (.cells #[.int .i64 a.1, .int .i64 a.2] 37)).alloc (.cells #[.int .i64 d.1, .int .i64 d.2] 37) = W at hwq hbA hbD ⊢
            obtain ⟨v, hv, hown, hvb, hvn⟩ := hwq.own
            obtain ⟨A0, cp0, rfl⟩ := own_slice hown
            have q0 : W.cell? ⟨w.heap.size + 1, 0, none⟩ = some (.slice A0 wj.length cp0) := hv.cell 0
            have qf := hv.frozen 0
            have ql := hv.lt
            have a0 : W.cell? ⟨wr.heap.size, 0, none⟩ = some (.int .i64 a.1) := hbA.cell 0
            have a1 : W.cell? ⟨wr.heap.size, 1, none⟩ = some (.int .i64 a.2) := hbA.cell 1
            have d0 : W.cell? ⟨wr.heap.size + 1, 0, none⟩ = some (.int .i64 d.1) := hbD.cell 0
            have d1 : W.cell? ⟨wr.heap.size + 1, 1, none⟩ = some (.int .i64 d.2) := hbD.cell 1
            have al := hbA.lt
            have dl := hbD.lt
            have HW7 := Lib.hid hwq
            have HO7 := Lib.hid ((hown.alloc (.cells #[.int .i64 d.1, .int .i64 d.2, .int .i64 a.1, .int .i64 a.2, .int .i64 d.1, .int .i64 d.2, .bool true] 86)).alloc (.cells #[.pointer (some ⟨W.heap.size, 0, none⟩)] 84))
            have HV := Lib.hid ((hv.alloc (.cells #[.int .i64 d.1, .int .i64 d.2, .int .i64 a.1, .int .i64 a.2, .int .i64 d.1, .int .i64 d.2, .bool true] 86)).alloc (.cells #[.pointer (some ⟨W.heap.size, 0, none⟩)] 84))
            have hr7 := reads_new (W.alloc (.cells #[.int .i64 d.1, .int .i64 d.2, .int .i64 a.1, .int .i64 a.2, .int .i64 d.1, .int .i64 d.2, .bool true] 86)) [.pointer (some ⟨W.heap.size, 0, none⟩)] 84 1 1 (by rfl)
            rw [show (W.alloc (.cells #[.int .i64 d.1, .int .i64 d.2, .int .i64 a.1, .int .i64 a.2, .int .i64 d.1, .int .i64 d.2, .bool true] 86)).heap.size = W.heap.size + 1 by simp] at hr7
            have HR7 := Lib.hid hr7
            have HO8 := Lib.hid (own_keep (w' := ((W.alloc (.cells #[.int .i64 d.1, .int .i64 d.2, .int .i64 a.1, .int .i64 a.2, .int .i64 d.1, .int .i64 d.2, .bool true] 86)).alloc (.cells #[.pointer (some ⟨W.heap.size, 0, none⟩)] 84)).drew) HO7.out (fun _ _ => rfl))
            have HV8 : Hid (Blk (((W.alloc (.cells #[.int .i64 d.1, .int .i64 d.2, .int .i64 a.1, .int .i64 a.2, .int .i64 d.1, .int .i64 d.2, .bool true] 86)).alloc (.cells #[.pointer (some ⟨W.heap.size, 0, none⟩)] 84)).drew) (w.heap.size + 1) 83 [.slice A0 wj.length cp0]) := Lib.hid HV.out
            have HR8 : Hid (Reads (((W.alloc (.cells #[.int .i64 d.1, .int .i64 d.2, .int .i64 a.1, .int .i64 a.2, .int .i64 d.1, .int .i64 d.2, .bool true] 86)).alloc (.cells #[.pointer (some ⟨W.heap.size, 0, none⟩)] 84)).drew) (W.heap.size + 1 + 1) 1 (some ⟨W.heap.size + 1, 0, none⟩) 1 [.pointer (some ⟨W.heap.size, 0, none⟩)]) := Lib.hid hr7
            have q8 : (((W.alloc (.cells #[.int .i64 d.1, .int .i64 d.2, .int .i64 a.1, .int .i64 a.2, .int .i64 d.1, .int .i64 d.2, .bool true] 86)).alloc (.cells #[.pointer (some ⟨W.heap.size, 0, none⟩)] 84)).drew).cell? ⟨w.heap.size + 1, 0, none⟩ = some (.slice A0 wj.length cp0) := HV8.out.cell 0
            clear hr7
            have HKB7 : Hid (Blk ((W.alloc (.cells #[.int .i64 d.1, .int .i64 d.2, .int .i64 a.1, .int .i64 a.2, .int .i64 d.1, .int .i64 d.2, .bool true] 86)).alloc (.cells #[.pointer (some ⟨W.heap.size, 0, none⟩)] 84)) W.heap.size 86 (wkC ⟨W.heap.size, d, a, d, true⟩)) := Lib.hid ((Blk.new W 86 [_, _, _, _, _, _, _]).alloc _)
            have HKB8 : Hid (Blk ((W.alloc (.cells #[.int .i64 d.1, .int .i64 d.2, .int .i64 a.1, .int .i64 a.2, .int .i64 d.1, .int .i64 d.2, .bool true] 86)).alloc (.cells #[.pointer (some ⟨W.heap.size, 0, none⟩)] 84)).drew W.heap.size 86 (wkC ⟨W.heap.size, d, a, d, true⟩)) := Lib.hid (HKB7.out.drew)
            have HBL7 : Hid (Below W.heap.size W ((W.alloc (.cells #[.int .i64 d.1, .int .i64 d.2, .int .i64 a.1, .int .i64 a.2, .int .i64 d.1, .int .i64 d.2, .bool true] 86)).alloc (.cells #[.pointer (some ⟨W.heap.size, 0, none⟩)] 84))) := Lib.hid (((Below.refl _ _).alloc (Nat.le_refl _) _).alloc (by simp) _)
            have HBL8 : Hid (Below W.heap.size W ((W.alloc (.cells #[.int .i64 d.1, .int .i64 d.2, .int .i64 a.1, .int .i64 a.2, .int .i64 d.1, .int .i64 d.2, .bool true] 86)).alloc (.cells #[.pointer (some ⟨W.heap.size, 0, none⟩)] 84)).drew) := Lib.hid ⟨HBL7.out.os, HBL7.out.tape, HBL7.out.output, HBL7.out.size, HBL7.out.block⟩
            have HPL : Hid ((wj ++ [(⟨W.heap.size, d, a, d, true⟩ : Wk)]).map bareW = segsW ((ls.take k).flatMap segsOf ++ (segsOf cl).take (j + 1))) := Lib.hid (by
              rw [List.map_append, HWJ.out, List.take_add_one, HS.out]
              simp [segsW, segW, bareW, hlt3, Int.not_lt.2 (Int.le_of_lt hlt3), List.filterMap_append])
            have HVB := Lib.hid hvb
            have HVN := Lib.hid hvn
            have hwl : wj.length ≤ 1000 := by
              have e1 := congrArg List.length HWJ.out
              rw [List.length_map] at e1
              have e2 := segsW_len ((ls.take k).flatMap segsOf ++ (segsOf cl).take j)
              have e3 := pre_segs_len (j := j) HLL.out
              have e4 := HCN.out
              omega
            clear hwq hbA hbD hv hown hvb hvn x1 y1 x2 y2
            go_region_law
              (first
                | (refine step_append_any _ (by rfl) (.tmp 59) (.tmp 65) _ (by rfl) w.heap.size 84 i0 _ 1 8 Try.underlying83 hi0 hz0 hz1 hz2 rfl (by omega) _ wj.length _ (by rfl) HO7.out _ _ 1 _ _ (by rfl) HR7.out (by intro u hu; simp at hu; rcases hu with rfl; rfl) (by unfold maxLen; omega) (by omega) (by simp; omega) ?_; intro v' w7 hown7 hgrow7 hat7
                   obtain ⟨A7, c7, rfl⟩ := own_slice hown7
                   have hq7 : Blk w7 (w.heap.size + 1) 83 [.slice A0 wj.length cp0] := (hgrow7.block _ (by simp; omega) (fun e => HVB.out e.symm)).trans HV.out
                   have z1 : w7.cell? ⟨w.heap.size + 1, 0, none⟩ = some (.slice A0 wj.length cp0) := hq7.cell 0
                   have zf := hq7.frozen 0
                   have HP := Lib.hid (HW7.out.push (k := ⟨W.heap.size, d, a, d, true⟩) (Nat.le_refl _) HBL7.out HKB7.out HO7.out HV.out HVN.out hgrow7 hown7 rfl hat7)
                   clear hown7 hgrow7 hat7 hq7)
                | (refine step_append_any _ (by rfl) (.tmp 59) (.tmp 65) _ (by rfl) w.heap.size 84 i0 _ 1 8 Try.underlying83 hi0 hz0 hz1 hz2 rfl (by omega) _ wj.length _ (by rfl) HO8.out _ _ 1 _ _ (by rfl) HR8.out (by intro u hu; simp at hu; rcases hu with rfl; rfl) (by unfold maxLen; omega) (by omega) (by simp; omega) ?_; intro v' w7 hown7 hgrow7 hat7
                   obtain ⟨A7, c7, rfl⟩ := own_slice hown7
                   have hq7 : Blk w7 (w.heap.size + 1) 83 [.slice A0 wj.length cp0] := (hgrow7.block _ (by simp; omega) (fun e => HVB.out e.symm)).trans HV8.out
                   have z1 : w7.cell? ⟨w.heap.size + 1, 0, none⟩ = some (.slice A0 wj.length cp0) := hq7.cell 0
                   have zf := hq7.frozen 0
                   have HP := Lib.hid (HW7.out.push (k := ⟨W.heap.size, d, a, d, true⟩) (Nat.le_refl _) HBL8.out HKB8.out HO8.out HV8.out HVN.out hgrow7 hown7 rfl hat7)
                   clear hown7 hgrow7 hat7 hq7))
            all_goals
              go_wp2_with fail
              go_roundw
              case rel => exact ⟨j + 1, by omega, by go_num, Lib.hid ⟨_, HPL.out, HP.out⟩⟩
              case measure => simp [intOf]; omega
        · obtain rfl : j = cl.length := by omega
          go_wp2_with fail
          go_roundw
          case rel => exact ⟨k + 1, by omega, by go_num, Lib.hid (by
            obtain ⟨w9, h9, q9⟩ := HRQ.out
            refine ⟨w9, ?_, q9⟩
            have e : (segsOf cl).take cl.length = segsOf cl := List.take_of_length_le (by unfold segsOf; simp)
            rw [h9, e, List.take_add_one, HLL.out, List.flatMap_append]
            simp)⟩
          case measure => simp [intOf]; omega
    · obtain rfl : k = ls.length := by omega
      obtain ⟨wj, hwj, hwq⟩ := HR.out
      rw [List.take_length, segs_flat] at hwj
      have hwl : wj.length ≤ 1000 := by
        have e1 := congrArg List.length hwj
        rw [List.length_map] at e1
        have e2 := segsW_len (segs ls)
        have e3 := flat_segs_len ls
        have e4 := HCN.out
        rw [segs_flat] at e3
        omega
      obtain ⟨gs, cq, hq⟩ := hwq.qm hwl
      have HI := Lib.hid (init_q hq rfl)
      have HB := Lib.hid hwq.bel
      have HWJ := Lib.hid hwj
      clear hwj hwq hq
      go_wp2_with (first
        | (go_at_call 54; (with_reducible refine HI.out.mono ?_); rintro e w9 ⟨ws', rfl, h1, h2, h3, h4⟩; have H1 := Lib.hid h1; have H2 := Lib.hid h2; have H3 := Lib.hid h3; have H4 := Lib.hid (HB.out.trans h4.toBelow); clear h1 h2 h3 h4)
        | fail)
      go_ret
      exact ⟨_, _, _, rfl, H1.out, by rw [H2.out.length_eq]; exact H3.out, by rw [← HWJ.out]; exact H2.out.map _, H4.out⟩
end Go.Proofs.Ytbflncfhbmlibaa
