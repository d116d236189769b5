/-
  Layer 22: holds: are cells as they should be.
-/
import Derived.Test.YtbjggiihbdhmbaaCpB
namespace Go.Proofs.Ytbjggiihbdhmbaa
open Go.RowKit Go.Shelf

attribute [local go_sem] Oper.semAt_some
theorem grown_one {W W' : World} {row : Option Nat} {wb : Nat} {t : TypeId} {v : Value} (hg : W.grownBy W' row) (hb : Blk W wb t [v]) (hn : ¬ row = some wb) : Blk W' wb t [v] ∧ W'.cell? ⟨wb, 0, none⟩ = some v ∧ W'.frozen? ⟨wb, 0, none⟩ = false ∧ wb < W'.heap.size := by
  have h : Blk W' wb t [v] := (hg.block wb hb.lt (fun e => hn e.symm)).trans hb
  exact ⟨h, h.cell 0, h.frozen 0, h.lt⟩
theorem Tn.grown {S : Nat → Prop} {A B C : World} {row : Option Nat} (h : Tn S A B) (hg : B.grownBy C row) (hr : ∀ k, row = some k → A.heap.size ≤ k) : Tn S A C :=
  ⟨hg.os.trans h.os, hg.tape.trans h.tape, hg.output.trans h.output, Nat.le_trans h.size hg.size, fun i hi hn => (hg.block i (Nat.lt_of_lt_of_le hi h.size) (fun e => absurd (hr i e.symm) (by omega))).trans (h.block i hi hn)⟩
theorem int_eq {a b : Int} (h : a = b) : Value.int .i64 a = .int .i64 b := by rw [h]
/-- So many cells have come. -/
def CntC (nb : Nat) (W1 : World) (pre : List Cl) (W : World) : Prop := Blk W nb 3 [.int .i64 pre.length] ∧ Turn W1 W nb none
theorem cntC_stable {nb n : Nat} {W1 : World} (h1 : nb < n) (h2 : W1.heap.size ≤ n) : BStable n (CntC nb W1) := fun _ _ _ h hb => ⟨h.1.below hb h1, turn_more h.2 hb h2⟩
def StpC (B rb : Nat) (w : World) (c : Code) (_ : List Cl) (W : World) : Prop := c = .ret ∧ Blk W rb 4 [.bool true] ∧ Below B w W
theorem stpC_stable {B rb n : Nat} {w : World} (c : Code) (h1 : rb < n) (h2 : B ≤ n) : BStable n (StpC B rb w c) := fun _ _ _ h hb => ⟨h.1, h.2.1.below hb h1, h.2.2.trans (hb.mono h2)⟩
/-- The list of the cells that are wanted, up to the n-th one; it lies in block wb, its rows from block B on. -/
def WantI (B wb : Nat) (b : B4) (cs : List Ce) (W0 : World) (n : Nat) (W : World) : Prop :=
  ∃ v, Blk W wb 80 [v] ∧ W.ownsRow B 82 4 v (cellsN b cs n).length ((cellsN b cs n).flatMap clC) ∧ Tn (fun i => i = wb) W0 W
set_option maxRecDepth 100000 in
set_option maxHeartbeats 4000000 in
theorem holds_any {w : World} {g k g2 kc ka : Nat} {b : B4} {cs : List Ce} (h : Cc w g k b cs) (h2 : Rc w g2 kc ka b cs) (stop : Int) :
    Calls Try.prog 18 #[.pointer (some ⟨g, 0, none⟩), .pointer (some ⟨g2, 0, none⟩), .int .i64 stop] w fun e w' => e = .returned (.bool true) ∧ Below w.heap.size w w' := by
  obtain ⟨i0, hi0, hz0, hz1, hz2⟩ := info_parts acell_info
  have H := Lib.hid h
  have H2 := Lib.hid h2
  have hw := wid_cast h.box
  have hh := hig_cast h.box
  have hwd := h.box.wid
  have hwdd : widB b = b.x1 - b.x0 + 1 := rfl
  have hbx := h.box
  obtain ⟨bx0, bx1, bx, by0, by1, byy, -⟩ := hbx
  have hln := len_nat h.box h.len
  have hbd := h.bd
  have gl := h.blk.lt
  have kl := h.row.lt
  have g2l := h2.blk.lt
  have kcl := h2.cov.lt
  have kal := h2.are.lt
  have d0 : w.cell? ⟨g2, 0, none⟩ = some (.int .i64 b.x0) := h2.blk.cell 0
  have d1 : w.cell? ⟨g2, 1, none⟩ = some (.int .i64 b.y0) := h2.blk.cell 1
  have d2 : w.cell? ⟨g2, 2, none⟩ = some (.int .i64 b.x1) := h2.blk.cell 2
  have d3 : w.cell? ⟨g2, 3, none⟩ = some (.int .i64 b.y1) := h2.blk.cell 3
  have HW := Lib.hid (And.intro hw (And.intro hh (And.intro hwdd hln)))
  clear h h2 hw hh hwdd hln
  refine (callsIn_wide (n := 9)).1 (callsIn_of_wp_marks Try.func18 rfl trivial ?_ rfl)
  simp only [Try.ntmps18, List.size_toArray, List.length_cons, List.length_nil, Nat.reduceAdd, Nat.reduceSub, Array.replicate_succ, Array.replicate_zero, List.push_toArray, List.append_toArray, List.nil_append, List.cons_append]
  refine wpIn_wide.2 ?_
  go_upto_region 2 with (first
    | (go_at_call 19; (with_reducible refine (All_any g _).mono ?_); rintro e w1 ⟨rfl, rfl⟩)
    | fail)
  have HA1 := Lib.hid ((bel_alloc (o := .cells #[.pointer (some ⟨g, 0, none⟩)] 25) (bel_alloc (o := .cells #[.bool false] 4) (bel_alloc (o := .cells #[.int .i64 stop] 3) (bel_refl (a := w))))))
  obtain ⟨W1, hW1⟩ : ∃ W1, ((w.alloc (.cells #[.int .i64 stop] 3)).alloc (.cells #[.bool false] 4)).alloc (.cells #[.pointer (some ⟨g, 0, none⟩)] 25) = W1 := ⟨_, rfl⟩
  have HS : Hid (Blk W1 w.heap.size 3 [.int .i64 stop]) := Lib.hid (by rw [← hW1]; exact ((Blk.new w 3 [_]).alloc _).alloc _)
  have HR : Hid (Blk W1 (w.heap.size + 1) 4 [.bool false]) := Lib.hid (by rw [← hW1]; exact (Blk.newAt _ 4 [_] (by simp)).alloc _)
  have HP : Hid (Blk W1 (w.heap.size + 1 + 1) 25 [.pointer (some ⟨g, 0, none⟩)]) := Lib.hid (by rw [← hW1]; exact Blk.newAt _ 25 [_] (by simp))
  have hz1' : W1.heap.size = w.heap.size + 3 := by rw [← hW1]; simp
  rw [hW1] at HA1 ⊢
  have HZ1 := Lib.hid hz1'
  have hzl : w.heap.size + 3 ≤ W1.heap.size := by omega
  have e0 : W1.cell? ⟨g2, 0, none⟩ = some (.int .i64 b.x0) := (HA1.out.below.cell (p := ⟨g2, _, none⟩) g2l).trans d0
  have e1 : W1.cell? ⟨g2, 1, none⟩ = some (.int .i64 b.y0) := (HA1.out.below.cell (p := ⟨g2, _, none⟩) g2l).trans d1
  have e2 : W1.cell? ⟨g2, 2, none⟩ = some (.int .i64 b.x1) := (HA1.out.below.cell (p := ⟨g2, _, none⟩) g2l).trans d2
  have e3 : W1.cell? ⟨g2, 3, none⟩ = some (.int .i64 b.y1) := (HA1.out.below.cell (p := ⟨g2, _, none⟩) g2l).trans d3
  have g2l1 : g2 < W1.heap.size := by omega
  have HC1 := Lib.hid (H.out.keepB HA1.out.below)
  clear d0 d1 d2 d3 hW1 hz1'
  refine wp_region_bw_lit (by kernel_rfl) (by kernel_rfl) ?_
  repeat (go_big_quiet_step ((go_at_call 30; with_reducible exact Calls.bw_of (Box_any (HC1.out.keepB (BW.prop _))))))
  refine wpQuiet_nil ?_
  rintro _ ⟨u, rfl⟩
  have hbu := u.prop
  have hzu := u.prop.size
  try simp at hzu
  have HC2 := Lib.hid (HC1.out.keepB hbu)
  have HRC2 := Lib.hid ((H2.out.keepB HA1.out.below).keepB hbu)
  have HS2 := Lib.hid (HS.out.keepB hbu)
  have HR2 := Lib.hid (HR.out.keepB hbu)
  have HP2 := Lib.hid (HP.out.keepB hbu)
  have HB2 : Hid (Below w.heap.size w u.val) := Lib.hid (HA1.out.below.trans (hbu.mono HA1.out.below.size))
  have f1 : u.val.cell? ⟨g2, 1, none⟩ = some (.int .i64 b.y0) := (hbu.cell (p := ⟨g2, _, none⟩) g2l1).trans e1
  have hzl2 : w.heap.size + 3 ≤ u.val.heap.size := Nat.le_trans hzl hbu.size
  clear hbu hzu e0 e1 e2 e3
  generalize u.val = W2 at *
  go_wp2_with fail
  obtain ⟨W3, hW3⟩ : ∃ W3, W2.alloc (.cells #[.slice none 0 0] 80) = W3 := ⟨_, rfl⟩
  have hB3 : Below W2.heap.size W2 W3 := by rw [← hW3]; exact (bel_alloc bel_refl).below
  have hst : WantI (W2.heap.size + 1) W2.heap.size b cs W3 0 W3 := ⟨.slice none 0 0, by rw [← hW3]; exact Blk.new W2 _ [_], World.ownsRow_nil _ _ _ _, Tn.refl _⟩
  have HC3 := Lib.hid (HC2.out.keepB hB3)
  have HRC3 := Lib.hid (HRC2.out.keepB hB3)
  have HS3 := Lib.hid (HS2.out.keepB hB3)
  have HR3 := Lib.hid (HR2.out.keepB hB3)
  have HP3 := Lib.hid (HP2.out.keepB hB3)
  have HB3 : Hid (Below w.heap.size w W3) := Lib.hid (HB2.out.trans (hB3.mono HB2.out.size))
  have HST := Lib.hid hst
  have hz3 : W3.heap.size = W2.heap.size + 1 := by rw [← hW3]; simp
  have HZ3 := Lib.hid hz3
  have hgl := HC2.out.blk.lt
  have hkl := HC2.out.row.lt
  have hg2l := HRC2.out.blk.lt
  have hkcl := HRC2.out.cov.lt
  have hkal := HRC2.out.are.lt
  rw [hW3]
  clear hB3 hst hW3 hz3 f1 HC1 HC2 HRC2 HS2 HR2 HP2 HB2
  go_loopw [9] (fun y wr => ∃ j : Nat, j ≤ higN b ∧ y = .int .i64 (b.y0 + j) ∧ Hid (WantI (W2.heap.size + 1) W2.heap.size b cs W3 (j * widN b) wr)) (fun y _ => (b.y1 - intOf y).toNat)
  case atStart => exact ⟨0, Nat.zero_le _, by simp, by rw [Nat.zero_mul]; exact HST⟩
  case round =>
    obtain ⟨j, hj, rfl, HWI⟩ := hrel
    obtain ⟨wo, hwo⟩ : ∃ wo : World, wo = wr := ⟨_, rfl⟩
    obtain ⟨v0, hv0, hown0, htn0⟩ := HWI.out
    have hrc0 := HRC3.out.tn htn0 (by omega) (by omega) (by omega)
    have r0 : wr.cell? ⟨g2, 0, none⟩ = some (.int .i64 b.x0) := hrc0.blk.cell 0
    have r3 : wr.cell? ⟨g2, 3, none⟩ = some (.int .i64 b.y1) := hrc0.blk.cell 3
    have rl := hrc0.blk.lt
    obtain ⟨hw, hh, hwdd, hln⟩ := HW.out
    by_cases hlt : j < higN b
    · have hlt2 : b.y0 + (j : Int) < b.y1 := by omega
      have hj0 : b.y0 + (j : Int) ≤ 16384 := by omega
      have HJJ := Lib.hid hj
      clear hv0 hown0 htn0 hrc0 hw hh hwdd hln hj
      go_wp2_with fail
      clear r0 r3 rl
      go_loopw [10] (fun x wq => ∃ m : Nat, m ≤ widN b ∧ x = .int .i64 (b.x0 + m) ∧ Hid (WantI (W2.heap.size + 1) W2.heap.size b cs W3 (j * widN b + m) wq)) (fun x _ => (b.x1 + 1 - intOf x).toNat)
      case atStart => exact ⟨0, Nat.zero_le _, by simp, HWI⟩
      case round =>
        obtain ⟨m, hm, rfl, HWM⟩ := hrel
        obtain ⟨v1, hv1, hown1, htn1⟩ := HWM.out
        obtain ⟨A1, cc1, rfl⟩ := own_slice hown1
        have hrc1 := HRC3.out.tn htn1 (by omega) (by omega) (by omega)
        have hcc1 := HC3.out.tn htn1 (by omega) (by omega)
        have r2 : wr.cell? ⟨g2, 2, none⟩ = some (.int .i64 b.x1) := hrc1.blk.cell 2
        have rl := hrc1.blk.lt
        obtain ⟨hw, hh, hwdd, hln⟩ := HW.out
        by_cases hlm : m < widN b
        · have hlm2 : b.x0 + (m : Int) ≤ b.x1 := by omega
          have hjw : j * widN b + m < cs.length := by rw [hln]; exact step_lt hlt hlm
          obtain ⟨sc1, sc2⟩ := step_cell HC3.out.box cs hlt hlm
          have hsucc := cellsN_succ b cs (j * widN b + m)
          rw [sc2] at hsucc
          have KA := rAt_any hrc1 (b.x0 + m) (b.y0 + j)
          have KB := fun w' (hb : Below wr.heap.size wr w') => At_any (hcc1.keepB hb) (b.x0 + m) (b.y0 + j)
          generalize atC b cs (b.x0 + m) (b.y0 + j) = z at *
          obtain ⟨z1, z2⟩ := z
          dsimp only at KA KB hsucc
          have hlen1 := cellsN_len b cs (j * widN b + m)
          obtain ⟨i, hi⟩ : ∃ i, j * widN b + m = i := ⟨_, rfl⟩
          have hi1 : j * widN b + (m + 1) = i + 1 := by omega
          rw [hi] at hlen1 hjw hown1 hsucc hv1
          have HKA := Lib.hid KA
          have HKB := Lib.hid KB
          have HSU := Lib.hid hsucc
          have HOW := Lib.hid hown1
          have HV1 := Lib.hid hv1
          have HTN := Lib.hid htn1
          have HI1 := Lib.hid hi1
          have hi63 : i ≤ 4227072 := by omega
          have hxb : b.x0 + (m : Int) ≤ 16384 := by omega
          have hmb : (m : Int) ≤ 32769 := by omega
          clear KA KB hsucc hown1 hv1 htn1 hrc1 hcc1 hw hh hwdd hln sc1 sc2 hi hi1 HWM HWI
          have key : (z1 = 0 ∧ z2 = 0) ∨ ((z1 != 0) = true ∧ (z1 != 0) = true) ∨ ((z1 != 0) = false ∧ (z2 != 0) = true) := by simp; omega
          rcases key with ⟨rfl, rfl⟩ | ⟨k1, k2⟩ | ⟨k1, k2⟩
          · go_wp2_with (first
              | (go_at_call 40; (with_reducible refine HKA.out.mono ?_); rintro e w4 ⟨rfl, hb4⟩; obtain ⟨hc4, hf4, hz4⟩ := bcell hb4; have HB4 := Lib.hid hb4)
              | (go_at_call 17; (with_reducible refine (HKB.out _ hb4).mono ?_); rintro e w5 ⟨rfl, hb5⟩; obtain ⟨hc5, hf5, hz5⟩ := bcell hb5; have HB5 := Lib.hid hb5)
              | fail)
            have hb45 : Below wr.heap.size wr w5 := HB4.out.trans (HB5.out.mono HB4.out.size)
            have hwn : WantI (W2.heap.size + 1) W2.heap.size b cs W3 (i + 1) w5 := by
              refine ⟨_, HV1.out.keepB hb45, ?_, HTN.out.call hb45⟩
              rw [HSU.out]
              simp only [if_true, Option.toList, List.append_nil]
              exact own_keep HOW.out fun k hk => hb45.block k (own_lt HOW.out k hk).2
            have HWN := Lib.hid hwn
            clear hb4 hb5 hb45 hwn hc4 hf4 hz4 hc5 hf5 hz5
            go_roundw
            case rel => exact ⟨m + 1, by omega, int_eq (by omega), by rw [HI1.out]; exact HWN⟩
            case measure => simp [intOf]; omega
          all_goals
            go_upto_region 16 with (first
              | (go_at_call 40; (with_reducible refine HKA.out.mono ?_); rintro e w4 ⟨rfl, hb4⟩; obtain ⟨hc4, hf4, hz4⟩ := bcell hb4; have HB4 := Lib.hid hb4)
              | (go_at_call 17; (with_reducible refine (HKB.out _ hb4).mono ?_); rintro e w5 ⟨rfl, hb5⟩; obtain ⟨hc5, hf5, hz5⟩ := bcell hb5; have HB5 := Lib.hid hb5)
              | fail)
            have hb45 : Below wr.heap.size wr w5 := HB4.out.trans (HB5.out.mono HB4.out.size)
            have hown5 := own_keep HOW.out fun k hk => hb45.block k (own_lt HOW.out k hk).2
            have hv5 := HV1.out.keepB hb45
            have ht5 := HTN.out.call hb45
            have hz5' : W2.heap.size + 1 ≤ w5.heap.size := by have := ht5.size; have := HZ3.out; omega
            have hne : ¬ (z1, z2) = ((0, 0) : Ce) := fun e => by injection e with e1 e2; subst e1 e2; simp at k1 k2
            have hsu := HSU.out
            rw [if_neg hne] at hsu
            obtain ⟨L, hL⟩ : ∃ L, cellsN b cs i = L := ⟨_, rfl⟩
            rw [hL] at hown5 hlen1 hsu
            have hownA := hown5.alloc (.cells #[.int .i64 (b.x0 + m), .int .i64 (b.y0 + j), .int .i64 z1, .int .i64 z2] 82)
            have hrd := reads_new w5 [.int .i64 (b.x0 + m), .int .i64 (b.y0 + j), .int .i64 z1, .int .i64 z2] 82 4 1 (by rfl)
            have v0 : w5.cell? ⟨W2.heap.size, 0, none⟩ = some (.slice A1 L.length cc1) := by rw [← hL]; exact hv5.cell 0
            have vl := hv5.lt
            rw [hL] at hv5
            have HSU2 := Lib.hid hsu
            have HO2 := Lib.hid hownA
            have HRD := Lib.hid hrd
            have HV5 := Lib.hid hv5
            have HT5 := Lib.hid ht5
            have HLL := Lib.hid hL
            clear hb4 hb5 hb45 hc4 hf4 hz4 hc5 hf5 hz5 hown5 hv5 ht5 hne hsu hownA hrd hL k1 k2
            have hlo := fun k (hk : (Value.slice A1 L.length cc1).ownBlock = some k) => own_lt HO2.out k hk
            have hneb : ¬ (Value.slice A1 L.length cc1).ownBlock = some W2.heap.size := fun e => by have := (hlo _ e).1; omega
            have HLO := Lib.hid hlo
            have HNB := Lib.hid hneb
            have hva := HV5.out.alloc (.cells #[.int .i64 (b.x0 + m), .int .i64 (b.y0 + j), .int .i64 z1, .int .i64 z2] 82)
            have HLA := Lib.hid hva.lt
            have HVA := Lib.hid hva
            clear hlo hneb hva
            go_wp2_with (first
              | (at_builtin; refine wpList_append_any _ (by rfl) (.tmp 86) (.tmp 92) _ (by rfl) (W2.heap.size + 1) 82 i0 _ 4 32 Try.underlying80 hi0 hz0 hz1 hz2 rfl (by omega) _ L.length _ (by rfl) HO2.out _ _ 1 _ _ (by rfl) HRD.out (by intro u hu; simp at hu; rcases hu with rfl | rfl | rfl | rfl <;> rfl) (by unfold maxLen; omega) (by omega) (by simp; omega) ?_; intro v' w6 hown6 hgrow6 hat6; obtain ⟨A2, cc2, rfl⟩ := own_slice hown6; obtain ⟨hv6, c6, f6, l6⟩ := grown_one hgrow6 HVA.out HNB.out; have HV6 := Lib.hid hv6; have HW6 := Lib.hid hown6; have HG6 := Lib.hid hgrow6; clear hown6 hgrow6 hat6 hv6)
              | fail)
            have hwn : WantI (W2.heap.size + 1) W2.heap.size b cs W3 (i + 1) (w6.setCell ⟨W2.heap.size, 0, none⟩ (.slice A2 (L.length + 1) cc2)) := by
              refine ⟨_, HV6.out.set 0 _, ?_, ((HT5.out.alloc _).grown HG6.out (fun k hk => by have := (HLO.out k hk).1; have := HZ3.out; omega)).set (.inl rfl) _⟩
              rw [HSU2.out]
              simp only [Option.toList, List.length_append, List.length_cons, List.length_nil, Nat.zero_add, List.flatMap_append, List.flatMap_cons, List.flatMap_nil, List.append_nil, clC]
              exact ownsRow_setCell_below HW6.out (by simp) _
            have HWN := Lib.hid hwn
            clear hwn c6 f6 l6 v0 vl
            go_roundw
            case rel => exact ⟨m + 1, by omega, int_eq (by omega), by rw [HI1.out]; exact HWN⟩
            case measure => simp [intOf]; omega
        · have hme : m = widN b := by omega
          have hlm2 : ¬ b.x0 + (m : Int) ≤ b.x1 := by omega
          have hnx : j * widN b + m = (j + 1) * widN b := by rw [hme, Nat.add_mul, Nat.one_mul]
          have HWN : Hid (WantI (W2.heap.size + 1) W2.heap.size b cs W3 ((j + 1) * widN b) wr) := by rw [← hnx]; exact HWM
          clear hv1 hown1 htn1 hrc1 hcc1 hw hh hwdd hln hme hnx HWM
          go_wp2_with fail
          go_roundw
          case rel => exact ⟨j + 1, by omega, int_eq (by omega), HWN⟩
          case measure => simp [intOf]; omega
    · have hje : j = higN b := by omega
      have hlt2 : ¬ b.y0 + (j : Int) < b.y1 := by omega
      have hall : cellsN b cs (j * widN b) = cellsA b cs := by unfold cellsA; rw [hln, hje]
      obtain ⟨A1, cc1, rfl⟩ := own_slice hown0
      rw [hall] at hv0 hown0
      obtain ⟨L, hL⟩ : ∃ L, cellsA b cs = L := ⟨_, rfl⟩
      rw [hL] at hv0 hown0
      have HC4 := Lib.hid (HC3.out.tn htn0 (by omega) (by omega))
      have HS4 := Lib.hid (htn0.blk HS3.out (by omega))
      have HR4 := Lib.hid (htn0.blk HR3.out (by omega))
      have HP4 := Lib.hid (htn0.blk HP3.out (by omega))
      have HB4 : Hid (Below w.heap.size w wr) := Lib.hid (HB3.out.trans (htn0.below (fun i hi e => by omega) (by have := HZ3.out; omega)))
      have HV0 := Lib.hid hv0
      have HO0 := Lib.hid hown0
      have HLL := Lib.hid hL
      have hzr : w.heap.size + 4 ≤ wr.heap.size := by have := htn0.size; have := HZ3.out; omega
      clear hrc0 hv0 hown0 htn0 hw hh hwdd hln hje hall hL HWI HST HC3 HRC3 HS3 HR3 HP3 HB3
      go_wp2_with fail
      obtain ⟨W4, hW4⟩ : ∃ W4, wr.alloc (.cells #[.int .i64 0] 3) = W4 := ⟨_, rfl⟩
      have hB5 : Below wr.heap.size wr W4 := by rw [← hW4]; exact (bel_alloc bel_refl).below
      have HNB : Hid (Blk W4 wr.heap.size 3 [.int .i64 0]) := Lib.hid (by rw [← hW4]; exact Blk.new wr _ [_])
      have hz4 : W4.heap.size = wr.heap.size + 1 := by rw [← hW4]; simp
      have HRB := Lib.hid (HR4.out.keepB hB5)
      have HSB := Lib.hid (HS4.out.keepB hB5)
      have HPB := Lib.hid (HP4.out.keepB hB5)
      have HCB := Lib.hid (HC4.out.keepB hB5)
      have HVB := Lib.hid (HV0.out.keepB hB5)
      have HBW := Lib.hid (HB4.out.trans (hB5.mono HB4.out.size))
      have hrows : RowsAt wr A1 L.length 4 (L.map clC) := by
        obtain ⟨A1', c1', hA', hr, -⟩ := RowsAt.of_own (rows := L.map clC) (k := 4) HO0.out (by rw [List.flatMap_def]) (fun r hr => by obtain ⟨y, -, rfl⟩ := List.mem_map.1 hr; rfl) (by omega)
        injection hA' with h1 _ h2
        rw [h1]
        exact hr
      have HRO := Lib.hid hrows
      have HB5 := Lib.hid hB5
      have hLlen : L.length ≤ 4227072 := by rw [← HLL.out]; exact Nat.le_trans (cellsN_len _ _ _) hbd
      have hvl := HV0.out.lt
      have hgl4 := HC4.out.blk.lt
      have hkl4 := HC4.out.row.lt
      have hpl4 := HP4.out.lt
      rw [hW4]
      clear hB5 hW4 hrows HC4 HS4 HR4 HP4 HB4 HV0 HO0
      refine (wpIn_wide (n := 9)).1 ?_
      refine wpIn_range_b (P := Try.prog) (n := 9) (gf := 41) (lb := #[.pointer (some ⟨w.heap.size + 1 + 1, 0, none⟩)]) rfl (enters_of Try.func41 (by kernel_rfl) rfl)
        (all_gives 8 HCB.out HPB.out (Kp := KeepF (fun i => i = wr.heap.size)) (fun h => ⟨h.size, fun i t cs hi hb => h.cells i t cs (by rcases hi with rfl | rfl | rfl <;> omega) hb⟩))
        (fun h h' => KeepF.trans h h') (fun W l o o' _ h h1 _ => KeepF.put W l o o' h h1) (Below.refl _ _) (fun _ => rfl)
        (CntC wr.heap.size W4) (StpC w.heap.size (w.heap.size + 1) w) (cntC_stable (by omega) (Nat.le_refl _)) (fun c => stpC_stable c (by omega) (by omega)) ⟨HNB.out, Turn.refl _ _ _⟩ ?a1
        (fun x W => W.alloc (.cells #[.int .i64 x.x, .int .i64 x.y, .int .i64 x.c, .int .i64 x.a] 82)) (fun _ _ => (bel_alloc bel_refl).below) (fun _ _ _ => .of_below (bel_alloc bel_refl).below) ?assign ?body ?done ?stop
      case assign =>
        intro l x W K hK
        simp only [clV, List.zip_toArray, List.zip_cons_cons, List.zip_nil_right, List.foldl_toArray, List.foldl_cons, List.foldl_nil, List.setIfInBounds_toArray, List.set_cons_succ, List.set_cons_zero]
        gi_wp2
        exact hK
      case body =>
        rintro l pre x W Wb hl hrec hge hsb hcells ⟨hcn, htu⟩ hpre
        have bpc : Blk Wb W.heap.size 82 [.int .i64 x.x, .int .i64 x.y, .int .i64 x.c, .int .i64 x.a] := hcells _ _ (Blk.newAt (n := W.heap.size) _ 82 [_, _, _, _] rfl) rfl
        have pc0 : Wb.cell? ⟨W.heap.size, 0, none⟩ = some (.int .i64 x.x) := bpc.cell 0
        have pc1 : Wb.cell? ⟨W.heap.size, 1, none⟩ = some (.int .i64 x.y) := bpc.cell 1
        have pc2 : Wb.cell? ⟨W.heap.size, 2, none⟩ = some (.int .i64 x.c) := bpc.cell 2
        have pc3 : Wb.cell? ⟨W.heap.size, 3, none⟩ = some (.int .i64 x.a) := bpc.cell 3
        have bpl := bpc.lt
        have hxL : L[pre.length]? = some x := by
          have hp2 := hpre
          rw [HLL.out] at hp2
          obtain ⟨t, ht⟩ := hp2
          rw [← ht]
          simp
        have hlt : pre.length < L.length := (List.getElem?_eq_some_iff.1 hxL).1
        obtain ⟨ab, ao, hAe, hbl, hcl⟩ := HRO.out.at_ (i := pre.length) (r := clC x) (by rw [List.getElem?_map, hxL]; rfl)
        have hcl' : ∀ j v, (clC x)[j]? = some v → Wb.cell? ⟨ab, ao + pre.length * 4 + j, none⟩ = some v := fun j v hv =>
          (World.cell?_of_block ((htu.block ab (by omega) (by omega) (fun e => by cases e)).trans (HB5.out.block ab hbl))).trans (hcl j v hv)
        have q0 : Wb.cell? ⟨ab, ao + pre.length * 4, none⟩ = some (.int .i64 x.x) := hcl' 0 _ rfl
        have q1 : Wb.cell? ⟨ab, ao + pre.length * 4 + 1, none⟩ = some (.int .i64 x.y) := hcl' 1 _ rfl
        have q2 : Wb.cell? ⟨ab, ao + pre.length * 4 + 2, none⟩ = some (.int .i64 x.c) := hcl' 2 _ rfl
        have q3 : Wb.cell? ⟨ab, ao + pre.length * 4 + 3, none⟩ = some (.int .i64 x.a) := hcl' 3 _ rfl
        have hV := htu.blk HVB.out (by omega) (fun e => by cases e)
        have hS := htu.blk HSB.out (by omega) (fun e => by cases e)
        have hR := htu.blk HRB.out (by omega) (fun e => by cases e)
        obtain ⟨cx, cy, cc, ca⟩ := x
        dsimp only [clC] at *
        subst hAe
        have n0 : Wb.cell? ⟨wr.heap.size, 0, none⟩ = some (.int .i64 pre.length) := hcn.cell 0
        have nf := hcn.frozen 0
        have nl := hcn.lt
        have e0 : Wb.cell? ⟨W2.heap.size, 0, none⟩ = some (.slice (some ⟨ab, ao, none⟩) L.length cc1) := hV.cell 0
        have el := hV.lt
        have t0 : Wb.cell? ⟨w.heap.size, 0, none⟩ = some (.int .i64 stop) := hS.cell 0
        have tl := hS.lt
        have rb0 : Wb.cell? ⟨w.heap.size + 1, 0, none⟩ = some (.bool false) := hR.cell 0
        have rbf := hR.frozen 0
        have rbl := hR.lt
        have hge2 : decide (L.length ≤ pre.length) = false := by simp; omega
        have hpl1 : (pre.length : Int) ≤ 4227071 := by omega
        have HCN := Lib.hid hcn
        have HTU := Lib.hid htu
        have HRB2 := Lib.hid hR
        have HLT := Lib.hid hlt
        clear hxL hcl hcl' hpre htu hcn hV hS hR hrec hcells bpc
        gi_wp2
        refine wpIn_region_drew_tail 11 (free_round _) (by kernel_rfl) (by kernel_rfl) (by kernel_rfl) ?_
        simp only [List.take_succ_cons, List.take_zero, List.drop_succ_cons, List.drop_zero]
        repeat (go_big_quiet_step (fail))
        refine wpQuiet_nil ?_
        rintro _ ⟨nq, rfl⟩
        clear q0 q1 q2 q3 pc0 pc1 pc2 pc3 e0
        gi_wp2
        all_goals
          have hKO : KeepsOthers Wb ((Wb.drewN nq).setCell ⟨wr.heap.size, 0, none⟩ (.int .i64 ((pre.length : Int) + 1))) := KeepsOthers.trans (⟨Nat.le_refl _, fun _ _ h _ => h⟩ : KeepsOthers Wb (Wb.drewN nq)) (KeepsOthers.setCell _ _ _)
          have hN := (HCN.out.drewN nq).set 0 (.int .i64 ((pre.length : Int) + 1))
          have hT := (turn_more HTU.out (bel_drewN (n := nq) bel_refl).below HTU.out.size).set 0 (.int .i64 ((pre.length : Int) + 1))
        · have hB := HBW.out.trans (below_turn hT (show w.heap.size ≤ wr.heap.size by omega) (show w.heap.size ≤ W4.heap.size by omega))
          have hR2 := (((HRB2.out.drewN nq).far (p := ⟨wr.heap.size, 0, none⟩) (by simp; omega) (.int .i64 ((pre.length : Int) + 1))).set 0 (.bool true))
          exact ⟨hKO.trans (KeepsOthers.setCell _ _ _), rfl, hR2, hB.setCell (by simp) _⟩
        · refine ⟨hKO, ?_, ⟨?_, hT⟩⟩
          · exact (KeepF.of_below (F := fun i => i = wr.heap.size) (bel_drewN (n := nq) (bel_refl (a := Wb))).below).set (p := ⟨wr.heap.size, 0, none⟩) rfl _
          · rw [List.length_append]
            exact hN
      case' done =>
        rintro D xs W hD hS ⟨hcn, htu⟩ hDW
        have hlen : xs.length = L.length := by
          have h1 : xs = L := by rw [← HLL.out]; exact hS
          rw [h1]
        rw [hlen] at hcn
        have hR2 := htu.blk HRB.out (by omega) (fun e => by cases e)
        have hL2 := htu.blk HVB.out (by omega) (fun e => by cases e)
        have n0 : W.cell? ⟨wr.heap.size, 0, none⟩ = some (.int .i64 L.length) := hcn.cell 0
        have nl := hcn.lt
        have e0 : W.cell? ⟨W2.heap.size, 0, none⟩ = some (.slice A1 L.length cc1) := hL2.cell 0
        have el := hL2.lt
        have r0 : W.cell? ⟨w.heap.size + 1, 0, none⟩ = some (.bool false) := hR2.cell 0
        have f0 := hR2.frozen 0
        have rl := hR2.lt
        have HR2 := Lib.hid hR2
        have HW2 := Lib.hid (HBW.out.trans (below_turn htu (show w.heap.size ≤ wr.heap.size by omega) (show w.heap.size ≤ W4.heap.size by omega)))
        have HD := Lib.hid (And.intro hD hDW)
        clear hD hDW hS hlen hcn htu hR2 hL2
        go_wp2_with fail
      case done =>
        have hD := HD.out.1
        have hne : D ≠ w.heap.size + 1 := by omega
        have hD6 : (W.setCell ⟨w.heap.size + 1, 0, none⟩ (.bool true)).heap[D]? = some (.deferred (some [])) := (Below.heap_setCell _ _ _ _ hne).trans HD.out.2
        have hR6 : Blk (W.setCell ⟨w.heap.size + 1, 0, none⟩ (.bool true)) (w.heap.size + 1) 4 [.bool true] := HR2.out.set 0 _
        have hpb : Below W4.heap.size (W.setCell ⟨w.heap.size + 1, 0, none⟩ (.bool true)) ((W.setCell ⟨w.heap.size + 1, 0, none⟩ (.bool true)).putObj D (.deferred none)) := belowK_b (w := W4) (Nat.le_refl _) _ D _ _ hD hD6 rfl rfl
        have hR7 := hR6.below hpb (by omega)
        have c7 : ((W.setCell ⟨w.heap.size + 1, 0, none⟩ (.bool true)).putObj D (.deferred none)).cell? ⟨w.heap.size + 1, 0, none⟩ = some (.bool true) := hR7.cell 0
        have hX : Below w.heap.size w (W.setCell ⟨w.heap.size + 1, 0, none⟩ (.bool true)) := HW2.out.setCell (by simp) _
        refine ⟨by simp, .inl ⟨_, _, rfl, run_takeDeferred hD6, ?_⟩⟩
        refine ⟨.bool true, ?_, rfl, hX.trans (hpb.mono (by omega))⟩
        simp [results, Try.f18, go_sem, c7]
      case' stop =>
        rintro D c pre W hD _ ⟨rfl, hR2, hB⟩ hDW
        have HR2 := Lib.hid hR2
        have HW2 := Lib.hid hB
        have HD := Lib.hid (And.intro hD hDW)
        clear hD hDW hR2 hB
        refine (wpIn_wide (n := 9)).2 ?_
        go_wp2_with fail
      case stop =>
        have hD := HD.out.1
        have hpb : Below W4.heap.size W (W.putObj D (.deferred none)) := belowK_b (w := W4) (Nat.le_refl _) _ D _ _ hD HD.out.2 rfl rfl
        have hR7 := HR2.out.below hpb (by omega)
        have c7 : (W.putObj D (.deferred none)).cell? ⟨w.heap.size + 1, 0, none⟩ = some (.bool true) := hR7.cell 0
        refine ⟨by simp, .inl ⟨_, _, rfl, run_takeDeferred HD.out.2, ?_⟩⟩
        refine ⟨.bool true, ?_, rfl, HW2.out.trans (hpb.mono (by omega))⟩
        simp [results, Try.f18, go_sem, c7]
end Go.Proofs.Ytbjggiihbdhmbaa
