/-
  Layer 25: Put, a mask that is kept.
-/
import Derived.Test.YtakgeeopfclmoaaLrO
namespace Go.Proofs.Ytakgeeopfclmoaa
open Go.RowKit Go.Maps

theorem heldL_sub {M L : List En} (h : M.Sublist L) : heldL M ≤ heldL L := by
  induction h with
  | slnil => exact Int.le_refl _
  | cons a _ ih => simp only [heldL, costM]; omega
  | cons_cons a _ ih => simp only [heldL]; omega
def putF (k : K4) (m : Ms) (A : Option Addr) (c : Nat) (s : Sl) : Sl := { k := k, m := m, A := A, c := c, ahead := s.ahead, next := s.next }
theorem Lr.le' {w : World} {B : Bz} {g : Nat} {Y : Lay} {S : Lk} {fr : List Nat} {E : List (K4 × Nat)} {held budget : Int} (h : Lr w g B Y S fr E held budget) : B ≤ w.heap.size := Nat.le_trans h.base.1 (Nat.le_of_lt h.blk.lt)
theorem Two.ne {B : Nat} {w : World} {b0 b1 : Nat} {k : K4} {m : Ms} {A : Option Addr} {c sb : Nat} (h : Two B w b0 b1 k m A c) (hh : hot w sb) : b0 ≠ sb ∧ b1 ≠ sb := by
  have h1 := h.key
  have h2 := h.mask
  unfold Blk at h1 h2
  unfold hot at hh
  refine ⟨fun e => ?_, fun e => ?_⟩
  · rw [← e, h1] at hh
    simp only [hotO] at hh
    revert hh
    decide
  · rw [← e, h2] at hh
    simp only [hotO] at hh
    revert hh
    decide
section
variable {B : Bz} {g : Nat} {w : World} {budget : Int} {L : List En}
set_option maxRecDepth 20000 in
set_option maxHeartbeats 4000000 in
theorem Put_ok (h : LruH w g B (heldL L) budget L) (k : K4) (hk : k.wf) (m : Ms) (A : Option Addr) (c : Nat) (hm : maskM m = 0) (ha : Ar B w A m.bs c) (hc : costM m ≤ budget) (hfit : heldL L ≤ budget) (hbud : budget ≤ 16777216) (hb0 : 0 ≤ budget) (hF : ∀ b, B.F b → b < w.heap.size) :
    Calls Try.prog 12 #[.pointer (some ⟨g, 0, none⟩), .agg #[.int .i64 k.g, .int .i64 k.p, .int .i64 k.x, .int .i64 k.y], .agg #[.int .i64 m.box.a, .int .i64 m.box.b, .int .i64 m.box.c, .int .i64 m.box.d, .slice A m.bs.length c]] w (PutR w g B budget k m L) := by
  have hn := ha.br.small
  have hck := fun w => Check_any m.box.a m.box.b m.box.c m.box.d A m.bs.length c hn w
  have hme : maskE m.box.a m.box.b m.box.c m.box.d m.bs.length = 0 := hm
  simp only [hme] at hck
  have htw : Two B ((w.alloc (.cells #[.int .i64 k.g, .int .i64 k.p, .int .i64 k.x, .int .i64 k.y] 24)).alloc (.cells #[.int .i64 m.box.a, .int .i64 m.box.b, .int .i64 m.box.c, .int .i64 m.box.d, .slice A m.bs.length c] 35)) w.heap.size (w.heap.size + 1) k m A c :=
    ⟨(Blk.newAt w _ [_, _, _, _] rfl).alloc _, Blk.newAt _ _ [_, _, _, _, _] (by simp), (ha.keepB (bel_alloc (bel_alloc bel_refl)).below)⟩
  have hdr := fun w1 (hb : Below w.heap.size w w1) => Drop_any (h.keep hb) (by omega) k hk
  have hdd : decide ((64 : Int) + m.bs.length > budget) = false := decide_eq_false (by unfold costM at hc; omega)
  have hdl : heldL (dropL k L) ≤ budget := by
    have := heldL_sub (dropL_sub k L)
    omega
  have hnk : k ∉ (dropL k L).map (·.1) := by
    obtain ⟨Y, S, l, fr, h', ok'⟩ := h
    by_cases hmm : k ∈ L.map (·.1)
    · obtain ⟨xs, ys, i, s, _, _, hsk, hL, _, hk1, hk2⟩ := ok_find ok' hmm
      rw [hL, hsk, dropL_mid hk1]
      exact hk2
    · rw [dropL_none hmm]; exact hmm
  have HF := Lib.hid hF
  clear hF
  have HNK := Lib.hid hnk
  have HBN := Lib.hid hb0
  have HDL := Lib.hid hdl
  have HKW := Lib.hid hk
  have HC := Lib.hid hck
  have HD := Lib.hid hdr
  have HT := Lib.hid htw
  have H := Lib.hid h.le
  have HM := Lib.hid hm
  have HCC := Lib.hid hc
  clear hnk hdl h hck hme hm htw hdr ha hk hc hfit
  go_enter Try.func12, Try.ntmps12
  go_upto_region 7 with (first
      | (go_at_call 26; (with_reducible refine (HC.out _).mono ?_); rintro e w1 ⟨rfl, hb1⟩
         have ht1 := HT.out.keepB hb1
         have k0 := ht1.k0
         have k1 := ht1.k1
         have k2 := ht1.k2
         have k3 := ht1.k3
         have HT1 := Lib.hid ht1
         have HB1 := Lib.hid hb1
         clear hb1 ht1)
      | (go_at_call 20; (with_reducible refine (HD.out _ ?_).mono ?_); (focus (exact (bel_alloc (bel_alloc bel_refl)).below.trans (HB1.out.mono (by simp; omega)))); rintro e w2 ⟨rfl, h2, k2⟩
         have HT2 := Lib.hid (HT1.out.keepT k2)
         have hm0 := HT2.out.m0
         have hm1 := HT2.out.m1
         have hm2 := HT2.out.m2
         have hm3 := HT2.out.m3
         have hm4 := HT2.out.m4
         obtain ⟨Y, S, l, fr, h3, ok3⟩ := h2
         have g6 : w2.cell? ⟨g, 6, none⟩ = some (.int .i64 budget) := by rw [h3.blk.cell 6]; rfl
         have hgl := h3.blk.lt
         have hml := HT2.out.mask.lt
         have H2 := Lib.hid (LruH.of h3 ok3)
         have K2 := Lib.hid k2
         clear k2 h3 ok3))
  refine wp_region_bw_lit (by kernel_rfl) (by kernel_rfl) ?_
  repeat (go_big_quiet_step ((go_at_call 27; exact Calls.bw_of (cost_any _ _ _ _ _ _ _ hn _))))
  refine wpQuiet_nil ?_
  rintro _ ⟨u, rfl⟩
  have hbu := u.prop
  have hzu := u.prop.size
  try simp at hzu
  go_upto_region 9 with fail
  have H3 := Lib.hid (LruH.keep H2.out u.prop)
  have T3 := Lib.hid (HT2.out.keepB u.prop)
  have hbel : Below w.heap.size w _ := (bel_alloc (o := .cells #[.int .i64 m.box.a, .int .i64 m.box.b, .int .i64 m.box.c, .int .i64 m.box.d, .slice A m.bs.length c] 35) (bel_alloc (o := .cells #[.int .i64 k.g, .int .i64 k.p, .int .i64 k.x, .int .i64 k.y] 24) (bel_refl (a := w)))).below.trans (HB1.out.mono (by simp; omega))
  have K3 := Lib.hid ((((KeepT.refl H.out).below hbel).trans K2.out).below u.prop)
  clear hbu hzu k0 k1 k2 k3 hm0 hm1 hm2 hm3 hm4 g6 hgl hml hbel
  generalize u.val = w3 at H3 T3 K3 ⊢
  clear H2 HT2 HB1 HT1 HT HC HD K2
  obtain ⟨Y3, S3, l3, fr3, h3, ok3⟩ := H3.out
  clear H3
  have hlen3 : (dropL k L).length ≤ 262144 := by have := heldL_lo (dropL k L); have := HDL.out; omega
  have HEM := Lib.hid (empty_any h3 ok3 hlen3)
  have HENT := Lib.hid ok3.ents
  have HKN := Lib.hid (show k ∉ (dropL k L).map (·.1) from HNK.out)
  clear h3 ok3 hlen3
  go_upto_region 10 with (first
      | (go_at_call 28; (with_reducible refine HEM.out.mono ?_); rintro e w4 ⟨i, Y, S, fr, rfl, h4, ok4, hE4, k4⟩
         have hi : i < S.ss.length := ok4.lt (by simp)
         have hi' : (i : Int) < S.ss.length := by omega
         obtain ⟨sb, hA4, hBs, hsl, hsne, hhot, hcap⟩ := h4.slotA (by omega)
         obtain ⟨s4, hs4⟩ : ∃ s4, S.ss[i]? = some s4 := ⟨_, List.getElem?_eq_getElem hi⟩
         have c0 : w4.cell? ⟨sb, i * 11, none⟩ = some (.int .i64 s4.k.g) := h4.cell (j := 0) hA4 hs4 rfl
         have f0 := h4.frz hA4 (i * 11)
         have c1 : w4.cell? ⟨sb, i * 11 + 1, none⟩ = some (.int .i64 s4.k.p) := h4.cell (j := 1) hA4 hs4 rfl
         have f1 := h4.frz hA4 (i * 11 + 1)
         have c2 : w4.cell? ⟨sb, i * 11 + 2, none⟩ = some (.int .i64 s4.k.x) := h4.cell (j := 2) hA4 hs4 rfl
         have f2 := h4.frz hA4 (i * 11 + 2)
         have c3 : w4.cell? ⟨sb, i * 11 + 3, none⟩ = some (.int .i64 s4.k.y) := h4.cell (j := 3) hA4 hs4 rfl
         have f3 := h4.frz hA4 (i * 11 + 3)
         have c4 : w4.cell? ⟨sb, i * 11 + 4, none⟩ = some (.int .i64 s4.m.box.a) := h4.cell (j := 4) hA4 hs4 rfl
         have f4 := h4.frz hA4 (i * 11 + 4)
         have c5 : w4.cell? ⟨sb, i * 11 + 5, none⟩ = some (.int .i64 s4.m.box.b) := h4.cell (j := 5) hA4 hs4 rfl
         have f5 := h4.frz hA4 (i * 11 + 5)
         have c6 : w4.cell? ⟨sb, i * 11 + 6, none⟩ = some (.int .i64 s4.m.box.c) := h4.cell (j := 6) hA4 hs4 rfl
         have f6 := h4.frz hA4 (i * 11 + 6)
         have c7 : w4.cell? ⟨sb, i * 11 + 7, none⟩ = some (.int .i64 s4.m.box.d) := h4.cell (j := 7) hA4 hs4 rfl
         have f7 := h4.frz hA4 (i * 11 + 7)
         have c8 : w4.cell? ⟨sb, i * 11 + 8, none⟩ = some (.slice s4.A s4.m.bs.length s4.c) := h4.cell (j := 8) hA4 hs4 rfl
         have f8 := h4.frz hA4 (i * 11 + 8)
         have g0 : w4.cell? ⟨g, 0, none⟩ = some (.slice (some ⟨sb, 0, none⟩) S.ss.length Y.c) := by rw [h4.blk.cell 0, hA4]; rfl
         have hgl := h4.blk.lt
         have t4 := T3.out.keepT k4
         have k0 := t4.k0
         have k1 := t4.k1
         have k2 := t4.k2
         have k3 := t4.k3
         have hm0 := t4.m0
         have hm1 := t4.m1
         have hm2 := t4.m2
         have hm3 := t4.m3
         have hm4 := t4.m4
         have hkl := t4.key.lt
         obtain ⟨hne0, hne1⟩ := t4.ne hhot
         have hne2 := Ne.symm hne0
         have hne3 := Ne.symm hne1
         have hsne2 := Ne.symm hsne
         have hml := t4.mask.lt
         have HCL := Lib.hid (fun w' (hb : Below w4.heap.size w4 w') => clone_any w' m A c (t4.ar.br.keep hb))
         have H4 := Lib.hid h4
         have O4 := Lib.hid ok4
         have E4 := Lib.hid hE4
         have K4 := Lib.hid (K3.out.trans k4)
         have T4 := Lib.hid t4
         have HA4 := Lib.hid hA4
         have HH4 := Lib.hid hhot
         have HS4 := Lib.hid hs4
         clear h4 ok4 hE4 k4 t4 hA4 hhot hs4))
  go_region_held3 (fun u => u.cell? ⟨g, 0, none⟩ = some (.slice (some ⟨sb, 0, none⟩) S.ss.length Y.c) ∧
      u.cell? ⟨w.heap.size, 0, none⟩ = some (.int .i64 k.g) ∧ u.cell? ⟨w.heap.size, 1, none⟩ = some (.int .i64 k.p) ∧ u.cell? ⟨w.heap.size, 2, none⟩ = some (.int .i64 k.x) ∧ u.cell? ⟨w.heap.size, 3, none⟩ = some (.int .i64 k.y) ∧
      u.cell? ⟨w.heap.size + 1, 0, none⟩ = some (.int .i64 m.box.a) ∧ u.cell? ⟨w.heap.size + 1, 1, none⟩ = some (.int .i64 m.box.b) ∧ u.cell? ⟨w.heap.size + 1, 2, none⟩ = some (.int .i64 m.box.c) ∧ u.cell? ⟨w.heap.size + 1, 3, none⟩ = some (.int .i64 m.box.d) ∧
      u.cell? ⟨w.heap.size + 1, 4, none⟩ = some (.slice A m.bs.length c))
    (go_keep)
    (first
      | (go_at_call 29; (with_reducible refine (HCL.out _ ?_).mono ?_); (focus (refine Bel.below ?_; (repeat (first | with_reducible exact bel_refl | with_reducible apply bel_alloc | with_reducible apply bel_drewN | with_reducible apply bel_drew | (with_reducible refine bel_set ?_ ?_; rotate_left; · first | (simp; done) | (simp; omega) | omega) | with_reducible refine bel_call (by assumption) ?_)))); rintro e w5 ⟨A5, c5', rfl, hb5, hw5, hr5⟩; obtain ⟨hc5, hf5, hz5⟩ := bcell hw5; (try simp at hz5); have HB5 := Lib.hid hb5; have HW5 := Lib.hid hw5; have HR5 := Lib.hid hr5; clear hb5 hw5 hr5))
  have hbw : Below w4.heap.size w4 w5 := (bel_drew bel_refl).below.trans HW5.out
  have hkt : KeepT B w4 w5 := (KeepT.refl H4.out.le').below hbw
  have h5 := ((H4.out.keep hbw).setKey HA4.out hi k).setBox HA4.out (i := i) (by simpa using hi) m.box
  have hne5 : rowOf A5 ≠ some sb := fun e => by have := HR5.out _ e; simp at this; omega
  have hbu5 : Bu (boxW (keyW w5 sb i k) sb i m.box) A5 m.bs c5' := (((((((HB5.out.set (p := ⟨sb, _, none⟩) hne5 _).set (p := ⟨sb, _, none⟩) hne5 _).set (p := ⟨sb, _, none⟩) hne5 _).set (p := ⟨sb, _, none⟩) hne5 _).set (p := ⟨sb, _, none⟩) hne5 _).set (p := ⟨sb, _, none⟩) hne5 _).set (p := ⟨sb, _, none⟩) hne5 _).set (p := ⟨sb, _, none⟩) hne5 _
  have hfar5 : ∀ b, rowOf A5 = some b → ¬ B.F b := fun b e hb => by
    have h1 := HR5.out _ e
    have h2 := HF.out b hb
    have h3 := K4.out.size
    simp at h1
    omega
  have h6 := h5.setR HA4.out (f := sr A5 m.bs c5') (i := i) (j := 8) (v := .slice A5 m.bs.length c5') (fun _ => rfl) (fun _ => .inr ⟨hbu5, hfar5⟩) (by omega) (by simpa using hi)
  simp only [mod_mod] at h6
  have hk6 := ((hkt.key hBs HH4.out i k).box hBs HH4.out i m.box).set (p := ⟨sb, i * 11 + 8, none⟩) hBs HH4.out (.slice A5 m.bs.length c5')
  have ok6 := ok_pend (f := putF k m A5 c5') O4.out
  have hs6 : (S.ss.modify i (putF k m A5 c5'))[i]? = some (putF k m A5 c5' s4) := mod_eq HS4.out
  have hE6 : keysE (S.ss.modify i (putF k m A5 c5')) l3 = keysE S3.ss l3 := (keysE_ne O4.out.pend_not).trans E4.out
  have hni6 := O4.out.pend_not
  have hsm6 : i ≤ 262145 := by have := O4.out.small; omega
  have HW5' := Lib.hid hbw
  go_upto_region 11 with fail
  generalize hW : World.setCell (World.setCell _ _ _) ⟨sb, i * 11 + 4 + 4, none⟩ _ = w6
  have h6' : Lr w6 g B Y { S with ss := S.ss.modify i (putF k m A5 c5') } fr (keysE S3.ss l3) (heldL (dropL k L)) budget := by rw [← hW]; exact h6
  have hk6' : KeepT B w4 w6 := by rw [← hW]; exact hk6
  have t6 := T4.out.keepT hk6'
  have hk7 := K4.out.trans hk6'
  clear h6 hk6 hW h5 hbu5 hbw hkt hk6' hc5 hf5 hz5
  clear k0 k1 k2 k3 hm0 hm1 hm2 hm3 hm4 c0 c1 c2 c3 c4 c5 c6 c7 c8 f0 f1 f2 f3 f4 f5 f6 f7 f8 g0 hkl hml hgl HB5 HW5 HR5 HW5' T4 K4 H4 O4 E4 HA4 HH4 HS4
  have g1 : w6.cell? ⟨g, 1, none⟩ = some (.map (some Y.mb)) := by rw [h6'.blk.cell 1]; rfl
  have hgl := h6'.blk.lt
  have k0 := t6.k0
  have k1 := t6.k1
  have k2 := t6.k2
  have k3 := t6.k3
  have hkl := t6.key.lt
  have hkey : keyOf Try.prog 24 (kv k) = some (klit k) := keyOf_kv k HKW.out
  have hmok : MapOk ((k, i) :: keysE S3.ss l3) := by
    have h0 := h6'.mok
    have hnk := HKN.out
    refine ⟨fun p hp => ?_, ?_, fun p hp => ?_⟩
    · rcases List.mem_cons.1 hp with rfl | hp
      · exact HKW.out
      · exact h0.wf p hp
    · refine List.nodup_cons.2 ⟨?_, h0.nodup⟩
      have hx : (keysE S3.ss l3).map (·.1) = (dropL k L).map (·.1) := by rw [keysE_fst]; exact congrArg _ HENT.out
      rw [hx]
      exact hnk
    · rcases List.mem_cons.1 hp with rfl | hp
      · exact hsm6
      · exact h0.small p hp
  have H6 := Lib.hid h6'
  have T6 := Lib.hid t6
  have K6 := Lib.hid hk7
  have O6 := Lib.hid ok6
  have S6 := Lib.hid hs6
  have E6 := Lib.hid hE6
  have N6 := Lib.hid hni6
  have HKY := Lib.hid hkey
  have HMO := Lib.hid hmok
  clear h6' t6 hk7 ok6 hs6 hE6 hni6 hkey hmok
  refine wp_region_drew_tail 6 (by kernel_rfl) (by kernel_rfl) ?_
  simp only [List.take_succ_cons, List.take_zero, List.drop_succ_cons, List.drop_zero]
  repeat (go_big_quiet_step (fail))
  refine wpQuiet_nil ?_
  rintro _ ⟨nq, rfl⟩
  go_upto_region 12 with (first
      | (at_mapUpdate; refine wpList_mapUpdate_own _ rfl _ _ _ 63 rfl 24 3 key_law Try.underlying63 _ Y.mb _ _ rfl (H6.out.drewN nq).map (by have := O6.out.lenL; have := O6.out.len; have := O6.out.small; simp [keysE] at *; unfold maxLen; omega) (kv k) _ (klit k) rfl rfl HKY.out (.lit (.int .i64 i)) [] (plainElem_int Try.underlying3 (WalkArith.wf_i64 (by omega))) ?_; intro w7 hown7 hgrow7
         have hgr := hgrow7
         rw [mapD_put HMO.out] at hown7
         have h7 : Lr w7 g B Y { S with ss := S.ss.modify i (putF k m A5 c5') } fr ((k, i) :: keysE S3.ss l3) (heldL (dropL k L)) budget :=
           (H6.out.drewN nq).setMap HMO.out (ownsMap_exact hown7 (mapD_size _)) hgr.size fun k hk hne => hgr.block k hk (by simpa using hne)
         have hk7 : KeepT B (w6.drewN nq) w7 := (KeepT.refl (H6.out.drewN nq).le').grown hgr (fun k hk => by injection hk with hk; subst hk; exact ⟨H6.out.base.2, hot_map (H6.out.drewN nq).map⟩)
         have t7 := (T6.out.keepB (bel_drewN bel_refl).below).keepT hk7
         have g5 : w7.cell? ⟨g, 5, none⟩ = some (.int .i64 (heldL (dropL k L))) := by rw [h7.blk.cell 5]; rfl
         have f5 := h7.blk.frozen 5
         have hgl7 := h7.blk.lt
         have hm0 := t7.m0
         have hm1 := t7.m1
         have hm2 := t7.m2
         have hm3 := t7.m3
         have hm4 := t7.m4
         have hml7 := t7.mask.lt
         have H7 := Lib.hid h7
         have K7 := Lib.hid ((K6.out.drewN nq).trans hk7)
         clear h7 hk7 t7 hown7 hgrow7 hgr
         go_frame))
  have hdlo := heldL_nonneg (dropL k L)
  have hdhi := HDL.out
  have hwr : IntKind.i64.wrap (heldL (dropL k L) + (64 + (m.bs.length : Int))) = heldL (dropL k L) + (64 + (m.bs.length : Int)) := IntWalk.i64_in _ (by omega)
  refine wp_region_bw_tail 7 (by kernel_rfl) (by kernel_rfl) ?_
  simp only [List.take_succ_cons, List.take_zero, List.drop_succ_cons, List.drop_zero]
  repeat (go_big_quiet_step ((go_at_call 27; exact Calls.bw_of (cost_any _ _ _ _ _ _ _ hn _))))
  refine wpQuiet_nil ?_
  rintro _ ⟨u, rfl⟩
  have hbu := u.prop
  have hzu := u.prop.size
  try simp at hzu
  go_upto_region 13 with fail
  have hnew : heldL (dropL k L) + (64 + (m.bs.length : Int)) = heldL ((k, m) :: dropL k L) := by simp only [heldL, costM]; omega
  have h8 := (H7.out.keep u.prop).setG (S' := { S with ss := S.ss.modify i (putF k m A5 c5') }) 5 (.int .i64 (heldL (dropL k L) + (64 + (m.bs.length : Int)))) (held' := heldL (dropL k L) + (64 + (m.bs.length : Int))) (budget' := budget) rfl rfl
  have k8 := (K7.out.below u.prop).trans ((KeepT.refl (H7.out.keep u.prop).le').set (p := ⟨g, 5, none⟩) H7.out.base.1 (H7.out.keep u.prop).hotg (.int .i64 (heldL (dropL k L) + (64 + (m.bs.length : Int)))))
  generalize (u.val.setCell _ _) = w8 at h8 k8 ⊢
  clear hbu hzu hm0 hm1 hm2 hm3 hm4 g5 f5 k0 k1 k2 k3 g1 hdlo hdhi hwr
  rw [hnew] at h8
  have hld := lead_any h8 O6.out.link S6.out N6.out
  obtain ⟨ok9, -⟩ := ok_lead O6.out S6.out HKN.out
  have hE9 : keysE (leadS { S with ss := S.ss.modify i (putF k m A5 c5') } i).ss (i :: l3) = (k, i) :: keysE S3.ss l3 := by
    rw [keysE_pay (pay_lead _ _)]
    show ((entAt (S.ss.modify i (putF k m A5 c5')) i).1, i) :: keysE (S.ss.modify i (putF k m A5 c5')) l3 = _
    rw [E6.out, entAt_some S6.out]
    rfl
  have hsh := fun w9 (h9 : Lr w9 g B Y (leadS { S with ss := S.ss.modify i (putF k m A5 c5') } i) fr ((k, i) :: keysE S3.ss l3) (heldL ((k, m) :: dropL k L)) budget) =>
    shrink_any (LruH.of (hE9 ▸ h9) ok9) HBN.out (by have h1 := HDL.out; have h2 := HCC.out; show costM m + heldL (dropL k L) ≤ _; omega)
  have HLD := Lib.hid hld
  have HSH := Lib.hid hsh
  have K8 := Lib.hid k8
  clear hld hsh k8 h8 ok9 hE9 hnew
  go_wp2_with (first
      | (go_at_call 30; (with_reducible refine HLD.out.mono ?_); rintro e w9 ⟨rfl, h9, k9⟩; have H9 := Lib.hid h9; have K9 := Lib.hid k9; clear h9 k9)
      | (go_at_call 31; (with_reducible refine (HSH.out _ H9.out).mono ?_); rintro e w10 ⟨rfl, h10, k10⟩; have H10 := Lib.hid h10; have K10 := Lib.hid k10; clear h10 k10))
  go_ret2
  refine ⟨by rw [decide_eq_true HM.out, decide_eq_false (Int.not_lt.2 HCC.out), HM.out]; rfl, ?_, (K8.out.trans K9.out).trans K10.out⟩
  rw [if_pos HM.out]
  unfold putL
  rw [if_neg (Int.not_lt.2 HCC.out)]
  exact H10.out
end
end Go.Proofs.Ytakgeeopfclmoaa
