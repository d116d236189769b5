/-
  Layer 25: Resize, Get.
-/
import Derived.Test.YtakgeeopfclmoaaLrM
namespace Go.Proofs.Ytakgeeopfclmoaa
open Go.RowKit Go.Maps

section
variable {B : Bz} {g : Nat} {w : World} {budget : Int} {L : List En}
theorem LruH.of {Y : Lay} {S : Lk} {l fr : List Nat} {held : Int} (h : Lr w g B Y S fr (keysE S.ss l) held budget) (ok : Ok S l fr [] L) : LruH w g B held budget L := ⟨Y, S, l, fr, h, ok⟩
theorem Lr.permE {Y : Lay} {S : Lk} {fr : List Nat} {E E' : List (K4 × Nat)} {held : Int} (h : Lr w g B Y S fr E held budget) (hp : E'.Perm E) : Lr w g B Y S fr E' held budget := by
  refine ⟨h.blk, h.own, h.rows, h.free, ?_, h.base, ⟨fun p hp' => h.mok.wf p (hp.mem_iff.1 hp'), (hp.map (·.1)).nodup_iff.2 h.mok.nodup, fun p hp' => h.mok.small p (hp.mem_iff.1 hp')⟩⟩
  rw [mapD_perm h.mok hp, hp.length_eq]
  exact h.map
def ResR (w : World) (g : Nat) (B : Bz) (n : Int) (L : List En) (e : Ending) (w' : World) : Prop :=
  e = .returned (.int .i64 0) ∧ LruH w' g B (heldL (shrinkL n L)) n (shrinkL n L) ∧ KeepT B w w'
set_option maxRecDepth 20000 in
set_option maxHeartbeats 1000000 in
theorem Resize_yes (h : LruH w g B (heldL L) budget L) (hbig : heldL L ≤ 4611686018427387904) (n : Int) (hn : budB n = true) : Calls Try.prog 23 #[.pointer (some ⟨g, 0, none⟩), .int .i64 n] w (ResR w g B n L) := by
  have hB := h.le
  obtain ⟨Y, S, l, fr, h, ok⟩ := h
  have g6 : w.cell? ⟨g, 6, none⟩ = some (.int .i64 budget) := by rw [h.blk.cell 6]; rfl
  have f6 := h.blk.frozen 6
  have h2 := h.setG (S' := S) 6 (.int .i64 n) (held' := heldL L) (budget' := n) rfl rfl
  have k2 := (KeepT.refl hB).set (p := ⟨g, 6, none⟩) h.base.1 h.hotg (.int .i64 n)
  have hs := shrink_any (⟨Y, S, l, fr, h2, ok⟩ : LruH _ g B (heldL L) n L) (budB_true.1 hn).1 hbig
  have KB := fun w => mayBud_any n w
  rw [hn] at KB
  have HK := Lib.hid KB
  have HS := Lib.hid hs
  have K2 := Lib.hid k2
  clear h ok h2 k2 hs KB hn hbig hB
  go_enter Try.func23, Try.ntmps23
  go_wp2_with (first | (go_at_call 24; refine (HK.out _).mono ?_; rintro e w1 ⟨rfl, rfl⟩) | (go_at_call 31; (with_reducible refine HS.out.mono ?_); rintro e w1 ⟨rfl, h1, k1⟩; have H1 := Lib.hid h1; have K1 := Lib.hid k1; clear h1 k1))
  go_ret
  exact ⟨rfl, H1.out, K2.out.trans K1.out⟩
theorem Resize_no (n : Int) (hn : budB n = false) : Calls Try.prog 23 #[.pointer (some ⟨g, 0, none⟩), .int .i64 n] w fun e w' => e = .returned (.int .i64 1) ∧ w = w' := by
  have KB := fun w => mayBud_any n w
  rw [hn] at KB
  have HK := Lib.hid KB
  clear KB hn
  go_enter Try.func23, Try.ntmps23
  go_wp2_with (first | (go_at_call 24; refine (HK.out _).mono ?_; rintro e w1 ⟨rfl, rfl⟩))
  go_ret
  exact ⟨rfl, rfl⟩
theorem Resize_nil (n : Int) : Calls Try.prog 23 #[.pointer none, .int .i64 n] w fun e w' => e = .returned (.int .i64 6) ∧ w = w' := by
  go_enter Try.func23, Try.ntmps23
  go_wp2_with fail
  go_ret
  exact ⟨rfl, rfl⟩

def GetR (w : World) (g : Nat) (B : Bz) (budget : Int) (k : K4) (L : List En) (e : Ending) (w' : World) : Prop :=
  match findL k L with
  | none => e = .returned (.tuple #[mv zMs none 0, .bool false]) ∧ LruH w' g B (heldL L) budget L ∧ KeepT B w w'
  | some en => ∃ A c, e = .returned (.tuple #[mv en.2 A c, .bool true]) ∧ Bu w' A en.2.bs c ∧ LruH w' g B (heldL (getL k L)) budget (getL k L) ∧ KeepT B w w'
set_option maxRecDepth 20000 in
set_option maxHeartbeats 2000000 in
theorem Get_no (h : LruH w g B (heldL L) budget L) (k : K4) (hk : k.wf) (hm : k ∉ L.map (·.1)) :
    Calls Try.prog 14 #[.pointer (some ⟨g, 0, none⟩), .agg #[.int .i64 k.g, .int .i64 k.p, .int .i64 k.x, .int .i64 k.y]] w (GetR w g B budget k L) := by
  have hB := h.le
  obtain ⟨Y, S, l, fr, h, ok⟩ := h
  have g1 : w.cell? ⟨g, 1, none⟩ = some (.map (some Y.mb)) := by rw [h.blk.cell 1]; rfl
  have hgl := h.blk.lt
  have hal := (h.alloc (.cells #[.int .i64 k.g, .int .i64 k.p, .int .i64 k.x, .int .i64 k.y] 24)).alloc (.cells #[.int .i64 0, .int .i64 0, .int .i64 0, .int .i64 0, .slice none 0 0] 35)
  have hkp := ((KeepT.refl hB).alloc (.cells #[.int .i64 k.g, .int .i64 k.p, .int .i64 k.x, .int .i64 k.y] 24)).alloc (.cells #[.int .i64 0, .int .i64 0, .int .i64 0, .int .i64 0, .slice none 0 0] 35)
  have hE : k ∉ (keysE S.ss l).map (·.1) := by rw [keysE_fst, ok.ents]; exact hm
  have hrun : ∀ n, (Instr.lookup 63 (.map (some Y.mb)) (.agg #[.int .i64 k.g, .int .i64 k.p, .int .i64 k.x, .int .i64 k.y]) true).run Try.prog (((w.alloc (.cells #[.int .i64 k.g, .int .i64 k.p, .int .i64 k.x, .int .i64 k.y] 24)).alloc (.cells #[.int .i64 0, .int .i64 0, .int .i64 0, .int .i64 0, .slice none 0 0] 35)).drewN n) = .ok (.tuple #[.int .i64 0, .bool false]) (((w.alloc (.cells #[.int .i64 k.g, .int .i64 k.p, .int .i64 k.x, .int .i64 k.y] 24)).alloc (.cells #[.int .i64 0, .int .i64 0, .int .i64 0, .int .i64 0, .slice none 0 0] 35)).drewN n) :=
    fun n => look_no (hal.drewN n) hk hE
  have H := Lib.hid (LruH.of hal ok)
  have HK := Lib.hid hkp
  have HM := Lib.hid (findL_none hm)
  clear h ok hal hkp hm hE hB hk
  go_enter Try.func14, Try.ntmps14
  go_wp2_with fail
  go_quiet (fail)
  go_wp2_with fail
  refine bodyPost_ret (v := .tuple #[mv zMs none 0, .bool false]) (by simp [results, Try.results14, go_sem, mv, zMs, zBq, *]) rfl ?_
  unfold GetR
  rw [HM.out]
  obtain ⟨Y', S', l', fr', h', ok'⟩ := H.out
  have hb : Blk (w.alloc (.cells #[.int .i64 k.g, .int .i64 k.p, .int .i64 k.x, .int .i64 k.y] 24)|>.alloc (.cells #[.int .i64 0, .int .i64 0, .int .i64 0, .int .i64 0, .slice none 0 0] 35)) (w.heap.size + 1) 35 [.int .i64 0, .int .i64 0, .int .i64 0, .int .i64 0, .slice none 0 0] := Blk.newAt _ _ [_, _, _, _, _] (by simp)
  exact ⟨rfl, LruH.of ((h'.drewN nq).maskW (hb.drewN nq) zMs none 0) ok', (HK.out.drewN nq).maskW (by omega) zMs none 0⟩
set_option maxRecDepth 20000 in
set_option maxHeartbeats 4000000 in
theorem Get_yes (h : LruH w g B (heldL L) budget L) (k : K4) (hm : k ∈ L.map (·.1)) :
    Calls Try.prog 14 #[.pointer (some ⟨g, 0, none⟩), .agg #[.int .i64 k.g, .int .i64 k.p, .int .i64 k.x, .int .i64 k.y]] w (GetR w g B budget k L) := by
  have hB := h.le
  obtain ⟨Y, S, l, fr, h, ok⟩ := h
  have g1 : w.cell? ⟨g, 1, none⟩ = some (.map (some Y.mb)) := by rw [h.blk.cell 1]; rfl
  have hgl := h.blk.lt
  have hal := (h.alloc (.cells #[.int .i64 k.g, .int .i64 k.p, .int .i64 k.x, .int .i64 k.y] 24)).alloc (.cells #[.int .i64 0, .int .i64 0, .int .i64 0, .int .i64 0, .slice none 0 0] 35)
  have hkp := ((KeepT.refl hB).alloc (.cells #[.int .i64 k.g, .int .i64 k.p, .int .i64 k.x, .int .i64 k.y] 24)).alloc (.cells #[.int .i64 0, .int .i64 0, .int .i64 0, .int .i64 0, .slice none 0 0] 35)
  obtain ⟨xs, ys, i, s, hl, hs, hsk, hL, hki, hk1, hk2⟩ := ok_find ok hm
  have hrun : ∀ n, (Instr.lookup 63 (.map (some Y.mb)) (.agg #[.int .i64 k.g, .int .i64 k.p, .int .i64 k.x, .int .i64 k.y]) true).run Try.prog (((w.alloc (.cells #[.int .i64 k.g, .int .i64 k.p, .int .i64 k.x, .int .i64 k.y] 24)).alloc (.cells #[.int .i64 0, .int .i64 0, .int .i64 0, .int .i64 0, .slice none 0 0] 35)).drewN n) = .ok (.tuple #[.int .i64 i, .bool true]) (((w.alloc (.cells #[.int .i64 k.g, .int .i64 k.p, .int .i64 k.x, .int .i64 k.y] 24)).alloc (.cells #[.int .i64 0, .int .i64 0, .int .i64 0, .int .i64 0, .slice none 0 0] 35)).drewN n) :=
    fun n => look_yes (hal.drewN n) hki
  subst hl
  have hfind : findL k L = some (k, s.m) := by rw [hL, hsk]; exact findL_mid hk1
  have hget : getL k L = (k, s.m) :: (ents S.ss xs ++ ents S.ss ys) := by
    unfold getL
    rw [hfind, hL, hsk, dropL_mid hk1]
  have hheld : heldL (getL k L) = heldL L := by rw [hget, hL, heldL_mid, hsk]; simp only [heldL]; omega
  obtain ⟨ok1, hlen1, -⟩ := ok_unlink ok hs
  have hpay := pay_unlink S s
  obtain ⟨s1, hs1, hs2⟩ : ∃ s1, (unlinkS S s).ss[i]? = some s1 ∧ pay s1 = pay s := by
    have := at_of_pay hpay i
    rw [hs] at this
    exact Option.map_eq_some_iff.1 this
  have hU := fun n => unlink_any (hal.drewN n) ok.link hs
  have hni := ok1.pend_not
  have e1 : s1.k = k ∧ s1.m = s.m := by simp only [pay, Prod.mk.injEq] at hs2; exact ⟨hs2.1.trans hsk, hs2.2.1⟩
  obtain ⟨ok2, hlen2⟩ := ok_lead ok1 hs1 (by rw [e1.1]; exact hk2)
  have hLd := fun w1 (h1 : Lr w1 g B Y (unlinkS S s) fr (keysE S.ss (xs ++ i :: ys)) (heldL L) budget) => lead_any h1 ok1.link hs1 hni
  have hpay2 := pay_lead (unlinkS S s) i
  obtain ⟨s2, hs3, hs4⟩ : ∃ s2, (leadS (unlinkS S s) i).ss[i]? = some s2 ∧ pay s2 = pay s1 := by
    have := at_of_pay hpay2 i
    rw [hs1] at this
    exact Option.map_eq_some_iff.1 this
  have e2 : s2.k = k ∧ s2.m = s.m := by simp only [pay, Prod.mk.injEq] at hs4; exact ⟨hs4.1.trans e1.1, hs4.2.1.trans e1.2⟩
  have hperm : (keysE (leadS (unlinkS S s) i).ss (i :: (xs ++ ys))).Perm (keysE S.ss (xs ++ i :: ys)) := by
    rw [keysE_pay hpay2, keysE_pay hpay]
    exact (List.perm_middle.symm.map _)
  have hcl := fun w2 (h2 : Lr w2 g B Y (leadS (unlinkS S s) i) fr (keysE S.ss (xs ++ i :: ys)) (heldL L) budget) => clone_any w2 s2.m s2.A s2.c (h2.rows s2 (List.mem_of_getElem? hs3)).bs.bw
  obtain ⟨sb, hA, hBs, hlt, hne, hot, hcap⟩ := h.slotA (by have := (List.getElem?_eq_some_iff.1 hs).1; omega)
  rw [e1.1, e1.2] at ok2
  rw [e2.2] at hcl
  have hi2 : (i : Int) < (leadS (unlinkS S s) i).ss.length := by have := (List.getElem?_eq_some_iff.1 hs3).1; omega
  have HS3 := Lib.hid hs3
  have HE2 := Lib.hid e2.2
  have HU := Lib.hid hU
  have HL := Lib.hid hLd
  have HC := Lib.hid hcl
  have HP := Lib.hid hperm
  have HO := Lib.hid ok2
  have HF := Lib.hid hfind
  have HGT := Lib.hid hget
  have HHD := Lib.hid hheld
  have HA := Lib.hid hA
  have HK := Lib.hid hkp
  have hm0 : Blk (w.alloc (.cells #[.int .i64 k.g, .int .i64 k.p, .int .i64 k.x, .int .i64 k.y] 24)|>.alloc (.cells #[.int .i64 0, .int .i64 0, .int .i64 0, .int .i64 0, .slice none 0 0] 35)) (w.heap.size + 1) 35 [.int .i64 0, .int .i64 0, .int .i64 0, .int .i64 0, .slice none 0 0] := Blk.newAt _ _ [_, _, _, _, _] (by simp)
  have HM0 := Lib.hid hm0
  clear h ok hal hkp hs hsk hL hki hk1 hk2 hfind hget hheld ok1 hlen1 hpay hs1 hs2 hU hni e1 ok2 hlen2 hLd hpay2 hs3 hs4 e2 hperm hcl hA hne hot hcap hBs hm hB hm0
  generalize leadS (unlinkS S s) i = S2 at *
  generalize unlinkS S s = S1 at *
  go_enter Try.func14, Try.ntmps14
  go_wp2_with fail
  go_quiet (fail)
  go_wp2_with (first
      | (go_at_call 32; (with_reducible refine (HU.out _).mono ?_); rintro e w1 ⟨rfl, h1, k1⟩; have H1 := Lib.hid h1; have K1 := Lib.hid k1; clear h1 k1)
      | (go_at_call 30; (with_reducible refine (HL.out _ H1.out).mono ?_); rintro e w2 ⟨rfl, h2, k2⟩
         have c4 : w2.cell? ⟨sb, i * 11 + 4, none⟩ = some (.int .i64 s2.m.box.a) := h2.cell HA.out HS3.out rfl
         have c5 : w2.cell? ⟨sb, i * 11 + 5, none⟩ = some (.int .i64 s2.m.box.b) := h2.cell HA.out HS3.out rfl
         have c6 : w2.cell? ⟨sb, i * 11 + 6, none⟩ = some (.int .i64 s2.m.box.c) := h2.cell HA.out HS3.out rfl
         have c7 : w2.cell? ⟨sb, i * 11 + 7, none⟩ = some (.int .i64 s2.m.box.d) := h2.cell HA.out HS3.out rfl
         have c8 : w2.cell? ⟨sb, i * 11 + 8, none⟩ = some (.slice s2.A s2.m.bs.length s2.c) := h2.cell HA.out HS3.out rfl
         rw [HE2.out] at c4 c5 c6 c7 c8
         have g0 : w2.cell? ⟨g, 0, none⟩ = some (.slice (some ⟨sb, 0, none⟩) S2.ss.length Y.c) := by rw [h2.blk.cell 0, HA.out]; rfl
         have H2 := Lib.hid h2
         have K2 := Lib.hid k2
         clear h2 k2)
      | (go_at_call 29; (with_reducible refine (HC.out _ H2.out).mono ?_); rintro e w3 ⟨A3, c3, rfl, hb3, hw3, hr3⟩
         have hm1 := K1.out.blk (HM0.out.drewN nq) (by decide)
         have hm2 := K2.out.blk hm1 (by decide)
         have hm3 := hm2.keepB hw3
         have hz1 := hm1.lt
         have r0 : w3.cell? ⟨w.heap.size + 1, 0, none⟩ = some (.int .i64 0) := hm3.cell 0
         have r1 : w3.cell? ⟨w.heap.size + 1, 1, none⟩ = some (.int .i64 0) := hm3.cell 1
         have r2 : w3.cell? ⟨w.heap.size + 1, 2, none⟩ = some (.int .i64 0) := hm3.cell 2
         have r3 : w3.cell? ⟨w.heap.size + 1, 3, none⟩ = some (.int .i64 0) := hm3.cell 3
         have r4 : w3.cell? ⟨w.heap.size + 1, 4, none⟩ = some (.slice none 0 0) := hm3.cell 4
         have q0 := hm3.frozen 0
         have q1 := hm3.frozen 1
         have q2 := hm3.frozen 2
         have q3 := hm3.frozen 3
         have q4 := hm3.frozen 4
         have HM3 := Lib.hid hm3
         have HR3 := Lib.hid hr3
         have HZ := Lib.hid (Nat.lt_of_lt_of_le hm2.lt (Nat.le_refl _))
         have HB3 := Lib.hid hb3
         have HW3 := Lib.hid hw3
         clear hb3 hw3 hr3 hm1 hm2 hm3))
  refine bodyPost_ret (v := .tuple #[mv s.m A3 c3, .bool true]) (by simp [results, Try.results14, go_sem, mv, *]) rfl ?_
  unfold GetR
  rw [HF.out]
  have hne : rowOf A3 ≠ some (w.heap.size + 1) := fun e => by have := HR3.out _ e; have := HZ.out; omega
  have h3 := (H2.out.keep HW3.out).maskW HM3.out s.m A3 c3
  have hfin : LruH (maskW w3 (w.heap.size + 1) s.m A3 c3) g B (heldL (getL k L)) budget (getL k L) := by
    rw [HHD.out, HGT.out]
    exact LruH.of (h3.permE HP.out) HO.out
  exact ⟨A3, c3, rfl, HB3.out.maskW hne s.m A3 c3, hfin, ((((HK.out.drewN nq).trans K1.out).trans K2.out).below HW3.out).maskW (by omega) s.m A3 c3⟩
theorem Get_nil (k : K4) : Calls Try.prog 14 #[.pointer none, .agg #[.int .i64 k.g, .int .i64 k.p, .int .i64 k.x, .int .i64 k.y]] w fun e w' => e = .returned (.tuple #[mv zMs none 0, .bool false]) ∧ Below w.heap.size w w' := by
  go_enter Try.func14, Try.ntmps14
  go_wp2_with fail
  refine bodyPost_ret (v := .tuple #[mv zMs none 0, .bool false]) (by simp [results, Try.results14, go_sem, mv, zMs, zBq, *]) rfl ⟨rfl, Bel.below ?_⟩
  repeat (first | with_reducible exact bel_refl | with_reducible apply bel_alloc | with_reducible apply bel_drewN | with_reducible apply bel_drew | (with_reducible refine bel_set ?_ ?_; rotate_left; · first | (simp; done) | (simp; omega) | omega) | with_reducible refine bel_call (by assumption) ?_)
end
end Go.Proofs.Ytakgeeopfclmoaa
