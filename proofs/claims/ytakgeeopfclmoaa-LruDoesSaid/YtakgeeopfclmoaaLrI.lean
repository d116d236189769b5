/-
  Layer 25: a slot is removed.
-/
import Derived.Test.YtakgeeopfclmoaaLrH
import Derived.Deep.DeepCutAuto
namespace Go.Proofs.Ytakgeeopfclmoaa
open Go.RowKit Go.Maps

section
variable {B : Bz} {g : Nat} {w w' : World} {Y : Lay} {S : Lk} {fr : List Nat} {E : List (K4 × Nat)} {held budget : Int}
theorem Lr.growG (h : Lr w g B Y S fr E held budget) (hgrow : w.grownBy w' (rowOf Y.Af)) : w'.heap[g]? = w.heap[g]? := by
  refine hgrow.block g h.blk.lt fun e => ?_
  obtain ⟨cs, hc⟩ := own_typed' h.free g (by rw [ownBlock_slice]; exact e.symm)
  have h6 := h.blk
  unfold Blk at h6
  rw [h6] at hc
  injection hc with hc
  injection hc with _ hc _
  revert hc
  decide
theorem Lr.rowF (h : Lr w g B Y S fr E held budget) : ∀ k, rowOf Y.Af = some k → B ≤ k ∧ hot w k := fun k hk => hot_own h.free (.inr (.inr rfl)) k (by rw [ownBlock_slice]; exact hk)
theorem Ok.pend_not {S : Lk} {l fr : List Nat} {i : Nat} {L : List En} (h : Ok S l fr [i] L) : i ∉ l := fun hm => by
  have := (List.nodup_append.1 h.nodup).2.2 i (by simp [hm]) i (by simp)
  exact this rfl
end
section
variable {B : Bz} {g : Nat} {w w' : World} {Y : Lay} {S : Lk} {fr : List Nat} {E : List (K4 × Nat)} {held budget : Int}
set_option maxRecDepth 20000 in
set_option maxHeartbeats 4000000 in
theorem remove_any {xs ys : List Nat} {i : Nat} {s : Sl} {L : List En} (h : Lr w g B Y S fr (keysE S.ss (xs ++ i :: ys)) held budget) (ok : Ok S (xs ++ i :: ys) fr [] L) (hs : S.ss[i]? = some s) (hlo : -4611686018427387904 ≤ held) (hhi : held ≤ 4611686018427387904) :
    Calls Try.prog 33 #[.pointer (some ⟨g, 0, none⟩), .int .i64 i] w fun e w' => e = .returned (.tuple #[]) ∧ LruH w' g B (held - costM s.m) budget (ents S.ss xs ++ ents S.ss ys) ∧ KeepT B w w' := by
  have hi := (List.getElem?_eq_some_iff.1 hs).1
  obtain ⟨sb, hA, hB, hlt, hne, hot, hcap⟩ := h.slotA (by omega)
  obtain ⟨ok1, hlen1, hL⟩ := ok_unlink ok hs
  have hpay := pay_unlink S s
  obtain ⟨s1, hs1, hs2⟩ : ∃ s1, (unlinkS S s).ss[i]? = some s1 ∧ pay s1 = pay s := by
    have := at_of_pay hpay i
    rw [hs] at this
    exact Option.map_eq_some_iff.1 this
  have hE : keysE (unlinkS S s).ss (xs ++ i :: ys) = keysE S.ss (xs ++ i :: ys) := keysE_pay hpay _
  have he1 : ents (unlinkS S s).ss xs ++ ents (unlinkS S s).ss ys = ents S.ss xs ++ ents S.ss ys := by rw [ents_pay hpay, ents_pay hpay]
  have hU := unlink_any h ok.link hs
  have hb1 := (h.rows s (List.mem_of_getElem? hs)).bs.small
  have hc1 : costM s.m = 64 + (s1.m.bs.length : Int) := by
    simp only [pay, Prod.mk.injEq] at hs2
    rw [hs2.2.1]; rfl
  have hb2 : s1.m.bs.length ≤ 140737488355328 := by
    simp only [pay, Prod.mk.injEq] at hs2
    rw [hs2.2.1]; exact hb1
  have hi1 : (i : Int) < (unlinkS S s).ss.length := by omega
  rw [← hE] at hU
  have HH := Lib.hid hU
  have HC := Lib.hid hc1
  have HS1 := Lib.hid hs1
  have HO := Lib.hid ok1
  have HE1 := Lib.hid he1
  have HA := Lib.hid hA
  have HT := Lib.hid hot
  have HG := Lib.hid h.hotg
  have HM := Lib.hid (hot_map h.map)
  have HF := Lib.hid h.rowF
  obtain ⟨i0, hi0, hz0, hz1, hz2⟩ := info_parts int_info
  have hfl : fr.length ≤ 262145 := by have := ok.len; have := ok.small; omega
  have hw : IntKind.i64.wrap (held - (64 + (s1.m.bs.length : Int))) = held - (64 + (s1.m.bs.length : Int)) := IntWalk.i64_in _ (by omega)
  clear h ok hs hL hpay hs1 hs2 hE he1 hU hb1 hc1 hA hot ok1 hlen1
  generalize unlinkS S s = S1 at *
  go_enter Try.func33, Try.ntmps33
  go_upto_region 1 with (first
      | (go_at_call 32; (with_reducible refine HH.out.mono ?_); rintro e w1 ⟨rfl, h1, k1⟩
         have c0 : w1.cell? ⟨sb, i * 11, none⟩ = some (.int .i64 s1.k.g) := h1.cell (j := 0) HA.out HS1.out rfl
         have c1 : w1.cell? ⟨sb, i * 11 + 1, none⟩ = some (.int .i64 s1.k.p) := h1.cell (j := 1) HA.out HS1.out rfl
         have c2 : w1.cell? ⟨sb, i * 11 + 2, none⟩ = some (.int .i64 s1.k.x) := h1.cell (j := 2) HA.out HS1.out rfl
         have c3 : w1.cell? ⟨sb, i * 11 + 3, none⟩ = some (.int .i64 s1.k.y) := h1.cell (j := 3) HA.out HS1.out rfl
         have c4 : w1.cell? ⟨sb, i * 11 + 4, none⟩ = some (.int .i64 s1.m.box.a) := h1.cell (j := 4) HA.out HS1.out rfl
         have c5 : w1.cell? ⟨sb, i * 11 + 5, none⟩ = some (.int .i64 s1.m.box.b) := h1.cell (j := 5) HA.out HS1.out rfl
         have c6 : w1.cell? ⟨sb, i * 11 + 6, none⟩ = some (.int .i64 s1.m.box.c) := h1.cell (j := 6) HA.out HS1.out rfl
         have c7 : w1.cell? ⟨sb, i * 11 + 7, none⟩ = some (.int .i64 s1.m.box.d) := h1.cell (j := 7) HA.out HS1.out rfl
         have c8 : w1.cell? ⟨sb, i * 11 + 8, none⟩ = some (.slice s1.A s1.m.bs.length s1.c) := h1.cell (j := 8) HA.out HS1.out rfl
         have c9 : w1.cell? ⟨sb, i * 11 + 9, none⟩ = some (.int .i64 s1.ahead) := h1.cell (j := 9) HA.out HS1.out rfl
         have c10 : w1.cell? ⟨sb, i * 11 + 10, none⟩ = some (.int .i64 s1.next) := h1.cell (j := 10) HA.out HS1.out rfl
         have g0 : w1.cell? ⟨g, 0, none⟩ = some (.slice (some ⟨sb, 0, none⟩) S1.ss.length Y.c) := by rw [h1.blk.cell 0, HA.out]; rfl
         have g5 : w1.cell? ⟨g, 5, none⟩ = some (.int .i64 held) := by rw [h1.blk.cell 5]; rfl
         have f5 := h1.blk.frozen 5
         have hgl := h1.blk.lt
         have hsl : sb < w1.heap.size := Nat.lt_of_lt_of_le hlt k1.size
         have H1 := Lib.hid h1
         have K1 := Lib.hid k1
         clear h1 k1))
  refine wp_region_bw_tail 14 (by kernel_rfl) (by kernel_rfl) ?_
  simp only [List.take_succ_cons, List.take_zero, List.drop_succ_cons, List.drop_zero]
  repeat (go_big_quiet_step ((first | (go_at_call 27; exact Calls.bw_of (cost_any _ _ _ _ _ _ _ hb2 _)))))
  refine wpQuiet_nil ?_
  rintro _ ⟨u, rfl⟩
  have hbu := u.prop
  have hzu := u.prop.size
  try simp at hzu
  go_upto_region 2 with fail
  have h2 := (H1.out.keep hbu).setG (S' := S1) 5 (.int .i64 (held - (64 + (s1.m.bs.length : Int)))) (held' := held - (64 + (s1.m.bs.length : Int))) (budget' := budget) rfl rfl
  have k2 := (K1.out.below hbu).set (p := ⟨g, 5, none⟩) H1.out.base.1 HG.out (.int .i64 (held - (64 + (s1.m.bs.length : Int))))
  clear c0 c1 c2 c3 c4 c5 c6 c7 c8 c9 c10 g0 g5 f5 hbu hzu
  generalize (u.val.setCell _ _) = w2 at h2 k2 ⊢
  have c0 : w2.cell? ⟨sb, i * 11, none⟩ = some (.int .i64 s1.k.g) := h2.cell (j := 0) HA.out HS1.out rfl
  have c1 : w2.cell? ⟨sb, i * 11 + 1, none⟩ = some (.int .i64 s1.k.p) := h2.cell (j := 1) HA.out HS1.out rfl
  have c2 : w2.cell? ⟨sb, i * 11 + 2, none⟩ = some (.int .i64 s1.k.x) := h2.cell (j := 2) HA.out HS1.out rfl
  have c3 : w2.cell? ⟨sb, i * 11 + 3, none⟩ = some (.int .i64 s1.k.y) := h2.cell (j := 3) HA.out HS1.out rfl
  have g0 : w2.cell? ⟨g, 0, none⟩ = some (.slice (some ⟨sb, 0, none⟩) S1.ss.length Y.c) := by rw [h2.blk.cell 0, HA.out]; rfl
  have g1 : w2.cell? ⟨g, 1, none⟩ = some (.map (some Y.mb)) := by rw [h2.blk.cell 1]; rfl
  have hkw : keyOf Try.prog 24 (kv s1.k) = some (klit s1.k) := keyOf_kv _ (h2.mok.wf (s1.k, i) (by simp [keysE, entAt_some HS1.out]))
  have hE2 : keysE S1.ss (xs ++ i :: ys) = keysE S1.ss xs ++ (s1.k, i) :: keysE S1.ss ys := by simp [keysE, entAt_some HS1.out]
  have H2 := Lib.hid h2
  have K2 := Lib.hid k2
  have HE2 := Lib.hid hE2
  have HKW := Lib.hid hkw
  clear h2 k2 hkw hE2
  refine wp_region_drew_tail 12 (by kernel_rfl) (by kernel_rfl) ?_
  simp only [List.take_succ_cons, List.take_zero, List.drop_succ_cons, List.drop_zero]
  repeat (go_big_quiet_step (fail))
  refine wpQuiet_nil ?_
  rintro _ ⟨nq, rfl⟩
  go_upto_region 3 with (first
    | (at_delete; refine wpList_delete_own _ rfl _ _ 63 24 rfl 3 key_law Try.underlying63 _ Y.mb _ _ rfl (H2.out.drewN nq).map (kv s1.k) (klit s1.k) rfl HKW.out ?_; intro w3 hown3 hturn3
       have hE3 : keysE S1.ss xs ++ keysE S1.ss ys = keysE S1.ss (xs ++ ys) := by simp [keysE]
       have hgr := hturn3.grown
       have h3 : Lr w3 g B Y S1 fr (keysE S1.ss (xs ++ ys)) (held - (64 + (s1.m.bs.length : Int))) budget := by
         have hmk := H2.out.mok
         rw [HE2.out] at hown3 hmk
         rw [mapD_del hmk, hE3] at hown3
         have hmk2 : MapOk (keysE S1.ss (xs ++ ys)) := by
           rw [← hE3]
           refine ⟨fun p hp => hmk.wf p ?_, ?_, fun p hp => hmk.small p ?_⟩
           · rcases List.mem_append.1 hp with h | h <;> simp [h]
           · have := hmk.nodup
             rw [List.map_append, List.map_cons] at this
             rw [List.map_append]
             exact (List.nodup_cons.1 ((List.perm_middle).nodup_iff.1 this)).2
           · rcases List.mem_append.1 hp with h | h <;> simp [h]
         exact (H2.out.drewN nq).setMap hmk2 (ownsMap_exact hown3 (mapD_size _)) hgr.size fun k hk hne => hgr.block k hk (by simpa using hne)
       have k3 := (K2.out.drewN nq).grown hgr (fun k hk => by injection hk with hk; subst hk; exact ⟨H2.out.base.2, HM.out⟩)
       have g0 : w3.cell? ⟨g, 0, none⟩ = some (.slice (some ⟨sb, 0, none⟩) S1.ss.length Y.c) := by rw [h3.blk.cell 0, HA.out]; rfl
       have g4 : w3.cell? ⟨g, 4, none⟩ = some (.slice Y.Af fr.length Y.cf) := by rw [h3.blk.cell 4]; rfl
       have fg4 := h3.blk.frozen 4
       have c0 : w3.cell? ⟨sb, i * 11, none⟩ = some (.int .i64 s1.k.g) := h3.cell (j := 0) HA.out HS1.out rfl
       have f0 := h3.frz HA.out (i * 11)
       have c1 : w3.cell? ⟨sb, i * 11 + 1, none⟩ = some (.int .i64 s1.k.p) := h3.cell (j := 1) HA.out HS1.out rfl
       have f1 := h3.frz HA.out (i * 11 + 1)
       have c2 : w3.cell? ⟨sb, i * 11 + 2, none⟩ = some (.int .i64 s1.k.x) := h3.cell (j := 2) HA.out HS1.out rfl
       have f2 := h3.frz HA.out (i * 11 + 2)
       have c3 : w3.cell? ⟨sb, i * 11 + 3, none⟩ = some (.int .i64 s1.k.y) := h3.cell (j := 3) HA.out HS1.out rfl
       have f3 := h3.frz HA.out (i * 11 + 3)
       have c4 : w3.cell? ⟨sb, i * 11 + 4, none⟩ = some (.int .i64 s1.m.box.a) := h3.cell (j := 4) HA.out HS1.out rfl
       have f4 := h3.frz HA.out (i * 11 + 4)
       have c5 : w3.cell? ⟨sb, i * 11 + 5, none⟩ = some (.int .i64 s1.m.box.b) := h3.cell (j := 5) HA.out HS1.out rfl
       have f5 := h3.frz HA.out (i * 11 + 5)
       have c6 : w3.cell? ⟨sb, i * 11 + 6, none⟩ = some (.int .i64 s1.m.box.c) := h3.cell (j := 6) HA.out HS1.out rfl
       have f6 := h3.frz HA.out (i * 11 + 6)
       have c7 : w3.cell? ⟨sb, i * 11 + 7, none⟩ = some (.int .i64 s1.m.box.d) := h3.cell (j := 7) HA.out HS1.out rfl
       have f7 := h3.frz HA.out (i * 11 + 7)
       have c8 : w3.cell? ⟨sb, i * 11 + 8, none⟩ = some (.slice s1.A s1.m.bs.length s1.c) := h3.cell (j := 8) HA.out HS1.out rfl
       have f8 := h3.frz HA.out (i * 11 + 8)
       have c9 : w3.cell? ⟨sb, i * 11 + 9, none⟩ = some (.int .i64 s1.ahead) := h3.cell (j := 9) HA.out HS1.out rfl
       have f9 := h3.frz HA.out (i * 11 + 9)
       have c10 : w3.cell? ⟨sb, i * 11 + 10, none⟩ = some (.int .i64 s1.next) := h3.cell (j := 10) HA.out HS1.out rfl
       have f10 := h3.frz HA.out (i * 11 + 10)
       have H3 := Lib.hid h3
       have K3 := Lib.hid k3
       clear h3 k3 hgr hown3 hturn3 hE3))
  go_upto_region 4 with fail
  have hiN : i < S1.ss.length := by omega
  have h4 := H3.out.wipe HA.out hiN
  have k4 := K3.out.wipe hB HT.out i
  simp only [wipeW, boxW, keyW, zK4, zBq, Nat.add_zero] at h4 k4
  clear c0 c1 c2 c3 c4 c5 c6 c7 c8 c9 c10 g0 g4 fg4 f0 f1 f2 f3 f4 f5 f6 f7 f8 f9 f10
  generalize (World.setCell (World.setCell _ _ _) ⟨sb, i * 11 + 10, none⟩ _) = w4 at h4 k4 ⊢
  have g4 : w4.cell? ⟨g, 4, none⟩ = some (.slice Y.Af fr.length Y.cf) := by rw [h4.blk.cell 4]; rfl
  have hgl4 := h4.blk.lt
  have H4 := Lib.hid (h4.alloc (.cells #[.int .i64 i] 3))
  have K4 := Lib.hid (k4.alloc (.cells #[.int .i64 i] 3))
  clear h4 k4
  go_wp2_with (first
    | (at_builtin; refine wpList_append_any _ (by rfl) (.tmp 46) (.tmp 48) _ (by rfl) B 3 i0 _ 1 8 Try.underlying65 hi0 hz0 hz1 hz2 rfl (by omega) _ fr.length _ (by rfl) H4.out.free _ _ 1 _ [.int .i64 i] (by rfl) (slat_int w4 i).reads (by intro u hu; simp at hu; subst hu; rfl) (by unfold maxLen; omega) (by omega) (Nat.le_trans H4.out.base.1 (Nat.le_of_lt H4.out.blk.lt)) ?_; intro v' w5 hown5 hgrow5 hat5
       obtain ⟨A5, c5, rfl, _, _, _⟩ := of_ownC hown5
       rw [ownBlock_slice] at hgrow5
       have hgb := H4.out.blk
       have g45 : w5.cell? ⟨g, 4, none⟩ = some (.slice Y.Af fr.length Y.cf) := by
         rw [World.cell?_of_block (w := w4.alloc (.cells #[.int .i64 i] 3)) (H4.out.growG hgrow5), hgb.cell 4]; rfl
       have f45 : w5.frozen? ⟨g, 4, none⟩ = false := by
         rw [World.frozen?_of_block (w := w4.alloc (.cells #[.int .i64 i] 3)) (H4.out.growG hgrow5)]; exact hgb.frozen 4
       have HW := Lib.hid hown5
       have HR := Lib.hid hgrow5
       clear hown5 hgrow5 hat5 hgb))
  go_end0
  have e1 : fr.length + 1 = (fr ++ [i]).length := by simp
  have hown6 := HW.out
  rw [e1, show (fr.map fun i : Nat => Value.int .i64 (i : Int)) ++ [.int .i64 (i : Int)] = (fr ++ [i]).map fun i : Nat => Value.int .i64 (i : Int) by simp] at hown6
  rw [e1, HC.out]
  have hni := HO.out.pend_not
  have hf := (H4.out.setFree hown6 HR.out).1
  have hk2 : keysE (S1.ss.modify i fun _ => zSl) (xs ++ ys) = keysE S1.ss (xs ++ ys) := keysE_ne hni
  rw [← hk2] at hf
  exact ⟨rfl, ⟨_, _, _, _, hf, ok_free HO.out⟩, (K4.out.grown HR.out HF.out).set (p := ⟨g, 4, none⟩) H4.out.base.1 HG.out _⟩
end
end Go.Proofs.Ytakgeeopfclmoaa
