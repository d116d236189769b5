/-
  Layer 22: All: the cells in which something was left, one by one.
-/
import Derived.Test.YtbjggiihbdhmbaaCoL
import Derived.Test.YtbjggiihbdhmbaaDotE

namespace Go.Proofs.Ytbjggiihbdhmbaa
open Go.RowKit Go.Shelf

attribute [local go_sem] Oper.semAt_some
def clAt (b : B4) (cs : List Ce) (i : Nat) : Option Cl := if cs.getD i (0, 0) = (0, 0) then none else some ⟨b.x0 + (i : Int) % widB b, b.y0 + (i : Int) / widB b, (cs.getD i (0, 0)).1, (cs.getD i (0, 0)).2⟩
def cellsN (b : B4) (cs : List Ce) (n : Nat) : List Cl := (List.range n).filterMap (clAt b cs)
theorem cellsN_succ (b : B4) (cs : List Ce) (n : Nat) : cellsN b cs (n + 1) = cellsN b cs n ++ (clAt b cs n).toList := by
  unfold cellsN
  rw [List.range_succ, List.filterMap_append]
  cases h : clAt b cs n <;> simp [List.filterMap, h]
theorem cellsN_pre (b : B4) (cs : List Ce) {n m : Nat} (h : n ≤ m) : cellsN b cs n <+: cellsN b cs m := by
  obtain ⟨k, rfl⟩ : ∃ k, m = n + k := ⟨m - n, by omega⟩
  induction k with
  | zero => exact List.prefix_refl _
  | succ k ih => rw [← Nat.add_assoc, cellsN_succ]; exact (ih (by omega)).trans (List.prefix_append _ _)
theorem cellsN_len (b : B4) (cs : List Ce) (n : Nat) : (cellsN b cs n).length ≤ n := by
  have := List.length_filterMap_le (clAt b cs) (List.range n)
  simpa [cellsN] using this
def cellsA (b : B4) (cs : List Ce) : List Cl := cellsN b cs cs.length
theorem eqIn_ce (w : World) (k : Nat) (a b a' b' : Int) : (Op.equalIn (k + 2) 79 (.agg #[.int .i64 a, .int .i64 b]) (.agg #[.int .i64 a', .int .i64 b'])).run Try.prog w = .ok (dotEq a b a' b') w := by
  unfold dotEq
  by_cases h1 : a = a'
  · by_cases h2 : b = b' <;> simp [go_sem, h1, h2]
  · simp [go_sem, h1]
@[go_sem ↓] theorem eql_ce (w : World) (a b a' b' : Int) : (binOp .eql 79 (.agg #[.int .i64 a, .int .i64 b]) (.agg #[.int .i64 a', .int .i64 b'])).run Try.prog w = .ok (.bool (dotEq a b a' b')) w := by
  simp only [binOp]
  simp [Op.equal, Op.maxDepth, eqIn_ce w 9998]
def AllI (J : List Cl → World → Prop) (N g k pb : Nat) (b : B4) (cs : List Ce) (r : Nat) (s12 : Value) (W : World) : Prop :=
  ∃ j : Nat, s12 = .int .i64 j ∧ j ≤ cs.length ∧ cs.length - j = r ∧ J (cellsN b cs j) W ∧ Cc W g k b cs ∧ Blk W pb 25 [.pointer (some ⟨g, 0, none⟩)] ∧ N ≤ W.heap.size
set_option maxRecDepth 20000 in
set_option maxHeartbeats 4000000 in
theorem all_gives {u : World} {g k pb : Nat} {b : B4} {cs : List Ce} (n : Nat) (h : Cc u g k b cs) (hp : Blk u pb 25 [.pointer (some ⟨g, 0, none⟩)])
    {Kp : World → World → Prop} (hKp : ∀ {A B : World}, Kp A B → A.heap.size ≤ B.heap.size ∧ ∀ i t xs, (i = g ∨ i = k ∨ i = pb) → Blk A i t xs → Blk B i t xs) :
    GivesB n Try.prog 41 #[.pointer (some ⟨pb, 0, none⟩)] clV Kp (fun pre x => pre ++ [x] <+: cellsA b cs) (fun xs => xs = cellsA b cs) (fun _ => True) u := by
  intro l J Jx W hW hJ hJx hY h0
  have h' := h.keepB hW
  have hp' := hp.keepB hW
  have HJ := Lib.hid hJ
  have HY := Lib.hid hY
  have hst : AllI J W.heap.size g k pb b cs cs.length (.int .i64 0) W := ⟨0, rfl, Nat.zero_le _, rfl, h0, h', hp', Nat.le_refl _⟩
  have HST := Lib.hid hst
  have c0 : W.cell? ⟨pb, 0, none⟩ = some (.pointer (some ⟨g, 0, none⟩)) := hp'.cell 0
  have c1 : W.cell? ⟨g, 5, none⟩ = some (.slice (some ⟨k, 0, none⟩) cs.length cs.length) := h'.blk.cell 5
  have hbd := h.bd
  have hwd := h.box.wid
  have hbx := h.box
  obtain ⟨bx0, bx1, bx, by0, by1, byy, -⟩ := hbx
  clear h hp hW hJ hJx hY hst h0 h' hp'
  refine callsIn_of_wp Try.func41 rfl trivial ?_ rfl
  simp only [Try.ntmps41, List.size_toArray, List.length_cons, List.length_nil, Nat.reduceAdd, Nat.reduceSub, Array.replicate_succ, Array.replicate_zero, List.push_toArray, List.append_toArray, List.nil_append, List.cons_append]
  gi_wp2_with fail
  clear c0 c1
  gi_loopg [12] (cs.length) (fun r s12 wr => AllI J W.heap.size g k pb b cs r s12 wr)
  case atStart => exact HST.out
  case round =>
    obtain ⟨j, rfl, hj, hr, hJ1, hcc, hpb, hN⟩ := hrel
    have HJ1 := Lib.hid hJ1
    have HCC := Lib.hid hcc
    have HPB := Lib.hid hpb
    have HR := Lib.hid hr
    have c0 : wr.cell? ⟨pb, 0, none⟩ = some (.pointer (some ⟨g, 0, none⟩)) := hpb.cell 0
    have c1 : wr.cell? ⟨g, 0, none⟩ = some (.int .i64 b.x0) := hcc.blk.cell 0
    have c2 : wr.cell? ⟨g, 1, none⟩ = some (.int .i64 b.y0) := hcc.blk.cell 1
    have c3 : wr.cell? ⟨g, 4, none⟩ = some (.int .i64 (widB b)) := hcc.blk.cell 4
    have pl := hpb.lt
    have gl := hcc.blk.lt
    have kl := hcc.row.lt
    by_cases hlt : j < cs.length
    · obtain ⟨c, hc⟩ : ∃ c, cs[j]? = some c := ⟨_, List.getElem?_eq_getElem hlt⟩
      have hgd : cs.getD j (0, 0) = c := by simp [List.getD, hc]
      have q0 : wr.cell? ⟨k, j * 2, none⟩ = some (.int .i64 c.1) := (hcc.row.cell (j * 2)).trans (cvs_at cs j c hc).1
      have q1 : wr.cell? ⟨k, j * 2 + 1, none⟩ = some (.int .i64 c.2) := (hcc.row.cell (j * 2 + 1)).trans (cvs_at cs j c hc).2
      obtain ⟨cc, ca⟩ := c
      dsimp only at q0 q1
      have hsucc := cellsN_succ b cs j
      obtain ⟨mi, hmi⟩ : ∃ mi, (j : Int) % widB b = mi := ⟨_, rfl⟩
      obtain ⟨di, hdi⟩ : ∃ di, (j : Int) / widB b = di := ⟨_, rfl⟩
      have hclA : clAt b cs j = if (cc, ca) = ((0, 0) : Ce) then none else some ⟨b.x0 + mi, b.y0 + di, cc, ca⟩ := by unfold clAt; rw [hgd, hmi, hdi]
      have hmi0 : 0 ≤ mi ∧ mi < 32769 := by
        have h1 := Int.emod_nonneg (j : Int) (show widB b ≠ 0 by omega)
        have h2 := Int.emod_lt_of_pos (j : Int) (show 0 < widB b by omega)
        omega
      have hdi0 : 0 ≤ di ∧ di ≤ 4227072 := by
        have h1 := Int.ediv_nonneg (show (0 : Int) ≤ (j : Int) by omega) (show 0 ≤ widB b by omega)
        have h2 := Int.ediv_le_self (a := (j : Int)) (widB b) (by omega)
        omega
      have t1 : (j : Int).tmod (widB b) = mi := by rw [Int.tmod_eq_emod_of_nonneg (by omega)]; exact hmi
      have t2 : (j : Int).tdiv (widB b) = di := by rw [Int.tdiv_eq_ediv_of_nonneg (by omega)]; exact hdi
      have t3 : IntKind.i64.wrap (b.x0 + mi) = b.x0 + mi := IntWalk.i64_in _ (by omega)
      have t4 : IntKind.i64.wrap (b.y0 + di) = b.y0 + di := IntWalk.i64_in _ (by omega)
      have t5 : IntKind.i64.wrap di = di := IntWalk.i64_in _ (by omega)
      have t6 : (widB b == 0) = false := by simp; omega
      have t7 : widB b ≠ 0 := by omega
      have hpre := cellsN_pre b cs (show j + 1 ≤ cs.length by omega)
      have HPRE := Lib.hid hpre
      have HSU := Lib.hid hsucc
      have HTT := Lib.hid (And.intro t1 (And.intro t2 (And.intro t3 (And.intro t4 (And.intro t5 t6)))))
      obtain ⟨wd, hwde⟩ : ∃ wd, widB b = wd := ⟨_, rfl⟩
      rw [hwde] at c3 HTT t7
      clear hJ1 hcc hpb hr hc hgd hmi hdi hpre hsucc t1 t2 t3 t4 t5 t6 hwde
      by_cases hz : (cc, ca) = ((0, 0) : Ce)
      · have hnone : clAt b cs j = none := by rw [hclA, if_pos hz]
        obtain ⟨rfl, rfl⟩ : cc = 0 ∧ ca = 0 := by injection hz with h1 h2; exact ⟨h1, h2⟩
        have HNO := Lib.hid hnone
        clear hclA hz hnone
        gi_wp2_with fail
        gi_roundg (cs.length - (j + 1))
        case rel =>
          refine ⟨j + 1, by go_num, by omega, rfl, ?_, HCC.out.keepB (bel_alloc bel_refl).below, HPB.out.alloc _, by simp; omega⟩
          rw [HSU.out, HNO.out]
          simp only [Option.toList, List.append_nil]
          exact HJ.out _ _ _ HJ1.out ((bel_alloc bel_refl).below.mono hN)
        case measure => have := HR.out; omega
      · have hsome : clAt b cs j = some ⟨b.x0 + mi, b.y0 + di, cc, ca⟩ := by rw [hclA, if_neg hz]
        have hne : dotEq cc ca 0 0 = false := by
          cases he : dotEq cc ca 0 0 with
          | false => rfl
          | true => obtain ⟨rfl, rfl⟩ := dotEq_true.1 he; exact absurd rfl hz
        have HSO := Lib.hid hsome
        clear hclA hz hsome
        gi_upto_region 5 with fail
        obtain ⟨t1, t2, t3, t4, t5, t6⟩ := HTT.out
        refine wpIn_region_drew_tail 30 free_wide (by kernel_rfl) (by kernel_rfl) (by kernel_rfl) ?_
        simp only [List.take_succ_cons, List.take_zero, List.drop_succ_cons, List.drop_zero]
        repeat (go_big_quiet_step (fail))
        refine wpQuiet_nil ?_
        rintro _ ⟨nq2, rfl⟩
        obtain ⟨x, hxe⟩ : ∃ x : Cl, x = ⟨b.x0 + mi, b.y0 + di, cc, ca⟩ := ⟨_, rfl⟩
        have hpx : cellsN b cs (j + 1) = cellsN b cs j ++ [x] := by rw [HSU.out, HSO.out, hxe]; rfl
        have hpr : cellsN b cs j ++ [x] <+: cellsA b cs := by rw [← hpx]; exact HPRE.out
        have hcl : clV x = #[.agg #[.int .i64 (b.x0 + mi), .int .i64 (b.y0 + di), .int .i64 cc, .int .i64 ca]] := by rw [hxe]; rfl
        obtain ⟨W5, hW5⟩ : ∃ W5, (wr.alloc (.cells #[.int .i64 cc, .int .i64 ca] 79)).drewN nq2 = W5 := ⟨_, rfl⟩
        have hb5 : Below wr.heap.size wr W5 := by rw [← hW5]; exact (bel_drewN (bel_alloc bel_refl)).below
        have h5 : Blk W5 wr.heap.size 79 [.int .i64 cc, .int .i64 ca] := by rw [← hW5]; exact (Blk.new wr 79 [_, _]).drewN nq2
        rw [hW5]
        obtain ⟨fn, tmps, assign, body, hy, hR⟩ := HY.out (cellsN b cs j) x W5 (by have := hb5.size; omega) (HJ.out _ _ _ HJ1.out (hb5.mono hN)) hpr
        rw [hcl] at hy
        rw [← hpx] at hR
        have HRY := Lib.hid hR
        have HB5 := Lib.hid hb5
        clear hR t1 t2 t3 t4 t5 t6 hpx hpr hcl hW5 h5 hxe q0 q1 c0 c1 c2 c3
        gi_wp2
        refine ⟨fun he => (by cases he), HRY.out.mono ?_⟩
        rintro e W4 (⟨rfl, hJ4, hk4⟩ | ⟨rfl, hJx4⟩)
        · obtain ⟨hz4, hk4⟩ := hKp hk4
          have hc5 := HCC.out.keepB HB5.out
          have hfin : AllI J W.heap.size g k pb b cs (cs.length - (j + 1)) (.int .i64 ((j : Int) + 1)) W4 :=
            ⟨j + 1, by go_num, by omega, rfl, hJ4, ⟨hk4 g _ _ (.inl rfl) hc5.blk, hk4 k _ _ (.inr (.inl rfl)) hc5.row, hc5.len, hc5.box⟩, hk4 pb _ _ (.inr (.inr rfl)) (HPB.out.keepB HB5.out), by have := HB5.out.size; omega⟩
          have HFI := Lib.hid hfin
          clear hJ4 hk4 hc5 hfin hy
          gi_wp2
          gi_roundg (cs.length - (j + 1))
          case rel => exact HFI.out
          case measure => have := HR.out; omega
        · have HJ4 := Lib.hid hJx4
          clear hJx4 hy
          gi_wp2
          refine bodyPost_ret (results_none rfl _ _ _) rfl ?_
          exact ⟨⟨_, rfl⟩, .inr ⟨_, trivial, HJ4.out⟩⟩
    · have hje : j = cs.length := by omega
      have hfin : J (cellsA b cs) wr := by rw [hje] at hJ1; exact hJ1
      have HFI := Lib.hid hfin
      clear hJ1 hcc hpb hfin hje
      gi_wp2_with fail
      refine bodyPost_end (v := .tuple #[]) (by simp [results, Try.results41]) rfl ?_
      exact ⟨⟨_, rfl⟩, .inl ⟨_, rfl, HFI.out⟩⟩
end Go.Proofs.Ytbjggiihbdhmbaa
