/-
  Layer 15: the last entry with an operator.
-/
import Derived.Test.YtoofjkhigonppaaDcO
namespace Go.Proofs.Ytoofjkhigonppaa
open Go.RowKit Go.Shelf

/-- The last one with the operator. -/
def getV (es : List En) (op : Int) : Option En := es.reverse.find? (fun v => v.op == op)
def GetR (es : List En) (op : Int) (w : World) (e : Ending) (w' : World) : Prop :=
  (match getV es op with
    | some v => ∃ A c, e = .returned (.tuple #[.slice A v.xs.length c, .bool true]) ∧ SlAt w' A v.xs.length (v.xs.map (Value.int .i64))
    | none => e = .returned (.tuple #[.slice none 0 0, .bool false])) ∧ Below w.heap.size w w'
def GetI (es : List En) (op : Int) (N0 : Nat) (w0 : World) (pre : List (Nat × En)) (W : World) : Prop := (pre.map Prod.snd).find? (fun v => v.op == op) = none ∧ Below N0 w0 W
def GetX (es : List En) (op : Int) (r : Nat) (w0 : World) (c : Code) (_ : List (Nat × En)) (W : World) : Prop :=
  (∃ v A' c', (c = .ret ∧ getV es op = some v) ∧ Blk W (r + 1) 37 [.slice A' v.xs.length c'] ∧ Blk W (r + 2) 4 [.bool true] ∧ SlAt W A' v.xs.length (v.xs.map (Value.int .i64))) ∧ Below r w0 W
theorem blk_own2 {W W' : World} {row : Option Nat} {b : Nat} {t : TypeId} {cs : List Value} (h : Blk W b t cs) (hg : W.grownBy W' row) (hr : ∀ r, row = some r → ∃ o : Obj, W.heap[r]? = some o ∧ o.isCells = false) : Blk W' b t cs :=
  (hg.block b h.lt (fun e => by
    obtain ⟨o, h1, h2⟩ := hr b e.symm
    unfold Blk at h
    rw [h] at h1
    injection h1 with h1
    subst h1
    cases h2)).trans h
theorem slat_own {W W' : World} {row : Option Nat} {A : Option Addr} {n : Nat} {vs : List Value} (h : SlAt W A n vs) (hg : W.grownBy W' row) (hr : ∀ r, row = some r → ∃ o : Obj, W.heap[r]? = some o ∧ o.isCells = false) : SlAt W' A n vs := by
  refine ⟨h.1, fun k hk => ?_⟩
  obtain ⟨b, o, rfl, hb, hc⟩ := h.2 k hk
  refine ⟨b, o, rfl, Nat.lt_of_lt_of_le hb hg.size, ?_⟩
  rw [← hc]
  refine World.cell?_of_block (hg.block b hb (fun e => ?_))
  obtain ⟨q, h1, h2⟩ := hr b e.symm
  have hl : k < vs.length := by rw [h.1]; exact hk
  rw [List.getElem?_eq_getElem hl] at hc
  unfold World.cell? at hc
  rw [h1] at hc
  cases q <;> first | (cases h2; done) | (simp at hc; done)
theorem getI_own {es : List En} {op : Int} {N0 B : Nat} {w0 : World} (h1 : N0 ≤ w0.heap.size) (h2 : N0 ≤ B) : OwnFrom B (GetI es op N0 w0) := OwnFrom.and (ownFrom_pure _ _) (ownFrom_below h1 h2)
theorem getX_own {es : List En} {op : Int} {r B : Nat} {w0 : World} (h1 : r ≤ w0.heap.size) (h2 : r ≤ B) (c : Code) : OwnFrom B (GetX es op r w0 c) :=
  OwnFrom.and (fun _ _ _ _ hs hg hr => by
    obtain ⟨v, A', c', hp, hb1, hb2, hs⟩ := hs
    have hr' := fun r e => (hr r e).2
    exact ⟨v, A', c', hp, blk_own2 hb1 hg hr', blk_own2 hb2 hg hr', slat_own hs hg hr'⟩) (ownFrom_below h1 h2)
theorem find_end {es : List En} {op : Int} {pre : List (Nat × En)} {k : Nat} {v : En} (hv : es[k]? = some v) (hp : pre.map Prod.snd = (es.drop (k + 1)).reverse) (hn : (pre.map Prod.snd).find? (fun v => v.op == op) = none) (ho : v.op = op) : getV es op = some v := by
  unfold getV
  rw [show es.reverse = (es.drop k).reverse ++ (es.take k).reverse by rw [← List.reverse_append, List.take_append_drop], drop_last hv, ← hp, List.append_assoc, List.find?_append, hn]
  simp [ho]

theorem slat_far {W : World} {A : Option Addr} {n : Nat} {vs : List Value} {p : Addr} {v : Value} (h : SlAt W A n vs) (hA : ∀ k, rowOf A = some k → k ≠ p.block) : SlAt (W.setCell p v) A n vs := by
  refine ⟨h.1, fun k hk => ?_⟩
  obtain ⟨b, o, rfl, hb, hc⟩ := h.2 k hk
  exact ⟨b, o, rfl, by simpa using hb, (World.cell?_of_block (Below.heap_setCell _ _ _ _ (hA b rfl))).trans hc⟩

attribute [local go_sem] Oper.semAt_some

set_option maxRecDepth 100000 in
set_option maxHeartbeats 4000000 in
theorem get_any {w : World} {A : Option Addr} {n c : Nat} {es : List En} (op : Int) (h : EnL w A n es) (hn : n ≤ 4398046511104) :
    Calls Try.prog 19 #[.slice A n c, .int .i64 op] w (GetR es op w) := by
  have HL := Lib.hid h
  have HN := Lib.hid hn
  obtain ⟨W0, hW0⟩ : ∃ W0, ((w.alloc (.cells #[.int .i64 op] 3)).alloc (.cells #[.slice none 0 0] 37)).alloc (.cells #[.bool false] 4) = W0 := ⟨_, rfl⟩
  have HB0 : Hid (Bel w.heap.size w W0) := Lib.hid (by rw [← hW0]; exact bel_alloc (bel_alloc (bel_alloc bel_refl)))
  have HO0 : Hid (Blk W0 w.heap.size 3 [.int .i64 op]) := Lib.hid (by rw [← hW0]; exact ((Blk.new w _ _).alloc _).alloc _)
  have HR0 : Hid (Blk W0 (w.heap.size + 1) 37 [.slice none 0 0]) := Lib.hid (by rw [← hW0]; exact (Blk.newAt (n := w.heap.size + 1) _ _ [_] (by simp)).alloc _)
  have HS0 : Hid (Blk W0 (w.heap.size + 2) 4 [.bool false]) := Lib.hid (by rw [← hW0]; exact Blk.newAt (n := w.heap.size + 2) _ _ [_] (by simp))
  clear h
  refine (callsIn_wide (n := 5)).1 (callsIn_of_wp_marks Try.func19 rfl trivial ?_ rfl)
  simp only [Try.ntmps19, List.size_toArray, List.length_cons, List.length_nil, Nat.reduceAdd, Nat.reduceSub, Array.replicate_succ, Array.replicate_zero, List.push_toArray, List.append_toArray, List.nil_append, List.cons_append]
  refine wpIn_wide.2 ?_
  go_wp2_with (first | (go_at_call 36; (with_reducible refine (backward_any _ _ _ _).mono ?_); rintro e w1 ⟨rfl, rfl⟩) | fail)
  obtain ⟨W1, hW1⟩ : ∃ W1, W0.alloc (.cells #[.slice A n c] 24) = W1 := ⟨_, rfl⟩
  obtain ⟨N, hN⟩ : ∃ N, W0.heap.size = N := ⟨_, rfl⟩
  have HBX : Hid (Blk W1 N 24 [.slice A n c]) := Lib.hid (by rw [← hW1, ← hN]; exact Blk.new W0 _ _)
  have HB1 : Hid (Bel w.heap.size w W1) := Lib.hid (by rw [← hW1]; exact bel_alloc HB0.out)
  have HO1 : Hid (Blk W1 w.heap.size 3 [.int .i64 op]) := Lib.hid (by rw [← hW1]; exact HO0.out.alloc _)
  have HR1 : Hid (Blk W1 (w.heap.size + 1) 37 [.slice none 0 0]) := Lib.hid (by rw [← hW1]; exact HR0.out.alloc _)
  have HS1 : Hid (Blk W1 (w.heap.size + 2) 4 [.bool false]) := Lib.hid (by rw [← hW1]; exact HS0.out.alloc _)
  have hw1 : w.heap.size + 2 < W1.heap.size := HS1.out.lt
  rw [hW1, hN]
  clear hW1 hN hW0
  refine (wpIn_wide (n := 5)).1 ?_
  refine wpIn_range_box (P := Try.prog) (n := 5) (gf := 51) (lb := #[.pointer (some ⟨N, 0, none⟩)]) rfl (enters_of Try.func51 (by kernel_rfl) rfl)
    (back_gives 4 N (HL.out.keep HB1.out.below) HN.out HBX.out.lt (HBX.out.cell 0)) belowK_t (belowK_b (Nat.le_refl _)) (Below.refl _ _) (fun _ => rfl)
    (GetI es op W1.heap.size W1) (GetX es op w.heap.size W1) (getI_own (Nat.le_refl _) (Nat.le_refl _)) (getX_own HB1.out.le HB1.out.le) (ownFrom_pure _ (fun p : List (Nat × En) × (Nat × En) => ∃ k, es[k]? = some p.2.2 ∧ p.1.map Prod.snd = (es.drop (k + 1)).reverse)) ⟨rfl, Below.refl _ _⟩ ?a1 (fun d W => W.alloc (.cells #[.int .i64 d.2.op, .slice d.2.A d.2.xs.length d.2.c] 42)) (fun d W => (bel_alloc bel_refl).below) (fun d W hw => (bel_alloc bel_refl).below.mono hw) ?assign ?body ?done ?stop
  case assign =>
    intro l x W K hK
    simp only [backV, List.zip_toArray, List.zip_cons_cons, List.zip_nil_right, List.foldl_toArray, List.foldl_cons, List.foldl_nil, List.setIfInBounds_toArray, List.set_cons_succ, List.set_cons_zero]
    gi_wp2
    exact hK
  case body =>
    rintro l pre ⟨ix, ⟨vop, vA, vc, xs⟩⟩ W Wb hge hsz hcells ⟨hfn, hB⟩ ⟨k, hv, hpre⟩
    dsimp only at hv hpre hcells hsz
    have hbx : Blk Wb W.heap.size 42 [.int .i64 vop, .slice vA xs.length vc] := hcells _ _ (Blk.new W 42 [.int .i64 vop, .slice vA xs.length vc]) rfl
    have x0 : Wb.cell? ⟨W.heap.size, 0, none⟩ = some (.int .i64 vop) := hbx.cell 0
    have x1 : Wb.cell? ⟨W.heap.size, 1, none⟩ = some (.slice vA xs.length vc) := hbx.cell 1
    have hob := HO1.out.below hB (by omega)
    have o0 : Wb.cell? ⟨w.heap.size, 0, none⟩ = some (.int .i64 op) := hob.cell 0
    have hrb := HR1.out.below hB (by omega)
    have hsb := HS1.out.below hB (by omega)
    have HRB := Lib.hid hrb
    have HSB := Lib.hid hsb
    have HB := Lib.hid hB
    have HE : Hid (GetI es op W1.heap.size W1 pre Wb) := Lib.hid ⟨hfn, hB⟩
    have HFN := Lib.hid hfn
    have HV := Lib.hid hv
    have HPRE := Lib.hid hpre
    have hbl := hB.size
    have hargs := HL.out.args _ (List.mem_of_getElem? hv)
    have hsh := HL.out.short _ (List.mem_of_getElem? hv)
    dsimp only at hargs hsh
    have hWW : Below w.heap.size w Wb := HB1.out.below.trans (hB.mono HB1.out.le)
    have HWW := Lib.hid hWW
    have KC := clone_ints (c := vc) (hargs.keep hWW) hsh
    have HKC := Lib.hid KC
    have bxl := hbx.lt
    have obl := hob.lt
    clear hcells hsz hB hfn hv hpre hbx hob hrb hsb hargs hsh hWW KC
    by_cases he : vop = op
    · subst he
      gi_wp2_with (refine ⟨trivial, CallsIn.inRound l (callsIn_wide.2 ?_)⟩; (with_reducible refine HKC.out.mono ?_); rintro e w2 ⟨A', c', rfl, hs2, hb2, hA2⟩; have HA2 := Lib.hid hA2; have HS2 := Lib.hid hs2; have HB2 := Lib.hid hb2; have HR2 := Lib.hid (HRB.out.keepB hb2); have HT2 := Lib.hid (HSB.out.keepB hb2); have r2 := HR2.out.cell 0; have f2 := HR2.out.frozen 0; have r3 := HT2.out.cell 0; have f3 := HT2.out.frozen 0; have l2 := HR2.out.lt; have l3 := HT2.out.lt; clear hb2 hs2 hA2)
      have hfa : ∀ k, rowOf A' = some k → w.heap.size + 2 < k := fun k hk => by have := HA2.out k hk; omega
      refine ⟨((keepsOthers_below HB2.out).trans (KeepsOthers.setCell _ _ _)).trans (KeepsOthers.setCell _ _ _), ⟨⟨_, A', c', ⟨rfl, find_end HV.out HPRE.out HFN.out rfl⟩, ?_, ?_, ?_⟩, ?_⟩⟩
      · exact (HR2.out.set 0 _).far (p := ⟨w.heap.size + 2, 0, none⟩) (by simp) _
      · exact (HT2.out.far (p := ⟨w.heap.size + 1, 0, none⟩) (by simp) _).set 0 _
      · exact slat_far (slat_far HS2.out (fun k hk => by have := hfa k hk; simp; omega)) (fun k hk => by have := hfa k hk; simp; omega)
      · exact (((HB.out.mono HB1.out.le).trans (HB2.out.mono HWW.out.size)).setCell (by simp) _).setCell (by simp only; omega) _
    · have he' : (vop == op) = false := by simpa using he
      gi_wp2_with fail
      exact ⟨KeepsOthers.refl _, Below.refl _ _, by rw [List.map_append, List.find?_append, HFN.out]; simp [he'], HB.out⟩
  case' done =>
    rintro D xs W hD hxs ⟨hfn, hB⟩ hK
    have hf : getV es op = none := by unfold getV; rw [← hxs]; exact hfn
    have hr := HR1.out.below hB (by omega)
    have hs := HS1.out.below hB (by omega)
    have r0 := hr.cell 0
    have f0 := hr.frozen 0
    have s0 := hs.cell 0
    have g0 := hs.frozen 0
    have rl := hr.lt
    have sl := hs.lt
    have HRW := Lib.hid ((hr.set 0 (.slice none 0 0)).far (p := ⟨w.heap.size + 2, 0, none⟩) (by simp) (.bool false))
    have HSW := Lib.hid ((hs.far (p := ⟨w.heap.size + 1, 0, none⟩) (by simp) (.slice none 0 0)).set 0 (.bool false))
    have HF := Lib.hid hf
    have HBW : Hid (Below w.heap.size w ((W.setCell ⟨w.heap.size + 1, 0, none⟩ (.slice none 0 0)).setCell ⟨w.heap.size + 2, 0, none⟩ (.bool false))) := Lib.hid (((HB1.out.below.trans (hB.mono HB1.out.le)).setCell (by simp only; omega) _).setCell (by simp only; omega) _)
    have HK := Lib.hid (((KeepsOthers.setCell W ⟨w.heap.size + 1, 0, none⟩ (.slice none 0 0)).trans (KeepsOthers.setCell _ ⟨w.heap.size + 2, 0, none⟩ (.bool false))).same D _ hK rfl)
    have HD := Lib.hid hD
    clear hD hxs hfn hB hK hr hs hf
    go_wp2
  case' stop =>
    rintro D c pre W hD _ ⟨⟨v, A', c', ⟨rfl, hg⟩, hb4, hb5, hs⟩, hB⟩ hK
    have HF := Lib.hid hg
    have HBW : Hid (Below w.heap.size w W) := Lib.hid (HB1.out.below.trans hB)
    have HRW := Lib.hid hb4
    have HSW := Lib.hid hb5
    have HSL := Lib.hid hs
    have HK := Lib.hid hK
    have HD := Lib.hid hD
    clear hD hg hb4 hb5 hs hB hK
    refine (wpIn_wide (n := 5)).2 ?_
    go_wp2
  case done =>
    have hc4 := cell_kept (HRW.out.cell 0) (grownBy_putObj' _ D (.deferred none)) (fun r e => (by cases e; exact ⟨_, HK.out, rfl⟩))
    have hc5 := cell_kept (HSW.out.cell 0) (grownBy_putObj' _ D (.deferred none)) (fun r e => (by cases e; exact ⟨_, HK.out, rfl⟩))
    refine ⟨by simp, .inl ⟨_, _, rfl, run_takeDeferred HK.out, ?_⟩⟩
    refine ⟨.tuple #[.slice none 0 0, .bool false], ?_, ?_, HBW.out.trans (belowK_b (w := W1) HB1.out.le _ D _ _ HD.out HK.out rfl rfl)⟩
    · simp [results, Try.f19, go_sem, hc4, hc5]
    · rw [HF.out]
  case stop =>
    have hc4 := cell_kept (HRW.out.cell 0) (grownBy_putObj' _ D (.deferred none)) (fun r e => (by cases e; exact ⟨_, HK.out, rfl⟩))
    have hc5 := cell_kept (HSW.out.cell 0) (grownBy_putObj' _ D (.deferred none)) (fun r e => (by cases e; exact ⟨_, HK.out, rfl⟩))
    refine ⟨by simp, .inl ⟨_, _, rfl, run_takeDeferred HK.out, ?_⟩⟩
    refine ⟨.tuple #[.slice A' v.xs.length c', .bool true], ?_, ?_, HBW.out.trans (belowK_b (w := W1) HB1.out.le _ D _ _ HD.out HK.out rfl rfl)⟩
    · simp [results, Try.f19, go_sem, hc4, hc5]
    · rw [HF.out]
      exact ⟨A', c', rfl, slat_own HSL.out (grownBy_putObj' _ D (.deferred none)) (fun r e => (by cases e; exact ⟨_, HK.out, rfl⟩))⟩
end Go.Proofs.Ytoofjkhigonppaa
