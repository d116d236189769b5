/-
  flatten.May.
-/
import Derived.Test.YtbflncfhbmlibaaCqG
import Derived.Test.YtbflncfhbmlibaaKeepX

namespace Go.Proofs.Ytbflncfhbmlibaa

open Go.RowKit Go.Shelf

def MayI (N0 : Nat) (w0 : World) (pre : List Dt) (W : World) : Prop := pre.all fitDt = true ∧ Below N0 w0 W

def MayX (r : Nat) (w0 : World) (ls : List (List Dt)) (c : Code) (_ : List Dt) (W : World) : Prop := (c = .ret ∧ mayL ls = false) ∧ CellIs r (.int .i64 10) W ∧ Below r w0 W

theorem mayI_own {N0 B : Nat} {w0 : World} (h1 : N0 ≤ w0.heap.size) (h2 : N0 ≤ B) : OwnFrom B (MayI N0 w0) := OwnFrom.and (ownFrom_pure _ _) (ownFrom_below h1 h2)

theorem mayX_own {r B : Nat} {w0 : World} {ls : List (List Dt)} (h1 : r ≤ w0.heap.size) (h2 : r ≤ B) (c : Code) : OwnFrom B (MayX r w0 ls c) := OwnFrom.and (ownFrom_pure _ _) (OwnFrom.and (Own.from (cellIs_own r (fun _ => .int .i64 10)) _) (ownFrom_below h1 h2))

theorem mayL_flat (ls : List (List Dt)) : mayL ls = ls.flatten.all fitDt := by
  unfold mayL
  induction ls with
  | nil => rfl
  | cons a l ih => rw [List.all_cons, ih, List.flatten_cons, List.all_append]

attribute [local go_sem] Oper.semAt_some

set_option maxRecDepth 100000 in
set_option maxHeartbeats 4000000 in
theorem flatMay_any {w : World} {A : Option Addr} {c : Nat} {ls : List (List Dt)} (h : Dl w A ls) (hn : ls.length ≤ 1000) (hc : cnt ls ≤ 1000) :
    Calls Try.prog 48 #[.slice A ls.length c] w fun e w' => e = .returned (.int .i64 (mayE ls)) ∧ Below w.heap.size w w' := by
  have HL := Lib.hid h
  have HC := Lib.hid hc
  have HN := Lib.hid hn
  obtain ⟨W0, hW0⟩ : ∃ W0, w.alloc (.cells #[.int .i64 0] 30) = W0 := ⟨_, rfl⟩
  have HB0 : Hid (Bel w.heap.size w W0) := Lib.hid (by rw [← hW0]; exact bel_alloc bel_refl)
  have HR0 : Hid (Blk W0 w.heap.size 30 [.int .i64 0]) := Lib.hid (by rw [← hW0]; exact Blk.new w _ _)
  clear h hc
  refine (callsIn_wide (n := 5)).1 (callsIn_of_wp_marks Try.func48 rfl trivial ?_ rfl)
  simp only [Try.ntmps48, List.size_toArray, List.length_cons, List.length_nil, Nat.reduceAdd, Nat.reduceSub, Array.replicate_succ, Array.replicate_zero, List.push_toArray, List.append_toArray, List.nil_append, List.cons_append]
  refine wpIn_wide.2 ?_
  go_wp2_with fail
  clear hW0
  go_loop [3, 9] (fun s i => ∃ k : Nat, k ≤ ls.length ∧ i = .int .i64 k ∧ s = .int .i64 (cnt (ls.take k))) (fun _ i => ls.length - (intOf i).toNat)
  case atStart => exact ⟨0, Nat.zero_le _, rfl, rfl⟩
  case round =>
    obtain ⟨k, hk, rfl, rfl⟩ := hrel
    by_cases hlt : k < ls.length
    · obtain ⟨l, hl⟩ := get_some hlt
      obtain ⟨b, o, Ai, ci, rfl, hb, hcl, hd, hs⟩ := (HL.out.keep HB0.out.below) k l hl
      have hsn := cnt_snoc hl
      have hle := cnt_take ls (k + 1)
      have HS := Lib.hid hsn
      have hle2 : ((cnt (ls.take k) : Nat) : Int) + l.length ≤ 1000 := by have := HC.out; omega
      clear hl hsn hle hd
      go_wp2
      go_round
      case rel => exact ⟨k + 1, by omega, by go_num, by rw [HS.out]; go_num⟩
      case measure => simp [intOf]; omega
    · obtain rfl : k = ls.length := by omega
      go_wp2_with (first | (go_at_call 49; (with_reducible refine (flatAll_any _ _ _ _).mono ?_); rintro e w1 ⟨rfl, rfl⟩))
      obtain ⟨W1, hW1⟩ : ∃ W1, W0.alloc (.cells #[.slice A ls.length c] 22) = W1 := ⟨_, rfl⟩
      obtain ⟨N, hN⟩ : ∃ N, W0.heap.size = N := ⟨_, rfl⟩
      have HBX : Hid (Blk W1 N 22 [.slice A ls.length c]) := Lib.hid (by rw [← hW1, ← hN]; exact Blk.new W0 _ _)
      have HB1 : Hid (Bel w.heap.size w W1) := Lib.hid (by rw [← hW1]; exact bel_alloc HB0.out)
      have HR1 : Hid (Blk W1 w.heap.size 30 [.int .i64 0]) := Lib.hid (by rw [← hW1]; exact HR0.out.alloc _)
      rw [hW1, hN]
      clear hW1 hN
      refine (wpIn_wide (n := 5)).1 ?_
      refine wpIn_range_box (P := Try.prog) (n := 5) (gf := 76) (lb := #[.pointer (some ⟨N, 0, none⟩)]) rfl (enters_of Try.func76 (by kernel_rfl) rfl)
        (dots_gives 4 N (HL.out.keep HB1.out.below) HN.out HBX.out.lt (HBX.out.cell 0)) belowK_t (belowK_b (Nat.le_refl _)) (Below.refl _ _) (fun _ => rfl)
        (MayI W1.heap.size W1) (MayX w.heap.size W1 ls) (mayI_own (Nat.le_refl _) (Nat.le_refl _)) (mayX_own HB1.out.le HB1.out.le) (ownFrom_pure _ (fun p : List Dt × Dt => p.2 ∈ ls.flatten)) ⟨rfl, Below.refl _ _⟩ ?a1 (fun d W => W.alloc (.cells #[.int .i64 d.1, .int .i64 d.2] 37)) (fun d W => (bel_alloc bel_refl).below) (fun d W hw => (bel_alloc bel_refl).below.mono hw) ?assign ?body ?done ?stop
      case assign =>
        intro l x W K hK
        simp only [dotV, List.zip_toArray, List.zip_cons_cons, List.zip_nil_right, List.foldl_toArray, List.foldl_cons, List.foldl_nil, List.setIfInBounds_toArray, List.set_cons_succ, List.set_cons_zero]
        gi_wp2
        exact hK
      case body =>
        rintro l pre ⟨x, y⟩ W Wb hge hsz hcells ⟨hall, hB⟩ hmem
        have hbx : Blk Wb W.heap.size 37 [.int .i64 x, .int .i64 y] := hcells _ _ (Blk.new W 37 [.int .i64 x, .int .i64 y]) rfl
        have x0 := hbx.cell 0
        have x1 := hbx.cell 1
        simp at x0 x1
        have HB := Lib.hid hB
        have HALL := Lib.hid hall
        have HMEM := Lib.hid hmem
        have E : Hid (fitDt (x, y) = (fitD x && fitD y)) := Lib.hid rfl
        have hrb := HR1.out.keepB hB
        have r0 := hrb.cell 0
        have f0 := hrb.frozen 0
        have HRB := Lib.hid hrb
        have HE : Hid (MayI W1.heap.size W1 pre Wb) := Lib.hid ⟨hall, hB⟩
        have KM := fmayDot_any x y Wb
        rw [show (fitD x && fitD y) = fitDt (x, y) from rfl] at KM
        clear hcells hsz hB hall hmem hbx hrb E
        rcases Bool.eq_false_or_eq_true (fitDt (x, y)) with hf | hf
        · rw [hf] at KM
          replace KM := Lib.hid KM
          have HF := Lib.hid hf
          clear hf
          gi_wp2_with (refine ⟨trivial, CallsIn.inRound l (callsIn_wide.2 ?_)⟩; (with_reducible refine KM.out.mono ?_); rintro e w2 ⟨rfl, hb2⟩; have HB2 := Lib.hid hb2; clear hb2)
          exact ⟨keepsOthers_below HB2.out, HB2.out.mono (by have := HB.out.size; omega), by rw [List.all_append, HALL.out]; simp [HF.out], HB.out.trans (HB2.out.mono HB.out.size)⟩
        · rw [hf] at KM
          replace KM := Lib.hid KM
          have HF := Lib.hid hf
          clear hf
          gi_wp2_with (refine ⟨trivial, CallsIn.inRound l (callsIn_wide.2 ?_)⟩; (with_reducible refine KM.out.mono ?_); rintro e w2 ⟨rfl, hb2⟩; have HB2 := Lib.hid hb2; have HR2 := Lib.hid (HRB.out.keepB hb2); have r2 := HR2.out.cell 0; have f2 := HR2.out.frozen 0; clear hb2)
          have hr3 := HR2.out.set 0 (.int .i64 10)
          refine ⟨(keepsOthers_below HB2.out).trans (KeepsOthers.setCell _ _ _), ⟨rfl, ?_⟩, ⟨hr3.cell 0, hr3.frozen 0⟩, ?_⟩
          · rw [mayL_flat, List.all_eq_false]
            exact ⟨(x, y), HMEM.out, by rw [HF.out]; decide⟩
          · exact ((HB.out.mono HB1.out.le).trans (HB2.out.mono (by have := HB.out.size; have := HB1.out.le; omega))).setCell (Nat.le_refl _) _
      case' done =>
        rintro D xs W hD hxs ⟨hall, hB⟩ hK
        have hf : mayE ls = 0 := by unfold mayE; rw [mayL_flat, ← hxs, hall]; rfl
        have hr := HR1.out.keepB hB
        have r0 := hr.cell 0
        have f0 := hr.frozen 0
        have HRW := Lib.hid (hr.set 0 (.int .i64 0))
        have HF := Lib.hid hf
        have HBW : Hid (Below w.heap.size w (W.setCell ⟨w.heap.size, 0, none⟩ (.int .i64 0))) := Lib.hid ((HB1.out.below.trans (hB.mono HB1.out.le)).setCell (Nat.le_refl _) _)
        have HK := Lib.hid ((KeepsOthers.setCell W ⟨w.heap.size, 0, none⟩ (.int .i64 0)).same D _ hK rfl)
        have HD := Lib.hid hD
        clear hD hxs hall hB hK hr hf
        go_wp2
      case' stop =>
        rintro D c pre W hD _ ⟨⟨rfl, hm⟩, hcell, hB⟩ hK
        have hf : mayE ls = 10 := by unfold mayE; rw [hm]; rfl
        have HF := Lib.hid hf
        have HBW : Hid (Below w.heap.size w W) := Lib.hid (HB1.out.below.trans hB)
        have HRW := Lib.hid hcell
        have HK := Lib.hid hK
        have HD := Lib.hid hD
        clear hD hm hcell hB hK hf
        refine (wpIn_wide (n := 5)).2 ?_
        go_wp2
      case done =>
        have hc5 := cell_kept (HRW.out.cell 0) (grownBy_putObj' _ D (.deferred none)) (fun r e => (by cases e; exact ⟨_, HK.out, rfl⟩))
        refine ⟨by simp, .inl ⟨_, _, rfl, run_takeDeferred HK.out, ?_⟩⟩
        refine ⟨.int .i64 0, ?_, by rw [HF.out], HBW.out.trans (belowK_b (w := W1) HB1.out.le _ D _ _ HD.out HK.out rfl rfl)⟩
        simp [results, Try.f48, go_sem, hc5]
      case stop =>
        have hc5 := cell_kept HRW.out.1 (grownBy_putObj' _ D (.deferred none)) (fun r e => (by cases e; exact ⟨_, HK.out, rfl⟩))
        refine ⟨by simp, .inl ⟨_, _, rfl, run_takeDeferred HK.out, ?_⟩⟩
        refine ⟨.int .i64 10, ?_, by rw [HF.out], HBW.out.trans (belowK_b (w := W1) HB1.out.le _ D _ _ HD.out HK.out rfl rfl)⟩
        simp [results, Try.f48, go_sem, hc5]

end Go.Proofs.Ytbflncfhbmlibaa
