/-
  For every box and all closed lines CoverFlats answers true and leaves its arguments as they were. No conditions.
  Layer 22: CoverFlats.
  Layer 22: CoverFlats: plain law; a count of lines that are very many.
  Layer 22: what closed lines leave: the program's Flat.
  Layer 22: what closed lines leave: the document's Flat.
  Layer 22: what closed lines leave: the document's AllIn and Flat.
  flatten.May.
  The dots of closed lines, gone over by an iterator; flatten.May.
-/
import Derived.Test.YtbjggiihbdhmbaaCqA
import Derived.Test.YtbjggiihbdhmbaaRound
import Derived.Test.YtbjggiihbdhmbaaKeepX
import Derived.Test.YtbjggiihbdhmbaaCqL
import Derived.Test.YtbjggiihbdhmbaaCpF
import Derived.Test.YtbjggiihbdhmbaaOpn
import Derived.Test.YtbjggiihbdhmbaaFrame
import Derived.Test.YtbjggiihbdhmbaaFlat
namespace Go.Proofs.Ytbjggiihbdhmbaa
open Go.RowKit Go.Shelf

theorem AbidesFrom.below {β : Type} {B : Nat} {J : β → World → Prop} (h : AbidesFrom B J) {s : β} {W W' : World} (hs : J s W) (hb : Below W.heap.size W W') : J s W' :=
  h s W W' none hs ⟨hb.os, hb.tape, hb.output, hb.size, fun k hk _ => hb.block k hk⟩ (fun r e => by cases e)
theorem keepsOthers_drewN (W : World) (m : Nat) : KeepsOthers W (W.drewN m) := ⟨Nat.le_refl _, fun _ _ h _ => h⟩
theorem flat_snoc {α : Type} {ls : List (List α)} {k : Nat} {l : List α} (h : ls[k]? = some l) : (ls.take (k + 1)).flatten = (ls.take k).flatten ++ l := by
  rw [List.take_add_one, h]
  simp
theorem take_snoc {α : Type} {l : List α} {k : Nat} {x : α} (h : l[k]? = some x) : l.take (k + 1) = l.take k ++ [x] := by
  rw [List.take_add_one, h]
  simp
theorem mem_flat {α : Type} {ls : List (List α)} {k j : Nat} {l : List α} {x : α} (h : ls[k]? = some l) (hx : l[j]? = some x) : x ∈ ls.flatten :=
  List.mem_flatten.2 ⟨l, List.mem_of_getElem? h, List.mem_of_getElem? hx⟩

def dotV (d : Dt) : Array Value := #[.agg #[.int .i64 d.1, .int .i64 d.2]]
theorem flatAll_any (w : World) (A : Option Addr) (n c : Nat) : Calls Try.prog 58 #[.slice A n c] w fun e w' => e = .returned (.func (.func 63) #[] #[.pointer (some ⟨w.heap.size, 0, none⟩)]) ∧ w.alloc (.cells #[.slice A n c] 60) = w' := by
  go_enter Try.func58, Try.ntmps58
  go_wp2
  go_ret
  exact ⟨rfl, rfl⟩

attribute [local go_sem] Oper.semAt_some

set_option maxRecDepth 20000 in
set_option maxHeartbeats 2000000 in
theorem dots_gives {w : World} {A : Option Addr} {c : Nat} {ls : List (List Dt)} (n b : Nat) (hd : Dl w A ls) (hn : ls.length ≤ 1000) (hb : b < w.heap.size) (hc : w.cell? ⟨b, 0, none⟩ = some (.slice A ls.length c)) :
    Gives n Try.prog 63 #[.pointer (some ⟨b, 0, none⟩)] dotV (Below w.heap.size) (fun _ x _ => x ∈ ls.flatten) (fun xs => xs = ls.flatten) (fun _ => True) w := by
  intro l J Jx W hW hJ hJx hY h0
  have hc' : W.cell? ⟨b, 0, none⟩ = some (.slice A ls.length c) := (hW.cell (p := ⟨b, 0, none⟩) hb).trans hc
  have HJ : Hid (∀ pre A B, J pre A → Below A.heap.size A B → J pre B) := Lib.hid fun pre A B h hb => (AbidesFrom.below hJ h hb)
  have HD := Lib.hid hd
  have HW := Lib.hid hW
  have HY := Lib.hid hY
  have H0 := Lib.hid h0
  clear hd hc hJ hJx hW hY h0
  refine callsIn_of_wp Try.func63 rfl trivial ?_ rfl
  simp only [Try.ntmps63, List.size_toArray, List.length_cons, List.length_nil, Nat.reduceAdd, Nat.reduceSub, Array.replicate_succ, Array.replicate_zero, List.push_toArray, List.append_toArray, List.nil_append, List.cons_append]
  gi_wp2
  clear hc'
  gi_loopw [9] (fun i wr => ∃ k : Nat, k ≤ ls.length ∧ i = .int .i64 k ∧ Hid (J (ls.take k).flatten wr) ∧ Hid (Below w.heap.size w wr)) (fun i _ => ls.length - (intOf i).toNat)
  case atStart => exact ⟨0, Nat.zero_le _, rfl, H0, HW⟩
  case round =>
    obtain ⟨k, hk, rfl, HJ1, HB⟩ := hrel
    rcases Nat.lt_or_ge k ls.length with hlt | hlt
    · obtain ⟨cl, hcl⟩ := get_some hlt
      obtain ⟨b1, o1, A1, c1, rfl, hb1, hc0, hd1, hs1⟩ := HD.out k cl hcl
      have hc1 : wr.cell? ⟨b1, o1 + k, none⟩ = some (.slice A1 cl.length c1) := (HB.out.cell (p := ⟨b1, _, none⟩) hb1).trans hc0
      have HC := Lib.hid hcl
      have HD1 := Lib.hid hd1
      clear hcl hd1 hc0
      gi_wp2
      gi_loopw [15] (fun i wq => ∃ j : Nat, j ≤ cl.length ∧ i = .int .i64 j ∧ Hid (J ((ls.take k).flatten ++ cl.take j) wq) ∧ Hid (Below w.heap.size w wq)) (fun i _ => cl.length - (intOf i).toNat)
      case atStart => exact ⟨0, Nat.zero_le _, rfl, by simpa using HJ1, HB⟩
      case round =>
        obtain ⟨j, hj, rfl, HJ2, HB2⟩ := hrel
        rcases Nat.lt_or_ge j cl.length with hlt2 | hlt2
        · obtain ⟨⟨x, y⟩, hx⟩ := get_some hlt2
          obtain ⟨b2, o2, rfl, hb2, hx2, hy2⟩ := (HD1.out.keep HB2.out) j _ hx
          dsimp only at hx2 hy2
          obtain ⟨fn, tmps, assign, body, hy, hR⟩ := HY.out _ (x, y) (wr.alloc (.cells #[.int .i64 x, .int .i64 y] 36)) (HJ.out _ _ _ HJ2.out (bel_alloc bel_refl).below) (mem_flat HC.out hx)
          have HR := Lib.hid hR
          have HX := Lib.hid hx
          dsimp only [dotV] at hy
          clear hx hR
          gi_wp2
          refine ⟨fun he => (by cases he), HR.out.mono ?_⟩
          rintro e W4 (⟨rfl, hJ4, hk4⟩ | ⟨rfl, hJx4⟩)
          · have HJ4 := Lib.hid hJ4
            have HB4 := Lib.hid (HB2.out.trans (((bel_alloc bel_refl).below.mono HB2.out.size).trans hk4))
            clear hJ4 hk4
            gi_wp2
            go_roundw
            case rel => exact ⟨j + 1, by omega, by go_num, by rw [take_snoc HX.out, ← List.append_assoc]; exact HJ4, HB4⟩
            case measure => simp [intOf]; omega
          · have HJ4 := Lib.hid hJx4
            clear hJx4
            gi_wp2
            refine bodyPost_ret (results_none rfl _ _ _) rfl ?_
            exact ⟨⟨_, rfl⟩, .inr ⟨_, trivial, HJ4.out⟩⟩
        · obtain rfl : j = cl.length := by omega
          have HJ3 : Hid (J (ls.take (k + 1)).flatten wr) := Lib.hid (by
            have := HJ2.out
            rw [List.take_of_length_le (Nat.le_refl _)] at this
            rw [flat_snoc HC.out]
            exact this)
          clear hj hlt2 HJ2
          gi_wp2
          go_roundw
          case rel => exact ⟨k + 1, by omega, by go_num, HJ3, HB2⟩
          case measure => simp [intOf]; omega
    · obtain rfl : k = ls.length := by omega
      have HJ3 : Hid (J ls.flatten wr) := Lib.hid (by
        have := HJ1.out
        rwa [List.take_of_length_le (Nat.le_refl _)] at this)
      clear HJ1
      gi_wp2
      with_reducible refine bodyPost_end (v := .tuple #[]) (by simp [results, Try.results63]) rfl ?_
      exact ⟨⟨_, rfl⟩, .inl ⟨_, rfl, HJ3.out⟩⟩

end Go.Proofs.Ytbjggiihbdhmbaa

namespace Go.Proofs.Ytbjggiihbdhmbaa
open Go.RowKit Go.Shelf

def MayI (N0 : Nat) (w0 : World) (pre : List Dt) (W : World) : Prop := pre.all fitDt = true ∧ Below N0 w0 W
def MayX (r : Nat) (w0 : World) (ls : List (List Dt)) (c : Code) (_ : List Dt) (W : World) : Prop := (c = .ret ∧ mayL ls = false) ∧ CellIs r (.int .i64 10) W ∧ Below r w0 W
theorem mayI_own {N0 B : Nat} {w0 : World} (h1 : N0 ≤ w0.heap.size) (h2 : N0 ≤ B) : OwnFrom B (MayI N0 w0) := OwnFrom.and (ownFrom_pure _ _) (ownFrom_below h1 h2)
theorem mayX_own {r B : Nat} {w0 : World} {ls : List (List Dt)} (h1 : r ≤ w0.heap.size) (h2 : r ≤ B) (c : Code) : OwnFrom B (MayX r w0 ls c) := OwnFrom.and (ownFrom_pure _ _) (OwnFrom.and (Own.from (cellIs_own r (fun _ => .int .i64 10)) _) (ownFrom_below h1 h2))
theorem mayL_flat (ls : List (List Dt)) : mayL ls = ls.flatten.all fitDt := by
  unfold mayL
  induction ls with
  | nil => rfl
  | cons a l ih => rw [List.all_cons, ih, List.flatten_cons, List.all_append]

attribute [local go_sem] Oper.semAt_some

set_option maxRecDepth 100000 in
set_option maxHeartbeats 4000000 in
theorem flatMay_any {w : World} {A : Option Addr} {c : Nat} {ls : List (List Dt)} (h : Dl w A ls) (hn : ls.length ≤ 1000) (hc : cnt ls ≤ 1000) :
    Calls Try.prog 49 #[.slice A ls.length c] w fun e w' => e = .returned (.int .i64 (mayE ls)) ∧ Below w.heap.size w w' := by
  have HL := Lib.hid h
  have HC := Lib.hid hc
  have HN := Lib.hid hn
  obtain ⟨W0, hW0⟩ : ∃ W0, w.alloc (.cells #[.int .i64 0] 26) = W0 := ⟨_, rfl⟩
  have HB0 : Hid (Bel w.heap.size w W0) := Lib.hid (by rw [← hW0]; exact bel_alloc bel_refl)
  have HR0 : Hid (Blk W0 w.heap.size 26 [.int .i64 0]) := Lib.hid (by rw [← hW0]; exact Blk.new w _ _)
  clear h hc
  refine (callsIn_wide (n := 5)).1 (callsIn_of_wp_marks Try.func49 rfl trivial ?_ rfl)
  simp only [Try.ntmps49, List.size_toArray, List.length_cons, List.length_nil, Nat.reduceAdd, Nat.reduceSub, Array.replicate_succ, Array.replicate_zero, List.push_toArray, List.append_toArray, List.nil_append, List.cons_append]
  refine wpIn_wide.2 ?_
  go_wp2_with fail
  clear hW0
  go_loop [3, 9] (fun s i => ∃ k : Nat, k ≤ ls.length ∧ i = .int .i64 k ∧ s = .int .i64 (cnt (ls.take k))) (fun _ i => ls.length - (intOf i).toNat)
  case atStart => exact ⟨0, Nat.zero_le _, rfl, rfl⟩
  case round =>
    obtain ⟨k, hk, rfl, rfl⟩ := hrel
    by_cases hlt : k < ls.length
    · obtain ⟨l, hl⟩ := get_some hlt
      obtain ⟨b, o, Ai, ci, rfl, hb, hcl, hd, hs⟩ := (HL.out.keep HB0.out.below) k l hl
      have hsn := cnt_snoc hl
      have hle := cnt_take ls (k + 1)
      have HS := Lib.hid hsn
      have hle2 : ((cnt (ls.take k) : Nat) : Int) + l.length ≤ 1000 := by have := HC.out; omega
      clear hl hsn hle hd
      go_wp2
      go_round
      case rel => exact ⟨k + 1, by omega, by go_num, by rw [HS.out]; go_num⟩
      case measure => simp [intOf]; omega
    · obtain rfl : k = ls.length := by omega
      go_wp2_with (first | (go_at_call 58; (with_reducible refine (flatAll_any _ _ _ _).mono ?_); rintro e w1 ⟨rfl, rfl⟩))
      obtain ⟨W1, hW1⟩ : ∃ W1, W0.alloc (.cells #[.slice A ls.length c] 60) = W1 := ⟨_, rfl⟩
      obtain ⟨N, hN⟩ : ∃ N, W0.heap.size = N := ⟨_, rfl⟩
      have HBX : Hid (Blk W1 N 60 [.slice A ls.length c]) := Lib.hid (by rw [← hW1, ← hN]; exact Blk.new W0 _ _)
      have HB1 : Hid (Bel w.heap.size w W1) := Lib.hid (by rw [← hW1]; exact bel_alloc HB0.out)
      have HR1 : Hid (Blk W1 w.heap.size 26 [.int .i64 0]) := Lib.hid (by rw [← hW1]; exact HR0.out.alloc _)
      rw [hW1, hN]
      clear hW1 hN
      refine (wpIn_wide (n := 5)).1 ?_
      refine wpIn_range_box (P := Try.prog) (n := 5) (gf := 63) (lb := #[.pointer (some ⟨N, 0, none⟩)]) rfl (enters_of Try.func63 (by kernel_rfl) rfl)
        (dots_gives 4 N (HL.out.keep HB1.out.below) HN.out HBX.out.lt (HBX.out.cell 0)) belowK_t (belowK_b (Nat.le_refl _)) (Below.refl _ _) (fun _ => rfl)
        (MayI W1.heap.size W1) (MayX w.heap.size W1 ls) (mayI_own (Nat.le_refl _) (Nat.le_refl _)) (mayX_own HB1.out.le HB1.out.le) (ownFrom_pure _ (fun p : List Dt × Dt => p.2 ∈ ls.flatten)) ⟨rfl, Below.refl _ _⟩ ?a1 (fun d W => W.alloc (.cells #[.int .i64 d.1, .int .i64 d.2] 36)) (fun d W => (bel_alloc bel_refl).below) (fun d W hw => (bel_alloc bel_refl).below.mono hw) ?assign ?body ?done ?stop
      case assign =>
        intro l x W K hK
        simp only [dotV, List.zip_toArray, List.zip_cons_cons, List.zip_nil_right, List.foldl_toArray, List.foldl_cons, List.foldl_nil, List.setIfInBounds_toArray, List.set_cons_succ, List.set_cons_zero]
        gi_wp2
        exact hK
      case body =>
        rintro l pre ⟨x, y⟩ W Wb hge hsz hcells ⟨hall, hB⟩ hmem
        have hbx : Blk Wb W.heap.size 36 [.int .i64 x, .int .i64 y] := hcells _ _ (Blk.new W 36 [.int .i64 x, .int .i64 y]) rfl
        have x0 := hbx.cell 0
        have x1 := hbx.cell 1
        simp at x0 x1
        have HB := Lib.hid hB
        have HALL := Lib.hid hall
        have HMEM := Lib.hid hmem
        have E : Hid (fitDt (x, y) = (fitD x && fitD y)) := Lib.hid rfl
        have hrb := HR1.out.keepB hB
        have r0 := hrb.cell 0
        have f0 := hrb.frozen 0
        have HRB := Lib.hid hrb
        have HE : Hid (MayI W1.heap.size W1 pre Wb) := Lib.hid ⟨hall, hB⟩
        have KM := fmayDot_any x y Wb
        rw [show (fitD x && fitD y) = fitDt (x, y) from rfl] at KM
        clear hcells hsz hB hall hmem hbx hrb E
        rcases Bool.eq_false_or_eq_true (fitDt (x, y)) with hf | hf
        · rw [hf] at KM
          replace KM := Lib.hid KM
          have HF := Lib.hid hf
          clear hf
          gi_wp2_with (refine ⟨trivial, CallsIn.inRound l (callsIn_wide.2 ?_)⟩; (with_reducible refine KM.out.mono ?_); rintro e w2 ⟨rfl, hb2⟩; have HB2 := Lib.hid hb2; clear hb2)
          exact ⟨keepsOthers_below HB2.out, HB2.out.mono (by have := HB.out.size; omega), by rw [List.all_append, HALL.out]; simp [HF.out], HB.out.trans (HB2.out.mono HB.out.size)⟩
        · rw [hf] at KM
          replace KM := Lib.hid KM
          have HF := Lib.hid hf
          clear hf
          gi_wp2_with (refine ⟨trivial, CallsIn.inRound l (callsIn_wide.2 ?_)⟩; (with_reducible refine KM.out.mono ?_); rintro e w2 ⟨rfl, hb2⟩; have HB2 := Lib.hid hb2; have HR2 := Lib.hid (HRB.out.keepB hb2); have r2 := HR2.out.cell 0; have f2 := HR2.out.frozen 0; clear hb2)
          have hr3 := HR2.out.set 0 (.int .i64 10)
          refine ⟨(keepsOthers_below HB2.out).trans (KeepsOthers.setCell _ _ _), ⟨rfl, ?_⟩, ⟨hr3.cell 0, hr3.frozen 0⟩, ?_⟩
          · rw [mayL_flat, List.all_eq_false]
            exact ⟨(x, y), HMEM.out, by rw [HF.out]; decide⟩
          · exact ((HB.out.mono HB1.out.le).trans (HB2.out.mono (by have := HB.out.size; have := HB1.out.le; omega))).setCell (Nat.le_refl _) _
      case' done =>
        rintro D xs W hD hxs ⟨hall, hB⟩ hK
        have hf : mayE ls = 0 := by unfold mayE; rw [mayL_flat, ← hxs, hall]; rfl
        have hr := HR1.out.keepB hB
        have r0 := hr.cell 0
        have f0 := hr.frozen 0
        have HRW := Lib.hid (hr.set 0 (.int .i64 0))
        have HF := Lib.hid hf
        have HBW : Hid (Below w.heap.size w (W.setCell ⟨w.heap.size, 0, none⟩ (.int .i64 0))) := Lib.hid ((HB1.out.below.trans (hB.mono HB1.out.le)).setCell (Nat.le_refl _) _)
        have HK := Lib.hid ((KeepsOthers.setCell W ⟨w.heap.size, 0, none⟩ (.int .i64 0)).same D _ hK rfl)
        have HD := Lib.hid hD
        clear hD hxs hall hB hK hr hf
        go_wp2
      case' stop =>
        rintro D c pre W hD _ ⟨⟨rfl, hm⟩, hcell, hB⟩ hK
        have hf : mayE ls = 10 := by unfold mayE; rw [hm]; rfl
        have HF := Lib.hid hf
        have HBW : Hid (Below w.heap.size w W) := Lib.hid (HB1.out.below.trans hB)
        have HRW := Lib.hid hcell
        have HK := Lib.hid hK
        have HD := Lib.hid hD
        clear hD hm hcell hB hK hf
        refine (wpIn_wide (n := 5)).2 ?_
        go_wp2
      case done =>
        have hc5 := cell_kept (HRW.out.cell 0) (grownBy_putObj' _ D (.deferred none)) (fun r e => (by cases e; exact ⟨_, HK.out, rfl⟩))
        refine ⟨by simp, .inl ⟨_, _, rfl, run_takeDeferred HK.out, ?_⟩⟩
        refine ⟨.int .i64 0, ?_, by rw [HF.out], HBW.out.trans (belowK_b (w := W1) HB1.out.le _ D _ _ HD.out HK.out rfl rfl)⟩
        simp [results, Try.f49, go_sem, hc5]
      case stop =>
        have hc5 := cell_kept HRW.out.1 (grownBy_putObj' _ D (.deferred none)) (fun r e => (by cases e; exact ⟨_, HK.out, rfl⟩))
        refine ⟨by simp, .inl ⟨_, _, rfl, run_takeDeferred HK.out, ?_⟩⟩
        refine ⟨.int .i64 10, ?_, by rw [HF.out], HBW.out.trans (belowK_b (w := W1) HB1.out.le _ D _ _ HD.out HK.out rfl rfl)⟩
        simp [results, Try.f49, go_sem, hc5]

end Go.Proofs.Ytbjggiihbdhmbaa

namespace Go.Proofs.Ytbjggiihbdhmbaa
open Go.RowKit Go.Shelf

abbrev Sg := Dt × Dt
def segsOf (c : List Dt) : List Sg := (List.range c.length).map fun i => (c.getD i (0, 0), c.getD ((i + 1) % c.length) (0, 0))
def segs (ls : List (List Dt)) : List Sg := (ls.map segsOf).flatten
theorem segsOf_len (c : List Dt) : (segsOf c).length = c.length := by simp [segsOf]
theorem segsOf_at {c : List Dt} {j : Nat} {a d : Dt} (ha : c[j]? = some a) (hd : c[(j + 1) % c.length]? = some d) : (segsOf c)[j]? = some (a, d) := by
  have hj := (List.getElem?_eq_some_iff.1 ha).1
  unfold segsOf
  rw [List.getElem?_map, List.getElem?_range hj]
  simp [ha, hd]
theorem segs_at {ls : List (List Dt)} {k : Nat} {c : List Dt} (h : ls[k]? = some c) : (ls.map segsOf)[k]? = some (segsOf c) := by rw [List.getElem?_map, h]; rfl
theorem next_lt {j n : Nat} (h : j < n) : (j + 1) % n < n := Nat.mod_lt _ (by omega)
theorem next_rem {j n : Nat} : ((j : Int) + 1).tmod (n : Int) = ((j + 1) % n : Nat) := by
  rw [show (j : Int) + 1 = ((j + 1 : Nat) : Int) by push_cast; rfl, ← Int.ofNat_tmod]
def segC (b : B4) (cs : List Ce) (s : Sg) : List Ce := lineC b cs s.1 s.2
def flatC (b : B4) (cs : List Ce) (ls : List (List Dt)) : List Ce := (segs ls).foldl (segC b) cs
/-- What the first k closed lines leave, and j lines of the next one. -/
def flatN (b : B4) (cs : List Ce) (ls : List (List Dt)) (k : Nat) (cl : List Dt) (j : Nat) : List Ce := (((ls.map segsOf).take k).flatten ++ (segsOf cl).take j).foldl (segC b) cs
theorem flatN_zero (b : B4) (cs : List Ce) (ls : List (List Dt)) (k : Nat) (cl cl' : List Dt) : flatN b cs ls k cl 0 = flatN b cs ls k cl' 0 := by simp [flatN]
theorem flatN_start (b : B4) (cs : List Ce) (ls : List (List Dt)) (cl : List Dt) : flatN b cs ls 0 cl 0 = cs := by simp [flatN]
theorem flatN_step {b : B4} {cs : List Ce} {ls : List (List Dt)} {k : Nat} {cl : List Dt} {j : Nat} {a d : Dt} (h : (segsOf cl)[j]? = some (a, d)) : flatN b cs ls k cl (j + 1) = lineC b (flatN b cs ls k cl j) a d := by
  unfold flatN
  rw [take_snoc h, ← List.append_assoc, List.foldl_append]
  rfl
theorem flatN_next {b : B4} {cs : List Ce} {ls : List (List Dt)} {k : Nat} {cl cl' : List Dt} (h : ls[k]? = some cl) : flatN b cs ls k cl cl.length = flatN b cs ls (k + 1) cl' 0 := by
  have e : (segsOf cl).take cl.length = segsOf cl := List.take_of_length_le (by rw [segsOf_len]; exact Nat.le_refl _)
  unfold flatN
  rw [flat_snoc (segs_at h), e, List.take_zero, List.append_nil]
theorem flatN_end (b : B4) (cs : List Ce) (ls : List (List Dt)) (cl : List Dt) : flatN b cs ls ls.length cl 0 = flatC b cs ls := by
  unfold flatN flatC segs
  rw [List.take_of_length_le (by simp), List.take_zero, List.append_nil]
def allIn (b : B4) (ls : List (List Dt)) : Bool := ls.all fun l => l.all (inB b)
theorem allIn_mem {b : B4} {ls : List (List Dt)} (h : allIn b ls = true) {k j : Nat} {l : List Dt} {d : Dt} (hl : ls[k]? = some l) (hd : l[j]? = some d) : inB b d = true := by
  unfold allIn at h
  rw [List.all_eq_true] at h
  have := h l (List.mem_of_getElem? hl)
  rw [List.all_eq_true] at this
  exact this d (List.mem_of_getElem? hd)
section
variable {w : World} {A : Option Addr} {c : Nat} {ls : List (List Dt)} {b : B4}
set_option maxRecDepth 20000 in
set_option maxHeartbeats 4000000 in
theorem AllIn_any (hb : BoxOk b) (h : Dl w A ls) (hn : ls.length ≤ 1000) : Calls Try.prog 27 #[.agg #[.int .i64 b.x0, .int .i64 b.y0, .int .i64 b.x1, .int .i64 b.y1], .slice A ls.length c] w fun e w' => e = .returned (.bool (allIn b ls)) ∧ Below w.heap.size w w' := by
  have HL := Lib.hid h
  have HB := Lib.hid hb
  clear h hb
  go_enter Try.func27, Try.ntmps27
  go_wp2_with fail
  have HX := Lib.hid (Blk.new w 23 [.int .i64 b.x0, .int .i64 b.y0, .int .i64 b.x1, .int .i64 b.y1])
  have HB0 : Hid (Bel w.heap.size w (w.alloc (.cells #[.int .i64 b.x0, .int .i64 b.y0, .int .i64 b.x1, .int .i64 b.y1] 23))) := Lib.hid (bel_alloc bel_refl)
  generalize w.alloc (.cells #[.int .i64 b.x0, .int .i64 b.y0, .int .i64 b.x1, .int .i64 b.y1] 23) = w1 at HX HB0 ⊢
  go_loopw [5] (fun i wr => ∃ k : Nat, k ≤ ls.length ∧ i = .int .i64 k ∧ Hid ((ls.take k).all (fun l => l.all (inB b)) = true) ∧ Hid (Below w1.heap.size w1 wr)) (fun i _ => ls.length - (intOf i).toNat)
  case atStart => exact ⟨0, Nat.zero_le _, rfl, Lib.hid rfl, Lib.hid (Below.refl _ _)⟩
  case round =>
    obtain ⟨k, hk, rfl, HM, HBR⟩ := hrel
    by_cases hlt : k < ls.length
    · obtain ⟨cl, hcl⟩ := get_some hlt
      obtain ⟨ab, ao, Ai, ci, hA, hab, hc, hd, hs⟩ := HL.out k cl hcl
      have HLL := Lib.hid hcl
      have HD := Lib.hid hd
      have HC := Lib.hid hc
      subst hA
      clear hcl hd hc
      go_wp2_with fail
      go_loopw [6] (fun i wq => ∃ j : Nat, j ≤ cl.length ∧ i = .int .i64 j ∧ Hid ((cl.take j).all (inB b) = true) ∧ Hid (Below w1.heap.size w1 wq)) (fun i _ => cl.length - (intOf i).toNat)
      case atStart => exact ⟨0, Nat.zero_le _, rfl, Lib.hid rfl, HBR⟩
      case round =>
        obtain ⟨j, hj, rfl, HJ, HBQ⟩ := hrel
        have hwr : Below w.heap.size w wr := HB0.out.below.trans (HBQ.out.mono HB0.out.le)
        have c0 : wr.cell? ⟨ab, ao + k, none⟩ = some (.slice Ai cl.length ci) := (hwr.cell (p := ⟨ab, _, none⟩) hab).trans HC.out
        have habl : ab < wr.heap.size := Nat.lt_of_lt_of_le hab hwr.size
        by_cases hlt2 : j < cl.length
        · obtain ⟨d, hx⟩ := get_some hlt2
          obtain ⟨db, do', hA', hdb, hx1, hy1⟩ := HD.out j d hx
          have x1 : wr.cell? ⟨db, do' + j * 2, none⟩ = some (.int .i64 d.1) := (hwr.cell (p := ⟨db, _, none⟩) hdb).trans hx1
          have y1 : wr.cell? ⟨db, do' + j * 2 + 1, none⟩ = some (.int .i64 d.2) := (hwr.cell (p := ⟨db, _, none⟩) hdb).trans hy1
          have hdbl : db < wr.heap.size := Nat.lt_of_lt_of_le hdb hwr.size
          have hX := HX.out.keepB HBQ.out
          have b0 : wr.cell? ⟨w.heap.size, 0, none⟩ = some (.int .i64 b.x0) := hX.cell 0
          have b1 : wr.cell? ⟨w.heap.size, 1, none⟩ = some (.int .i64 b.y0) := hX.cell 1
          have b2 : wr.cell? ⟨w.heap.size, 2, none⟩ = some (.int .i64 b.x1) := hX.cell 2
          have b3 : wr.cell? ⟨w.heap.size, 3, none⟩ = some (.int .i64 b.y1) := hX.cell 3
          have bl := hX.lt
          have KI := fun w => In_ok HB.out d w
          have HXX := Lib.hid hx
          subst hA'
          have HWR := Lib.hid hwr
          clear hx hx1 hy1 hX hwr
          cases hin : inB b d with
          | true =>
            rw [hin] at KI
            have HKI := Lib.hid KI
            have HIN := Lib.hid hin
            clear KI hin
            go_upto_region 7 with fail
            refine wp_region_bw_lit (by kernel_rfl) (by kernel_rfl) ?_
            repeat (go_big_quiet_step ((go_at_call 15; with_reducible exact Calls.bw_of (HKI.out _))))
            refine wpQuiet_nil ?_
            rintro _ ⟨u, rfl⟩
            have hbu := u.prop
            have hzu := u.prop.size
            try simp at hzu
            have HBU := Lib.hid (HBQ.out.trans (hbu.mono HBQ.out.size))
            clear hbu hzu c0 x1 y1 b0 b1 b2 b3
            generalize u.val = w9 at *
            go_wp2_with fail
            go_roundw
            case rel => exact ⟨j + 1, by omega, by go_num, Lib.hid (by rw [all_snoc HXX.out, HJ.out, HIN.out]; rfl), HBU⟩
            case measure => simp [intOf]; omega
          | false =>
            rw [hin] at KI
            have HKI := Lib.hid KI
            have HF : Hid (allIn b ls = false) := Lib.hid (by unfold allIn; exact all_no HLL.out (all_no HXX.out hin))
            clear KI hin
            go_upto_region 7 with fail
            refine wp_region_bw_lit (by kernel_rfl) (by kernel_rfl) ?_
            repeat (go_big_quiet_step ((go_at_call 15; with_reducible exact Calls.bw_of (HKI.out _))))
            refine wpQuiet_nil ?_
            rintro _ ⟨u, rfl⟩
            have hbu := u.prop
            have hzu := u.prop.size
            try simp at hzu
            have HBU := Lib.hid (HWR.out.trans (hbu.mono HWR.out.size))
            clear hbu hzu c0 x1 y1 b0 b1 b2 b3
            generalize u.val = w9 at *
            go_wp2_with fail
            go_ret
            exact ⟨ret_bool' HF.out.symm, HBU.out⟩
        · obtain rfl : j = cl.length := by omega
          have HT : Hid (cl.all (inB b) = true) := Lib.hid (by rw [← HJ.out, List.take_of_length_le (Nat.le_refl _)])
          clear hwr
          go_wp2_with fail
          go_roundw
          case rel => exact ⟨k + 1, by omega, by go_num, Lib.hid (by rw [all_snoc HLL.out, HM.out, HT.out]; rfl), HBQ⟩
          case measure => simp [intOf]; omega
    · obtain rfl : k = ls.length := by omega
      have HF : Hid (allIn b ls = true) := Lib.hid (by
        have h1 := HM.out
        rw [List.take_of_length_le (Nat.le_refl _)] at h1
        exact h1)
      go_wp2_with fail
      go_ret
      exact ⟨ret_bool' HF.out.symm, HB0.out.below.trans (HBR.out.mono HB0.out.le)⟩
end
end Go.Proofs.Ytbjggiihbdhmbaa

namespace Go.Proofs.Ytbjggiihbdhmbaa
open Go.RowKit Go.Shelf

set_option maxRecDepth 20000 in
set_option maxHeartbeats 4000000 in
theorem rFlat_any {w0 w : World} {g kc ka : Nat} {b : B4} {cs : List Ce} {A : Option Addr} {c : Nat} {ls : List (List Dt)} (h : Rc w g kc ka b cs) (hd : Dl w0 A ls) (hb : Below w0.heap.size w0 w) (hkc : w0.heap.size ≤ kc) (hka : w0.heap.size ≤ ka) (hn : ls.length ≤ 1000) (hcn : cnt ls ≤ 1000) (hin : allIn b ls = true) :
    Calls Try.prog 28 #[.pointer (some ⟨g, 0, none⟩), .slice A ls.length c] w (RBitR g kc ka b (flatC b cs ls) w) := by
  have HL := Lib.hid hd
  have HB := Lib.hid hb
  have H := Lib.hid h
  have HCN := Lib.hid hcn
  have HIN := Lib.hid hin
  clear h hd hb hcn hin
  go_enter Try.func28, Try.ntmps28
  go_wp2_with fail
  go_loopw [4] (fun i wr => ∃ k : Nat, k ≤ ls.length ∧ i = .int .i64 k ∧ Hid (Rc wr g kc ka b (flatN b cs ls k [] 0)) ∧ Hid (Tn (TwoB kc ka) w wr)) (fun i _ => ls.length - (intOf i).toNat)
  case atStart => exact ⟨0, Nat.zero_le _, rfl, Lib.hid (by rw [flatN_start]; exact H.out), Lib.hid (Tn.refl _)⟩
  case round =>
    obtain ⟨k, hk, rfl, HR, HT⟩ := hrel
    by_cases hlt : k < ls.length
    · obtain ⟨cl, hcl⟩ := get_some hlt
      obtain ⟨ab, ao, Ai, ci, hA, hab, hc, hd, hs⟩ := HL.out k cl hcl
      have hcc : cl.length ≤ 1000 := Nat.le_trans (cnt_mem hcl) HCN.out
      have HLL := Lib.hid hcl
      have HD := Lib.hid hd
      have HC := Lib.hid hc
      subst hA
      clear hcl hd hc hs
      go_wp2_with fail
      go_loopw [5] (fun i wq => ∃ j : Nat, j ≤ cl.length ∧ i = .int .i64 j ∧ Hid (Rc wq g kc ka b (flatN b cs ls k cl j)) ∧ Hid (Tn (TwoB kc ka) w wq)) (fun i _ => cl.length - (intOf i).toNat)
      case atStart => exact ⟨0, Nat.zero_le _, rfl, Lib.hid (by rw [flatN_zero b cs ls k cl []]; exact HR.out), HT⟩
      case round =>
        obtain ⟨j, hj, rfl, HRQ, HTQ⟩ := hrel
        have hwr : Below w0.heap.size w0 wr := HB.out.trans (HTQ.out.below (fun i hi e => by rcases e with rfl | rfl <;> omega) HB.out.size)
        have c0 : wr.cell? ⟨ab, ao + k, none⟩ = some (.slice Ai cl.length ci) := (hwr.cell (p := ⟨ab, _, none⟩) hab).trans HC.out
        have habl : ab < wr.heap.size := Nat.lt_of_lt_of_le hab hwr.size
        by_cases hlt2 : j < cl.length
        · obtain ⟨a, ha⟩ := get_some hlt2
          obtain ⟨m, hm⟩ : ∃ m, (j + 1) % cl.length = m := ⟨_, rfl⟩
          have hml : m < cl.length := hm ▸ next_lt hlt2
          have hrem : ((j : Int) + 1).tmod (cl.length : Int) = m := by rw [next_rem, hm]
          obtain ⟨d, hd⟩ := get_some hml
          have HS : Hid ((segsOf cl)[j]? = some (a, d)) := Lib.hid (segsOf_at ha (by rw [hm]; exact hd))
          obtain ⟨db, do', hA', hdb, hx1, hy1⟩ := HD.out j a ha
          obtain ⟨db2, do2, hA2, -, hx2, hy2⟩ := HD.out m d hd
          rw [hA'] at hA2
          injection hA2 with hA2
          injection hA2 with e1 e2
          subst e1 e2
          have x1 : wr.cell? ⟨db, do' + j * 2, none⟩ = some (.int .i64 a.1) := (hwr.cell (p := ⟨db, _, none⟩) hdb).trans hx1
          have y1 : wr.cell? ⟨db, do' + j * 2 + 1, none⟩ = some (.int .i64 a.2) := (hwr.cell (p := ⟨db, _, none⟩) hdb).trans hy1
          have x2 : wr.cell? ⟨db, do' + m * 2, none⟩ = some (.int .i64 d.1) := (hwr.cell (p := ⟨db, _, none⟩) hdb).trans hx2
          have y2 : wr.cell? ⟨db, do' + m * 2 + 1, none⟩ = some (.int .i64 d.2) := (hwr.cell (p := ⟨db, _, none⟩) hdb).trans hy2
          have hdbl : db < wr.heap.size := Nat.lt_of_lt_of_le hdb hwr.size
          have hia := allIn_mem HIN.out HLL.out ha
          have hid := allIn_mem HIN.out HLL.out hd
          have HLN := Lib.hid (fun n => rLine_any (HRQ.out.keepB (bel_drewN (n := n) (bel_refl (a := wr))).below) a d hia hid)
          have hw1 : IntKind.i64.wrap ((j : Int) + 1) = (j : Int) + 1 := IntWalk.i64_in _ (by omega)
          have hcl0 : ((cl.length : Int) == 0) = false := by rw [beq_eq_false_iff_ne]; omega
          have hcl1 : (cl.length : Int) ≠ 0 := by omega
          have hml2 : (m : Int) < cl.length := by omega
          have hj2 : (j : Int) < cl.length := by omega
          have hk2 : (k : Int) < ls.length := by omega
          have hcl3 : cl ≠ [] := by rintro rfl; simp at hlt2
          subst hA'
          clear ha hd hm hx1 hy1 hx2 hy2 hia hid hwr
          go_upto_region 6 with fail
          refine wp_region_drew_tail 22 (by kernel_rfl) (by kernel_rfl) ?_
          simp only [List.take_succ_cons, List.take_zero, List.drop_succ_cons, List.drop_zero]
          repeat (go_big_quiet_step (fail))
          refine wpQuiet_nil ?_
          rintro _ ⟨nq, rfl⟩
          clear c0 x1 y1 x2 y2 hrem hw1
          go_wp2_with (first | (go_at_call 16; (with_reducible refine (HLN.out _).mono ?_); rintro e w9 ⟨⟨v', rfl⟩, hrc9, ht9⟩; have HRC9 := Lib.hid hrc9; have HT9 := Lib.hid ht9; clear hrc9 ht9) | fail)
          go_roundw
          case rel => exact ⟨j + 1, by omega, by go_num, Lib.hid (by rw [flatN_step HS.out]; exact HRC9.out), Lib.hid ((HTQ.out.drewN nq).trans HT9.out)⟩
          case measure => simp [intOf]; omega
        · obtain rfl : j = cl.length := by omega
          clear hwr
          go_wp2_with fail
          go_roundw
          case rel => exact ⟨k + 1, by omega, by go_num, Lib.hid (by rw [← flatN_next HLL.out]; exact HRQ.out), HTQ⟩
          case measure => simp [intOf]; omega
    · obtain rfl : k = ls.length := by omega
      have hfin : RBitR g kc ka b (flatC b cs ls) w (.returned (.tuple #[])) wr := ⟨⟨_, rfl⟩, by rw [← flatN_end b cs ls []]; exact HR.out, HT.out⟩
      have HF := Lib.hid hfin
      clear hfin
      go_wp2_with fail
      with_reducible refine bodyPost_end (v := .tuple #[]) (by simp [results, Try.results28]) rfl ?_
      exact HF.out
end Go.Proofs.Ytbjggiihbdhmbaa

namespace Go.Proofs.Ytbjggiihbdhmbaa
open Go.RowKit Go.Shelf

def FlatR (g k : Nat) (b : B4) (cs : List Ce) (ls : List (List Dt)) (w : World) (e : Ending) (w' : World) : Prop :=
  if mayL ls = true ∧ allIn b ls = true then e = .returned (.int .i64 0) ∧ Cc w' g k b (flatC b cs ls) ∧ Turn w w' k none else e = .returned (.int .i64 10) ∧ Below w.heap.size w w'
theorem mayE_no {ls : List (List Dt)} (h : mayL ls = false) : mayE ls = 10 := by unfold mayE; rw [h]; rfl
theorem mayE_yes {ls : List (List Dt)} (h : mayL ls = true) : mayE ls = 0 := by unfold mayE; rw [h]; rfl
set_option maxRecDepth 20000 in
set_option maxHeartbeats 8000000 in
theorem Flat_any {w0 w : World} {g k : Nat} {b : B4} {cs : List Ce} {A : Option Addr} {c : Nat} {ls : List (List Dt)} (h : Cc w g k b cs) (hd : Dl w0 A ls) (hb : Below w0.heap.size w0 w) (hkc : w0.heap.size ≤ k) (hn : ls.length ≤ 1000) (hcn : cnt ls ≤ 1000) :
    Calls Try.prog 29 #[.pointer (some ⟨g, 0, none⟩), .slice A ls.length c] w (FlatR g k b cs ls w) := by
  have KM := fun u (hu : Below w0.heap.size w0 u) (hz : w0.heap.size ≤ u.heap.size) => flatMay_any (w := u) (c := c) (A := A) (ls := ls) (by
    intro i l hl
    obtain ⟨b', o, Ai, ci, hA, hlt, h1, h2, h3⟩ := hd i l hl
    exact ⟨b', o, Ai, ci, hA, by omega, (hu.cell (p := ⟨b', _, none⟩) hlt).trans h1, fun q x hq => by
      obtain ⟨b2, o2, hA2, hlt2, h4, h5⟩ := h2 q x hq
      exact ⟨b2, o2, hA2, by omega, (hu.cell (p := ⟨b2, _, none⟩) hlt2).trans h4, (hu.cell (p := ⟨b2, _, none⟩) hlt2).trans h5⟩, h3⟩) hn hcn
  have HL := Lib.hid hd
  have HB := Lib.hid hb
  have H := Lib.hid h
  have HCN := Lib.hid hcn
  have KM := KM w hb hb.size
  have gl := h.blk.lt
  have kl := h.row.lt
  cases hm : mayL ls with
  | false =>
    have hR : FlatR g k b cs ls w = fun e w' => e = .returned (.int .i64 10) ∧ Below w.heap.size w w' := by funext e w'; unfold FlatR; rw [if_neg (by rw [hm]; simp)]
    rw [hR]
    rw [mayE_no hm] at KM
    have HKM := Lib.hid KM
    clear KM hm h hd hb hcn hR
    go_enter Try.func29, Try.ntmps29
    go_wp2_with (first | (go_at_call 49; (with_reducible refine (HKM.out).mono ?_); rintro e w1 ⟨rfl, hb1⟩; obtain ⟨hc1, hf1, hz1⟩ := bcell hb1; (try simp at hz1)) | fail)
    go_ret
    exact ⟨rfl, hb1⟩
  | true =>
    rw [mayE_yes hm] at KM
    have HKM := Lib.hid KM
    have HM := Lib.hid hm
    clear KM hm h hd hb hcn
    go_enter Try.func29, Try.ntmps29
    go_wp2_with (first | (go_at_call 49; (with_reducible refine HKM.out.mono ?_); rintro e w1 ⟨rfl, hb1⟩; have HB1 := Lib.hid hb1; clear hb1) | fail)
    go_loopw [23] (fun i wr => ∃ q : Nat, q ≤ ls.length ∧ i = .int .i64 q ∧ Hid ((ls.take q).all (fun l => l.all (inB b)) = true) ∧ Hid (Below w.heap.size w wr)) (fun i _ => ls.length - (intOf i).toNat)
    case atStart => exact ⟨0, Nat.zero_le _, rfl, Lib.hid rfl, HB1⟩
    case round =>
      obtain ⟨q, hq, rfl, HA, HBR⟩ := hrel
      by_cases hlt : q < ls.length
      · obtain ⟨cl, hcl⟩ := get_some hlt
        obtain ⟨ab, ao, Ai, ci, hA, hab, hc, hd, hs⟩ := HL.out q cl hcl
        have hwr : Below w0.heap.size w0 wr := HB.out.trans (HBR.out.mono HB.out.size)
        have c0 : wr.cell? ⟨ab, ao + q, none⟩ = some (.slice Ai cl.length ci) := (hwr.cell (p := ⟨ab, _, none⟩) hab).trans hc
        have habl : ab < wr.heap.size := Nat.lt_of_lt_of_le hab hwr.size
        have hcc : cl.length ≤ 1000 := Nat.le_trans (cnt_mem hcl) HCN.out
        have HLL := Lib.hid hcl
        have HD := Lib.hid hd
        subst hA
        clear hcl hd hc hs hwr
        go_wp2_with fail
        clear c0
        go_loopw [29] (fun i wq => ∃ j : Nat, j ≤ cl.length ∧ i = .int .i64 j ∧ Hid ((cl.take j).all (inB b) = true) ∧ Hid (Below w.heap.size w wq)) (fun i _ => cl.length - (intOf i).toNat)
        case atStart => exact ⟨0, Nat.zero_le _, rfl, Lib.hid rfl, HBR⟩
        case round =>
          obtain ⟨j, hj, rfl, HJ, HBQ⟩ := hrel
          have hwr : Below w0.heap.size w0 wr := HB.out.trans (HBQ.out.mono HB.out.size)
          by_cases hlt2 : j < cl.length
          · obtain ⟨d, hx⟩ := get_some hlt2
            obtain ⟨db, do', hA', hdb, hx1, hy1⟩ := HD.out j d hx
            have x1 : wr.cell? ⟨db, do' + j * 2, none⟩ = some (.int .i64 d.1) := (hwr.cell (p := ⟨db, _, none⟩) hdb).trans hx1
            have y1 : wr.cell? ⟨db, do' + j * 2 + 1, none⟩ = some (.int .i64 d.2) := (hwr.cell (p := ⟨db, _, none⟩) hdb).trans hy1
            have hdbl : db < wr.heap.size := Nat.lt_of_lt_of_le hdb hwr.size
            have KI2 := in_any ((H.out.keepB HBQ.out).keepB (bel_alloc (o := .cells #[.int .i64 d.1, .int .i64 d.2] 36) (bel_refl (a := wr))).below) d
            have HXX := Lib.hid hx
            subst hA'
            clear hx hx1 hy1 hwr
            cases hin : inB b d with
            | true =>
              rw [hin] at KI2
              have HKI := Lib.hid KI2
              have HIN := Lib.hid hin
              clear KI2 hin
              go_wp2_with (first | (go_at_call 36; (with_reducible refine HKI.out.mono ?_); rintro e w5 ⟨rfl, hb5⟩; have HB5 := Lib.hid hb5; clear hb5) | fail)
              go_roundw
              case rel => exact ⟨j + 1, by omega, by go_num, Lib.hid (by rw [all_snoc HXX.out, HJ.out, HIN.out]; rfl), Lib.hid (HBQ.out.trans (((bel_alloc bel_refl).below.trans (HB5.out.mono (by simp))).mono HBQ.out.size))⟩
              case measure => simp [intOf]; omega
            | false =>
              rw [hin] at KI2
              have HKI := Lib.hid KI2
              have HF : Hid (FlatR g k b cs ls w = fun e w' => e = .returned (.int .i64 10) ∧ Below w.heap.size w w') := Lib.hid (by
                funext e w'
                unfold FlatR
                rw [if_neg]
                rintro ⟨-, h2⟩
                unfold allIn at h2
                rw [all_no HLL.out (all_no HXX.out hin)] at h2
                cases h2)
              clear KI2 hin
              go_wp2_with (first | (go_at_call 36; (with_reducible refine HKI.out.mono ?_); rintro e w5 ⟨rfl, hb5⟩; have HB5 := Lib.hid hb5; clear hb5) | fail)
              go_ret
              rw [HF.out]
              exact ⟨rfl, HBQ.out.trans (((bel_alloc bel_refl).below.trans (HB5.out.mono (by simp))).mono HBQ.out.size)⟩
          · obtain rfl : j = cl.length := by omega
            have HT : Hid (cl.all (inB b) = true) := Lib.hid (by rw [← HJ.out, List.take_of_length_le (Nat.le_refl _)])
            clear hwr
            go_wp2_with fail
            go_roundw
            case rel => exact ⟨q + 1, by omega, by go_num, Lib.hid (by rw [all_snoc HLL.out, HA.out, HT.out]; rfl), HBQ⟩
            case measure => simp [intOf]; omega
      · obtain rfl : q = ls.length := by omega
        have hin : allIn b ls = true := by
          have h1 := HA.out
          rw [List.take_of_length_le (Nat.le_refl _)] at h1
          exact h1
        have HIN := Lib.hid hin
        have HF : Hid (FlatR g k b cs ls w = fun e w' => e = .returned (.int .i64 0) ∧ Cc w' g k b (flatC b cs ls) ∧ Turn w w' k none) := Lib.hid (by funext e w'; unfold FlatR; rw [if_pos ⟨HM.out, hin⟩])
        have HCC := Lib.hid (H.out.keepB HBR.out)
        have hwz := HBR.out.size
        clear hin
        go_wp2_with fail
        go_loopw [41] (fun i wq => ∃ q : Nat, q ≤ ls.length ∧ i = .int .i64 q ∧ Hid (Cc wq g k b (flatN b cs ls q [] 0)) ∧ Hid (Tn (fun i => i = k) w wq)) (fun i _ => ls.length - (intOf i).toNat)
        case atStart => exact ⟨0, Nat.zero_le _, rfl, Lib.hid (by rw [flatN_start]; exact HCC.out), Lib.hid (.of_below HBR.out)⟩
        case round =>
          obtain ⟨q, hq, rfl, HC1, HT1⟩ := hrel
          by_cases hlt : q < ls.length
          · obtain ⟨cl, hcl⟩ := get_some hlt
            obtain ⟨ab, ao, Ai, ci, hA, hab, hc, hd, hs⟩ := HL.out q cl hcl
            have hwr : Below w0.heap.size w0 wr := HB.out.trans (HT1.out.below (fun i hi e => by omega) HB.out.size)
            have c0 : wr.cell? ⟨ab, ao + q, none⟩ = some (.slice Ai cl.length ci) := (hwr.cell (p := ⟨ab, _, none⟩) hab).trans hc
            have habl : ab < wr.heap.size := Nat.lt_of_lt_of_le hab hwr.size
            have hcc : cl.length ≤ 1000 := Nat.le_trans (cnt_mem hcl) HCN.out
            have HLL := Lib.hid hcl
            have HD := Lib.hid hd
            subst hA
            clear hcl hd hc hs hwr
            go_wp2_with fail
            clear c0
            go_loopw [47] (fun i wq => ∃ j : Nat, j ≤ cl.length ∧ i = .int .i64 j ∧ Hid (Cc wq g k b (flatN b cs ls q cl j)) ∧ Hid (Tn (fun i => i = k) w wq)) (fun i _ => cl.length - (intOf i).toNat)
            case atStart => exact ⟨0, Nat.zero_le _, rfl, Lib.hid (by rw [flatN_zero b cs ls q cl []]; exact HC1.out), HT1⟩
            case round =>
              obtain ⟨j, hj, rfl, HCQ, HTQ⟩ := hrel
              have hwr : Below w0.heap.size w0 wr := HB.out.trans (HTQ.out.below (fun i hi e => by omega) HB.out.size)
              by_cases hlt2 : j < cl.length
              · obtain ⟨a, ha⟩ := get_some hlt2
                obtain ⟨m, hm⟩ : ∃ m, (j + 1) % cl.length = m := ⟨_, rfl⟩
                have hml : m < cl.length := hm ▸ next_lt hlt2
                have hrem : ((j : Int) + 1).tmod (cl.length : Int) = m := by rw [next_rem, hm]
                obtain ⟨d, hd⟩ := get_some hml
                have HS : Hid ((segsOf cl)[j]? = some (a, d)) := Lib.hid (segsOf_at ha (by rw [hm]; exact hd))
                obtain ⟨db, do', hA', hdb, hx1, hy1⟩ := HD.out j a ha
                obtain ⟨db2, do2, hA2, -, hx2, hy2⟩ := HD.out m d hd
                rw [hA'] at hA2
                injection hA2 with hA2
                injection hA2 with e1 e2
                subst e1 e2
                have x1 : wr.cell? ⟨db, do' + j * 2, none⟩ = some (.int .i64 a.1) := (hwr.cell (p := ⟨db, _, none⟩) hdb).trans hx1
                have y1 : wr.cell? ⟨db, do' + j * 2 + 1, none⟩ = some (.int .i64 a.2) := (hwr.cell (p := ⟨db, _, none⟩) hdb).trans hy1
                have x2 : wr.cell? ⟨db, do' + m * 2, none⟩ = some (.int .i64 d.1) := (hwr.cell (p := ⟨db, _, none⟩) hdb).trans hx2
                have y2 : wr.cell? ⟨db, do' + m * 2 + 1, none⟩ = some (.int .i64 d.2) := (hwr.cell (p := ⟨db, _, none⟩) hdb).trans hy2
                have hdbl : db < wr.heap.size := Nat.lt_of_lt_of_le hdb hwr.size
                have hia := H.out.box.dot (allIn_mem HIN.out HLL.out ha)
                have hid := H.out.box.dot (allIn_mem HIN.out HLL.out hd)
                have HLN := Lib.hid (fun n => line_any (HCQ.out.keepB (bel_drewN (n := n) (bel_alloc (o := .cells #[.int .i64 a.1, .int .i64 a.2] 36) (bel_refl (a := wr)))).below) a d hia hid)
                have hw1 : IntKind.i64.wrap ((j : Int) + 1) = (j : Int) + 1 := IntWalk.i64_in _ (by omega)
                have hcl0 : ((cl.length : Int) == 0) = false := by rw [beq_eq_false_iff_ne]; omega
                have hcl1 : (cl.length : Int) ≠ 0 := by omega
                have hml2 : (m : Int) < cl.length := by omega
                have hj2 : (j : Int) < cl.length := by omega
                have hcl3 : cl ≠ [] := by rintro rfl; simp at hlt2
                subst hA'
                clear ha hd hm hx1 hy1 hx2 hy2 hia hid hwr
                go_upto_region 22 with fail
                refine wp_region_drew_tail 10 (by kernel_rfl) (by kernel_rfl) ?_
                simp only [List.take_succ_cons, List.take_zero, List.drop_succ_cons, List.drop_zero]
                repeat (go_big_quiet_step (fail))
                refine wpQuiet_nil ?_
                rintro _ ⟨nq, rfl⟩
                clear x1 y1 x2 y2 hrem hw1
                go_wp2_with (first | (go_at_call 37; (with_reducible refine (HLN.out _).mono ?_); rintro e w9 ⟨⟨v', rfl⟩, hc9, ht9⟩; have HC9 := Lib.hid hc9; have HT9 := Lib.hid ht9; clear hc9 ht9) | fail)
                go_roundw
                case rel => exact ⟨j + 1, by omega, by go_num, Lib.hid (by rw [flatN_step HS.out]; exact HC9.out), Lib.hid (((HTQ.out.alloc _).drewN nq).trans (.of_turn HT9.out rfl))⟩
                case measure => simp [intOf]; omega
              · obtain rfl : j = cl.length := by omega
                clear hwr
                go_wp2_with fail
                go_roundw
                case rel => exact ⟨q + 1, by omega, by go_num, Lib.hid (by rw [← flatN_next HLL.out]; exact HCQ.out), HTQ⟩
                case measure => simp [intOf]; omega
          · obtain rfl : q = ls.length := by omega
            have hfin : FlatR g k b cs ls w (.returned (.int .i64 0)) wr := by
              rw [HF.out]
              refine ⟨rfl, by rw [← flatN_end b cs ls []]; exact HC1.out, ⟨HT1.out.os, HT1.out.tape, HT1.out.output, HT1.out.size, fun i hi h1 _ => HT1.out.block i hi h1⟩⟩
            have HFI := Lib.hid hfin
            clear hfin
            go_wp2_with fail
            go_ret
            exact HFI.out
end Go.Proofs.Ytbjggiihbdhmbaa

namespace Go.Proofs.Ytbjggiihbdhmbaa
open Go.RowKit Go.Shelf

def flatO (b : B4) (ls : List (List Dt)) : List Op3 := (segs ls).flatMap fun s => lineO b s.1 s.2
theorem flatO_eq (b : B4) (cs : List Ce) (ls : List (List Dt)) : flatC b cs ls = (flatO b ls).foldl upd cs := by
  unfold flatC flatO
  generalize segs ls = l
  induction l generalizing cs with
  | nil => rfl
  | cons s l ih => rw [List.foldl_cons, ih, List.flatMap_cons, List.foldl_append, ← lineO_eq]; rfl
theorem range_sum (g : Nat → Int) : ∀ m : Nat, ((List.range m).map fun i => g (i + 1)).sum + g 0 = ((List.range (m + 1)).map g).sum
  | 0 => by simp
  | m + 1 => by
    rw [List.range_succ, List.map_append, List.sum_append, List.range_succ (n := m + 1), List.map_append, List.sum_append, ← range_sum g m]
    simp
    omega
theorem closed_sum (f : Dt → Int) (c : List Dt) : ((segsOf c).map fun s => f s.2 - f s.1).sum = 0 := by
  have h1 : ((segsOf c).map fun s => f s.2 - f s.1).sum = ((List.range c.length).map fun i => f (c.getD ((i + 1) % c.length) (0, 0))).sum - ((List.range c.length).map fun i => f (c.getD i (0, 0))).sum := by
    unfold segsOf
    generalize List.range c.length = l
    induction l with
    | nil => rfl
    | cons i l ih =>
      simp only [List.map_cons, List.sum_cons] at ih ⊢
      rw [ih]
      omega
  rw [h1]
  cases hn : c.length with
  | zero => rfl
  | succ m =>
    have h2 : (List.range (m + 1)).map (fun i => f (c.getD ((i + 1) % (m + 1)) (0, 0))) = (List.range m).map (fun i => f (c.getD (i + 1) (0, 0))) ++ [f (c.getD 0 (0, 0))] := by
      rw [List.range_succ, List.map_append]
      congr 1
      · apply List.map_congr_left
        intro i hi
        rw [Nat.mod_eq_of_lt (by have := List.mem_range.1 hi; omega)]
      · simp
    rw [h2, List.sum_append, ← range_sum (fun i => f (c.getD i (0, 0))) m]
    simp
theorem segs_sum (f : Dt → Int) (ls : List (List Dt)) : ((segs ls).map fun s => f s.2 - f s.1).sum = 0 := by
  unfold segs
  induction ls with
  | nil => rfl
  | cons c ls ih => rw [List.map_cons, List.flatten_cons, List.map_append, List.sum_append, closed_sum, ih]; rfl
theorem segsOf_mem {c : List Dt} {s : Sg} (h : s ∈ segsOf c) : s.1 ∈ c ∧ s.2 ∈ c := by
  unfold segsOf at h
  obtain ⟨i, hi, rfl⟩ := List.mem_map.1 h
  have hi := List.mem_range.1 hi
  constructor
  · simp only [List.getD_eq_getElem?_getD, List.getElem?_eq_getElem hi, Option.getD_some]
    exact List.getElem_mem hi
  · have hm := next_lt hi
    simp only [List.getD_eq_getElem?_getD, List.getElem?_eq_getElem hm, Option.getD_some]
    exact List.getElem_mem hm
theorem flat_row {b : B4} (hb : BoxOk b) {ls : List (List Dt)} (hin : allIn b ls = true) (r : Nat) : sumIn (r * widN b) (widN b) (flatO b ls) = 0 := by
  rw [← segs_sum (fun d => clampY (b.y0 + r) d.2) ls]
  have hm : ∀ s ∈ segs ls, inB b s.1 = true ∧ inB b s.2 = true := by
    intro s hs
    unfold segs at hs
    obtain ⟨l, hl, hs⟩ := List.mem_flatten.1 hs
    obtain ⟨c, hc, rfl⟩ := List.mem_map.1 hl
    unfold allIn at hin
    rw [List.all_eq_true] at hin
    have h1 := hin c hc
    rw [List.all_eq_true] at h1
    exact ⟨h1 _ (segsOf_mem hs).1, h1 _ (segsOf_mem hs).2⟩
  unfold flatO
  generalize segs ls = l at hm
  induction l with
  | nil => simp [sumIn]
  | cons s l ih =>
    rw [List.flatMap_cons, sumIn_append, ih (fun s hs => hm s (by simp [hs])), List.map_cons, List.sum_cons, line_row hb r (hm s (by simp)).1 (hm s (by simp)).2]
theorem row_in {b : B4} (hb : BoxOk b) {j : Nat} (hj : j < higN b) : j * widN b + widN b ≤ numB b := by
  have h1 : (zerC (numB b)).length = higN b * widN b := len_nat hb (by simp [zerC, hb.num.1])
  have h2 : numB b = higN b * widN b := by rw [← h1]; simp [zerC]
  have : (j + 1) * widN b ≤ higN b * widN b := Nat.mul_le_mul_right _ hj
  rw [Nat.add_mul] at this
  omega
theorem flat_rowSum {b : B4} (hb : BoxOk b) {ls : List (List Dt)} (hin : allIn b ls = true) {j : Nat} (hj : j < higN b) : rowSum (flatC b (zerC (numB b)) ls) (j * widN b) (widN b) = 0 := by
  rw [flatO_eq, rowSum_eq _ _ _ _ (row_in hb hj), flat_row hb hin, wrap_zero]
theorem zero_rowSum {b : B4} (hb : BoxOk b) {j : Nat} (hj : j < higN b) : rowSum (zerC (numB b)) (j * widN b) (widN b) = 0 := by
  have := rowSum_eq (numB b) [] (j * widN b) (widN b) (row_in hb hj)
  rw [List.foldl_nil] at this
  rw [this]
  exact wrap_zero
section
variable {w : World} {A : Option Addr} {c : Nat} {ls : List (List Dt)}
def SomeI (w : World) (e : Ending) (w' : World) : Prop := ∃ x : Int, e = .returned (.int .i64 x) ∧ w = w'
set_option maxRecDepth 20000 in
theorem Count_big (h : Dl w A ls) (hn : ls.length ≤ 8796093022208) : Calls Try.prog 25 #[.slice A ls.length c] w (SomeI w) := by
  have HL := Lib.hid h
  clear h
  go_enter Try.func25, Try.ntmps25
  go_wp2
  go_loop [3, 4] (fun n i => ∃ (k : Nat) (s : Int), k ≤ ls.length ∧ i = .int .i64 k ∧ n = .int .i64 s) (fun _ i => ls.length - (intOf i).toNat)
  case atStart => exact ⟨0, 0, Nat.zero_le _, rfl, rfl⟩
  case round =>
    obtain ⟨k, s, hk, rfl, rfl⟩ := hrel
    by_cases hlt : k < ls.length
    · obtain ⟨l, hl⟩ := get_some hlt
      obtain ⟨b, o, Ai, ci, rfl, hb, hc, hd, hs⟩ := HL.out k l hl
      clear hl hd
      go_wp2
      go_round
      case rel => exact ⟨k + 1, _, by omega, by go_num, rfl⟩
      case measure => simp [intOf]; omega
    · obtain rfl : k = ls.length := by omega
      have HF : Hid (SomeI w (.returned (.int .i64 s)) w) := Lib.hid ⟨s, rfl, rfl⟩
      go_wp2
      go_ret
      exact HF.out
end
end Go.Proofs.Ytbjggiihbdhmbaa

namespace Go.Proofs.Ytbjggiihbdhmbaa
open Go.RowKit Go.Shelf

section
variable {w : World} {A : Option Addr} {c : Nat} {ls : List (List Dt)} {b : B4}
set_option maxRecDepth 100000 in
set_option maxHeartbeats 4000000 in
theorem coverFlats_no (hd : Dl w A ls) (hn : ls.length ≤ 8796093022208) (hno : smallB b = false ∨ 50 < ls.length ∨ (ls.length ≤ 1000 ∧ 200 < cnt ls)) : Calls Try.prog 7 #[.agg #[.int .i64 b.x0, .int .i64 b.y0, .int .i64 b.x1, .int .i64 b.y1], .slice A ls.length c] w fun e w' => e = .returned (.bool true) ∧ Below w.heap.size w w' := by
  have KS := fun w => small_any b w
  cases hs : smallB b with
  | false =>
    rw [hs] at KS
    have HS := Lib.hid KS
    clear KS hno hs hd
    go_enter Try.func7, Try.ntmps7
    go_wp2_with (first | (go_at_call 12; (with_reducible refine (HS.out _).mono ?_); rintro e w1 ⟨rfl, hb1⟩; obtain ⟨hc1, hf1, hz1⟩ := bcell hb1; (try simp at hz1)) | (go_at_call 10; (with_reducible refine (lives_any _).mono ?_); rintro e w2 ⟨rfl, hb2⟩; obtain ⟨hc2, hf2, hz2⟩ := bcell hb2; (try simp at hz2)) | fail)
    go_ret
    refine ⟨rfl, Bel.below ?_⟩
    repeat (first | with_reducible exact bel_refl | with_reducible apply bel_alloc | with_reducible apply bel_drewN | with_reducible apply bel_drew | (with_reducible refine bel_set ?_ ?_; rotate_left; · first | (simp; done) | (simp; omega) | omega) | with_reducible refine bel_call (by assumption) ?_)
  | true =>
    rw [hs] at KS
    have HS := Lib.hid KS
    have HL := Lib.hid hd
    rcases hno with h | hno
    · rw [hs] at h; cases h
    by_cases hc : ls.length ≤ 1000
    · have KC := fun w' (hb : Below w.heap.size w w') => Count_any (w := w') (c := c) (hd.keep hb) hc
      have HC := Lib.hid KC
      have hcnt := cnt_le ls _ hd.small ls.length
      rw [List.take_of_length_le (Nat.le_refl _)] at hcnt
      have hcnt2 : cnt ls ≤ 1000 * 8796093022208 := Nat.le_trans hcnt (Nat.mul_le_mul_right _ hc)
      have hcases : 200 < cnt ls ∨ (¬ 200 < cnt ls ∧ 50 < ls.length) := by omega
      clear KS KC hs hd hno hcnt
      rcases hcases with h1 | ⟨h1, h2⟩
      all_goals
        go_enter Try.func7, Try.ntmps7
        go_wp2_with (first | (go_at_call 12; (with_reducible refine (HS.out _).mono ?_); rintro e w1 ⟨rfl, hb1⟩; obtain ⟨hc1, hf1, hz1⟩ := bcell hb1; (try simp at hz1)) | (go_at_call 25; (with_reducible refine (HC.out _ ?_).mono ?_); (· refine Bel.below ?_; repeat (first | with_reducible exact bel_refl | with_reducible apply bel_alloc | with_reducible apply bel_drewN | with_reducible apply bel_drew | (with_reducible refine bel_set ?_ ?_; rotate_left; · first | (simp; done) | (simp; omega) | omega) | with_reducible refine bel_call (by assumption) ?_)); rintro e w2 ⟨rfl, rfl⟩) | (go_at_call 10; (with_reducible refine (lives_any _).mono ?_); rintro e w3 ⟨rfl, hb3⟩; obtain ⟨hc3, hf3, hz3⟩ := bcell hb3; (try simp at hz3)) | fail)
        go_ret
        refine ⟨rfl, Bel.below ?_⟩
        repeat (first | with_reducible exact bel_refl | with_reducible apply bel_alloc | with_reducible apply bel_drewN | with_reducible apply bel_drew | (with_reducible refine bel_set ?_ ?_; rotate_left; · first | (simp; done) | (simp; omega) | omega) | with_reducible refine bel_call (by assumption) ?_)
    · have KC := fun w' (hb : Below w.heap.size w w') => Count_big (w := w') (c := c) (hd.keep hb) hn
      have HC := Lib.hid KC
      have h2 : 50 < ls.length := by omega
      clear KS KC hs hd hno hc
      go_enter Try.func7, Try.ntmps7
      go_wp2_with (first | (go_at_call 12; (with_reducible refine (HS.out _).mono ?_); rintro e w1 ⟨rfl, hb1⟩; obtain ⟨hc1, hf1, hz1⟩ := bcell hb1; (try simp at hz1)) | (go_at_call 25; (with_reducible refine (HC.out _ ?_).mono ?_); (· refine Bel.below ?_; repeat (first | with_reducible exact bel_refl | with_reducible apply bel_alloc | with_reducible apply bel_drewN | with_reducible apply bel_drew | (with_reducible refine bel_set ?_ ?_; rotate_left; · first | (simp; done) | (simp; omega) | omega) | with_reducible refine bel_call (by assumption) ?_)); rintro e w2 ⟨x, rfl, rfl⟩) | (go_at_call 10; (with_reducible refine (lives_any _).mono ?_); rintro e w3 ⟨rfl, hb3⟩; obtain ⟨hc3, hf3, hz3⟩ := bcell hb3; (try simp at hz3)) | fail)
      all_goals
        go_ret
        refine ⟨rfl, Bel.below ?_⟩
        repeat (first | with_reducible exact bel_refl | with_reducible apply bel_alloc | with_reducible apply bel_drewN | with_reducible apply bel_drew | (with_reducible refine bel_set ?_ ?_; rotate_left; · first | (simp; done) | (simp; omega) | omega) | with_reducible refine bel_call (by assumption) ?_)
/-- What Flat answers. -/
def flatE (b : B4) (ls : List (List Dt)) : Int := if mayL ls = true ∧ allIn b ls = true then 0 else 10
/-- What Flat leaves of cells in which nothing was left. -/
def flatZ (b : B4) (ls : List (List Dt)) : List Ce := if mayL ls = true ∧ allIn b ls = true then flatC b (zerC (numB b)) ls else zerC (numB b)
theorem flatZ_row (hb : BoxOk b) {j : Nat} (hj : j < higN b) : rowSum (flatZ b ls) (j * widN b) (widN b) = 0 := by
  unfold flatZ
  split
  · rename_i h
    exact flat_rowSum hb h.2 hj
  · exact zero_rowSum hb hj
def FlatY (g k : Nat) (b : B4) (ls : List (List Dt)) (w : World) (e : Ending) (w' : World) : Prop := e = .returned (.int .i64 (flatE b ls)) ∧ Cc w' g k b (flatZ b ls) ∧ Turn w w' k none
theorem Flat_yes {w0 : World} {g k : Nat} (h : Cc w g k b (zerC (numB b))) (hd : Dl w0 A ls) (hb : Below w0.heap.size w0 w) (hkc : w0.heap.size ≤ k) (hn : ls.length ≤ 1000) (hcn : cnt ls ≤ 1000) :
    Calls Try.prog 29 #[.pointer (some ⟨g, 0, none⟩), .slice A ls.length c] w (FlatY g k b ls w) := by
  refine (Flat_any h hd hb hkc hn hcn).mono fun e w' hr => ?_
  unfold FlatR at hr
  unfold FlatY flatE flatZ
  by_cases hc : mayL ls = true ∧ allIn b ls = true
  · rw [if_pos hc] at hr
    rw [if_pos hc, if_pos hc]
    exact hr
  · rw [if_neg hc] at hr
    rw [if_neg hc, if_neg hc]
    exact ⟨hr.1, h.keepB hr.2, ⟨hr.2.os, hr.2.tape, hr.2.output, hr.2.size, fun i hi _ _ => hr.2.block i hi⟩⟩
set_option maxRecDepth 100000 in
set_option maxHeartbeats 8000000 in
theorem coverFlats_yes (hd : Dl w A ls) (hs : smallB b = true) (hn : ls.length ≤ 50) (hcn : cnt ls ≤ 200) : Calls Try.prog 7 #[.agg #[.int .i64 b.x0, .int .i64 b.y0, .int .i64 b.x1, .int .i64 b.y1], .slice A ls.length c] w fun e w' => e = .returned (.bool true) ∧ Below w.heap.size w w' := by
  have KS := fun w => small_any b w
  have hc0 := (smallB_true.1 hs).1
  have hbx := BoxOk.of hc0
  rw [hs] at KS
  have HS := Lib.hid KS
  have HN := Lib.hid (fun w => New_yes hc0 w)
  have HR := Lib.hid (fun w => rNew_any b hbx w)
  have HBX := Lib.hid hbx
  have HD := Lib.hid hd
  have HC := Lib.hid (fun w' (hb : Below w.heap.size w w') => Count_any (w := w') (c := c) (hd.keep hb) (by omega))
  have KM := fun w' (hb : Below w.heap.size w w') => rMay21_any (w := w') (c := c) (hd.keep hb) (by omega) (by omega)
  have KA := fun w' (hb : Below w.heap.size w w') => AllIn_any (w := w') (c := c) hbx (hd.keep hb) (by omega)
  have hn2 : (ls.length : Int) ≤ 50 := by omega
  have hcn2 : (cnt ls : Int) ≤ 200 := by omega
  have HNN := Lib.hid (And.intro hn hcn)
  clear KS hs hbx hc0 hd
  have key : (mayL ls = false) ∨ (mayL ls = true ∧ allIn b ls = false) ∨ (mayL ls = true ∧ allIn b ls = true) := by cases mayL ls <;> cases allIn b ls <;> simp
  rcases key with hm | ⟨hm, hi⟩ | ⟨hm, hi⟩
  all_goals
    have HM := Lib.hid hm
    try have HI := Lib.hid hi
    first
      | rw [mayE_no hm] at KM
      | rw [mayE_yes hm] at KM
    try rw [hi] at KA
    have HKM := Lib.hid KM
    have HKA := Lib.hid KA
    clear KM KA hm
    try clear hi
    go_enter Try.func7, Try.ntmps7
    go_wp2_with (first
      | (go_at_call 12; (with_reducible refine (HS.out _).mono ?_); rintro e w1 ⟨rfl, hb1⟩; obtain ⟨hc1, hf1, hz1⟩ := bcell hb1; (try simp at hz1))
      | (go_at_call 25; (with_reducible refine (HC.out _ ?_).mono ?_); (· refine Bel.below ?_; repeat (first | with_reducible exact bel_refl | with_reducible apply bel_alloc | with_reducible apply bel_drewN | with_reducible apply bel_drew | (with_reducible refine bel_set ?_ ?_; rotate_left; · first | (simp; done) | (simp; omega) | omega) | with_reducible refine bel_call (by assumption) ?_)); rintro e w2 ⟨rfl, rfl⟩)
      | (go_at_call 9; (with_reducible refine (HN.out _).mono ?_); rintro e w3 ⟨g, k, rfl, hcc, hg, hk, hb3⟩; obtain ⟨hc3, hf3, hz3⟩ := bcell hb3; (try simp at hz3); have HCC := Lib.hid hcc; clear hcc)
      | (go_at_call 10; (with_reducible refine (lives_any _).mono ?_); rintro e w4 ⟨rfl, hb4⟩; obtain ⟨hc4, hf4, hz4⟩ := bcell hb4; (try simp at hz4))
      | (go_at_call 13; (with_reducible refine (HR.out _).mono ?_); rintro e w5 ⟨g2, kc, ka, rfl, hrc, hg2, hkc, hka, hb5⟩; obtain ⟨hc5, hf5, hz5⟩ := bcell hb5; (try simp at hz5); have HRC := Lib.hid hrc; clear hrc)
      | (go_at_call 26; (with_reducible refine (HKM.out _ ?_).mono ?_); (· refine Bel.below ?_; repeat (first | with_reducible exact bel_refl | with_reducible apply bel_alloc | with_reducible apply bel_drewN | with_reducible apply bel_drew | (with_reducible refine bel_set ?_ ?_; rotate_left; · first | (simp; done) | (simp; omega) | omega) | with_reducible refine bel_call (by assumption) ?_)); rintro e w6 ⟨rfl, rfl⟩)
      | (go_at_call 27; (with_reducible refine (HKA.out _ ?_).mono ?_); (· refine Bel.below ?_; repeat (first | with_reducible exact bel_refl | with_reducible apply bel_alloc | with_reducible apply bel_drewN | with_reducible apply bel_drew | (with_reducible refine bel_set ?_ ?_; rotate_left; · first | (simp; done) | (simp; omega) | omega) | with_reducible refine bel_call (by assumption) ?_)); rintro e w7 ⟨rfl, hb7⟩; obtain ⟨hc7, hf7, hz7⟩ := bcell hb7; (try simp at hz7))
      | fail)
  focus
    have hX : Blk w5 w.heap.size 23 [.int .i64 b.x0, .int .i64 b.y0, .int .i64 b.x1, .int .i64 b.y1] := by
      repeat (with_reducible refine Blk.belowI (by with_reducible assumption) (by (try simp); try omega) ?_)
      exact Blk.newAt _ _ [_, _, _, _] rfl
    have hB : Below w.heap.size w w5 := by
      refine Bel.below ?_
      repeat (first | with_reducible exact bel_refl | with_reducible apply bel_alloc | with_reducible apply bel_drewN | with_reducible apply bel_drew | (with_reducible refine bel_set ?_ ?_; rotate_left; · first | (simp; done) | (simp; omega) | omega) | with_reducible refine bel_call (by assumption) ?_)
    have hkl := HCC.out.row.lt
    have hgl := HCC.out.blk.lt
    have hnum : w.heap.size + 1 ≤ k ∧ w.heap.size + 1 ≤ kc ∧ w.heap.size + 1 ≤ ka ∧ k < kc ∧ k < ka ∧ g < kc ∧ g < ka ∧ k < g2 := by (try simp at hk); omega
    have hE : flatE b ls = 10 := by unfold flatE; rw [if_neg (by rw [HM.out]; simp)]
    have hZ : flatZ b ls = zerC (numB b) := by unfold flatZ; rw [if_neg (by rw [HM.out]; simp)]
    have hC : Cc w5 g k b (zerC (numB b)) := (HCC.out.keepB hb4).keepB hb5
    have hRq : Rc w5 g2 kc ka b (flatZ b ls) := by rw [hZ]; exact HRC.out
    have HQ := Lib.hid (And.intro hX (And.intro hB (And.intro hnum (And.intro hC hRq))))
    clear hc1 hf1 hz1 hb1 hc3 hf3 hz3 hb3 hc4 hf4 hz4 hb4 hc5 hf5 hz5 hb5 hX hB hkl hgl hnum hC hRq hZ HRC HCC hg hk hg2 hkc hka
  rotate_left
  focus
    have hX : Blk w7 w.heap.size 23 [.int .i64 b.x0, .int .i64 b.y0, .int .i64 b.x1, .int .i64 b.y1] := by
      repeat (with_reducible refine Blk.belowI (by with_reducible assumption) (by (try simp); try omega) ?_)
      exact Blk.newAt _ _ [_, _, _, _] rfl
    have hB : Below w.heap.size w w7 := by
      refine Bel.below ?_
      repeat (first | with_reducible exact bel_refl | with_reducible apply bel_alloc | with_reducible apply bel_drewN | with_reducible apply bel_drew | (with_reducible refine bel_set ?_ ?_; rotate_left; · first | (simp; done) | (simp; omega) | omega) | with_reducible refine bel_call (by assumption) ?_)
    have hkl := HCC.out.row.lt
    have hgl := HCC.out.blk.lt
    have hnum : w.heap.size + 1 ≤ k ∧ w.heap.size + 1 ≤ kc ∧ w.heap.size + 1 ≤ ka ∧ k < kc ∧ k < ka ∧ g < kc ∧ g < ka ∧ k < g2 := by (try simp at hk); omega
    have hE : flatE b ls = 10 := by unfold flatE; rw [if_neg (by rw [HI.out]; simp)]
    have hZ : flatZ b ls = zerC (numB b) := by unfold flatZ; rw [if_neg (by rw [HI.out]; simp)]
    have hC : Cc w7 g k b (zerC (numB b)) := ((HCC.out.keepB hb4).keepB hb5).keepB hb7
    have hRq : Rc w7 g2 kc ka b (flatZ b ls) := by rw [hZ]; exact HRC.out.keepB hb7
    have HQ := Lib.hid (And.intro hX (And.intro hB (And.intro hnum (And.intro hC hRq))))
    clear hc1 hf1 hz1 hb1 hc3 hf3 hz3 hb3 hc4 hf4 hz4 hb4 hc5 hf5 hz5 hb5 hc7 hf7 hz7 hb7 hX hB hkl hgl hnum hC hRq hZ HRC HCC hg hk hg2 hkc hka
  rotate_left
  focus
    have hX : Blk w7 w.heap.size 23 [.int .i64 b.x0, .int .i64 b.y0, .int .i64 b.x1, .int .i64 b.y1] := by
      repeat (with_reducible refine Blk.belowI (by with_reducible assumption) (by (try simp); try omega) ?_)
      exact Blk.newAt _ _ [_, _, _, _] rfl
    have hB : Below w.heap.size w w7 := by
      refine Bel.below ?_
      repeat (first | with_reducible exact bel_refl | with_reducible apply bel_alloc | with_reducible apply bel_drewN | with_reducible apply bel_drew | (with_reducible refine bel_set ?_ ?_; rotate_left; · first | (simp; done) | (simp; omega) | omega) | with_reducible refine bel_call (by assumption) ?_)
    have hkl := HCC.out.row.lt
    have hgl := HCC.out.blk.lt
    have hnum : w.heap.size + 1 ≤ k ∧ w.heap.size + 1 ≤ kc ∧ w.heap.size + 1 ≤ ka ∧ k < kc ∧ k < ka ∧ g < kc ∧ g < ka ∧ k < g2 := by (try simp at hk); omega
    have hE : flatE b ls = 0 := by unfold flatE; rw [if_pos ⟨HM.out, HI.out⟩]
    have hZ : flatZ b ls = flatC b (zerC (numB b)) ls := by unfold flatZ; rw [if_pos ⟨HM.out, HI.out⟩]
    have hC : Cc w7 g k b (zerC (numB b)) := ((HCC.out.keepB hb4).keepB hb5).keepB hb7
    have hR7 : Rc w7 g2 kc ka b (zerC (numB b)) := HRC.out.keepB hb7
    have HRF := Lib.hid (rFlat_any (c := c) hR7 HD.out hB (by omega) (by omega) (by omega) (by omega) HI.out)
    have HQ0 := Lib.hid (And.intro hX (And.intro hB (And.intro hnum hC)))
    have HZZ := Lib.hid hZ
    clear hc1 hf1 hz1 hb1 hc3 hf3 hz3 hb3 hc4 hf4 hz4 hb4 hc5 hf5 hz5 hb5 hc7 hf7 hz7 hb7 hX hB hkl hgl hnum hC hR7 hZ HRC HCC hg hk hg2 hkc hka
    (go_at_call 28; (with_reducible refine HRF.out.mono ?_); rintro e w8 ⟨⟨v', rfl⟩, hrc8, ht8⟩)
    obtain ⟨hX, hB, hnum, hC⟩ := HQ0.out
    have hXq := ht8.blk hX (fun e => by rcases e with e | e <;> omega)
    have hBq := hB.trans (ht8.below (fun i hi e => by rcases e with e | e <;> omega) hB.size)
    have hCq := hC.tn ht8 (fun e => by rcases e with e | e <;> omega) (fun e => by rcases e with e | e <;> omega)
    have hRq : Rc w8 g2 kc ka b (flatZ b ls) := by rw [HZZ.out]; exact hrc8
    have HQ := Lib.hid (And.intro hXq (And.intro hBq (And.intro hnum (And.intro hCq hRq))))
    clear hX hB hnum hC hXq hBq hCq hRq hrc8 ht8 HQ0 HRF
    go_wp2_with fail
  all_goals
    have hfy := Flat_yes (c := c) HQ.out.2.2.2.1 HD.out HQ.out.2.1 (by have := HQ.out.2.2.1.1; omega) (by omega) (by omega)
    unfold FlatY at hfy
    rw [hE] at hfy
    have HFY := Lib.hid hfy
    clear hfy hE
    (go_at_call 29; (with_reducible refine HFY.out.mono ?_); rintro e w10 ⟨rfl, hc10, ht10⟩)
    obtain ⟨hX, hB, hnum, hC, hRq⟩ := HQ.out
    obtain ⟨m1, m2, m3, m4, m5, m6, m7, m8⟩ := hnum
    have hX10 := ht10.blk hX (by omega) (fun e => by cases e)
    have hB10 := hB.trans (below_turn ht10 (by omega) hB.size)
    have hR10 : Rc w10 g2 kc ka b (flatZ b ls) := ⟨ht10.blk hRq.blk (by omega) (fun e => by cases e), ht10.blk hRq.cov (by omega) (fun e => by cases e), ht10.blk hRq.are (by omega) (fun e => by cases e), hRq.ne, hRq.len, hRq.box⟩
    have HHO := Lib.hid (holds_any hc10 hR10 0)
    have HX10 := Lib.hid hX10
    have HB10 := Lib.hid hB10
    have HC10 := Lib.hid hc10
    clear hX hB hC hRq hX10 hB10 hR10 hc10 ht10 HQ HFY
    go_wp2_with (first | (go_at_call 18; (with_reducible refine HHO.out.mono ?_); rintro e w11 ⟨rfl, hb11⟩
                          have HX := Lib.hid (HX10.out.keepB hb11)
                          have HBW := Lib.hid (HB10.out.trans (hb11.mono HB10.out.size))
                          have HCC := Lib.hid (HC10.out.keepB hb11)
                          have x1 := HX.out.cell 1
                          have xl := HX.out.lt
                          simp only [List.getElem?_cons_succ, List.getElem?_cons_zero] at x1
                          clear hb11) | fail)
    have hbx := HBX.out
    have hh := hig_cast hbx
    have hw := wid_cast hbx
    have hwdd : widB b = b.x1 - b.x0 + 1 := rfl
    obtain ⟨bx0, bx1, bx, by0, by1, byy, -⟩ := hbx
    have HW := Lib.hid (And.intro hw (And.intro hh hwdd))
    have hsc : w.heap.size ≤ w11.heap.size := by omega
    clear x1 xl hh hw hwdd HX10 HB10 HC10 HHO
    go_loopw [9] (fun y wr => ∃ (j : Nat) (Y : Int), j ≤ higN b ∧ Hid (Y = b.y0 + j) ∧ y = .int .i64 Y ∧ Hid (Below w11.heap.size w11 wr)) (fun y _ => (b.y1 - intOf y).toNat)
    case atStart => exact ⟨0, b.y0, Nat.zero_le _, Lib.hid (by simp), rfl, Lib.hid (Below.refl _ _)⟩
    case round =>
      obtain ⟨j, Y, hj, HY, rfl, HB⟩ := hrel
      obtain ⟨hw, hh, hwdd⟩ := HW.out
      have hY := HY.out
      have hX1 := HX.out.keepB HB.out
      have x3 : wr.cell? ⟨w.heap.size, 3, none⟩ = some (.int .i64 b.y1) := hX1.cell 3
      have x0 : wr.cell? ⟨w.heap.size, 0, none⟩ = some (.int .i64 b.x0) := hX1.cell 0
      have xl := hX1.lt
      by_cases hlt : j < higN b
      · have hlt2 : Y < b.y1 := by omega
        have hY0 : b.y0 ≤ Y := by omega
        have HROW := Lib.hid (flatZ_row (ls := ls) HBX.out hlt)
        clear hw hh hwdd hY hX1 hj
        go_wp2_with fail
        clear x0 x3 xl
        go_loopw [10, 11] (fun s x wq => ∃ (m : Nat) (S X : Int), m ≤ widN b ∧ Hid (X = b.x0 + m) ∧ x = .int .i64 X ∧ Hid (rowSum (flatZ b ls) (j * widN b) m = S) ∧ s = .int .i64 S ∧ Hid (Below w11.heap.size w11 wq)) (fun _ x _ => (b.x1 + 1 - intOf x).toNat)
        case atStart => exact ⟨0, 0, b.x0, Nat.zero_le _, Lib.hid (by simp), rfl, Lib.hid rfl, rfl, HB⟩
        case round =>
          obtain ⟨m, S, X, hm, HX2, rfl, HS2, rfl, HB2⟩ := hrel
          have hX2 := HX2.out
          have hY := HY.out
          obtain ⟨hw, hh, hwdd⟩ := HW.out
          have hXb := HX.out.keepB HB2.out
          have x2 : wr.cell? ⟨w.heap.size, 2, none⟩ = some (.int .i64 b.x1) := hXb.cell 2
          have xl := hXb.lt
          by_cases hlm : m < widN b
          · have hlm2 : X ≤ b.x1 := by omega
            have hcc := HCC.out.keepB HB2.out
            have KA := At_any hcc X Y
            have hsc1 := (step_cell HBX.out (flatZ b ls) hlt hlm).1
            rw [← hX2, ← hY] at hsc1
            generalize atC b (flatZ b ls) X Y = z at *
            obtain ⟨z1, z2⟩ := z
            have hnext : rowSum (flatZ b ls) (j * widN b) (m + 1) = wrap64 (S + z1) := by rw [rowSum, HS2.out, ← hsc1]
            have HNX := Lib.hid hnext
            have HKA := Lib.hid KA
            have hX3 : -16384 ≤ X := by omega
            clear hX2 hY hw hh hwdd hXb hcc KA hsc1 hnext
            go_wp2_with (first | (go_at_call 17; (with_reducible refine HKA.out.mono ?_); rintro e w8 ⟨rfl, hb8⟩; have HB8 := Lib.hid hb8; clear hb8) | fail)
            go_roundw
            case rel => exact ⟨m + 1, wrap64 (S + z1), X + 1, by omega, Lib.hid (by have := HX2.out; omega), rfl, HNX, rfl, Lib.hid (HB2.out.trans (HB8.out.mono HB2.out.size))⟩
            case measure => simp [intOf]; omega
          · have hlm2 : ¬ X ≤ b.x1 := by omega
            have hme : m = widN b := by omega
            have hSD : S = 0 := by rw [← HS2.out, ← HROW.out, hme]
            subst hSD
            clear hX2 hY hw hh hwdd hXb hme
            go_wp2_with fail
            go_roundw
            case rel => exact ⟨j + 1, Y + 1, by omega, Lib.hid (by have := HY.out; omega), rfl, HB2⟩
            case measure => simp [intOf]; omega
      · have hlt2 : ¬ Y < b.y1 := by omega
        clear hw hh hwdd hY hX1
        go_wp2_with fail
        go_ret
        exact ⟨rfl, HBW.out.trans (HB.out.mono hsc)⟩
theorem coverFlats_any (hd : Dl w A ls) (hn : ls.length ≤ 8796093022208) : Calls Try.prog 7 #[.agg #[.int .i64 b.x0, .int .i64 b.y0, .int .i64 b.x1, .int .i64 b.y1], .slice A ls.length c] w fun e w' => e = .returned (.bool true) ∧ Below w.heap.size w w' := by
  cases hs : smallB b with
  | false => exact coverFlats_no hd hn (.inl hs)
  | true =>
    by_cases h1 : 50 < ls.length
    · exact coverFlats_no hd hn (.inr (.inl h1))
    · by_cases h2 : 200 < cnt ls
      · exact coverFlats_no hd hn (.inr (.inr ⟨by omega, h2⟩))
      · exact coverFlats_yes hd hs (by omega) (by omega)
end
end Go.Proofs.Ytbjggiihbdhmbaa

namespace Go.Proofs.Ytbjggiihbdhmbaa
open Go.ChangeShapes Go.WideShapes Go.ChangeAt Go.RowKit

set_option maxRecDepth 100000 in
theorem coverFlats_lifted (os : Os) (started : os.Started) (H : Type) (enc : TypeId × Value → H) :
    ReturnsInHanded {} Try.checked os 7 .any (Rows.coverFlatsSpec.pre6 enc Try.prog Try.f7 Rows.coverFlatsRow.domain false) (Rows.coverFlatsSpec.post enc Try.prog Try.f7 false true false false) := by
  refine returnsInHanded_of_change_sized (C := Try.checked) own_none started (by kernel_rfl) Try.func7
    (ChangeSpec.witness6 (enc := enc) (C := Try.checked) false ⟨#[], #[.agg #[.int .i64 0, .int .i64 0, .int .i64 0, .int .i64 0], .slice none 0 0], []⟩ 8 (by kernel_rfl) (by kernel_rfl) (by kernel_rfl) (by kernel_rfl)) ?_
  intro W base args ds gs before hval0 hW _ hwt _
  have hval : ∀ (j : Nat) t v, Try.f7.params[j]? = some t → args[j]? = some v → Value.okWide Try.prog W .any base t v := hval0
  have hW' := hW
  obtain ⟨p, q, hA0, _, _, _, _⟩ := hW
  have hA : DataW.TrodAll enc Try.prog W 0 (fun _ => true) true Try.f7.params.toList args.toList ds p := hA0
  rw [Try.params7] at hA hval
  obtain ⟨v0, v1, d0, d1, p0, p1, rfl, rfl, rfl, h0, h1⟩ := trodAll_two hA
  obtain ⟨cs0, rfl, l0, s0⟩ := open_st (ks := [.int .i64, .int .i64, .int .i64, .int .i64]) Try.underlying23 (by kernel_rfl) (by kernel_rfl) (hval 0 _ _ rfl rfl) h0 (reach_all (ts := [23, 60]) (by kernel_rfl) hwt (j := 0) rfl rfl)
  obtain ⟨A, n, c, rfl, k1, m1, r1, s1⟩ := open_sl (eb := 24) (ks := [.sl 16 [.int .i64, .int .i64]]) Try.underlying60 (by kernel_rfl) (hval 1 _ _ rfl rfl) h1 (reach_all (ts := [23, 60]) (by kernel_rfl) hwt (j := 1) rfl rfl)
  clear hA0 hval0
  obtain ⟨x0, y0, x1, y1, rfl⟩ := box_of l0 s0
  obtain ⟨ls, rfl, hls⟩ := lines_of s1
  refine (coverFlats_any (b := ⟨x0, y0, x1, y1⟩) (c := c) hls (by omega)).mono fun e W' ⟨he, hb⟩ => ?_
  subst he
  exact ⟨_, rfl, law_post_any laid_out Try.underlying4 hW' (by kernel_rfl) rfl rfl rfl hb⟩

theorem coverFlats_holds : Rows.CoverFlatsSaid :=
  OpenClaim.holds_of_wide 7 Try.f7 rfl rfl rfl rfl rfl rfl rfl ⟨rfl, rfl, rfl, rfl, rfl⟩ rfl rfl rfl rfl rfl (by kernel_rfl) Try.func7 (by kernel_rfl)
    (of_decide_eq_true (by kernel_rfl)) (by unfold Func.isWrapper; first | (rw [if_pos (by decide +kernel)]; kernel_rfl) | (rw [if_neg (by decide +kernel)]; exact ⟨rfl, rfl⟩))
    (fun os started H enc _ => coverFlats_lifted os started H enc)

end Go.Proofs.Ytbjggiihbdhmbaa
