/-
  The document's Head: enough bytes.
-/
import Derived.Test.YtbmflgcahbkdeaaHeadsN
import Derived.Test.YtbmflgcahbkdeaaHeadsL
import Derived.Test.YtbmflgcahbkdeaaRdH
namespace Go.Proofs.Ytbmflgcahbkdeaa
open Go.RowKit

theorem end_head {w : World} {g : Nat} {T : TypeId} {a : Array Value} {b : Bool} {z0 z1 z2 z3 z4 z5 z6 z7 z8 v0 v1 v2 v3 v4 v5 v6 v7 v8 : Value} (h : Blk w g T [z0, z1, z2, z3, z4, z5, z6, z7, z8]) (ha : a.getD 2 undef = .pointer (some ⟨g, 0, none⟩)) (hb : a.getD 3 undef = .bool b) :
    (results Try.f28 a).run Try.prog (((((((((w.setCell ⟨g, 0, none⟩ v0).setCell ⟨g, 1, none⟩ v1).setCell ⟨g, 2, none⟩ v2).setCell ⟨g, 3, none⟩ v3).setCell ⟨g, 4, none⟩ v4).setCell ⟨g, 5, none⟩ v5).setCell ⟨g, 6, none⟩ v6).setCell ⟨g, 7, none⟩ v7).setCell ⟨g, 8, none⟩ v8) = .ok (.tuple #[.agg #[v0, v1, v2, v3, v4, v5, v6, v7, v8], .bool b]) (((((((((w.setCell ⟨g, 0, none⟩ v0).setCell ⟨g, 1, none⟩ v1).setCell ⟨g, 2, none⟩ v2).setCell ⟨g, 3, none⟩ v3).setCell ⟨g, 4, none⟩ v4).setCell ⟨g, 5, none⟩ v5).setCell ⟨g, 6, none⟩ v6).setCell ⟨g, 7, none⟩ v7).setCell ⟨g, 8, none⟩ v8) := by
  have hB : Blk (((((((((w.setCell ⟨g, 0, none⟩ v0).setCell ⟨g, 1, none⟩ v1).setCell ⟨g, 2, none⟩ v2).setCell ⟨g, 3, none⟩ v3).setCell ⟨g, 4, none⟩ v4).setCell ⟨g, 5, none⟩ v5).setCell ⟨g, 6, none⟩ v6).setCell ⟨g, 7, none⟩ v7).setCell ⟨g, 8, none⟩ v8) g T [v0, v1, v2, v3, v4, v5, v6, v7, v8] := Blk.to (((((((((h.set 0 v0).set 1 v1).set 2 v2).set 3 v3).set 4 v4).set 5 v5).set 6 v6).set 7 v7).set 8 v8) rfl
  generalize (((((((((w.setCell ⟨g, 0, none⟩ v0).setCell ⟨g, 1, none⟩ v1).setCell ⟨g, 2, none⟩ v2).setCell ⟨g, 3, none⟩ v3).setCell ⟨g, 4, none⟩ v4).setCell ⟨g, 5, none⟩ v5).setCell ⟨g, 6, none⟩ v6).setCell ⟨g, 7, none⟩ v7).setCell ⟨g, 8, none⟩ v8) = W at hB ⊢
  have k0 : W.cell? ⟨g, 0, none⟩ = some v0 := hB.cell 0
  have k1 : W.cell? ⟨g, 1, none⟩ = some v1 := hB.cell 1
  have k2 : W.cell? ⟨g, 2, none⟩ = some v2 := hB.cell 2
  have k3 : W.cell? ⟨g, 3, none⟩ = some v3 := hB.cell 3
  have k4 : W.cell? ⟨g, 4, none⟩ = some v4 := hB.cell 4
  have k5 : W.cell? ⟨g, 5, none⟩ = some v5 := hB.cell 5
  have k6 : W.cell? ⟨g, 6, none⟩ = some v6 := hB.cell 6
  have k7 : W.cell? ⟨g, 7, none⟩ = some v7 := hB.cell 7
  have k8 : W.cell? ⟨g, 8, none⟩ = some v8 := hB.cell 8
  have ha2 := ha
  have hb2 := hb
  simp at ha2 hb2
  clear hB h ha hb
  simp [results, Try.results28, go_sem, *]

set_option maxHeartbeats 4000000 in
theorem rHead_ok1 (w : World) (A : Option Addr) (bs : List UInt8) (c : Nat) (h : Bs w A bs c) (hl : 54 ≤ bs.length) (c0 : wd bs 0 = 1) (c1 : wd bs 2 = 0) (c2 : wd4 bs 12 = 1594834165) (hlg : wd bs 50 = 1) (c3 : wd bs 52 = 0) (hm : hMay (headR bs) = true) :
    Calls Try.prog 28 #[.slice A bs.length c] w fun e w' => e = .returned (.tuple #[.agg (hCells (headR bs)).toArray, .bool true]) ∧ Below w.heap.size w w' := by
  have HM := Lib.hid (show mayHeadB (wd bs 18) (wd bs 16) (sgn16 (wd bs 36)) (sgn16 (wd bs 38)) (sgn16 (wd bs 40)) (sgn16 (wd bs 42)) (wd bs 44) (wd bs 46) = true from hm)
  have HL := Lib.hid hl
  clear hl hm
  have HZ := Lib.hid (Blk.new w 48 [.int .i64 0, .int .i64 0, .int .i64 0, .int .i64 0, .int .i64 0, .int .i64 0, .int .i64 0, .int .i64 0, .bool false])
  have HS := Lib.hid (RRd.start (w.alloc (.cells #[.int .i64 0, .int .i64 0, .int .i64 0, .int .i64 0, .int .i64 0, .int .i64 0, .int .i64 0, .int .i64 0, .bool false] 48)) 89 (w.heap.size + 1) bs A c (by simp) rfl (h.sl.keep (bel_alloc bel_refl).below) h.cap h.small)
  clear h
  have kb : True := trivial
  have kh : True := trivial
  have fh : True := trivial
  have hc : True := trivial
  have hf : True := trivial
  have HH : True := trivial
  go_enter Try.func28, Try.ntmps28
  go_wp2_with (first
    | (go_at_call 47; (with_reducible refine (u2_PS HS.out ?_).mono ?_); (· have := HL.out; omega); rintro e w' ⟨rfl, HS'⟩
       replace HS := Lib.hid HS'
       clear HS')
    | (go_at_call 47; (with_reducible refine (u4_PS HS.out ?_).mono ?_); (· have := HL.out; omega); rintro e w' ⟨rfl, HS'⟩
       replace HS := Lib.hid HS'
       clear HS')
    | (go_at_call 67; (with_reducible refine (t_PS 8 _ ?_ HS.out ?_).mono ?_); (· rfl); (· have := HL.out; omega); rintro e w' ⟨A', m', c', rfl, HS'⟩
       replace HS := Lib.hid HS'
       clear HS')
    | (go_at_call 67; (with_reducible refine (t_PS 16 _ ?_ HS.out ?_).mono ?_); (· rfl); (· have := HL.out; omega); rintro e w' ⟨A', m', c', rfl, HS'⟩
       replace HS := Lib.hid HS'
       clear HS')
    | (go_at_call 67; (with_reducible refine (t_PS 2 _ ?_ HS.out ?_).mono ?_); (· rfl); (· have := HL.out; omega); rintro e w' ⟨A', m', c', rfl, HS'⟩
       replace HS := Lib.hid HS'
       clear HS')
    | (go_at_call 47; (first | (with_reducible refine (u2_PH HH.out ?_).mono ?_) | (with_reducible refine (u2_PH (HH.out.store _ _) ?_).mono ?_) | (refine (u2_PH (HS.out.new HS.out.rowlt _ _) ?_).mono ?_)); (· have := HL.out; omega); rintro e w' ⟨rfl, HH'⟩
       replace HH := Lib.hid HH'
       clear HH'
       replace kb := HH.out.rd.blk.cell 2
       replace kh := fun j => HH.out.blk.cell j
       replace fh := fun j => HH.out.blk.frozen j
       replace hc := fun j => (HH.out.bel.cell (p := ⟨w.heap.size, j, none⟩) (Nat.lt_succ_self _)).trans (HZ.out.cell j)
       replace hf := fun j => (HH.out.bel.frozen (p := ⟨w.heap.size, j, none⟩) (Nat.lt_succ_self _)).trans (HZ.out.frozen j))
    | (go_at_call 47; (first | (with_reducible refine (u4_PH HH.out ?_).mono ?_) | (with_reducible refine (u4_PH (HH.out.store _ _) ?_).mono ?_) | (refine (u4_PH (HS.out.new HS.out.rowlt _ _) ?_).mono ?_)); (· have := HL.out; omega); rintro e w' ⟨rfl, HH'⟩
       replace HH := Lib.hid HH'
       clear HH'
       replace kb := HH.out.rd.blk.cell 2
       replace kh := fun j => HH.out.blk.cell j
       replace fh := fun j => HH.out.blk.frozen j
       replace hc := fun j => (HH.out.bel.cell (p := ⟨w.heap.size, j, none⟩) (Nat.lt_succ_self _)).trans (HZ.out.cell j)
       replace hf := fun j => (HH.out.bel.frozen (p := ⟨w.heap.size, j, none⟩) (Nat.lt_succ_self _)).trans (HZ.out.frozen j))
    | (go_at_call 67; (first | (with_reducible refine (t_PH 8 _ ?_ HH.out ?_).mono ?_) | (with_reducible refine (t_PH 8 _ ?_ (HH.out.store _ _) ?_).mono ?_) | (refine (t_PH 8 _ ?_ (HS.out.new HS.out.rowlt _ _) ?_).mono ?_)); (· rfl); (· have := HL.out; omega); rintro e w' ⟨A', m', c', rfl, HH'⟩
       replace HH := Lib.hid HH'
       clear HH'
       replace kb := HH.out.rd.blk.cell 2
       replace kh := fun j => HH.out.blk.cell j
       replace fh := fun j => HH.out.blk.frozen j
       replace hc := fun j => (HH.out.bel.cell (p := ⟨w.heap.size, j, none⟩) (Nat.lt_succ_self _)).trans (HZ.out.cell j)
       replace hf := fun j => (HH.out.bel.frozen (p := ⟨w.heap.size, j, none⟩) (Nat.lt_succ_self _)).trans (HZ.out.frozen j))
    | (go_at_call 67; (first | (with_reducible refine (t_PH 16 _ ?_ HH.out ?_).mono ?_) | (with_reducible refine (t_PH 16 _ ?_ (HH.out.store _ _) ?_).mono ?_) | (refine (t_PH 16 _ ?_ (HS.out.new HS.out.rowlt _ _) ?_).mono ?_)); (· rfl); (· have := HL.out; omega); rintro e w' ⟨A', m', c', rfl, HH'⟩
       replace HH := Lib.hid HH'
       clear HH'
       replace kb := HH.out.rd.blk.cell 2
       replace kh := fun j => HH.out.blk.cell j
       replace fh := fun j => HH.out.blk.frozen j
       replace hc := fun j => (HH.out.bel.cell (p := ⟨w.heap.size, j, none⟩) (Nat.lt_succ_self _)).trans (HZ.out.cell j)
       replace hf := fun j => (HH.out.bel.frozen (p := ⟨w.heap.size, j, none⟩) (Nat.lt_succ_self _)).trans (HZ.out.frozen j))
    | (go_at_call 67; (first | (with_reducible refine (t_PH 2 _ ?_ HH.out ?_).mono ?_) | (with_reducible refine (t_PH 2 _ ?_ (HH.out.store _ _) ?_).mono ?_) | (refine (t_PH 2 _ ?_ (HS.out.new HS.out.rowlt _ _) ?_).mono ?_)); (· rfl); (· have := HL.out; omega); rintro e w' ⟨A', m', c', rfl, HH'⟩
       replace HH := Lib.hid HH'
       clear HH'
       replace kb := HH.out.rd.blk.cell 2
       replace kh := fun j => HH.out.blk.cell j
       replace fh := fun j => HH.out.blk.frozen j
       replace hc := fun j => (HH.out.bel.cell (p := ⟨w.heap.size, j, none⟩) (Nat.lt_succ_self _)).trans (HZ.out.cell j)
       replace hf := fun j => (HH.out.bel.frozen (p := ⟨w.heap.size, j, none⟩) (Nat.lt_succ_self _)).trans (HZ.out.frozen j))
    | (go_at_call 68; (first | (with_reducible refine (i_PH HH.out ?_).mono ?_) | (with_reducible refine (i_PH (HH.out.store _ _) ?_).mono ?_) | (refine (i_PH (HS.out.new HS.out.rowlt _ _) ?_).mono ?_)); (· have := HL.out; omega); rintro e w' ⟨rfl, HH'⟩
       replace HH := Lib.hid HH'
       clear HH'
       replace kb := HH.out.rd.blk.cell 2
       replace kh := fun j => HH.out.blk.cell j
       replace fh := fun j => HH.out.blk.frozen j
       replace hc := fun j => (HH.out.bel.cell (p := ⟨w.heap.size, j, none⟩) (Nat.lt_succ_self _)).trans (HZ.out.cell j)
       replace hf := fun j => (HH.out.bel.frozen (p := ⟨w.heap.size, j, none⟩) (Nat.lt_succ_self _)).trans (HZ.out.frozen j))
    | (go_at_call 25; (with_reducible refine (rMayHead_any _ _ _ _ _ _ _ _ _ _).mono ?_); rw [HM.out]; rintro e w5 ⟨rfl, hb5⟩
       replace HH := Lib.hid (HH.out.keep hb5)
       clear hb5
       replace kb := HH.out.rd.blk.cell 2
       replace kh := fun j => HH.out.blk.cell j
       replace fh := fun j => HH.out.blk.frozen j
       replace hc := fun j => (HH.out.bel.cell (p := ⟨w.heap.size, j, none⟩) (Nat.lt_succ_self _)).trans (HZ.out.cell j)
       replace hf := fun j => (HH.out.bel.frozen (p := ⟨w.heap.size, j, none⟩) (Nat.lt_succ_self _)).trans (HZ.out.frozen j)))
  all_goals
    have HBW : Below w.heap.size w _ := (bel_alloc (o := .cells #[.int .i64 0, .int .i64 0, .int .i64 0, .int .i64 0, .int .i64 0, .int .i64 0, .int .i64 0, .int .i64 0, .bool false] 48) (bel_refl (a := w))).below.trans (HH.out.bel.mono (Nat.le_succ _))
    have HBZ := HZ.out.below HH.out.bel (Nat.lt_succ_self _)
    first
      | (refine bodyPost_ret (end_head HBZ (by rfl) (by rfl)) rfl ⟨by simp [hCells, headR, hlg], ?_⟩; repeat (first | with_reducible exact HBW | with_reducible apply below_at))
      | (have hfar := HH.out.farW HBW (Nat.le_succ _)
         refine bodyPost_ret (end_head (g := w.heap.size) (HH.out.farB HBZ (Nat.lt_succ_self _) _ _) (by rfl) (by rfl)) rfl ⟨by simp [hCells, headR, hlg], ?_⟩
         repeat (first | with_reducible exact hfar _ _ | with_reducible apply below_at))

set_option maxHeartbeats 4000000 in
theorem rHead_ok0 (w : World) (A : Option Addr) (bs : List UInt8) (c : Nat) (h : Bs w A bs c) (hl : 54 ≤ bs.length) (c0 : wd bs 0 = 1) (c1 : wd bs 2 = 0) (c2 : wd4 bs 12 = 1594834165) (hlg : wd bs 50 = 0) (c3 : wd bs 52 = 0) (hm : hMay (headR bs) = true) :
    Calls Try.prog 28 #[.slice A bs.length c] w fun e w' => e = .returned (.tuple #[.agg (hCells (headR bs)).toArray, .bool true]) ∧ Below w.heap.size w w' := by
  have HM := Lib.hid (show mayHeadB (wd bs 18) (wd bs 16) (sgn16 (wd bs 36)) (sgn16 (wd bs 38)) (sgn16 (wd bs 40)) (sgn16 (wd bs 42)) (wd bs 44) (wd bs 46) = true from hm)
  have HL := Lib.hid hl
  clear hl hm
  have HZ := Lib.hid (Blk.new w 48 [.int .i64 0, .int .i64 0, .int .i64 0, .int .i64 0, .int .i64 0, .int .i64 0, .int .i64 0, .int .i64 0, .bool false])
  have HS := Lib.hid (RRd.start (w.alloc (.cells #[.int .i64 0, .int .i64 0, .int .i64 0, .int .i64 0, .int .i64 0, .int .i64 0, .int .i64 0, .int .i64 0, .bool false] 48)) 89 (w.heap.size + 1) bs A c (by simp) rfl (h.sl.keep (bel_alloc bel_refl).below) h.cap h.small)
  clear h
  have kb : True := trivial
  have kh : True := trivial
  have fh : True := trivial
  have hc : True := trivial
  have hf : True := trivial
  have HH : True := trivial
  go_enter Try.func28, Try.ntmps28
  go_wp2_with (first
    | (go_at_call 47; (with_reducible refine (u2_PS HS.out ?_).mono ?_); (· have := HL.out; omega); rintro e w' ⟨rfl, HS'⟩
       replace HS := Lib.hid HS'
       clear HS')
    | (go_at_call 47; (with_reducible refine (u4_PS HS.out ?_).mono ?_); (· have := HL.out; omega); rintro e w' ⟨rfl, HS'⟩
       replace HS := Lib.hid HS'
       clear HS')
    | (go_at_call 67; (with_reducible refine (t_PS 8 _ ?_ HS.out ?_).mono ?_); (· rfl); (· have := HL.out; omega); rintro e w' ⟨A', m', c', rfl, HS'⟩
       replace HS := Lib.hid HS'
       clear HS')
    | (go_at_call 67; (with_reducible refine (t_PS 16 _ ?_ HS.out ?_).mono ?_); (· rfl); (· have := HL.out; omega); rintro e w' ⟨A', m', c', rfl, HS'⟩
       replace HS := Lib.hid HS'
       clear HS')
    | (go_at_call 67; (with_reducible refine (t_PS 2 _ ?_ HS.out ?_).mono ?_); (· rfl); (· have := HL.out; omega); rintro e w' ⟨A', m', c', rfl, HS'⟩
       replace HS := Lib.hid HS'
       clear HS')
    | (go_at_call 47; (first | (with_reducible refine (u2_PH HH.out ?_).mono ?_) | (with_reducible refine (u2_PH (HH.out.store _ _) ?_).mono ?_) | (refine (u2_PH (HS.out.new HS.out.rowlt _ _) ?_).mono ?_)); (· have := HL.out; omega); rintro e w' ⟨rfl, HH'⟩
       replace HH := Lib.hid HH'
       clear HH'
       replace kb := HH.out.rd.blk.cell 2
       replace kh := fun j => HH.out.blk.cell j
       replace fh := fun j => HH.out.blk.frozen j
       replace hc := fun j => (HH.out.bel.cell (p := ⟨w.heap.size, j, none⟩) (Nat.lt_succ_self _)).trans (HZ.out.cell j)
       replace hf := fun j => (HH.out.bel.frozen (p := ⟨w.heap.size, j, none⟩) (Nat.lt_succ_self _)).trans (HZ.out.frozen j))
    | (go_at_call 47; (first | (with_reducible refine (u4_PH HH.out ?_).mono ?_) | (with_reducible refine (u4_PH (HH.out.store _ _) ?_).mono ?_) | (refine (u4_PH (HS.out.new HS.out.rowlt _ _) ?_).mono ?_)); (· have := HL.out; omega); rintro e w' ⟨rfl, HH'⟩
       replace HH := Lib.hid HH'
       clear HH'
       replace kb := HH.out.rd.blk.cell 2
       replace kh := fun j => HH.out.blk.cell j
       replace fh := fun j => HH.out.blk.frozen j
       replace hc := fun j => (HH.out.bel.cell (p := ⟨w.heap.size, j, none⟩) (Nat.lt_succ_self _)).trans (HZ.out.cell j)
       replace hf := fun j => (HH.out.bel.frozen (p := ⟨w.heap.size, j, none⟩) (Nat.lt_succ_self _)).trans (HZ.out.frozen j))
    | (go_at_call 67; (first | (with_reducible refine (t_PH 8 _ ?_ HH.out ?_).mono ?_) | (with_reducible refine (t_PH 8 _ ?_ (HH.out.store _ _) ?_).mono ?_) | (refine (t_PH 8 _ ?_ (HS.out.new HS.out.rowlt _ _) ?_).mono ?_)); (· rfl); (· have := HL.out; omega); rintro e w' ⟨A', m', c', rfl, HH'⟩
       replace HH := Lib.hid HH'
       clear HH'
       replace kb := HH.out.rd.blk.cell 2
       replace kh := fun j => HH.out.blk.cell j
       replace fh := fun j => HH.out.blk.frozen j
       replace hc := fun j => (HH.out.bel.cell (p := ⟨w.heap.size, j, none⟩) (Nat.lt_succ_self _)).trans (HZ.out.cell j)
       replace hf := fun j => (HH.out.bel.frozen (p := ⟨w.heap.size, j, none⟩) (Nat.lt_succ_self _)).trans (HZ.out.frozen j))
    | (go_at_call 67; (first | (with_reducible refine (t_PH 16 _ ?_ HH.out ?_).mono ?_) | (with_reducible refine (t_PH 16 _ ?_ (HH.out.store _ _) ?_).mono ?_) | (refine (t_PH 16 _ ?_ (HS.out.new HS.out.rowlt _ _) ?_).mono ?_)); (· rfl); (· have := HL.out; omega); rintro e w' ⟨A', m', c', rfl, HH'⟩
       replace HH := Lib.hid HH'
       clear HH'
       replace kb := HH.out.rd.blk.cell 2
       replace kh := fun j => HH.out.blk.cell j
       replace fh := fun j => HH.out.blk.frozen j
       replace hc := fun j => (HH.out.bel.cell (p := ⟨w.heap.size, j, none⟩) (Nat.lt_succ_self _)).trans (HZ.out.cell j)
       replace hf := fun j => (HH.out.bel.frozen (p := ⟨w.heap.size, j, none⟩) (Nat.lt_succ_self _)).trans (HZ.out.frozen j))
    | (go_at_call 67; (first | (with_reducible refine (t_PH 2 _ ?_ HH.out ?_).mono ?_) | (with_reducible refine (t_PH 2 _ ?_ (HH.out.store _ _) ?_).mono ?_) | (refine (t_PH 2 _ ?_ (HS.out.new HS.out.rowlt _ _) ?_).mono ?_)); (· rfl); (· have := HL.out; omega); rintro e w' ⟨A', m', c', rfl, HH'⟩
       replace HH := Lib.hid HH'
       clear HH'
       replace kb := HH.out.rd.blk.cell 2
       replace kh := fun j => HH.out.blk.cell j
       replace fh := fun j => HH.out.blk.frozen j
       replace hc := fun j => (HH.out.bel.cell (p := ⟨w.heap.size, j, none⟩) (Nat.lt_succ_self _)).trans (HZ.out.cell j)
       replace hf := fun j => (HH.out.bel.frozen (p := ⟨w.heap.size, j, none⟩) (Nat.lt_succ_self _)).trans (HZ.out.frozen j))
    | (go_at_call 68; (first | (with_reducible refine (i_PH HH.out ?_).mono ?_) | (with_reducible refine (i_PH (HH.out.store _ _) ?_).mono ?_) | (refine (i_PH (HS.out.new HS.out.rowlt _ _) ?_).mono ?_)); (· have := HL.out; omega); rintro e w' ⟨rfl, HH'⟩
       replace HH := Lib.hid HH'
       clear HH'
       replace kb := HH.out.rd.blk.cell 2
       replace kh := fun j => HH.out.blk.cell j
       replace fh := fun j => HH.out.blk.frozen j
       replace hc := fun j => (HH.out.bel.cell (p := ⟨w.heap.size, j, none⟩) (Nat.lt_succ_self _)).trans (HZ.out.cell j)
       replace hf := fun j => (HH.out.bel.frozen (p := ⟨w.heap.size, j, none⟩) (Nat.lt_succ_self _)).trans (HZ.out.frozen j))
    | (go_at_call 25; (with_reducible refine (rMayHead_any _ _ _ _ _ _ _ _ _ _).mono ?_); rw [HM.out]; rintro e w5 ⟨rfl, hb5⟩
       replace HH := Lib.hid (HH.out.keep hb5)
       clear hb5
       replace kb := HH.out.rd.blk.cell 2
       replace kh := fun j => HH.out.blk.cell j
       replace fh := fun j => HH.out.blk.frozen j
       replace hc := fun j => (HH.out.bel.cell (p := ⟨w.heap.size, j, none⟩) (Nat.lt_succ_self _)).trans (HZ.out.cell j)
       replace hf := fun j => (HH.out.bel.frozen (p := ⟨w.heap.size, j, none⟩) (Nat.lt_succ_self _)).trans (HZ.out.frozen j)))
  all_goals
    have HBW : Below w.heap.size w _ := (bel_alloc (o := .cells #[.int .i64 0, .int .i64 0, .int .i64 0, .int .i64 0, .int .i64 0, .int .i64 0, .int .i64 0, .int .i64 0, .bool false] 48) (bel_refl (a := w))).below.trans (HH.out.bel.mono (Nat.le_succ _))
    have HBZ := HZ.out.below HH.out.bel (Nat.lt_succ_self _)
    first
      | (refine bodyPost_ret (end_head HBZ (by rfl) (by rfl)) rfl ⟨by simp [hCells, headR, hlg], ?_⟩; repeat (first | with_reducible exact HBW | with_reducible apply below_at))
      | (have hfar := HH.out.farW HBW (Nat.le_succ _)
         refine bodyPost_ret (end_head (g := w.heap.size) (HH.out.farB HBZ (Nat.lt_succ_self _) _ _) (by rfl) (by rfl)) rfl ⟨by simp [hCells, headR, hlg], ?_⟩
         repeat (first | with_reducible exact hfar _ _ | with_reducible apply below_at))

end Go.Proofs.Ytbmflgcahbkdeaa
