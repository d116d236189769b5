/-
  The document's Lines.
-/
import Derived.Test.YtbmflgcahbkdeaaHeadsN
import Derived.Test.YtbmflgcahbkdeaaHeadsK
import Derived.Test.YtbmflgcahbkdeaaRdI
namespace Go.Proofs.Ytbmflgcahbkdeaa
open Go.RowKit

theorem end_line {w : World} {g : Nat} {T : TypeId} {a : Array Value} {b : Bool} {z0 z1 z2 z3 v0 v1 v2 v3 : Value} (h : Blk w g T [z0, z1, z2, z3]) (ha : a.getD 2 undef = .pointer (some ⟨g, 0, none⟩)) (hb : a.getD 3 undef = .bool b) :
    (results Try.f38 a).run Try.prog ((((w.setCell ⟨g, 0, none⟩ v0).setCell ⟨g, 1, none⟩ v1).setCell ⟨g, 2, none⟩ v2).setCell ⟨g, 3, none⟩ v3) = .ok (.tuple #[.agg #[v0, v1, v2, v3], .bool b]) ((((w.setCell ⟨g, 0, none⟩ v0).setCell ⟨g, 1, none⟩ v1).setCell ⟨g, 2, none⟩ v2).setCell ⟨g, 3, none⟩ v3) := by
  have hB : Blk ((((w.setCell ⟨g, 0, none⟩ v0).setCell ⟨g, 1, none⟩ v1).setCell ⟨g, 2, none⟩ v2).setCell ⟨g, 3, none⟩ v3) g T [v0, v1, v2, v3] := Blk.to ((((h.set 0 v0).set 1 v1).set 2 v2).set 3 v3) rfl
  generalize ((((w.setCell ⟨g, 0, none⟩ v0).setCell ⟨g, 1, none⟩ v1).setCell ⟨g, 2, none⟩ v2).setCell ⟨g, 3, none⟩ v3) = W at hB ⊢
  have k0 : W.cell? ⟨g, 0, none⟩ = some v0 := hB.cell 0
  have k1 : W.cell? ⟨g, 1, none⟩ = some v1 := hB.cell 1
  have k2 : W.cell? ⟨g, 2, none⟩ = some v2 := hB.cell 2
  have k3 : W.cell? ⟨g, 3, none⟩ = some v3 := hB.cell 3
  have ha2 := ha
  have hb2 := hb
  simp at ha2 hb2
  clear hB h ha hb
  simp [results, Try.results38, go_sem, *]

set_option maxHeartbeats 4000000 in
theorem rLines_ok (w : World) (A : Option Addr) (bs : List UInt8) (c : Nat) (h : Bs w A bs c) (hl : 36 ≤ bs.length) (c0 : wd bs 0 = 1) (c1 : wd bs 2 = 0) (c2 : wd bs 32 = 0) (hm : lMay (lineR bs) = true) :
    Calls Try.prog 38 #[.slice A bs.length c] w fun e w' => e = .returned (.tuple #[.agg (lCells (lineR bs)).toArray, .bool true]) ∧ Below w.heap.size w w' := by
  have HM := Lib.hid (show mayLinesB (sgn16 (wd bs 4)) (sgn16 (wd bs 6)) (sgn16 (wd bs 8)) (wd bs 34) = true from hm)
  clear hm
  have HL := Lib.hid hl
  clear hl
  have HZ := Lib.hid (Blk.new w 69 [.int .i64 0, .int .i64 0, .int .i64 0, .int .i64 0])
  have HS := Lib.hid (RRd.start (w.alloc (.cells #[.int .i64 0, .int .i64 0, .int .i64 0, .int .i64 0] 69)) 89 (w.heap.size + 1) bs A c (by simp) rfl (h.sl.keep (bel_alloc bel_refl).below) h.cap h.small)
  have HB0 : Hid (Below w.heap.size w (w.alloc (.cells #[.int .i64 0, .int .i64 0, .int .i64 0, .int .i64 0] 69))) := Lib.hid (bel_alloc (bel_refl (a := w))).below
  clear h
  have kb : True := trivial
  have kh : True := trivial
  have fh : True := trivial
  have hc : True := trivial
  have hf : True := trivial
  have HH : True := trivial
  have hgl : True := trivial
  have hsz : True := trivial
  go_enter Try.func38, Try.ntmps38
  go_wp2_with (first
    | (go_at_call 47; (with_reducible refine (u2_PS HS.out ?_).mono ?_); (· have := HL.out; omega); rintro e w' ⟨rfl, HS'⟩
       replace HS := Lib.hid HS'
       clear HS'
       replace kb := HS.out.rd.blk.cell 2
       replace hsz := HS.out.rd.blk.lt
       replace hc := fun j => (HS.out.bel.cell (p := ⟨w.heap.size, j, none⟩) (Nat.lt_succ_self _)).trans (HZ.out.cell j)
       replace hf := fun j => (HS.out.bel.frozen (p := ⟨w.heap.size, j, none⟩) (Nat.lt_succ_self _)).trans (HZ.out.frozen j))
    | (go_at_call 67; (with_reducible refine (t_PS 22 _ ?_ HS.out ?_).mono ?_); (· rfl); (· have := HL.out; omega); rintro e w' ⟨A', m', c', rfl, HS'⟩
       replace HS := Lib.hid HS'
       clear HS'
       replace kb := HS.out.rd.blk.cell 2
       replace hsz := HS.out.rd.blk.lt
       replace hc := fun j => (HS.out.bel.cell (p := ⟨w.heap.size, j, none⟩) (Nat.lt_succ_self _)).trans (HZ.out.cell j)
       replace hf := fun j => (HS.out.bel.frozen (p := ⟨w.heap.size, j, none⟩) (Nat.lt_succ_self _)).trans (HZ.out.frozen j))
    | (go_at_call 47; (first | (with_reducible refine (u2_PH HH.out ?_).mono ?_) | (with_reducible refine (u2_PH (HH.out.store _ _) ?_).mono ?_) | (refine (u2_PH (HS.out.new HS.out.rowlt _ _) ?_).mono ?_)); (· have := HL.out; omega); rintro e w' ⟨rfl, HH'⟩
       replace HH := Lib.hid HH'
       clear HH'
       replace kb := HH.out.rd.blk.cell 2
       replace kh := fun j => HH.out.blk.cell j
       replace fh := fun j => HH.out.blk.frozen j
       replace hgl := HH.out.glt
       replace hc := fun j => (HH.out.bel.cell (p := ⟨w.heap.size, j, none⟩) (Nat.lt_succ_self _)).trans (HZ.out.cell j)
       replace hf := fun j => (HH.out.bel.frozen (p := ⟨w.heap.size, j, none⟩) (Nat.lt_succ_self _)).trans (HZ.out.frozen j))
    | (go_at_call 67; (first | (with_reducible refine (t_PH 22 _ ?_ HH.out ?_).mono ?_) | (with_reducible refine (t_PH 22 _ ?_ (HH.out.store _ _) ?_).mono ?_) | (refine (t_PH 22 _ ?_ (HS.out.new HS.out.rowlt _ _) ?_).mono ?_)); (· rfl); (· have := HL.out; omega); rintro e w' ⟨A', m', c', rfl, HH'⟩
       replace HH := Lib.hid HH'
       clear HH'
       replace kb := HH.out.rd.blk.cell 2
       replace kh := fun j => HH.out.blk.cell j
       replace fh := fun j => HH.out.blk.frozen j
       replace hgl := HH.out.glt
       replace hc := fun j => (HH.out.bel.cell (p := ⟨w.heap.size, j, none⟩) (Nat.lt_succ_self _)).trans (HZ.out.cell j)
       replace hf := fun j => (HH.out.bel.frozen (p := ⟨w.heap.size, j, none⟩) (Nat.lt_succ_self _)).trans (HZ.out.frozen j))
    | (go_at_call 68; (first | (with_reducible refine (i_PH HH.out ?_).mono ?_) | (with_reducible refine (i_PH (HH.out.store _ _) ?_).mono ?_) | (refine (i_PH (HS.out.new HS.out.rowlt _ _) ?_).mono ?_)); (· have := HL.out; omega); rintro e w' ⟨rfl, HH'⟩
       replace HH := Lib.hid HH'
       clear HH'
       replace kb := HH.out.rd.blk.cell 2
       replace kh := fun j => HH.out.blk.cell j
       replace fh := fun j => HH.out.blk.frozen j
       replace hgl := HH.out.glt
       replace hc := fun j => (HH.out.bel.cell (p := ⟨w.heap.size, j, none⟩) (Nat.lt_succ_self _)).trans (HZ.out.cell j)
       replace hf := fun j => (HH.out.bel.frozen (p := ⟨w.heap.size, j, none⟩) (Nat.lt_succ_self _)).trans (HZ.out.frozen j))
    | (go_at_call 35; (with_reducible refine (rMayLines_any _ _ _ _ _).mono ?_); rw [HM.out]; rintro e w5 ⟨rfl, hb5⟩
       first | replace HH := Lib.hid (HH.out.keep hb5) | replace HH := Lib.hid ((HH.out.store _ _).keep hb5) | replace HH := Lib.hid ((HS.out.new HS.out.rowlt _ _).keep hb5)
       clear hb5
       replace kb := HH.out.rd.blk.cell 2
       replace kh := fun j => HH.out.blk.cell j
       replace fh := fun j => HH.out.blk.frozen j
       replace hgl := HH.out.glt
       replace hc := fun j => (HH.out.bel.cell (p := ⟨w.heap.size, j, none⟩) (Nat.lt_succ_self _)).trans (HZ.out.cell j)
       replace hf := fun j => (HH.out.bel.frozen (p := ⟨w.heap.size, j, none⟩) (Nat.lt_succ_self _)).trans (HZ.out.frozen j)))
  all_goals
    first
      | (have HBW := HB0.out.trans (HH.out.bel.mono (Nat.le_succ _))
         have HBZ := HZ.out.below HH.out.bel (Nat.lt_succ_self _)
         refine bodyPost_ret (end_line (HBZ) (by rfl) (by rfl)) rfl ⟨rfl, ?_⟩
         repeat (first | with_reducible exact HBW | with_reducible apply below_at))
      | (have HBW := HB0.out.trans (HH.out.bel.mono (Nat.le_succ _))
         have HBZ := HZ.out.below HH.out.bel (Nat.lt_succ_self _)
         refine bodyPost_ret (end_line (HH.out.farB HBZ (Nat.lt_succ_self _) _ _) (by rfl) (by rfl)) rfl ⟨rfl, ?_⟩
         repeat (first | with_reducible exact HH.out.farW HBW (Nat.le_succ _) _ _ | with_reducible apply below_at))
      | (have HBW := HB0.out.trans (HS.out.bel.mono (Nat.le_succ _))
         have HBZ := HZ.out.below HS.out.bel (Nat.lt_succ_self _)
         refine bodyPost_ret (end_line (HBZ.alloc _) (by rfl) (by rfl)) rfl ⟨rfl, ?_⟩
         repeat (first | with_reducible exact below_alloc HBW (Nat.le_trans (Nat.le_succ _) (Nat.le_of_lt HS.out.rd.blk.lt)) | with_reducible apply below_at))

set_option maxHeartbeats 4000000 in
theorem rLines_may (w : World) (A : Option Addr) (bs : List UInt8) (c : Nat) (h : Bs w A bs c) (hl : 36 ≤ bs.length) (c0 : wd bs 0 = 1) (c1 : wd bs 2 = 0) (c2 : wd bs 32 = 0) (hm : lMay (lineR bs) = false) :
    Calls Try.prog 38 #[.slice A bs.length c] w fun e w' => e = .returned (.tuple #[.agg #[.int .i64 0, .int .i64 0, .int .i64 0, .int .i64 0], .bool false]) ∧ Below w.heap.size w w' := by
  have HM := Lib.hid (show mayLinesB (sgn16 (wd bs 4)) (sgn16 (wd bs 6)) (sgn16 (wd bs 8)) (wd bs 34) = false from hm)
  clear hm
  have HL := Lib.hid hl
  clear hl
  have HZ := Lib.hid (Blk.new w 69 [.int .i64 0, .int .i64 0, .int .i64 0, .int .i64 0])
  have HS := Lib.hid (RRd.start (w.alloc (.cells #[.int .i64 0, .int .i64 0, .int .i64 0, .int .i64 0] 69)) 89 (w.heap.size + 1) bs A c (by simp) rfl (h.sl.keep (bel_alloc bel_refl).below) h.cap h.small)
  have HB0 : Hid (Below w.heap.size w (w.alloc (.cells #[.int .i64 0, .int .i64 0, .int .i64 0, .int .i64 0] 69))) := Lib.hid (bel_alloc (bel_refl (a := w))).below
  clear h
  have kb : True := trivial
  have kh : True := trivial
  have fh : True := trivial
  have hc : True := trivial
  have hf : True := trivial
  have HH : True := trivial
  have hgl : True := trivial
  have hsz : True := trivial
  go_enter Try.func38, Try.ntmps38
  go_wp2_with (first
    | (go_at_call 47; (with_reducible refine (u2_PS HS.out ?_).mono ?_); (· have := HL.out; omega); rintro e w' ⟨rfl, HS'⟩
       replace HS := Lib.hid HS'
       clear HS'
       replace kb := HS.out.rd.blk.cell 2
       replace hsz := HS.out.rd.blk.lt
       replace hc := fun j => (HS.out.bel.cell (p := ⟨w.heap.size, j, none⟩) (Nat.lt_succ_self _)).trans (HZ.out.cell j)
       replace hf := fun j => (HS.out.bel.frozen (p := ⟨w.heap.size, j, none⟩) (Nat.lt_succ_self _)).trans (HZ.out.frozen j))
    | (go_at_call 67; (with_reducible refine (t_PS 22 _ ?_ HS.out ?_).mono ?_); (· rfl); (· have := HL.out; omega); rintro e w' ⟨A', m', c', rfl, HS'⟩
       replace HS := Lib.hid HS'
       clear HS'
       replace kb := HS.out.rd.blk.cell 2
       replace hsz := HS.out.rd.blk.lt
       replace hc := fun j => (HS.out.bel.cell (p := ⟨w.heap.size, j, none⟩) (Nat.lt_succ_self _)).trans (HZ.out.cell j)
       replace hf := fun j => (HS.out.bel.frozen (p := ⟨w.heap.size, j, none⟩) (Nat.lt_succ_self _)).trans (HZ.out.frozen j))
    | (go_at_call 47; (first | (with_reducible refine (u2_PH HH.out ?_).mono ?_) | (with_reducible refine (u2_PH (HH.out.store _ _) ?_).mono ?_) | (refine (u2_PH (HS.out.new HS.out.rowlt _ _) ?_).mono ?_)); (· have := HL.out; omega); rintro e w' ⟨rfl, HH'⟩
       replace HH := Lib.hid HH'
       clear HH'
       replace kb := HH.out.rd.blk.cell 2
       replace kh := fun j => HH.out.blk.cell j
       replace fh := fun j => HH.out.blk.frozen j
       replace hgl := HH.out.glt
       replace hc := fun j => (HH.out.bel.cell (p := ⟨w.heap.size, j, none⟩) (Nat.lt_succ_self _)).trans (HZ.out.cell j)
       replace hf := fun j => (HH.out.bel.frozen (p := ⟨w.heap.size, j, none⟩) (Nat.lt_succ_self _)).trans (HZ.out.frozen j))
    | (go_at_call 67; (first | (with_reducible refine (t_PH 22 _ ?_ HH.out ?_).mono ?_) | (with_reducible refine (t_PH 22 _ ?_ (HH.out.store _ _) ?_).mono ?_) | (refine (t_PH 22 _ ?_ (HS.out.new HS.out.rowlt _ _) ?_).mono ?_)); (· rfl); (· have := HL.out; omega); rintro e w' ⟨A', m', c', rfl, HH'⟩
       replace HH := Lib.hid HH'
       clear HH'
       replace kb := HH.out.rd.blk.cell 2
       replace kh := fun j => HH.out.blk.cell j
       replace fh := fun j => HH.out.blk.frozen j
       replace hgl := HH.out.glt
       replace hc := fun j => (HH.out.bel.cell (p := ⟨w.heap.size, j, none⟩) (Nat.lt_succ_self _)).trans (HZ.out.cell j)
       replace hf := fun j => (HH.out.bel.frozen (p := ⟨w.heap.size, j, none⟩) (Nat.lt_succ_self _)).trans (HZ.out.frozen j))
    | (go_at_call 68; (first | (with_reducible refine (i_PH HH.out ?_).mono ?_) | (with_reducible refine (i_PH (HH.out.store _ _) ?_).mono ?_) | (refine (i_PH (HS.out.new HS.out.rowlt _ _) ?_).mono ?_)); (· have := HL.out; omega); rintro e w' ⟨rfl, HH'⟩
       replace HH := Lib.hid HH'
       clear HH'
       replace kb := HH.out.rd.blk.cell 2
       replace kh := fun j => HH.out.blk.cell j
       replace fh := fun j => HH.out.blk.frozen j
       replace hgl := HH.out.glt
       replace hc := fun j => (HH.out.bel.cell (p := ⟨w.heap.size, j, none⟩) (Nat.lt_succ_self _)).trans (HZ.out.cell j)
       replace hf := fun j => (HH.out.bel.frozen (p := ⟨w.heap.size, j, none⟩) (Nat.lt_succ_self _)).trans (HZ.out.frozen j))
    | (go_at_call 35; (with_reducible refine (rMayLines_any _ _ _ _ _).mono ?_); rw [HM.out]; rintro e w5 ⟨rfl, hb5⟩
       first | replace HH := Lib.hid (HH.out.keep hb5) | replace HH := Lib.hid ((HH.out.store _ _).keep hb5) | replace HH := Lib.hid ((HS.out.new HS.out.rowlt _ _).keep hb5)
       clear hb5
       replace kb := HH.out.rd.blk.cell 2
       replace kh := fun j => HH.out.blk.cell j
       replace fh := fun j => HH.out.blk.frozen j
       replace hgl := HH.out.glt
       replace hc := fun j => (HH.out.bel.cell (p := ⟨w.heap.size, j, none⟩) (Nat.lt_succ_self _)).trans (HZ.out.cell j)
       replace hf := fun j => (HH.out.bel.frozen (p := ⟨w.heap.size, j, none⟩) (Nat.lt_succ_self _)).trans (HZ.out.frozen j)))
  all_goals
    first
      | (have HBW := HB0.out.trans (HH.out.bel.mono (Nat.le_succ _))
         have HBZ := HZ.out.below HH.out.bel (Nat.lt_succ_self _)
         refine bodyPost_ret (end_line (HBZ) (by rfl) (by rfl)) rfl ⟨rfl, ?_⟩
         repeat (first | with_reducible exact HBW | with_reducible apply below_at))
      | (have HBW := HB0.out.trans (HH.out.bel.mono (Nat.le_succ _))
         have HBZ := HZ.out.below HH.out.bel (Nat.lt_succ_self _)
         refine bodyPost_ret (end_line (HH.out.farB HBZ (Nat.lt_succ_self _) _ _) (by rfl) (by rfl)) rfl ⟨rfl, ?_⟩
         repeat (first | with_reducible exact HH.out.farW HBW (Nat.le_succ _) _ _ | with_reducible apply below_at))
      | (have HBW := HB0.out.trans (HS.out.bel.mono (Nat.le_succ _))
         have HBZ := HZ.out.below HS.out.bel (Nat.lt_succ_self _)
         refine bodyPost_ret (end_line (HBZ.alloc _) (by rfl) (by rfl)) rfl ⟨rfl, ?_⟩
         repeat (first | with_reducible exact below_alloc HBW (Nat.le_trans (Nat.le_succ _) (Nat.le_of_lt HS.out.rd.blk.lt)) | with_reducible apply below_at))

set_option maxHeartbeats 4000000 in
theorem rLines_c2 (w : World) (A : Option Addr) (bs : List UInt8) (c : Nat) (h : Bs w A bs c) (hl : 36 ≤ bs.length) (c0 : wd bs 0 = 1) (c1 : wd bs 2 = 0) (c2 : (wd bs 32 == 0) = false) :
    Calls Try.prog 38 #[.slice A bs.length c] w fun e w' => e = .returned (.tuple #[.agg #[.int .i64 0, .int .i64 0, .int .i64 0, .int .i64 0], .bool false]) ∧ Below w.heap.size w w' := by
  have HL := Lib.hid hl
  clear hl
  have HZ := Lib.hid (Blk.new w 69 [.int .i64 0, .int .i64 0, .int .i64 0, .int .i64 0])
  have HS := Lib.hid (RRd.start (w.alloc (.cells #[.int .i64 0, .int .i64 0, .int .i64 0, .int .i64 0] 69)) 89 (w.heap.size + 1) bs A c (by simp) rfl (h.sl.keep (bel_alloc bel_refl).below) h.cap h.small)
  have HB0 : Hid (Below w.heap.size w (w.alloc (.cells #[.int .i64 0, .int .i64 0, .int .i64 0, .int .i64 0] 69))) := Lib.hid (bel_alloc (bel_refl (a := w))).below
  clear h
  have kb : True := trivial
  have kh : True := trivial
  have fh : True := trivial
  have hc : True := trivial
  have hf : True := trivial
  have HH : True := trivial
  have hgl : True := trivial
  have hsz : True := trivial
  go_enter Try.func38, Try.ntmps38
  go_wp2_with (first
    | (go_at_call 47; (with_reducible refine (u2_PS HS.out ?_).mono ?_); (· have := HL.out; omega); rintro e w' ⟨rfl, HS'⟩
       replace HS := Lib.hid HS'
       clear HS'
       replace kb := HS.out.rd.blk.cell 2
       replace hsz := HS.out.rd.blk.lt
       replace hc := fun j => (HS.out.bel.cell (p := ⟨w.heap.size, j, none⟩) (Nat.lt_succ_self _)).trans (HZ.out.cell j)
       replace hf := fun j => (HS.out.bel.frozen (p := ⟨w.heap.size, j, none⟩) (Nat.lt_succ_self _)).trans (HZ.out.frozen j))
    | (go_at_call 67; (with_reducible refine (t_PS 22 _ ?_ HS.out ?_).mono ?_); (· rfl); (· have := HL.out; omega); rintro e w' ⟨A', m', c', rfl, HS'⟩
       replace HS := Lib.hid HS'
       clear HS'
       replace kb := HS.out.rd.blk.cell 2
       replace hsz := HS.out.rd.blk.lt
       replace hc := fun j => (HS.out.bel.cell (p := ⟨w.heap.size, j, none⟩) (Nat.lt_succ_self _)).trans (HZ.out.cell j)
       replace hf := fun j => (HS.out.bel.frozen (p := ⟨w.heap.size, j, none⟩) (Nat.lt_succ_self _)).trans (HZ.out.frozen j))
    | (go_at_call 47; (first | (with_reducible refine (u2_PH HH.out ?_).mono ?_) | (with_reducible refine (u2_PH (HH.out.store _ _) ?_).mono ?_) | (refine (u2_PH (HS.out.new HS.out.rowlt _ _) ?_).mono ?_)); (· have := HL.out; omega); rintro e w' ⟨rfl, HH'⟩
       replace HH := Lib.hid HH'
       clear HH'
       replace kb := HH.out.rd.blk.cell 2
       replace kh := fun j => HH.out.blk.cell j
       replace fh := fun j => HH.out.blk.frozen j
       replace hgl := HH.out.glt
       replace hc := fun j => (HH.out.bel.cell (p := ⟨w.heap.size, j, none⟩) (Nat.lt_succ_self _)).trans (HZ.out.cell j)
       replace hf := fun j => (HH.out.bel.frozen (p := ⟨w.heap.size, j, none⟩) (Nat.lt_succ_self _)).trans (HZ.out.frozen j))
    | (go_at_call 67; (first | (with_reducible refine (t_PH 22 _ ?_ HH.out ?_).mono ?_) | (with_reducible refine (t_PH 22 _ ?_ (HH.out.store _ _) ?_).mono ?_) | (refine (t_PH 22 _ ?_ (HS.out.new HS.out.rowlt _ _) ?_).mono ?_)); (· rfl); (· have := HL.out; omega); rintro e w' ⟨A', m', c', rfl, HH'⟩
       replace HH := Lib.hid HH'
       clear HH'
       replace kb := HH.out.rd.blk.cell 2
       replace kh := fun j => HH.out.blk.cell j
       replace fh := fun j => HH.out.blk.frozen j
       replace hgl := HH.out.glt
       replace hc := fun j => (HH.out.bel.cell (p := ⟨w.heap.size, j, none⟩) (Nat.lt_succ_self _)).trans (HZ.out.cell j)
       replace hf := fun j => (HH.out.bel.frozen (p := ⟨w.heap.size, j, none⟩) (Nat.lt_succ_self _)).trans (HZ.out.frozen j))
    | (go_at_call 68; (first | (with_reducible refine (i_PH HH.out ?_).mono ?_) | (with_reducible refine (i_PH (HH.out.store _ _) ?_).mono ?_) | (refine (i_PH (HS.out.new HS.out.rowlt _ _) ?_).mono ?_)); (· have := HL.out; omega); rintro e w' ⟨rfl, HH'⟩
       replace HH := Lib.hid HH'
       clear HH'
       replace kb := HH.out.rd.blk.cell 2
       replace kh := fun j => HH.out.blk.cell j
       replace fh := fun j => HH.out.blk.frozen j
       replace hgl := HH.out.glt
       replace hc := fun j => (HH.out.bel.cell (p := ⟨w.heap.size, j, none⟩) (Nat.lt_succ_self _)).trans (HZ.out.cell j)
       replace hf := fun j => (HH.out.bel.frozen (p := ⟨w.heap.size, j, none⟩) (Nat.lt_succ_self _)).trans (HZ.out.frozen j)))
  all_goals
    first
      | (have HBW := HB0.out.trans (HH.out.bel.mono (Nat.le_succ _))
         have HBZ := HZ.out.below HH.out.bel (Nat.lt_succ_self _)
         refine bodyPost_ret (end_line (HBZ) (by rfl) (by rfl)) rfl ⟨rfl, ?_⟩
         repeat (first | with_reducible exact HBW | with_reducible apply below_at))
      | (have HBW := HB0.out.trans (HH.out.bel.mono (Nat.le_succ _))
         have HBZ := HZ.out.below HH.out.bel (Nat.lt_succ_self _)
         refine bodyPost_ret (end_line (HH.out.farB HBZ (Nat.lt_succ_self _) _ _) (by rfl) (by rfl)) rfl ⟨rfl, ?_⟩
         repeat (first | with_reducible exact HH.out.farW HBW (Nat.le_succ _) _ _ | with_reducible apply below_at))
      | (have HBW := HB0.out.trans (HS.out.bel.mono (Nat.le_succ _))
         have HBZ := HZ.out.below HS.out.bel (Nat.lt_succ_self _)
         refine bodyPost_ret (end_line (HBZ.alloc _) (by rfl) (by rfl)) rfl ⟨rfl, ?_⟩
         repeat (first | with_reducible exact below_alloc HBW (Nat.le_trans (Nat.le_succ _) (Nat.le_of_lt HS.out.rd.blk.lt)) | with_reducible apply below_at))

set_option maxHeartbeats 4000000 in
theorem rLines_c1 (w : World) (A : Option Addr) (bs : List UInt8) (c : Nat) (h : Bs w A bs c) (hl : 36 ≤ bs.length) (c0 : wd bs 0 = 1) (c1 : (wd bs 2 == 0) = false) :
    Calls Try.prog 38 #[.slice A bs.length c] w fun e w' => e = .returned (.tuple #[.agg #[.int .i64 0, .int .i64 0, .int .i64 0, .int .i64 0], .bool false]) ∧ Below w.heap.size w w' := by
  have HL := Lib.hid hl
  clear hl
  have HZ := Lib.hid (Blk.new w 69 [.int .i64 0, .int .i64 0, .int .i64 0, .int .i64 0])
  have HS := Lib.hid (RRd.start (w.alloc (.cells #[.int .i64 0, .int .i64 0, .int .i64 0, .int .i64 0] 69)) 89 (w.heap.size + 1) bs A c (by simp) rfl (h.sl.keep (bel_alloc bel_refl).below) h.cap h.small)
  have HB0 : Hid (Below w.heap.size w (w.alloc (.cells #[.int .i64 0, .int .i64 0, .int .i64 0, .int .i64 0] 69))) := Lib.hid (bel_alloc (bel_refl (a := w))).below
  clear h
  have kb : True := trivial
  have kh : True := trivial
  have fh : True := trivial
  have hc : True := trivial
  have hf : True := trivial
  have HH : True := trivial
  have hgl : True := trivial
  have hsz : True := trivial
  go_enter Try.func38, Try.ntmps38
  go_wp2_with (first
    | (go_at_call 47; (with_reducible refine (u2_PS HS.out ?_).mono ?_); (· have := HL.out; omega); rintro e w' ⟨rfl, HS'⟩
       replace HS := Lib.hid HS'
       clear HS'
       replace kb := HS.out.rd.blk.cell 2
       replace hsz := HS.out.rd.blk.lt
       replace hc := fun j => (HS.out.bel.cell (p := ⟨w.heap.size, j, none⟩) (Nat.lt_succ_self _)).trans (HZ.out.cell j)
       replace hf := fun j => (HS.out.bel.frozen (p := ⟨w.heap.size, j, none⟩) (Nat.lt_succ_self _)).trans (HZ.out.frozen j))
    | (go_at_call 67; (with_reducible refine (t_PS 22 _ ?_ HS.out ?_).mono ?_); (· rfl); (· have := HL.out; omega); rintro e w' ⟨A', m', c', rfl, HS'⟩
       replace HS := Lib.hid HS'
       clear HS'
       replace kb := HS.out.rd.blk.cell 2
       replace hsz := HS.out.rd.blk.lt
       replace hc := fun j => (HS.out.bel.cell (p := ⟨w.heap.size, j, none⟩) (Nat.lt_succ_self _)).trans (HZ.out.cell j)
       replace hf := fun j => (HS.out.bel.frozen (p := ⟨w.heap.size, j, none⟩) (Nat.lt_succ_self _)).trans (HZ.out.frozen j))
    | (go_at_call 47; (first | (with_reducible refine (u2_PH HH.out ?_).mono ?_) | (with_reducible refine (u2_PH (HH.out.store _ _) ?_).mono ?_) | (refine (u2_PH (HS.out.new HS.out.rowlt _ _) ?_).mono ?_)); (· have := HL.out; omega); rintro e w' ⟨rfl, HH'⟩
       replace HH := Lib.hid HH'
       clear HH'
       replace kb := HH.out.rd.blk.cell 2
       replace kh := fun j => HH.out.blk.cell j
       replace fh := fun j => HH.out.blk.frozen j
       replace hgl := HH.out.glt
       replace hc := fun j => (HH.out.bel.cell (p := ⟨w.heap.size, j, none⟩) (Nat.lt_succ_self _)).trans (HZ.out.cell j)
       replace hf := fun j => (HH.out.bel.frozen (p := ⟨w.heap.size, j, none⟩) (Nat.lt_succ_self _)).trans (HZ.out.frozen j))
    | (go_at_call 67; (first | (with_reducible refine (t_PH 22 _ ?_ HH.out ?_).mono ?_) | (with_reducible refine (t_PH 22 _ ?_ (HH.out.store _ _) ?_).mono ?_) | (refine (t_PH 22 _ ?_ (HS.out.new HS.out.rowlt _ _) ?_).mono ?_)); (· rfl); (· have := HL.out; omega); rintro e w' ⟨A', m', c', rfl, HH'⟩
       replace HH := Lib.hid HH'
       clear HH'
       replace kb := HH.out.rd.blk.cell 2
       replace kh := fun j => HH.out.blk.cell j
       replace fh := fun j => HH.out.blk.frozen j
       replace hgl := HH.out.glt
       replace hc := fun j => (HH.out.bel.cell (p := ⟨w.heap.size, j, none⟩) (Nat.lt_succ_self _)).trans (HZ.out.cell j)
       replace hf := fun j => (HH.out.bel.frozen (p := ⟨w.heap.size, j, none⟩) (Nat.lt_succ_self _)).trans (HZ.out.frozen j))
    | (go_at_call 68; (first | (with_reducible refine (i_PH HH.out ?_).mono ?_) | (with_reducible refine (i_PH (HH.out.store _ _) ?_).mono ?_) | (refine (i_PH (HS.out.new HS.out.rowlt _ _) ?_).mono ?_)); (· have := HL.out; omega); rintro e w' ⟨rfl, HH'⟩
       replace HH := Lib.hid HH'
       clear HH'
       replace kb := HH.out.rd.blk.cell 2
       replace kh := fun j => HH.out.blk.cell j
       replace fh := fun j => HH.out.blk.frozen j
       replace hgl := HH.out.glt
       replace hc := fun j => (HH.out.bel.cell (p := ⟨w.heap.size, j, none⟩) (Nat.lt_succ_self _)).trans (HZ.out.cell j)
       replace hf := fun j => (HH.out.bel.frozen (p := ⟨w.heap.size, j, none⟩) (Nat.lt_succ_self _)).trans (HZ.out.frozen j)))
  all_goals
    first
      | (have HBW := HB0.out.trans (HH.out.bel.mono (Nat.le_succ _))
         have HBZ := HZ.out.below HH.out.bel (Nat.lt_succ_self _)
         refine bodyPost_ret (end_line (HBZ) (by rfl) (by rfl)) rfl ⟨rfl, ?_⟩
         repeat (first | with_reducible exact HBW | with_reducible apply below_at))
      | (have HBW := HB0.out.trans (HH.out.bel.mono (Nat.le_succ _))
         have HBZ := HZ.out.below HH.out.bel (Nat.lt_succ_self _)
         refine bodyPost_ret (end_line (HH.out.farB HBZ (Nat.lt_succ_self _) _ _) (by rfl) (by rfl)) rfl ⟨rfl, ?_⟩
         repeat (first | with_reducible exact HH.out.farW HBW (Nat.le_succ _) _ _ | with_reducible apply below_at))
      | (have HBW := HB0.out.trans (HS.out.bel.mono (Nat.le_succ _))
         have HBZ := HZ.out.below HS.out.bel (Nat.lt_succ_self _)
         refine bodyPost_ret (end_line (HBZ.alloc _) (by rfl) (by rfl)) rfl ⟨rfl, ?_⟩
         repeat (first | with_reducible exact below_alloc HBW (Nat.le_trans (Nat.le_succ _) (Nat.le_of_lt HS.out.rd.blk.lt)) | with_reducible apply below_at))

set_option maxHeartbeats 4000000 in
theorem rLines_c0 (w : World) (A : Option Addr) (bs : List UInt8) (c : Nat) (h : Bs w A bs c) (hl : 36 ≤ bs.length) (c0 : (wd bs 0 == 1) = false) :
    Calls Try.prog 38 #[.slice A bs.length c] w fun e w' => e = .returned (.tuple #[.agg #[.int .i64 0, .int .i64 0, .int .i64 0, .int .i64 0], .bool false]) ∧ Below w.heap.size w w' := by
  have HL := Lib.hid hl
  clear hl
  have HZ := Lib.hid (Blk.new w 69 [.int .i64 0, .int .i64 0, .int .i64 0, .int .i64 0])
  have HS := Lib.hid (RRd.start (w.alloc (.cells #[.int .i64 0, .int .i64 0, .int .i64 0, .int .i64 0] 69)) 89 (w.heap.size + 1) bs A c (by simp) rfl (h.sl.keep (bel_alloc bel_refl).below) h.cap h.small)
  have HB0 : Hid (Below w.heap.size w (w.alloc (.cells #[.int .i64 0, .int .i64 0, .int .i64 0, .int .i64 0] 69))) := Lib.hid (bel_alloc (bel_refl (a := w))).below
  clear h
  have kb : True := trivial
  have kh : True := trivial
  have fh : True := trivial
  have hc : True := trivial
  have hf : True := trivial
  have HH : True := trivial
  have hgl : True := trivial
  have hsz : True := trivial
  go_enter Try.func38, Try.ntmps38
  go_wp2_with (first
    | (go_at_call 47; (with_reducible refine (u2_PS HS.out ?_).mono ?_); (· have := HL.out; omega); rintro e w' ⟨rfl, HS'⟩
       replace HS := Lib.hid HS'
       clear HS'
       replace kb := HS.out.rd.blk.cell 2
       replace hsz := HS.out.rd.blk.lt
       replace hc := fun j => (HS.out.bel.cell (p := ⟨w.heap.size, j, none⟩) (Nat.lt_succ_self _)).trans (HZ.out.cell j)
       replace hf := fun j => (HS.out.bel.frozen (p := ⟨w.heap.size, j, none⟩) (Nat.lt_succ_self _)).trans (HZ.out.frozen j))
    | (go_at_call 67; (with_reducible refine (t_PS 22 _ ?_ HS.out ?_).mono ?_); (· rfl); (· have := HL.out; omega); rintro e w' ⟨A', m', c', rfl, HS'⟩
       replace HS := Lib.hid HS'
       clear HS'
       replace kb := HS.out.rd.blk.cell 2
       replace hsz := HS.out.rd.blk.lt
       replace hc := fun j => (HS.out.bel.cell (p := ⟨w.heap.size, j, none⟩) (Nat.lt_succ_self _)).trans (HZ.out.cell j)
       replace hf := fun j => (HS.out.bel.frozen (p := ⟨w.heap.size, j, none⟩) (Nat.lt_succ_self _)).trans (HZ.out.frozen j))
    | (go_at_call 47; (first | (with_reducible refine (u2_PH HH.out ?_).mono ?_) | (with_reducible refine (u2_PH (HH.out.store _ _) ?_).mono ?_) | (refine (u2_PH (HS.out.new HS.out.rowlt _ _) ?_).mono ?_)); (· have := HL.out; omega); rintro e w' ⟨rfl, HH'⟩
       replace HH := Lib.hid HH'
       clear HH'
       replace kb := HH.out.rd.blk.cell 2
       replace kh := fun j => HH.out.blk.cell j
       replace fh := fun j => HH.out.blk.frozen j
       replace hgl := HH.out.glt
       replace hc := fun j => (HH.out.bel.cell (p := ⟨w.heap.size, j, none⟩) (Nat.lt_succ_self _)).trans (HZ.out.cell j)
       replace hf := fun j => (HH.out.bel.frozen (p := ⟨w.heap.size, j, none⟩) (Nat.lt_succ_self _)).trans (HZ.out.frozen j))
    | (go_at_call 67; (first | (with_reducible refine (t_PH 22 _ ?_ HH.out ?_).mono ?_) | (with_reducible refine (t_PH 22 _ ?_ (HH.out.store _ _) ?_).mono ?_) | (refine (t_PH 22 _ ?_ (HS.out.new HS.out.rowlt _ _) ?_).mono ?_)); (· rfl); (· have := HL.out; omega); rintro e w' ⟨A', m', c', rfl, HH'⟩
       replace HH := Lib.hid HH'
       clear HH'
       replace kb := HH.out.rd.blk.cell 2
       replace kh := fun j => HH.out.blk.cell j
       replace fh := fun j => HH.out.blk.frozen j
       replace hgl := HH.out.glt
       replace hc := fun j => (HH.out.bel.cell (p := ⟨w.heap.size, j, none⟩) (Nat.lt_succ_self _)).trans (HZ.out.cell j)
       replace hf := fun j => (HH.out.bel.frozen (p := ⟨w.heap.size, j, none⟩) (Nat.lt_succ_self _)).trans (HZ.out.frozen j))
    | (go_at_call 68; (first | (with_reducible refine (i_PH HH.out ?_).mono ?_) | (with_reducible refine (i_PH (HH.out.store _ _) ?_).mono ?_) | (refine (i_PH (HS.out.new HS.out.rowlt _ _) ?_).mono ?_)); (· have := HL.out; omega); rintro e w' ⟨rfl, HH'⟩
       replace HH := Lib.hid HH'
       clear HH'
       replace kb := HH.out.rd.blk.cell 2
       replace kh := fun j => HH.out.blk.cell j
       replace fh := fun j => HH.out.blk.frozen j
       replace hgl := HH.out.glt
       replace hc := fun j => (HH.out.bel.cell (p := ⟨w.heap.size, j, none⟩) (Nat.lt_succ_self _)).trans (HZ.out.cell j)
       replace hf := fun j => (HH.out.bel.frozen (p := ⟨w.heap.size, j, none⟩) (Nat.lt_succ_self _)).trans (HZ.out.frozen j)))
  all_goals
    first
      | (have HBW := HB0.out.trans (HH.out.bel.mono (Nat.le_succ _))
         have HBZ := HZ.out.below HH.out.bel (Nat.lt_succ_self _)
         refine bodyPost_ret (end_line (HBZ) (by rfl) (by rfl)) rfl ⟨rfl, ?_⟩
         repeat (first | with_reducible exact HBW | with_reducible apply below_at))
      | (have HBW := HB0.out.trans (HH.out.bel.mono (Nat.le_succ _))
         have HBZ := HZ.out.below HH.out.bel (Nat.lt_succ_self _)
         refine bodyPost_ret (end_line (HH.out.farB HBZ (Nat.lt_succ_self _) _ _) (by rfl) (by rfl)) rfl ⟨rfl, ?_⟩
         repeat (first | with_reducible exact HH.out.farW HBW (Nat.le_succ _) _ _ | with_reducible apply below_at))
      | (have HBW := HB0.out.trans (HS.out.bel.mono (Nat.le_succ _))
         have HBZ := HZ.out.below HS.out.bel (Nat.lt_succ_self _)
         refine bodyPost_ret (end_line (HBZ.alloc _) (by rfl) (by rfl)) rfl ⟨rfl, ?_⟩
         repeat (first | with_reducible exact below_alloc HBW (Nat.le_trans (Nat.le_succ _) (Nat.le_of_lt HS.out.rd.blk.lt)) | with_reducible apply below_at))

set_option maxHeartbeats 4000000 in
theorem rLines_short (w : World) (A : Option Addr) (bs : List UInt8) (c : Nat) (h : Bs w A bs c) (hl : bs.length < 36) :
    Calls Try.prog 38 #[.slice A bs.length c] w fun e w' => e = .returned (.tuple #[.agg #[.int .i64 0, .int .i64 0, .int .i64 0, .int .i64 0], .bool false]) ∧ Below w.heap.size w w' := by
  have hbad : (advF bs (advF bs (advF bs (advF bs (advF bs (advF bs (advF bs (advF bs (0, false) 2) 2) 2) 2) 2) 22) 2) 2).2 = true := by
    have := advs_bad bs [2, 2, 2, 2, 2, 22, 2, 2] (0, false) (Nat.zero_le _)
    rw [show advs bs (0, false) [2, 2, 2, 2, 2, 22, 2, 2] = (advF bs (advF bs (advF bs (advF bs (advF bs (advF bs (advF bs (advF bs (0, false) 2) 2) 2) 2) 2) 22) 2) 2) from rfl] at this
    rw [this]
    simp
    omega
  clear hl
  have HZ := Lib.hid (Blk.new w 69 [.int .i64 0, .int .i64 0, .int .i64 0, .int .i64 0])
  have HS := Lib.hid (RRd.start (w.alloc (.cells #[.int .i64 0, .int .i64 0, .int .i64 0, .int .i64 0] 69)) 89 (w.heap.size + 1) bs A c (by simp) rfl (h.sl.keep (bel_alloc bel_refl).below) h.cap h.small)
  have HB0 : Hid (Below w.heap.size w (w.alloc (.cells #[.int .i64 0, .int .i64 0, .int .i64 0, .int .i64 0] 69))) := Lib.hid (bel_alloc (bel_refl (a := w))).below
  clear h
  have kb : True := trivial
  have kh : True := trivial
  have fh : True := trivial
  have hc : True := trivial
  have hf : True := trivial
  have HH : True := trivial
  have hgl : True := trivial
  have hsz : True := trivial
  go_enter Try.func38, Try.ntmps38
  go_wp2_with (first
    | (go_at_call 47; (with_reducible refine (u2_GS HS.out).mono ?_); rintro e w' ⟨rfl, HS'⟩
       replace HS := Lib.hid HS'
       clear HS'
       replace kb := HS.out.rd.blk.cell 2
       replace hsz := HS.out.rd.blk.lt
       replace hc := fun j => (HS.out.bel.cell (p := ⟨w.heap.size, j, none⟩) (Nat.lt_succ_self _)).trans (HZ.out.cell j)
       replace hf := fun j => (HS.out.bel.frozen (p := ⟨w.heap.size, j, none⟩) (Nat.lt_succ_self _)).trans (HZ.out.frozen j))
    | (go_at_call 67; (with_reducible refine (t_GS 22 _ ?_ HS.out).mono ?_); (· rfl); rintro e w' ⟨A', m', c', rfl, HS'⟩
       replace HS := Lib.hid HS'
       clear HS'
       replace kb := HS.out.rd.blk.cell 2
       replace hsz := HS.out.rd.blk.lt
       replace hc := fun j => (HS.out.bel.cell (p := ⟨w.heap.size, j, none⟩) (Nat.lt_succ_self _)).trans (HZ.out.cell j)
       replace hf := fun j => (HS.out.bel.frozen (p := ⟨w.heap.size, j, none⟩) (Nat.lt_succ_self _)).trans (HZ.out.frozen j))
    | (go_at_call 47; (first | (with_reducible refine (u2_GH HH.out).mono ?_) | (with_reducible refine (u2_GH (HH.out.store _ _)).mono ?_) | (refine (u2_GH (HS.out.new HS.out.rowlt _ _)).mono ?_)); rintro e w' ⟨rfl, HH'⟩
       replace HH := Lib.hid HH'
       clear HH'
       replace kb := HH.out.rd.blk.cell 2
       replace kh := fun j => HH.out.blk.cell j
       replace fh := fun j => HH.out.blk.frozen j
       replace hgl := HH.out.glt
       replace hc := fun j => (HH.out.bel.cell (p := ⟨w.heap.size, j, none⟩) (Nat.lt_succ_self _)).trans (HZ.out.cell j)
       replace hf := fun j => (HH.out.bel.frozen (p := ⟨w.heap.size, j, none⟩) (Nat.lt_succ_self _)).trans (HZ.out.frozen j))
    | (go_at_call 67; (first | (with_reducible refine (t_GH 22 _ ?_ HH.out).mono ?_) | (with_reducible refine (t_GH 22 _ ?_ (HH.out.store _ _)).mono ?_) | (refine (t_GH 22 _ ?_ (HS.out.new HS.out.rowlt _ _)).mono ?_)); (· rfl); rintro e w' ⟨A', m', c', rfl, HH'⟩
       replace HH := Lib.hid HH'
       clear HH'
       replace kb := HH.out.rd.blk.cell 2
       replace kh := fun j => HH.out.blk.cell j
       replace fh := fun j => HH.out.blk.frozen j
       replace hgl := HH.out.glt
       replace hc := fun j => (HH.out.bel.cell (p := ⟨w.heap.size, j, none⟩) (Nat.lt_succ_self _)).trans (HZ.out.cell j)
       replace hf := fun j => (HH.out.bel.frozen (p := ⟨w.heap.size, j, none⟩) (Nat.lt_succ_self _)).trans (HZ.out.frozen j))
    | (go_at_call 68; (first | (with_reducible refine (i_GH HH.out).mono ?_) | (with_reducible refine (i_GH (HH.out.store _ _)).mono ?_) | (refine (i_GH (HS.out.new HS.out.rowlt _ _)).mono ?_)); rintro e w' ⟨rfl, HH'⟩
       replace HH := Lib.hid HH'
       clear HH'
       replace kb := HH.out.rd.blk.cell 2
       replace kh := fun j => HH.out.blk.cell j
       replace fh := fun j => HH.out.blk.frozen j
       replace hgl := HH.out.glt
       replace hc := fun j => (HH.out.bel.cell (p := ⟨w.heap.size, j, none⟩) (Nat.lt_succ_self _)).trans (HZ.out.cell j)
       replace hf := fun j => (HH.out.bel.frozen (p := ⟨w.heap.size, j, none⟩) (Nat.lt_succ_self _)).trans (HZ.out.frozen j)))
  all_goals
    first
      | (have HBW := HB0.out.trans (HH.out.bel.mono (Nat.le_succ _))
         have HBZ := HZ.out.below HH.out.bel (Nat.lt_succ_self _)
         refine bodyPost_ret (end_line (HBZ) (by rfl) (by rfl)) rfl ⟨rfl, ?_⟩
         repeat (first | with_reducible exact HBW | with_reducible apply below_at))
      | (have HBW := HB0.out.trans (HH.out.bel.mono (Nat.le_succ _))
         have HBZ := HZ.out.below HH.out.bel (Nat.lt_succ_self _)
         refine bodyPost_ret (end_line (HH.out.farB HBZ (Nat.lt_succ_self _) _ _) (by rfl) (by rfl)) rfl ⟨rfl, ?_⟩
         repeat (first | with_reducible exact HH.out.farW HBW (Nat.le_succ _) _ _ | with_reducible apply below_at))
      | (have HBW := HB0.out.trans (HS.out.bel.mono (Nat.le_succ _))
         have HBZ := HZ.out.below HS.out.bel (Nat.lt_succ_self _)
         refine bodyPost_ret (end_line (HBZ.alloc _) (by rfl) (by rfl)) rfl ⟨rfl, ?_⟩
         repeat (first | with_reducible exact below_alloc HBW (Nat.le_trans (Nat.le_succ _) (Nat.le_of_lt HS.out.rd.blk.lt)) | with_reducible apply below_at))

end Go.Proofs.Ytbmflgcahbkdeaa
