/-
  The document's Head: enough bytes that say no head; too few bytes.
-/
import Derived.Test.YtbmflgcahbkdeaaHeadsR
import Derived.Test.YtbmflgcahbkdeaaRdI
namespace Go.Proofs.Ytbmflgcahbkdeaa
open Go.RowKit

set_option maxHeartbeats 4000000 in
theorem rHead_may1 (w : World) (A : Option Addr) (bs : List UInt8) (c : Nat) (h : Bs w A bs c) (hl : 54 ≤ bs.length) (c0 : wd bs 0 = 1) (c1 : wd bs 2 = 0) (c2 : wd4 bs 12 = 1594834165) (hlg : wd bs 50 = 1) (c3 : wd bs 52 = 0) (hm : hMay (headR bs) = false) :
    Calls Try.prog 28 #[.slice A bs.length c] w fun e w' => e = .returned (.tuple #[.agg #[.int .i64 0, .int .i64 0, .int .i64 0, .int .i64 0, .int .i64 0, .int .i64 0, .int .i64 0, .int .i64 0, .bool false], .bool false]) ∧ Below w.heap.size w w' := by
  have HM := Lib.hid (show mayHeadB (wd bs 18) (wd bs 16) (sgn16 (wd bs 36)) (sgn16 (wd bs 38)) (sgn16 (wd bs 40)) (sgn16 (wd bs 42)) (wd bs 44) (wd bs 46) = false from hm)
  clear hm
  have HL := Lib.hid hl
  clear hl
  have HZ := Lib.hid (Blk.new w 48 [.int .i64 0, .int .i64 0, .int .i64 0, .int .i64 0, .int .i64 0, .int .i64 0, .int .i64 0, .int .i64 0, .bool false])
  have HS := Lib.hid (RRd.start (w.alloc (.cells #[.int .i64 0, .int .i64 0, .int .i64 0, .int .i64 0, .int .i64 0, .int .i64 0, .int .i64 0, .int .i64 0, .bool false] 48)) 89 (w.heap.size + 1) bs A c (by simp) rfl (h.sl.keep (bel_alloc bel_refl).below) h.cap h.small)
  have HB0 : Hid (Below w.heap.size w (w.alloc (.cells #[.int .i64 0, .int .i64 0, .int .i64 0, .int .i64 0, .int .i64 0, .int .i64 0, .int .i64 0, .int .i64 0, .bool false] 48))) := Lib.hid (bel_alloc (bel_refl (a := w))).below
  clear h
  have kb : True := trivial
  have kh : True := trivial
  have fh : True := trivial
  have hc : True := trivial
  have hf : True := trivial
  have HH : True := trivial
  have hgl : True := trivial
  have hsz : True := trivial
  go_enter Try.func28, Try.ntmps28
  go_wp2_with (first
    | (go_at_call 47; (with_reducible refine (u2_PS HS.out ?_).mono ?_); (· have := HL.out; omega); rintro e w' ⟨rfl, HS'⟩
       replace HS := Lib.hid HS'
       clear HS'
       replace kb := HS.out.rd.blk.cell 2
       replace hsz := HS.out.rd.blk.lt
       replace hc := fun j => (HS.out.bel.cell (p := ⟨w.heap.size, j, none⟩) (Nat.lt_succ_self _)).trans (HZ.out.cell j)
       replace hf := fun j => (HS.out.bel.frozen (p := ⟨w.heap.size, j, none⟩) (Nat.lt_succ_self _)).trans (HZ.out.frozen j))
    | (go_at_call 47; (with_reducible refine (u4_PS HS.out ?_).mono ?_); (· have := HL.out; omega); rintro e w' ⟨rfl, HS'⟩
       replace HS := Lib.hid HS'
       clear HS'
       replace kb := HS.out.rd.blk.cell 2
       replace hsz := HS.out.rd.blk.lt
       replace hc := fun j => (HS.out.bel.cell (p := ⟨w.heap.size, j, none⟩) (Nat.lt_succ_self _)).trans (HZ.out.cell j)
       replace hf := fun j => (HS.out.bel.frozen (p := ⟨w.heap.size, j, none⟩) (Nat.lt_succ_self _)).trans (HZ.out.frozen j))
    | (go_at_call 67; (with_reducible refine (t_PS 8 _ ?_ HS.out ?_).mono ?_); (· rfl); (· have := HL.out; omega); rintro e w' ⟨A', m', c', rfl, HS'⟩
       replace HS := Lib.hid HS'
       clear HS'
       replace kb := HS.out.rd.blk.cell 2
       replace hsz := HS.out.rd.blk.lt
       replace hc := fun j => (HS.out.bel.cell (p := ⟨w.heap.size, j, none⟩) (Nat.lt_succ_self _)).trans (HZ.out.cell j)
       replace hf := fun j => (HS.out.bel.frozen (p := ⟨w.heap.size, j, none⟩) (Nat.lt_succ_self _)).trans (HZ.out.frozen j))
    | (go_at_call 67; (with_reducible refine (t_PS 16 _ ?_ HS.out ?_).mono ?_); (· rfl); (· have := HL.out; omega); rintro e w' ⟨A', m', c', rfl, HS'⟩
       replace HS := Lib.hid HS'
       clear HS'
       replace kb := HS.out.rd.blk.cell 2
       replace hsz := HS.out.rd.blk.lt
       replace hc := fun j => (HS.out.bel.cell (p := ⟨w.heap.size, j, none⟩) (Nat.lt_succ_self _)).trans (HZ.out.cell j)
       replace hf := fun j => (HS.out.bel.frozen (p := ⟨w.heap.size, j, none⟩) (Nat.lt_succ_self _)).trans (HZ.out.frozen j))
    | (go_at_call 67; (with_reducible refine (t_PS 2 _ ?_ HS.out ?_).mono ?_); (· rfl); (· have := HL.out; omega); rintro e w' ⟨A', m', c', rfl, HS'⟩
       replace HS := Lib.hid HS'
       clear HS'
       replace kb := HS.out.rd.blk.cell 2
       replace hsz := HS.out.rd.blk.lt
       replace hc := fun j => (HS.out.bel.cell (p := ⟨w.heap.size, j, none⟩) (Nat.lt_succ_self _)).trans (HZ.out.cell j)
       replace hf := fun j => (HS.out.bel.frozen (p := ⟨w.heap.size, j, none⟩) (Nat.lt_succ_self _)).trans (HZ.out.frozen j))
    | (go_at_call 47; (first | (with_reducible refine (u2_PH HH.out ?_).mono ?_) | (with_reducible refine (u2_PH (HH.out.store _ _) ?_).mono ?_) | (refine (u2_PH (HS.out.new HS.out.rowlt _ _) ?_).mono ?_)); (· have := HL.out; omega); rintro e w' ⟨rfl, HH'⟩
       replace HH := Lib.hid HH'
       clear HH'
       replace kb := HH.out.rd.blk.cell 2
       replace kh := fun j => HH.out.blk.cell j
       replace fh := fun j => HH.out.blk.frozen j
       replace hgl := HH.out.glt
       replace hc := fun j => (HH.out.bel.cell (p := ⟨w.heap.size, j, none⟩) (Nat.lt_succ_self _)).trans (HZ.out.cell j)
       replace hf := fun j => (HH.out.bel.frozen (p := ⟨w.heap.size, j, none⟩) (Nat.lt_succ_self _)).trans (HZ.out.frozen j))
    | (go_at_call 47; (first | (with_reducible refine (u4_PH HH.out ?_).mono ?_) | (with_reducible refine (u4_PH (HH.out.store _ _) ?_).mono ?_) | (refine (u4_PH (HS.out.new HS.out.rowlt _ _) ?_).mono ?_)); (· have := HL.out; omega); rintro e w' ⟨rfl, HH'⟩
       replace HH := Lib.hid HH'
       clear HH'
       replace kb := HH.out.rd.blk.cell 2
       replace kh := fun j => HH.out.blk.cell j
       replace fh := fun j => HH.out.blk.frozen j
       replace hgl := HH.out.glt
       replace hc := fun j => (HH.out.bel.cell (p := ⟨w.heap.size, j, none⟩) (Nat.lt_succ_self _)).trans (HZ.out.cell j)
       replace hf := fun j => (HH.out.bel.frozen (p := ⟨w.heap.size, j, none⟩) (Nat.lt_succ_self _)).trans (HZ.out.frozen j))
    | (go_at_call 67; (first | (with_reducible refine (t_PH 8 _ ?_ HH.out ?_).mono ?_) | (with_reducible refine (t_PH 8 _ ?_ (HH.out.store _ _) ?_).mono ?_) | (refine (t_PH 8 _ ?_ (HS.out.new HS.out.rowlt _ _) ?_).mono ?_)); (· rfl); (· have := HL.out; omega); rintro e w' ⟨A', m', c', rfl, HH'⟩
       replace HH := Lib.hid HH'
       clear HH'
       replace kb := HH.out.rd.blk.cell 2
       replace kh := fun j => HH.out.blk.cell j
       replace fh := fun j => HH.out.blk.frozen j
       replace hgl := HH.out.glt
       replace hc := fun j => (HH.out.bel.cell (p := ⟨w.heap.size, j, none⟩) (Nat.lt_succ_self _)).trans (HZ.out.cell j)
       replace hf := fun j => (HH.out.bel.frozen (p := ⟨w.heap.size, j, none⟩) (Nat.lt_succ_self _)).trans (HZ.out.frozen j))
    | (go_at_call 67; (first | (with_reducible refine (t_PH 16 _ ?_ HH.out ?_).mono ?_) | (with_reducible refine (t_PH 16 _ ?_ (HH.out.store _ _) ?_).mono ?_) | (refine (t_PH 16 _ ?_ (HS.out.new HS.out.rowlt _ _) ?_).mono ?_)); (· rfl); (· have := HL.out; omega); rintro e w' ⟨A', m', c', rfl, HH'⟩
       replace HH := Lib.hid HH'
       clear HH'
       replace kb := HH.out.rd.blk.cell 2
       replace kh := fun j => HH.out.blk.cell j
       replace fh := fun j => HH.out.blk.frozen j
       replace hgl := HH.out.glt
       replace hc := fun j => (HH.out.bel.cell (p := ⟨w.heap.size, j, none⟩) (Nat.lt_succ_self _)).trans (HZ.out.cell j)
       replace hf := fun j => (HH.out.bel.frozen (p := ⟨w.heap.size, j, none⟩) (Nat.lt_succ_self _)).trans (HZ.out.frozen j))
    | (go_at_call 67; (first | (with_reducible refine (t_PH 2 _ ?_ HH.out ?_).mono ?_) | (with_reducible refine (t_PH 2 _ ?_ (HH.out.store _ _) ?_).mono ?_) | (refine (t_PH 2 _ ?_ (HS.out.new HS.out.rowlt _ _) ?_).mono ?_)); (· rfl); (· have := HL.out; omega); rintro e w' ⟨A', m', c', rfl, HH'⟩
       replace HH := Lib.hid HH'
       clear HH'
       replace kb := HH.out.rd.blk.cell 2
       replace kh := fun j => HH.out.blk.cell j
       replace fh := fun j => HH.out.blk.frozen j
       replace hgl := HH.out.glt
       replace hc := fun j => (HH.out.bel.cell (p := ⟨w.heap.size, j, none⟩) (Nat.lt_succ_self _)).trans (HZ.out.cell j)
       replace hf := fun j => (HH.out.bel.frozen (p := ⟨w.heap.size, j, none⟩) (Nat.lt_succ_self _)).trans (HZ.out.frozen j))
    | (go_at_call 68; (first | (with_reducible refine (i_PH HH.out ?_).mono ?_) | (with_reducible refine (i_PH (HH.out.store _ _) ?_).mono ?_) | (refine (i_PH (HS.out.new HS.out.rowlt _ _) ?_).mono ?_)); (· have := HL.out; omega); rintro e w' ⟨rfl, HH'⟩
       replace HH := Lib.hid HH'
       clear HH'
       replace kb := HH.out.rd.blk.cell 2
       replace kh := fun j => HH.out.blk.cell j
       replace fh := fun j => HH.out.blk.frozen j
       replace hgl := HH.out.glt
       replace hc := fun j => (HH.out.bel.cell (p := ⟨w.heap.size, j, none⟩) (Nat.lt_succ_self _)).trans (HZ.out.cell j)
       replace hf := fun j => (HH.out.bel.frozen (p := ⟨w.heap.size, j, none⟩) (Nat.lt_succ_self _)).trans (HZ.out.frozen j))
    | (go_at_call 25; (with_reducible refine (rMayHead_any _ _ _ _ _ _ _ _ _ _).mono ?_); rw [HM.out]; rintro e w5 ⟨rfl, hb5⟩
       first | replace HH := Lib.hid (HH.out.keep hb5) | replace HH := Lib.hid ((HH.out.store _ _).keep hb5) | replace HH := Lib.hid ((HS.out.new HS.out.rowlt _ _).keep hb5)
       clear hb5
       replace kb := HH.out.rd.blk.cell 2
       replace kh := fun j => HH.out.blk.cell j
       replace fh := fun j => HH.out.blk.frozen j
       replace hgl := HH.out.glt
       replace hc := fun j => (HH.out.bel.cell (p := ⟨w.heap.size, j, none⟩) (Nat.lt_succ_self _)).trans (HZ.out.cell j)
       replace hf := fun j => (HH.out.bel.frozen (p := ⟨w.heap.size, j, none⟩) (Nat.lt_succ_self _)).trans (HZ.out.frozen j)))
  all_goals
    first
      | (have HBW := HB0.out.trans (HH.out.bel.mono (Nat.le_succ _))
         have HBZ := HZ.out.below HH.out.bel (Nat.lt_succ_self _)
         refine bodyPost_ret (end_head (HBZ) (by rfl) (by rfl)) rfl ⟨rfl, ?_⟩
         repeat (first | with_reducible exact HBW | with_reducible apply below_at))
      | (have HBW := HB0.out.trans (HH.out.bel.mono (Nat.le_succ _))
         have HBZ := HZ.out.below HH.out.bel (Nat.lt_succ_self _)
         refine bodyPost_ret (end_head (HH.out.farB HBZ (Nat.lt_succ_self _) _ _) (by rfl) (by rfl)) rfl ⟨rfl, ?_⟩
         repeat (first | with_reducible exact HH.out.farW HBW (Nat.le_succ _) _ _ | with_reducible apply below_at))
      | (have HBW := HB0.out.trans (HS.out.bel.mono (Nat.le_succ _))
         have HBZ := HZ.out.below HS.out.bel (Nat.lt_succ_self _)
         refine bodyPost_ret (end_head (HBZ.alloc _) (by rfl) (by rfl)) rfl ⟨rfl, ?_⟩
         repeat (first | with_reducible exact below_alloc HBW (Nat.le_trans (Nat.le_succ _) (Nat.le_of_lt HS.out.rd.blk.lt)) | with_reducible apply below_at))

set_option maxHeartbeats 4000000 in
theorem rHead_may0 (w : World) (A : Option Addr) (bs : List UInt8) (c : Nat) (h : Bs w A bs c) (hl : 54 ≤ bs.length) (c0 : wd bs 0 = 1) (c1 : wd bs 2 = 0) (c2 : wd4 bs 12 = 1594834165) (hlg : wd bs 50 = 0) (c3 : wd bs 52 = 0) (hm : hMay (headR bs) = false) :
    Calls Try.prog 28 #[.slice A bs.length c] w fun e w' => e = .returned (.tuple #[.agg #[.int .i64 0, .int .i64 0, .int .i64 0, .int .i64 0, .int .i64 0, .int .i64 0, .int .i64 0, .int .i64 0, .bool false], .bool false]) ∧ Below w.heap.size w w' := by
  have HM := Lib.hid (show mayHeadB (wd bs 18) (wd bs 16) (sgn16 (wd bs 36)) (sgn16 (wd bs 38)) (sgn16 (wd bs 40)) (sgn16 (wd bs 42)) (wd bs 44) (wd bs 46) = false from hm)
  clear hm
  have HL := Lib.hid hl
  clear hl
  have HZ := Lib.hid (Blk.new w 48 [.int .i64 0, .int .i64 0, .int .i64 0, .int .i64 0, .int .i64 0, .int .i64 0, .int .i64 0, .int .i64 0, .bool false])
  have HS := Lib.hid (RRd.start (w.alloc (.cells #[.int .i64 0, .int .i64 0, .int .i64 0, .int .i64 0, .int .i64 0, .int .i64 0, .int .i64 0, .int .i64 0, .bool false] 48)) 89 (w.heap.size + 1) bs A c (by simp) rfl (h.sl.keep (bel_alloc bel_refl).below) h.cap h.small)
  have HB0 : Hid (Below w.heap.size w (w.alloc (.cells #[.int .i64 0, .int .i64 0, .int .i64 0, .int .i64 0, .int .i64 0, .int .i64 0, .int .i64 0, .int .i64 0, .bool false] 48))) := Lib.hid (bel_alloc (bel_refl (a := w))).below
  clear h
  have kb : True := trivial
  have kh : True := trivial
  have fh : True := trivial
  have hc : True := trivial
  have hf : True := trivial
  have HH : True := trivial
  have hgl : True := trivial
  have hsz : True := trivial
  go_enter Try.func28, Try.ntmps28
  go_wp2_with (first
    | (go_at_call 47; (with_reducible refine (u2_PS HS.out ?_).mono ?_); (· have := HL.out; omega); rintro e w' ⟨rfl, HS'⟩
       replace HS := Lib.hid HS'
       clear HS'
       replace kb := HS.out.rd.blk.cell 2
       replace hsz := HS.out.rd.blk.lt
       replace hc := fun j => (HS.out.bel.cell (p := ⟨w.heap.size, j, none⟩) (Nat.lt_succ_self _)).trans (HZ.out.cell j)
       replace hf := fun j => (HS.out.bel.frozen (p := ⟨w.heap.size, j, none⟩) (Nat.lt_succ_self _)).trans (HZ.out.frozen j))
    | (go_at_call 47; (with_reducible refine (u4_PS HS.out ?_).mono ?_); (· have := HL.out; omega); rintro e w' ⟨rfl, HS'⟩
       replace HS := Lib.hid HS'
       clear HS'
       replace kb := HS.out.rd.blk.cell 2
       replace hsz := HS.out.rd.blk.lt
       replace hc := fun j => (HS.out.bel.cell (p := ⟨w.heap.size, j, none⟩) (Nat.lt_succ_self _)).trans (HZ.out.cell j)
       replace hf := fun j => (HS.out.bel.frozen (p := ⟨w.heap.size, j, none⟩) (Nat.lt_succ_self _)).trans (HZ.out.frozen j))
    | (go_at_call 67; (with_reducible refine (t_PS 8 _ ?_ HS.out ?_).mono ?_); (· rfl); (· have := HL.out; omega); rintro e w' ⟨A', m', c', rfl, HS'⟩
       replace HS := Lib.hid HS'
       clear HS'
       replace kb := HS.out.rd.blk.cell 2
       replace hsz := HS.out.rd.blk.lt
       replace hc := fun j => (HS.out.bel.cell (p := ⟨w.heap.size, j, none⟩) (Nat.lt_succ_self _)).trans (HZ.out.cell j)
       replace hf := fun j => (HS.out.bel.frozen (p := ⟨w.heap.size, j, none⟩) (Nat.lt_succ_self _)).trans (HZ.out.frozen j))
    | (go_at_call 67; (with_reducible refine (t_PS 16 _ ?_ HS.out ?_).mono ?_); (· rfl); (· have := HL.out; omega); rintro e w' ⟨A', m', c', rfl, HS'⟩
       replace HS := Lib.hid HS'
       clear HS'
       replace kb := HS.out.rd.blk.cell 2
       replace hsz := HS.out.rd.blk.lt
       replace hc := fun j => (HS.out.bel.cell (p := ⟨w.heap.size, j, none⟩) (Nat.lt_succ_self _)).trans (HZ.out.cell j)
       replace hf := fun j => (HS.out.bel.frozen (p := ⟨w.heap.size, j, none⟩) (Nat.lt_succ_self _)).trans (HZ.out.frozen j))
    | (go_at_call 67; (with_reducible refine (t_PS 2 _ ?_ HS.out ?_).mono ?_); (· rfl); (· have := HL.out; omega); rintro e w' ⟨A', m', c', rfl, HS'⟩
       replace HS := Lib.hid HS'
       clear HS'
       replace kb := HS.out.rd.blk.cell 2
       replace hsz := HS.out.rd.blk.lt
       replace hc := fun j => (HS.out.bel.cell (p := ⟨w.heap.size, j, none⟩) (Nat.lt_succ_self _)).trans (HZ.out.cell j)
       replace hf := fun j => (HS.out.bel.frozen (p := ⟨w.heap.size, j, none⟩) (Nat.lt_succ_self _)).trans (HZ.out.frozen j))
    | (go_at_call 47; (first | (with_reducible refine (u2_PH HH.out ?_).mono ?_) | (with_reducible refine (u2_PH (HH.out.store _ _) ?_).mono ?_) | (refine (u2_PH (HS.out.new HS.out.rowlt _ _) ?_).mono ?_)); (· have := HL.out; omega); rintro e w' ⟨rfl, HH'⟩
       replace HH := Lib.hid HH'
       clear HH'
       replace kb := HH.out.rd.blk.cell 2
       replace kh := fun j => HH.out.blk.cell j
       replace fh := fun j => HH.out.blk.frozen j
       replace hgl := HH.out.glt
       replace hc := fun j => (HH.out.bel.cell (p := ⟨w.heap.size, j, none⟩) (Nat.lt_succ_self _)).trans (HZ.out.cell j)
       replace hf := fun j => (HH.out.bel.frozen (p := ⟨w.heap.size, j, none⟩) (Nat.lt_succ_self _)).trans (HZ.out.frozen j))
    | (go_at_call 47; (first | (with_reducible refine (u4_PH HH.out ?_).mono ?_) | (with_reducible refine (u4_PH (HH.out.store _ _) ?_).mono ?_) | (refine (u4_PH (HS.out.new HS.out.rowlt _ _) ?_).mono ?_)); (· have := HL.out; omega); rintro e w' ⟨rfl, HH'⟩
       replace HH := Lib.hid HH'
       clear HH'
       replace kb := HH.out.rd.blk.cell 2
       replace kh := fun j => HH.out.blk.cell j
       replace fh := fun j => HH.out.blk.frozen j
       replace hgl := HH.out.glt
       replace hc := fun j => (HH.out.bel.cell (p := ⟨w.heap.size, j, none⟩) (Nat.lt_succ_self _)).trans (HZ.out.cell j)
       replace hf := fun j => (HH.out.bel.frozen (p := ⟨w.heap.size, j, none⟩) (Nat.lt_succ_self _)).trans (HZ.out.frozen j))
    | (go_at_call 67; (first | (with_reducible refine (t_PH 8 _ ?_ HH.out ?_).mono ?_) | (with_reducible refine (t_PH 8 _ ?_ (HH.out.store _ _) ?_).mono ?_) | (refine (t_PH 8 _ ?_ (HS.out.new HS.out.rowlt _ _) ?_).mono ?_)); (· rfl); (· have := HL.out; omega); rintro e w' ⟨A', m', c', rfl, HH'⟩
       replace HH := Lib.hid HH'
       clear HH'
       replace kb := HH.out.rd.blk.cell 2
       replace kh := fun j => HH.out.blk.cell j
       replace fh := fun j => HH.out.blk.frozen j
       replace hgl := HH.out.glt
       replace hc := fun j => (HH.out.bel.cell (p := ⟨w.heap.size, j, none⟩) (Nat.lt_succ_self _)).trans (HZ.out.cell j)
       replace hf := fun j => (HH.out.bel.frozen (p := ⟨w.heap.size, j, none⟩) (Nat.lt_succ_self _)).trans (HZ.out.frozen j))
    | (go_at_call 67; (first | (with_reducible refine (t_PH 16 _ ?_ HH.out ?_).mono ?_) | (with_reducible refine (t_PH 16 _ ?_ (HH.out.store _ _) ?_).mono ?_) | (refine (t_PH 16 _ ?_ (HS.out.new HS.out.rowlt _ _) ?_).mono ?_)); (· rfl); (· have := HL.out; omega); rintro e w' ⟨A', m', c', rfl, HH'⟩
       replace HH := Lib.hid HH'
       clear HH'
       replace kb := HH.out.rd.blk.cell 2
       replace kh := fun j => HH.out.blk.cell j
       replace fh := fun j => HH.out.blk.frozen j
       replace hgl := HH.out.glt
       replace hc := fun j => (HH.out.bel.cell (p := ⟨w.heap.size, j, none⟩) (Nat.lt_succ_self _)).trans (HZ.out.cell j)
       replace hf := fun j => (HH.out.bel.frozen (p := ⟨w.heap.size, j, none⟩) (Nat.lt_succ_self _)).trans (HZ.out.frozen j))
    | (go_at_call 67; (first | (with_reducible refine (t_PH 2 _ ?_ HH.out ?_).mono ?_) | (with_reducible refine (t_PH 2 _ ?_ (HH.out.store _ _) ?_).mono ?_) | (refine (t_PH 2 _ ?_ (HS.out.new HS.out.rowlt _ _) ?_).mono ?_)); (· rfl); (· have := HL.out; omega); rintro e w' ⟨A', m', c', rfl, HH'⟩
       replace HH := Lib.hid HH'
       clear HH'
       replace kb := HH.out.rd.blk.cell 2
       replace kh := fun j => HH.out.blk.cell j
       replace fh := fun j => HH.out.blk.frozen j
       replace hgl := HH.out.glt
       replace hc := fun j => (HH.out.bel.cell (p := ⟨w.heap.size, j, none⟩) (Nat.lt_succ_self _)).trans (HZ.out.cell j)
       replace hf := fun j => (HH.out.bel.frozen (p := ⟨w.heap.size, j, none⟩) (Nat.lt_succ_self _)).trans (HZ.out.frozen j))
    | (go_at_call 68; (first | (with_reducible refine (i_PH HH.out ?_).mono ?_) | (with_reducible refine (i_PH (HH.out.store _ _) ?_).mono ?_) | (refine (i_PH (HS.out.new HS.out.rowlt _ _) ?_).mono ?_)); (· have := HL.out; omega); rintro e w' ⟨rfl, HH'⟩
       replace HH := Lib.hid HH'
       clear HH'
       replace kb := HH.out.rd.blk.cell 2
       replace kh := fun j => HH.out.blk.cell j
       replace fh := fun j => HH.out.blk.frozen j
       replace hgl := HH.out.glt
       replace hc := fun j => (HH.out.bel.cell (p := ⟨w.heap.size, j, none⟩) (Nat.lt_succ_self _)).trans (HZ.out.cell j)
       replace hf := fun j => (HH.out.bel.frozen (p := ⟨w.heap.size, j, none⟩) (Nat.lt_succ_self _)).trans (HZ.out.frozen j))
    | (go_at_call 25; (with_reducible refine (rMayHead_any _ _ _ _ _ _ _ _ _ _).mono ?_); rw [HM.out]; rintro e w5 ⟨rfl, hb5⟩
       first | replace HH := Lib.hid (HH.out.keep hb5) | replace HH := Lib.hid ((HH.out.store _ _).keep hb5) | replace HH := Lib.hid ((HS.out.new HS.out.rowlt _ _).keep hb5)
       clear hb5
       replace kb := HH.out.rd.blk.cell 2
       replace kh := fun j => HH.out.blk.cell j
       replace fh := fun j => HH.out.blk.frozen j
       replace hgl := HH.out.glt
       replace hc := fun j => (HH.out.bel.cell (p := ⟨w.heap.size, j, none⟩) (Nat.lt_succ_self _)).trans (HZ.out.cell j)
       replace hf := fun j => (HH.out.bel.frozen (p := ⟨w.heap.size, j, none⟩) (Nat.lt_succ_self _)).trans (HZ.out.frozen j)))
  all_goals
    first
      | (have HBW := HB0.out.trans (HH.out.bel.mono (Nat.le_succ _))
         have HBZ := HZ.out.below HH.out.bel (Nat.lt_succ_self _)
         refine bodyPost_ret (end_head (HBZ) (by rfl) (by rfl)) rfl ⟨rfl, ?_⟩
         repeat (first | with_reducible exact HBW | with_reducible apply below_at))
      | (have HBW := HB0.out.trans (HH.out.bel.mono (Nat.le_succ _))
         have HBZ := HZ.out.below HH.out.bel (Nat.lt_succ_self _)
         refine bodyPost_ret (end_head (HH.out.farB HBZ (Nat.lt_succ_self _) _ _) (by rfl) (by rfl)) rfl ⟨rfl, ?_⟩
         repeat (first | with_reducible exact HH.out.farW HBW (Nat.le_succ _) _ _ | with_reducible apply below_at))
      | (have HBW := HB0.out.trans (HS.out.bel.mono (Nat.le_succ _))
         have HBZ := HZ.out.below HS.out.bel (Nat.lt_succ_self _)
         refine bodyPost_ret (end_head (HBZ.alloc _) (by rfl) (by rfl)) rfl ⟨rfl, ?_⟩
         repeat (first | with_reducible exact below_alloc HBW (Nat.le_trans (Nat.le_succ _) (Nat.le_of_lt HS.out.rd.blk.lt)) | with_reducible apply below_at))

set_option maxHeartbeats 4000000 in
theorem rHead_c0 (w : World) (A : Option Addr) (bs : List UInt8) (c : Nat) (h : Bs w A bs c) (hl : 54 ≤ bs.length) (c0 : (wd bs 0 == 1) = false) :
    Calls Try.prog 28 #[.slice A bs.length c] w fun e w' => e = .returned (.tuple #[.agg #[.int .i64 0, .int .i64 0, .int .i64 0, .int .i64 0, .int .i64 0, .int .i64 0, .int .i64 0, .int .i64 0, .bool false], .bool false]) ∧ Below w.heap.size w w' := by
  have HL := Lib.hid hl
  clear hl
  have HZ := Lib.hid (Blk.new w 48 [.int .i64 0, .int .i64 0, .int .i64 0, .int .i64 0, .int .i64 0, .int .i64 0, .int .i64 0, .int .i64 0, .bool false])
  have HS := Lib.hid (RRd.start (w.alloc (.cells #[.int .i64 0, .int .i64 0, .int .i64 0, .int .i64 0, .int .i64 0, .int .i64 0, .int .i64 0, .int .i64 0, .bool false] 48)) 89 (w.heap.size + 1) bs A c (by simp) rfl (h.sl.keep (bel_alloc bel_refl).below) h.cap h.small)
  have HB0 : Hid (Below w.heap.size w (w.alloc (.cells #[.int .i64 0, .int .i64 0, .int .i64 0, .int .i64 0, .int .i64 0, .int .i64 0, .int .i64 0, .int .i64 0, .bool false] 48))) := Lib.hid (bel_alloc (bel_refl (a := w))).below
  clear h
  have kb : True := trivial
  have kh : True := trivial
  have fh : True := trivial
  have hc : True := trivial
  have hf : True := trivial
  have HH : True := trivial
  have hgl : True := trivial
  have hsz : True := trivial
  go_enter Try.func28, Try.ntmps28
  go_wp2_with (first
    | (go_at_call 47; (with_reducible refine (u2_PS HS.out ?_).mono ?_); (· have := HL.out; omega); rintro e w' ⟨rfl, HS'⟩
       replace HS := Lib.hid HS'
       clear HS'
       replace kb := HS.out.rd.blk.cell 2
       replace hsz := HS.out.rd.blk.lt
       replace hc := fun j => (HS.out.bel.cell (p := ⟨w.heap.size, j, none⟩) (Nat.lt_succ_self _)).trans (HZ.out.cell j)
       replace hf := fun j => (HS.out.bel.frozen (p := ⟨w.heap.size, j, none⟩) (Nat.lt_succ_self _)).trans (HZ.out.frozen j))
    | (go_at_call 47; (with_reducible refine (u4_PS HS.out ?_).mono ?_); (· have := HL.out; omega); rintro e w' ⟨rfl, HS'⟩
       replace HS := Lib.hid HS'
       clear HS'
       replace kb := HS.out.rd.blk.cell 2
       replace hsz := HS.out.rd.blk.lt
       replace hc := fun j => (HS.out.bel.cell (p := ⟨w.heap.size, j, none⟩) (Nat.lt_succ_self _)).trans (HZ.out.cell j)
       replace hf := fun j => (HS.out.bel.frozen (p := ⟨w.heap.size, j, none⟩) (Nat.lt_succ_self _)).trans (HZ.out.frozen j))
    | (go_at_call 67; (with_reducible refine (t_PS 8 _ ?_ HS.out ?_).mono ?_); (· rfl); (· have := HL.out; omega); rintro e w' ⟨A', m', c', rfl, HS'⟩
       replace HS := Lib.hid HS'
       clear HS'
       replace kb := HS.out.rd.blk.cell 2
       replace hsz := HS.out.rd.blk.lt
       replace hc := fun j => (HS.out.bel.cell (p := ⟨w.heap.size, j, none⟩) (Nat.lt_succ_self _)).trans (HZ.out.cell j)
       replace hf := fun j => (HS.out.bel.frozen (p := ⟨w.heap.size, j, none⟩) (Nat.lt_succ_self _)).trans (HZ.out.frozen j))
    | (go_at_call 67; (with_reducible refine (t_PS 16 _ ?_ HS.out ?_).mono ?_); (· rfl); (· have := HL.out; omega); rintro e w' ⟨A', m', c', rfl, HS'⟩
       replace HS := Lib.hid HS'
       clear HS'
       replace kb := HS.out.rd.blk.cell 2
       replace hsz := HS.out.rd.blk.lt
       replace hc := fun j => (HS.out.bel.cell (p := ⟨w.heap.size, j, none⟩) (Nat.lt_succ_self _)).trans (HZ.out.cell j)
       replace hf := fun j => (HS.out.bel.frozen (p := ⟨w.heap.size, j, none⟩) (Nat.lt_succ_self _)).trans (HZ.out.frozen j))
    | (go_at_call 67; (with_reducible refine (t_PS 2 _ ?_ HS.out ?_).mono ?_); (· rfl); (· have := HL.out; omega); rintro e w' ⟨A', m', c', rfl, HS'⟩
       replace HS := Lib.hid HS'
       clear HS'
       replace kb := HS.out.rd.blk.cell 2
       replace hsz := HS.out.rd.blk.lt
       replace hc := fun j => (HS.out.bel.cell (p := ⟨w.heap.size, j, none⟩) (Nat.lt_succ_self _)).trans (HZ.out.cell j)
       replace hf := fun j => (HS.out.bel.frozen (p := ⟨w.heap.size, j, none⟩) (Nat.lt_succ_self _)).trans (HZ.out.frozen j))
    | (go_at_call 47; (first | (with_reducible refine (u2_PH HH.out ?_).mono ?_) | (with_reducible refine (u2_PH (HH.out.store _ _) ?_).mono ?_) | (refine (u2_PH (HS.out.new HS.out.rowlt _ _) ?_).mono ?_)); (· have := HL.out; omega); rintro e w' ⟨rfl, HH'⟩
       replace HH := Lib.hid HH'
       clear HH'
       replace kb := HH.out.rd.blk.cell 2
       replace kh := fun j => HH.out.blk.cell j
       replace fh := fun j => HH.out.blk.frozen j
       replace hgl := HH.out.glt
       replace hc := fun j => (HH.out.bel.cell (p := ⟨w.heap.size, j, none⟩) (Nat.lt_succ_self _)).trans (HZ.out.cell j)
       replace hf := fun j => (HH.out.bel.frozen (p := ⟨w.heap.size, j, none⟩) (Nat.lt_succ_self _)).trans (HZ.out.frozen j))
    | (go_at_call 47; (first | (with_reducible refine (u4_PH HH.out ?_).mono ?_) | (with_reducible refine (u4_PH (HH.out.store _ _) ?_).mono ?_) | (refine (u4_PH (HS.out.new HS.out.rowlt _ _) ?_).mono ?_)); (· have := HL.out; omega); rintro e w' ⟨rfl, HH'⟩
       replace HH := Lib.hid HH'
       clear HH'
       replace kb := HH.out.rd.blk.cell 2
       replace kh := fun j => HH.out.blk.cell j
       replace fh := fun j => HH.out.blk.frozen j
       replace hgl := HH.out.glt
       replace hc := fun j => (HH.out.bel.cell (p := ⟨w.heap.size, j, none⟩) (Nat.lt_succ_self _)).trans (HZ.out.cell j)
       replace hf := fun j => (HH.out.bel.frozen (p := ⟨w.heap.size, j, none⟩) (Nat.lt_succ_self _)).trans (HZ.out.frozen j))
    | (go_at_call 67; (first | (with_reducible refine (t_PH 8 _ ?_ HH.out ?_).mono ?_) | (with_reducible refine (t_PH 8 _ ?_ (HH.out.store _ _) ?_).mono ?_) | (refine (t_PH 8 _ ?_ (HS.out.new HS.out.rowlt _ _) ?_).mono ?_)); (· rfl); (· have := HL.out; omega); rintro e w' ⟨A', m', c', rfl, HH'⟩
       replace HH := Lib.hid HH'
       clear HH'
       replace kb := HH.out.rd.blk.cell 2
       replace kh := fun j => HH.out.blk.cell j
       replace fh := fun j => HH.out.blk.frozen j
       replace hgl := HH.out.glt
       replace hc := fun j => (HH.out.bel.cell (p := ⟨w.heap.size, j, none⟩) (Nat.lt_succ_self _)).trans (HZ.out.cell j)
       replace hf := fun j => (HH.out.bel.frozen (p := ⟨w.heap.size, j, none⟩) (Nat.lt_succ_self _)).trans (HZ.out.frozen j))
    | (go_at_call 67; (first | (with_reducible refine (t_PH 16 _ ?_ HH.out ?_).mono ?_) | (with_reducible refine (t_PH 16 _ ?_ (HH.out.store _ _) ?_).mono ?_) | (refine (t_PH 16 _ ?_ (HS.out.new HS.out.rowlt _ _) ?_).mono ?_)); (· rfl); (· have := HL.out; omega); rintro e w' ⟨A', m', c', rfl, HH'⟩
       replace HH := Lib.hid HH'
       clear HH'
       replace kb := HH.out.rd.blk.cell 2
       replace kh := fun j => HH.out.blk.cell j
       replace fh := fun j => HH.out.blk.frozen j
       replace hgl := HH.out.glt
       replace hc := fun j => (HH.out.bel.cell (p := ⟨w.heap.size, j, none⟩) (Nat.lt_succ_self _)).trans (HZ.out.cell j)
       replace hf := fun j => (HH.out.bel.frozen (p := ⟨w.heap.size, j, none⟩) (Nat.lt_succ_self _)).trans (HZ.out.frozen j))
    | (go_at_call 67; (first | (with_reducible refine (t_PH 2 _ ?_ HH.out ?_).mono ?_) | (with_reducible refine (t_PH 2 _ ?_ (HH.out.store _ _) ?_).mono ?_) | (refine (t_PH 2 _ ?_ (HS.out.new HS.out.rowlt _ _) ?_).mono ?_)); (· rfl); (· have := HL.out; omega); rintro e w' ⟨A', m', c', rfl, HH'⟩
       replace HH := Lib.hid HH'
       clear HH'
       replace kb := HH.out.rd.blk.cell 2
       replace kh := fun j => HH.out.blk.cell j
       replace fh := fun j => HH.out.blk.frozen j
       replace hgl := HH.out.glt
       replace hc := fun j => (HH.out.bel.cell (p := ⟨w.heap.size, j, none⟩) (Nat.lt_succ_self _)).trans (HZ.out.cell j)
       replace hf := fun j => (HH.out.bel.frozen (p := ⟨w.heap.size, j, none⟩) (Nat.lt_succ_self _)).trans (HZ.out.frozen j))
    | (go_at_call 68; (first | (with_reducible refine (i_PH HH.out ?_).mono ?_) | (with_reducible refine (i_PH (HH.out.store _ _) ?_).mono ?_) | (refine (i_PH (HS.out.new HS.out.rowlt _ _) ?_).mono ?_)); (· have := HL.out; omega); rintro e w' ⟨rfl, HH'⟩
       replace HH := Lib.hid HH'
       clear HH'
       replace kb := HH.out.rd.blk.cell 2
       replace kh := fun j => HH.out.blk.cell j
       replace fh := fun j => HH.out.blk.frozen j
       replace hgl := HH.out.glt
       replace hc := fun j => (HH.out.bel.cell (p := ⟨w.heap.size, j, none⟩) (Nat.lt_succ_self _)).trans (HZ.out.cell j)
       replace hf := fun j => (HH.out.bel.frozen (p := ⟨w.heap.size, j, none⟩) (Nat.lt_succ_self _)).trans (HZ.out.frozen j)))
  all_goals
    first
      | (have HBW := HB0.out.trans (HH.out.bel.mono (Nat.le_succ _))
         have HBZ := HZ.out.below HH.out.bel (Nat.lt_succ_self _)
         refine bodyPost_ret (end_head (HBZ) (by rfl) (by rfl)) rfl ⟨rfl, ?_⟩
         repeat (first | with_reducible exact HBW | with_reducible apply below_at))
      | (have HBW := HB0.out.trans (HH.out.bel.mono (Nat.le_succ _))
         have HBZ := HZ.out.below HH.out.bel (Nat.lt_succ_self _)
         refine bodyPost_ret (end_head (HH.out.farB HBZ (Nat.lt_succ_self _) _ _) (by rfl) (by rfl)) rfl ⟨rfl, ?_⟩
         repeat (first | with_reducible exact HH.out.farW HBW (Nat.le_succ _) _ _ | with_reducible apply below_at))
      | (have HBW := HB0.out.trans (HS.out.bel.mono (Nat.le_succ _))
         have HBZ := HZ.out.below HS.out.bel (Nat.lt_succ_self _)
         refine bodyPost_ret (end_head (HBZ.alloc _) (by rfl) (by rfl)) rfl ⟨rfl, ?_⟩
         repeat (first | with_reducible exact below_alloc HBW (Nat.le_trans (Nat.le_succ _) (Nat.le_of_lt HS.out.rd.blk.lt)) | with_reducible apply below_at))

set_option maxHeartbeats 4000000 in
theorem rHead_c1 (w : World) (A : Option Addr) (bs : List UInt8) (c : Nat) (h : Bs w A bs c) (hl : 54 ≤ bs.length) (c0 : wd bs 0 = 1) (c1 : (wd bs 2 == 0) = false) :
    Calls Try.prog 28 #[.slice A bs.length c] w fun e w' => e = .returned (.tuple #[.agg #[.int .i64 0, .int .i64 0, .int .i64 0, .int .i64 0, .int .i64 0, .int .i64 0, .int .i64 0, .int .i64 0, .bool false], .bool false]) ∧ Below w.heap.size w w' := by
  have HL := Lib.hid hl
  clear hl
  have HZ := Lib.hid (Blk.new w 48 [.int .i64 0, .int .i64 0, .int .i64 0, .int .i64 0, .int .i64 0, .int .i64 0, .int .i64 0, .int .i64 0, .bool false])
  have HS := Lib.hid (RRd.start (w.alloc (.cells #[.int .i64 0, .int .i64 0, .int .i64 0, .int .i64 0, .int .i64 0, .int .i64 0, .int .i64 0, .int .i64 0, .bool false] 48)) 89 (w.heap.size + 1) bs A c (by simp) rfl (h.sl.keep (bel_alloc bel_refl).below) h.cap h.small)
  have HB0 : Hid (Below w.heap.size w (w.alloc (.cells #[.int .i64 0, .int .i64 0, .int .i64 0, .int .i64 0, .int .i64 0, .int .i64 0, .int .i64 0, .int .i64 0, .bool false] 48))) := Lib.hid (bel_alloc (bel_refl (a := w))).below
  clear h
  have kb : True := trivial
  have kh : True := trivial
  have fh : True := trivial
  have hc : True := trivial
  have hf : True := trivial
  have HH : True := trivial
  have hgl : True := trivial
  have hsz : True := trivial
  go_enter Try.func28, Try.ntmps28
  go_wp2_with (first
    | (go_at_call 47; (with_reducible refine (u2_PS HS.out ?_).mono ?_); (· have := HL.out; omega); rintro e w' ⟨rfl, HS'⟩
       replace HS := Lib.hid HS'
       clear HS'
       replace kb := HS.out.rd.blk.cell 2
       replace hsz := HS.out.rd.blk.lt
       replace hc := fun j => (HS.out.bel.cell (p := ⟨w.heap.size, j, none⟩) (Nat.lt_succ_self _)).trans (HZ.out.cell j)
       replace hf := fun j => (HS.out.bel.frozen (p := ⟨w.heap.size, j, none⟩) (Nat.lt_succ_self _)).trans (HZ.out.frozen j))
    | (go_at_call 47; (with_reducible refine (u4_PS HS.out ?_).mono ?_); (· have := HL.out; omega); rintro e w' ⟨rfl, HS'⟩
       replace HS := Lib.hid HS'
       clear HS'
       replace kb := HS.out.rd.blk.cell 2
       replace hsz := HS.out.rd.blk.lt
       replace hc := fun j => (HS.out.bel.cell (p := ⟨w.heap.size, j, none⟩) (Nat.lt_succ_self _)).trans (HZ.out.cell j)
       replace hf := fun j => (HS.out.bel.frozen (p := ⟨w.heap.size, j, none⟩) (Nat.lt_succ_self _)).trans (HZ.out.frozen j))
    | (go_at_call 67; (with_reducible refine (t_PS 8 _ ?_ HS.out ?_).mono ?_); (· rfl); (· have := HL.out; omega); rintro e w' ⟨A', m', c', rfl, HS'⟩
       replace HS := Lib.hid HS'
       clear HS'
       replace kb := HS.out.rd.blk.cell 2
       replace hsz := HS.out.rd.blk.lt
       replace hc := fun j => (HS.out.bel.cell (p := ⟨w.heap.size, j, none⟩) (Nat.lt_succ_self _)).trans (HZ.out.cell j)
       replace hf := fun j => (HS.out.bel.frozen (p := ⟨w.heap.size, j, none⟩) (Nat.lt_succ_self _)).trans (HZ.out.frozen j))
    | (go_at_call 67; (with_reducible refine (t_PS 16 _ ?_ HS.out ?_).mono ?_); (· rfl); (· have := HL.out; omega); rintro e w' ⟨A', m', c', rfl, HS'⟩
       replace HS := Lib.hid HS'
       clear HS'
       replace kb := HS.out.rd.blk.cell 2
       replace hsz := HS.out.rd.blk.lt
       replace hc := fun j => (HS.out.bel.cell (p := ⟨w.heap.size, j, none⟩) (Nat.lt_succ_self _)).trans (HZ.out.cell j)
       replace hf := fun j => (HS.out.bel.frozen (p := ⟨w.heap.size, j, none⟩) (Nat.lt_succ_self _)).trans (HZ.out.frozen j))
    | (go_at_call 67; (with_reducible refine (t_PS 2 _ ?_ HS.out ?_).mono ?_); (· rfl); (· have := HL.out; omega); rintro e w' ⟨A', m', c', rfl, HS'⟩
       replace HS := Lib.hid HS'
       clear HS'
       replace kb := HS.out.rd.blk.cell 2
       replace hsz := HS.out.rd.blk.lt
       replace hc := fun j => (HS.out.bel.cell (p := ⟨w.heap.size, j, none⟩) (Nat.lt_succ_self _)).trans (HZ.out.cell j)
       replace hf := fun j => (HS.out.bel.frozen (p := ⟨w.heap.size, j, none⟩) (Nat.lt_succ_self _)).trans (HZ.out.frozen j))
    | (go_at_call 47; (first | (with_reducible refine (u2_PH HH.out ?_).mono ?_) | (with_reducible refine (u2_PH (HH.out.store _ _) ?_).mono ?_) | (refine (u2_PH (HS.out.new HS.out.rowlt _ _) ?_).mono ?_)); (· have := HL.out; omega); rintro e w' ⟨rfl, HH'⟩
       replace HH := Lib.hid HH'
       clear HH'
       replace kb := HH.out.rd.blk.cell 2
       replace kh := fun j => HH.out.blk.cell j
       replace fh := fun j => HH.out.blk.frozen j
       replace hgl := HH.out.glt
       replace hc := fun j => (HH.out.bel.cell (p := ⟨w.heap.size, j, none⟩) (Nat.lt_succ_self _)).trans (HZ.out.cell j)
       replace hf := fun j => (HH.out.bel.frozen (p := ⟨w.heap.size, j, none⟩) (Nat.lt_succ_self _)).trans (HZ.out.frozen j))
    | (go_at_call 47; (first | (with_reducible refine (u4_PH HH.out ?_).mono ?_) | (with_reducible refine (u4_PH (HH.out.store _ _) ?_).mono ?_) | (refine (u4_PH (HS.out.new HS.out.rowlt _ _) ?_).mono ?_)); (· have := HL.out; omega); rintro e w' ⟨rfl, HH'⟩
       replace HH := Lib.hid HH'
       clear HH'
       replace kb := HH.out.rd.blk.cell 2
       replace kh := fun j => HH.out.blk.cell j
       replace fh := fun j => HH.out.blk.frozen j
       replace hgl := HH.out.glt
       replace hc := fun j => (HH.out.bel.cell (p := ⟨w.heap.size, j, none⟩) (Nat.lt_succ_self _)).trans (HZ.out.cell j)
       replace hf := fun j => (HH.out.bel.frozen (p := ⟨w.heap.size, j, none⟩) (Nat.lt_succ_self _)).trans (HZ.out.frozen j))
    | (go_at_call 67; (first | (with_reducible refine (t_PH 8 _ ?_ HH.out ?_).mono ?_) | (with_reducible refine (t_PH 8 _ ?_ (HH.out.store _ _) ?_).mono ?_) | (refine (t_PH 8 _ ?_ (HS.out.new HS.out.rowlt _ _) ?_).mono ?_)); (· rfl); (· have := HL.out; omega); rintro e w' ⟨A', m', c', rfl, HH'⟩
       replace HH := Lib.hid HH'
       clear HH'
       replace kb := HH.out.rd.blk.cell 2
       replace kh := fun j => HH.out.blk.cell j
       replace fh := fun j => HH.out.blk.frozen j
       replace hgl := HH.out.glt
       replace hc := fun j => (HH.out.bel.cell (p := ⟨w.heap.size, j, none⟩) (Nat.lt_succ_self _)).trans (HZ.out.cell j)
       replace hf := fun j => (HH.out.bel.frozen (p := ⟨w.heap.size, j, none⟩) (Nat.lt_succ_self _)).trans (HZ.out.frozen j))
    | (go_at_call 67; (first | (with_reducible refine (t_PH 16 _ ?_ HH.out ?_).mono ?_) | (with_reducible refine (t_PH 16 _ ?_ (HH.out.store _ _) ?_).mono ?_) | (refine (t_PH 16 _ ?_ (HS.out.new HS.out.rowlt _ _) ?_).mono ?_)); (· rfl); (· have := HL.out; omega); rintro e w' ⟨A', m', c', rfl, HH'⟩
       replace HH := Lib.hid HH'
       clear HH'
       replace kb := HH.out.rd.blk.cell 2
       replace kh := fun j => HH.out.blk.cell j
       replace fh := fun j => HH.out.blk.frozen j
       replace hgl := HH.out.glt
       replace hc := fun j => (HH.out.bel.cell (p := ⟨w.heap.size, j, none⟩) (Nat.lt_succ_self _)).trans (HZ.out.cell j)
       replace hf := fun j => (HH.out.bel.frozen (p := ⟨w.heap.size, j, none⟩) (Nat.lt_succ_self _)).trans (HZ.out.frozen j))
    | (go_at_call 67; (first | (with_reducible refine (t_PH 2 _ ?_ HH.out ?_).mono ?_) | (with_reducible refine (t_PH 2 _ ?_ (HH.out.store _ _) ?_).mono ?_) | (refine (t_PH 2 _ ?_ (HS.out.new HS.out.rowlt _ _) ?_).mono ?_)); (· rfl); (· have := HL.out; omega); rintro e w' ⟨A', m', c', rfl, HH'⟩
       replace HH := Lib.hid HH'
       clear HH'
       replace kb := HH.out.rd.blk.cell 2
       replace kh := fun j => HH.out.blk.cell j
       replace fh := fun j => HH.out.blk.frozen j
       replace hgl := HH.out.glt
       replace hc := fun j => (HH.out.bel.cell (p := ⟨w.heap.size, j, none⟩) (Nat.lt_succ_self _)).trans (HZ.out.cell j)
       replace hf := fun j => (HH.out.bel.frozen (p := ⟨w.heap.size, j, none⟩) (Nat.lt_succ_self _)).trans (HZ.out.frozen j))
    | (go_at_call 68; (first | (with_reducible refine (i_PH HH.out ?_).mono ?_) | (with_reducible refine (i_PH (HH.out.store _ _) ?_).mono ?_) | (refine (i_PH (HS.out.new HS.out.rowlt _ _) ?_).mono ?_)); (· have := HL.out; omega); rintro e w' ⟨rfl, HH'⟩
       replace HH := Lib.hid HH'
       clear HH'
       replace kb := HH.out.rd.blk.cell 2
       replace kh := fun j => HH.out.blk.cell j
       replace fh := fun j => HH.out.blk.frozen j
       replace hgl := HH.out.glt
       replace hc := fun j => (HH.out.bel.cell (p := ⟨w.heap.size, j, none⟩) (Nat.lt_succ_self _)).trans (HZ.out.cell j)
       replace hf := fun j => (HH.out.bel.frozen (p := ⟨w.heap.size, j, none⟩) (Nat.lt_succ_self _)).trans (HZ.out.frozen j)))
  all_goals
    first
      | (have HBW := HB0.out.trans (HH.out.bel.mono (Nat.le_succ _))
         have HBZ := HZ.out.below HH.out.bel (Nat.lt_succ_self _)
         refine bodyPost_ret (end_head (HBZ) (by rfl) (by rfl)) rfl ⟨rfl, ?_⟩
         repeat (first | with_reducible exact HBW | with_reducible apply below_at))
      | (have HBW := HB0.out.trans (HH.out.bel.mono (Nat.le_succ _))
         have HBZ := HZ.out.below HH.out.bel (Nat.lt_succ_self _)
         refine bodyPost_ret (end_head (HH.out.farB HBZ (Nat.lt_succ_self _) _ _) (by rfl) (by rfl)) rfl ⟨rfl, ?_⟩
         repeat (first | with_reducible exact HH.out.farW HBW (Nat.le_succ _) _ _ | with_reducible apply below_at))
      | (have HBW := HB0.out.trans (HS.out.bel.mono (Nat.le_succ _))
         have HBZ := HZ.out.below HS.out.bel (Nat.lt_succ_self _)
         refine bodyPost_ret (end_head (HBZ.alloc _) (by rfl) (by rfl)) rfl ⟨rfl, ?_⟩
         repeat (first | with_reducible exact below_alloc HBW (Nat.le_trans (Nat.le_succ _) (Nat.le_of_lt HS.out.rd.blk.lt)) | with_reducible apply below_at))

set_option maxHeartbeats 4000000 in
theorem rHead_c2 (w : World) (A : Option Addr) (bs : List UInt8) (c : Nat) (h : Bs w A bs c) (hl : 54 ≤ bs.length) (c0 : wd bs 0 = 1) (c1 : wd bs 2 = 0) (c2 : (wd4 bs 12 == 1594834165) = false) :
    Calls Try.prog 28 #[.slice A bs.length c] w fun e w' => e = .returned (.tuple #[.agg #[.int .i64 0, .int .i64 0, .int .i64 0, .int .i64 0, .int .i64 0, .int .i64 0, .int .i64 0, .int .i64 0, .bool false], .bool false]) ∧ Below w.heap.size w w' := by
  have HL := Lib.hid hl
  clear hl
  have HZ := Lib.hid (Blk.new w 48 [.int .i64 0, .int .i64 0, .int .i64 0, .int .i64 0, .int .i64 0, .int .i64 0, .int .i64 0, .int .i64 0, .bool false])
  have HS := Lib.hid (RRd.start (w.alloc (.cells #[.int .i64 0, .int .i64 0, .int .i64 0, .int .i64 0, .int .i64 0, .int .i64 0, .int .i64 0, .int .i64 0, .bool false] 48)) 89 (w.heap.size + 1) bs A c (by simp) rfl (h.sl.keep (bel_alloc bel_refl).below) h.cap h.small)
  have HB0 : Hid (Below w.heap.size w (w.alloc (.cells #[.int .i64 0, .int .i64 0, .int .i64 0, .int .i64 0, .int .i64 0, .int .i64 0, .int .i64 0, .int .i64 0, .bool false] 48))) := Lib.hid (bel_alloc (bel_refl (a := w))).below
  clear h
  have kb : True := trivial
  have kh : True := trivial
  have fh : True := trivial
  have hc : True := trivial
  have hf : True := trivial
  have HH : True := trivial
  have hgl : True := trivial
  have hsz : True := trivial
  go_enter Try.func28, Try.ntmps28
  go_wp2_with (first
    | (go_at_call 47; (with_reducible refine (u2_PS HS.out ?_).mono ?_); (· have := HL.out; omega); rintro e w' ⟨rfl, HS'⟩
       replace HS := Lib.hid HS'
       clear HS'
       replace kb := HS.out.rd.blk.cell 2
       replace hsz := HS.out.rd.blk.lt
       replace hc := fun j => (HS.out.bel.cell (p := ⟨w.heap.size, j, none⟩) (Nat.lt_succ_self _)).trans (HZ.out.cell j)
       replace hf := fun j => (HS.out.bel.frozen (p := ⟨w.heap.size, j, none⟩) (Nat.lt_succ_self _)).trans (HZ.out.frozen j))
    | (go_at_call 47; (with_reducible refine (u4_PS HS.out ?_).mono ?_); (· have := HL.out; omega); rintro e w' ⟨rfl, HS'⟩
       replace HS := Lib.hid HS'
       clear HS'
       replace kb := HS.out.rd.blk.cell 2
       replace hsz := HS.out.rd.blk.lt
       replace hc := fun j => (HS.out.bel.cell (p := ⟨w.heap.size, j, none⟩) (Nat.lt_succ_self _)).trans (HZ.out.cell j)
       replace hf := fun j => (HS.out.bel.frozen (p := ⟨w.heap.size, j, none⟩) (Nat.lt_succ_self _)).trans (HZ.out.frozen j))
    | (go_at_call 67; (with_reducible refine (t_PS 8 _ ?_ HS.out ?_).mono ?_); (· rfl); (· have := HL.out; omega); rintro e w' ⟨A', m', c', rfl, HS'⟩
       replace HS := Lib.hid HS'
       clear HS'
       replace kb := HS.out.rd.blk.cell 2
       replace hsz := HS.out.rd.blk.lt
       replace hc := fun j => (HS.out.bel.cell (p := ⟨w.heap.size, j, none⟩) (Nat.lt_succ_self _)).trans (HZ.out.cell j)
       replace hf := fun j => (HS.out.bel.frozen (p := ⟨w.heap.size, j, none⟩) (Nat.lt_succ_self _)).trans (HZ.out.frozen j))
    | (go_at_call 67; (with_reducible refine (t_PS 16 _ ?_ HS.out ?_).mono ?_); (· rfl); (· have := HL.out; omega); rintro e w' ⟨A', m', c', rfl, HS'⟩
       replace HS := Lib.hid HS'
       clear HS'
       replace kb := HS.out.rd.blk.cell 2
       replace hsz := HS.out.rd.blk.lt
       replace hc := fun j => (HS.out.bel.cell (p := ⟨w.heap.size, j, none⟩) (Nat.lt_succ_self _)).trans (HZ.out.cell j)
       replace hf := fun j => (HS.out.bel.frozen (p := ⟨w.heap.size, j, none⟩) (Nat.lt_succ_self _)).trans (HZ.out.frozen j))
    | (go_at_call 67; (with_reducible refine (t_PS 2 _ ?_ HS.out ?_).mono ?_); (· rfl); (· have := HL.out; omega); rintro e w' ⟨A', m', c', rfl, HS'⟩
       replace HS := Lib.hid HS'
       clear HS'
       replace kb := HS.out.rd.blk.cell 2
       replace hsz := HS.out.rd.blk.lt
       replace hc := fun j => (HS.out.bel.cell (p := ⟨w.heap.size, j, none⟩) (Nat.lt_succ_self _)).trans (HZ.out.cell j)
       replace hf := fun j => (HS.out.bel.frozen (p := ⟨w.heap.size, j, none⟩) (Nat.lt_succ_self _)).trans (HZ.out.frozen j))
    | (go_at_call 47; (first | (with_reducible refine (u2_PH HH.out ?_).mono ?_) | (with_reducible refine (u2_PH (HH.out.store _ _) ?_).mono ?_) | (refine (u2_PH (HS.out.new HS.out.rowlt _ _) ?_).mono ?_)); (· have := HL.out; omega); rintro e w' ⟨rfl, HH'⟩
       replace HH := Lib.hid HH'
       clear HH'
       replace kb := HH.out.rd.blk.cell 2
       replace kh := fun j => HH.out.blk.cell j
       replace fh := fun j => HH.out.blk.frozen j
       replace hgl := HH.out.glt
       replace hc := fun j => (HH.out.bel.cell (p := ⟨w.heap.size, j, none⟩) (Nat.lt_succ_self _)).trans (HZ.out.cell j)
       replace hf := fun j => (HH.out.bel.frozen (p := ⟨w.heap.size, j, none⟩) (Nat.lt_succ_self _)).trans (HZ.out.frozen j))
    | (go_at_call 47; (first | (with_reducible refine (u4_PH HH.out ?_).mono ?_) | (with_reducible refine (u4_PH (HH.out.store _ _) ?_).mono ?_) | (refine (u4_PH (HS.out.new HS.out.rowlt _ _) ?_).mono ?_)); (· have := HL.out; omega); rintro e w' ⟨rfl, HH'⟩
       replace HH := Lib.hid HH'
       clear HH'
       replace kb := HH.out.rd.blk.cell 2
       replace kh := fun j => HH.out.blk.cell j
       replace fh := fun j => HH.out.blk.frozen j
       replace hgl := HH.out.glt
       replace hc := fun j => (HH.out.bel.cell (p := ⟨w.heap.size, j, none⟩) (Nat.lt_succ_self _)).trans (HZ.out.cell j)
       replace hf := fun j => (HH.out.bel.frozen (p := ⟨w.heap.size, j, none⟩) (Nat.lt_succ_self _)).trans (HZ.out.frozen j))
    | (go_at_call 67; (first | (with_reducible refine (t_PH 8 _ ?_ HH.out ?_).mono ?_) | (with_reducible refine (t_PH 8 _ ?_ (HH.out.store _ _) ?_).mono ?_) | (refine (t_PH 8 _ ?_ (HS.out.new HS.out.rowlt _ _) ?_).mono ?_)); (· rfl); (· have := HL.out; omega); rintro e w' ⟨A', m', c', rfl, HH'⟩
       replace HH := Lib.hid HH'
       clear HH'
       replace kb := HH.out.rd.blk.cell 2
       replace kh := fun j => HH.out.blk.cell j
       replace fh := fun j => HH.out.blk.frozen j
       replace hgl := HH.out.glt
       replace hc := fun j => (HH.out.bel.cell (p := ⟨w.heap.size, j, none⟩) (Nat.lt_succ_self _)).trans (HZ.out.cell j)
       replace hf := fun j => (HH.out.bel.frozen (p := ⟨w.heap.size, j, none⟩) (Nat.lt_succ_self _)).trans (HZ.out.frozen j))
    | (go_at_call 67; (first | (with_reducible refine (t_PH 16 _ ?_ HH.out ?_).mono ?_) | (with_reducible refine (t_PH 16 _ ?_ (HH.out.store _ _) ?_).mono ?_) | (refine (t_PH 16 _ ?_ (HS.out.new HS.out.rowlt _ _) ?_).mono ?_)); (· rfl); (· have := HL.out; omega); rintro e w' ⟨A', m', c', rfl, HH'⟩
       replace HH := Lib.hid HH'
       clear HH'
       replace kb := HH.out.rd.blk.cell 2
       replace kh := fun j => HH.out.blk.cell j
       replace fh := fun j => HH.out.blk.frozen j
       replace hgl := HH.out.glt
       replace hc := fun j => (HH.out.bel.cell (p := ⟨w.heap.size, j, none⟩) (Nat.lt_succ_self _)).trans (HZ.out.cell j)
       replace hf := fun j => (HH.out.bel.frozen (p := ⟨w.heap.size, j, none⟩) (Nat.lt_succ_self _)).trans (HZ.out.frozen j))
    | (go_at_call 67; (first | (with_reducible refine (t_PH 2 _ ?_ HH.out ?_).mono ?_) | (with_reducible refine (t_PH 2 _ ?_ (HH.out.store _ _) ?_).mono ?_) | (refine (t_PH 2 _ ?_ (HS.out.new HS.out.rowlt _ _) ?_).mono ?_)); (· rfl); (· have := HL.out; omega); rintro e w' ⟨A', m', c', rfl, HH'⟩
       replace HH := Lib.hid HH'
       clear HH'
       replace kb := HH.out.rd.blk.cell 2
       replace kh := fun j => HH.out.blk.cell j
       replace fh := fun j => HH.out.blk.frozen j
       replace hgl := HH.out.glt
       replace hc := fun j => (HH.out.bel.cell (p := ⟨w.heap.size, j, none⟩) (Nat.lt_succ_self _)).trans (HZ.out.cell j)
       replace hf := fun j => (HH.out.bel.frozen (p := ⟨w.heap.size, j, none⟩) (Nat.lt_succ_self _)).trans (HZ.out.frozen j))
    | (go_at_call 68; (first | (with_reducible refine (i_PH HH.out ?_).mono ?_) | (with_reducible refine (i_PH (HH.out.store _ _) ?_).mono ?_) | (refine (i_PH (HS.out.new HS.out.rowlt _ _) ?_).mono ?_)); (· have := HL.out; omega); rintro e w' ⟨rfl, HH'⟩
       replace HH := Lib.hid HH'
       clear HH'
       replace kb := HH.out.rd.blk.cell 2
       replace kh := fun j => HH.out.blk.cell j
       replace fh := fun j => HH.out.blk.frozen j
       replace hgl := HH.out.glt
       replace hc := fun j => (HH.out.bel.cell (p := ⟨w.heap.size, j, none⟩) (Nat.lt_succ_self _)).trans (HZ.out.cell j)
       replace hf := fun j => (HH.out.bel.frozen (p := ⟨w.heap.size, j, none⟩) (Nat.lt_succ_self _)).trans (HZ.out.frozen j)))
  all_goals
    first
      | (have HBW := HB0.out.trans (HH.out.bel.mono (Nat.le_succ _))
         have HBZ := HZ.out.below HH.out.bel (Nat.lt_succ_self _)
         refine bodyPost_ret (end_head (HBZ) (by rfl) (by rfl)) rfl ⟨rfl, ?_⟩
         repeat (first | with_reducible exact HBW | with_reducible apply below_at))
      | (have HBW := HB0.out.trans (HH.out.bel.mono (Nat.le_succ _))
         have HBZ := HZ.out.below HH.out.bel (Nat.lt_succ_self _)
         refine bodyPost_ret (end_head (HH.out.farB HBZ (Nat.lt_succ_self _) _ _) (by rfl) (by rfl)) rfl ⟨rfl, ?_⟩
         repeat (first | with_reducible exact HH.out.farW HBW (Nat.le_succ _) _ _ | with_reducible apply below_at))
      | (have HBW := HB0.out.trans (HS.out.bel.mono (Nat.le_succ _))
         have HBZ := HZ.out.below HS.out.bel (Nat.lt_succ_self _)
         refine bodyPost_ret (end_head (HBZ.alloc _) (by rfl) (by rfl)) rfl ⟨rfl, ?_⟩
         repeat (first | with_reducible exact below_alloc HBW (Nat.le_trans (Nat.le_succ _) (Nat.le_of_lt HS.out.rd.blk.lt)) | with_reducible apply below_at))

set_option maxHeartbeats 4000000 in
theorem rHead_lg (w : World) (A : Option Addr) (bs : List UInt8) (c : Nat) (h : Bs w A bs c) (hl : 54 ≤ bs.length) (c0 : wd bs 0 = 1) (c1 : wd bs 2 = 0) (c2 : wd4 bs 12 = 1594834165) (lg : 2 ≤ wd bs 50) :
    Calls Try.prog 28 #[.slice A bs.length c] w fun e w' => e = .returned (.tuple #[.agg #[.int .i64 0, .int .i64 0, .int .i64 0, .int .i64 0, .int .i64 0, .int .i64 0, .int .i64 0, .int .i64 0, .bool false], .bool false]) ∧ Below w.heap.size w w' := by
  have HL := Lib.hid hl
  clear hl
  have HZ := Lib.hid (Blk.new w 48 [.int .i64 0, .int .i64 0, .int .i64 0, .int .i64 0, .int .i64 0, .int .i64 0, .int .i64 0, .int .i64 0, .bool false])
  have HS := Lib.hid (RRd.start (w.alloc (.cells #[.int .i64 0, .int .i64 0, .int .i64 0, .int .i64 0, .int .i64 0, .int .i64 0, .int .i64 0, .int .i64 0, .bool false] 48)) 89 (w.heap.size + 1) bs A c (by simp) rfl (h.sl.keep (bel_alloc bel_refl).below) h.cap h.small)
  have HB0 : Hid (Below w.heap.size w (w.alloc (.cells #[.int .i64 0, .int .i64 0, .int .i64 0, .int .i64 0, .int .i64 0, .int .i64 0, .int .i64 0, .int .i64 0, .bool false] 48))) := Lib.hid (bel_alloc (bel_refl (a := w))).below
  clear h
  have kb : True := trivial
  have kh : True := trivial
  have fh : True := trivial
  have hc : True := trivial
  have hf : True := trivial
  have HH : True := trivial
  have hgl : True := trivial
  have hsz : True := trivial
  go_enter Try.func28, Try.ntmps28
  go_wp2_with (first
    | (go_at_call 47; (with_reducible refine (u2_PS HS.out ?_).mono ?_); (· have := HL.out; omega); rintro e w' ⟨rfl, HS'⟩
       replace HS := Lib.hid HS'
       clear HS'
       replace kb := HS.out.rd.blk.cell 2
       replace hsz := HS.out.rd.blk.lt
       replace hc := fun j => (HS.out.bel.cell (p := ⟨w.heap.size, j, none⟩) (Nat.lt_succ_self _)).trans (HZ.out.cell j)
       replace hf := fun j => (HS.out.bel.frozen (p := ⟨w.heap.size, j, none⟩) (Nat.lt_succ_self _)).trans (HZ.out.frozen j))
    | (go_at_call 47; (with_reducible refine (u4_PS HS.out ?_).mono ?_); (· have := HL.out; omega); rintro e w' ⟨rfl, HS'⟩
       replace HS := Lib.hid HS'
       clear HS'
       replace kb := HS.out.rd.blk.cell 2
       replace hsz := HS.out.rd.blk.lt
       replace hc := fun j => (HS.out.bel.cell (p := ⟨w.heap.size, j, none⟩) (Nat.lt_succ_self _)).trans (HZ.out.cell j)
       replace hf := fun j => (HS.out.bel.frozen (p := ⟨w.heap.size, j, none⟩) (Nat.lt_succ_self _)).trans (HZ.out.frozen j))
    | (go_at_call 67; (with_reducible refine (t_PS 8 _ ?_ HS.out ?_).mono ?_); (· rfl); (· have := HL.out; omega); rintro e w' ⟨A', m', c', rfl, HS'⟩
       replace HS := Lib.hid HS'
       clear HS'
       replace kb := HS.out.rd.blk.cell 2
       replace hsz := HS.out.rd.blk.lt
       replace hc := fun j => (HS.out.bel.cell (p := ⟨w.heap.size, j, none⟩) (Nat.lt_succ_self _)).trans (HZ.out.cell j)
       replace hf := fun j => (HS.out.bel.frozen (p := ⟨w.heap.size, j, none⟩) (Nat.lt_succ_self _)).trans (HZ.out.frozen j))
    | (go_at_call 67; (with_reducible refine (t_PS 16 _ ?_ HS.out ?_).mono ?_); (· rfl); (· have := HL.out; omega); rintro e w' ⟨A', m', c', rfl, HS'⟩
       replace HS := Lib.hid HS'
       clear HS'
       replace kb := HS.out.rd.blk.cell 2
       replace hsz := HS.out.rd.blk.lt
       replace hc := fun j => (HS.out.bel.cell (p := ⟨w.heap.size, j, none⟩) (Nat.lt_succ_self _)).trans (HZ.out.cell j)
       replace hf := fun j => (HS.out.bel.frozen (p := ⟨w.heap.size, j, none⟩) (Nat.lt_succ_self _)).trans (HZ.out.frozen j))
    | (go_at_call 67; (with_reducible refine (t_PS 2 _ ?_ HS.out ?_).mono ?_); (· rfl); (· have := HL.out; omega); rintro e w' ⟨A', m', c', rfl, HS'⟩
       replace HS := Lib.hid HS'
       clear HS'
       replace kb := HS.out.rd.blk.cell 2
       replace hsz := HS.out.rd.blk.lt
       replace hc := fun j => (HS.out.bel.cell (p := ⟨w.heap.size, j, none⟩) (Nat.lt_succ_self _)).trans (HZ.out.cell j)
       replace hf := fun j => (HS.out.bel.frozen (p := ⟨w.heap.size, j, none⟩) (Nat.lt_succ_self _)).trans (HZ.out.frozen j))
    | (go_at_call 47; (first | (with_reducible refine (u2_PH HH.out ?_).mono ?_) | (with_reducible refine (u2_PH (HH.out.store _ _) ?_).mono ?_) | (refine (u2_PH (HS.out.new HS.out.rowlt _ _) ?_).mono ?_)); (· have := HL.out; omega); rintro e w' ⟨rfl, HH'⟩
       replace HH := Lib.hid HH'
       clear HH'
       replace kb := HH.out.rd.blk.cell 2
       replace kh := fun j => HH.out.blk.cell j
       replace fh := fun j => HH.out.blk.frozen j
       replace hgl := HH.out.glt
       replace hc := fun j => (HH.out.bel.cell (p := ⟨w.heap.size, j, none⟩) (Nat.lt_succ_self _)).trans (HZ.out.cell j)
       replace hf := fun j => (HH.out.bel.frozen (p := ⟨w.heap.size, j, none⟩) (Nat.lt_succ_self _)).trans (HZ.out.frozen j))
    | (go_at_call 47; (first | (with_reducible refine (u4_PH HH.out ?_).mono ?_) | (with_reducible refine (u4_PH (HH.out.store _ _) ?_).mono ?_) | (refine (u4_PH (HS.out.new HS.out.rowlt _ _) ?_).mono ?_)); (· have := HL.out; omega); rintro e w' ⟨rfl, HH'⟩
       replace HH := Lib.hid HH'
       clear HH'
       replace kb := HH.out.rd.blk.cell 2
       replace kh := fun j => HH.out.blk.cell j
       replace fh := fun j => HH.out.blk.frozen j
       replace hgl := HH.out.glt
       replace hc := fun j => (HH.out.bel.cell (p := ⟨w.heap.size, j, none⟩) (Nat.lt_succ_self _)).trans (HZ.out.cell j)
       replace hf := fun j => (HH.out.bel.frozen (p := ⟨w.heap.size, j, none⟩) (Nat.lt_succ_self _)).trans (HZ.out.frozen j))
    | (go_at_call 67; (first | (with_reducible refine (t_PH 8 _ ?_ HH.out ?_).mono ?_) | (with_reducible refine (t_PH 8 _ ?_ (HH.out.store _ _) ?_).mono ?_) | (refine (t_PH 8 _ ?_ (HS.out.new HS.out.rowlt _ _) ?_).mono ?_)); (· rfl); (· have := HL.out; omega); rintro e w' ⟨A', m', c', rfl, HH'⟩
       replace HH := Lib.hid HH'
       clear HH'
       replace kb := HH.out.rd.blk.cell 2
       replace kh := fun j => HH.out.blk.cell j
       replace fh := fun j => HH.out.blk.frozen j
       replace hgl := HH.out.glt
       replace hc := fun j => (HH.out.bel.cell (p := ⟨w.heap.size, j, none⟩) (Nat.lt_succ_self _)).trans (HZ.out.cell j)
       replace hf := fun j => (HH.out.bel.frozen (p := ⟨w.heap.size, j, none⟩) (Nat.lt_succ_self _)).trans (HZ.out.frozen j))
    | (go_at_call 67; (first | (with_reducible refine (t_PH 16 _ ?_ HH.out ?_).mono ?_) | (with_reducible refine (t_PH 16 _ ?_ (HH.out.store _ _) ?_).mono ?_) | (refine (t_PH 16 _ ?_ (HS.out.new HS.out.rowlt _ _) ?_).mono ?_)); (· rfl); (· have := HL.out; omega); rintro e w' ⟨A', m', c', rfl, HH'⟩
       replace HH := Lib.hid HH'
       clear HH'
       replace kb := HH.out.rd.blk.cell 2
       replace kh := fun j => HH.out.blk.cell j
       replace fh := fun j => HH.out.blk.frozen j
       replace hgl := HH.out.glt
       replace hc := fun j => (HH.out.bel.cell (p := ⟨w.heap.size, j, none⟩) (Nat.lt_succ_self _)).trans (HZ.out.cell j)
       replace hf := fun j => (HH.out.bel.frozen (p := ⟨w.heap.size, j, none⟩) (Nat.lt_succ_self _)).trans (HZ.out.frozen j))
    | (go_at_call 67; (first | (with_reducible refine (t_PH 2 _ ?_ HH.out ?_).mono ?_) | (with_reducible refine (t_PH 2 _ ?_ (HH.out.store _ _) ?_).mono ?_) | (refine (t_PH 2 _ ?_ (HS.out.new HS.out.rowlt _ _) ?_).mono ?_)); (· rfl); (· have := HL.out; omega); rintro e w' ⟨A', m', c', rfl, HH'⟩
       replace HH := Lib.hid HH'
       clear HH'
       replace kb := HH.out.rd.blk.cell 2
       replace kh := fun j => HH.out.blk.cell j
       replace fh := fun j => HH.out.blk.frozen j
       replace hgl := HH.out.glt
       replace hc := fun j => (HH.out.bel.cell (p := ⟨w.heap.size, j, none⟩) (Nat.lt_succ_self _)).trans (HZ.out.cell j)
       replace hf := fun j => (HH.out.bel.frozen (p := ⟨w.heap.size, j, none⟩) (Nat.lt_succ_self _)).trans (HZ.out.frozen j))
    | (go_at_call 68; (first | (with_reducible refine (i_PH HH.out ?_).mono ?_) | (with_reducible refine (i_PH (HH.out.store _ _) ?_).mono ?_) | (refine (i_PH (HS.out.new HS.out.rowlt _ _) ?_).mono ?_)); (· have := HL.out; omega); rintro e w' ⟨rfl, HH'⟩
       replace HH := Lib.hid HH'
       clear HH'
       replace kb := HH.out.rd.blk.cell 2
       replace kh := fun j => HH.out.blk.cell j
       replace fh := fun j => HH.out.blk.frozen j
       replace hgl := HH.out.glt
       replace hc := fun j => (HH.out.bel.cell (p := ⟨w.heap.size, j, none⟩) (Nat.lt_succ_self _)).trans (HZ.out.cell j)
       replace hf := fun j => (HH.out.bel.frozen (p := ⟨w.heap.size, j, none⟩) (Nat.lt_succ_self _)).trans (HZ.out.frozen j)))
  all_goals
    first
      | (have HBW := HB0.out.trans (HH.out.bel.mono (Nat.le_succ _))
         have HBZ := HZ.out.below HH.out.bel (Nat.lt_succ_self _)
         refine bodyPost_ret (end_head (HBZ) (by rfl) (by rfl)) rfl ⟨rfl, ?_⟩
         repeat (first | with_reducible exact HBW | with_reducible apply below_at))
      | (have HBW := HB0.out.trans (HH.out.bel.mono (Nat.le_succ _))
         have HBZ := HZ.out.below HH.out.bel (Nat.lt_succ_self _)
         refine bodyPost_ret (end_head (HH.out.farB HBZ (Nat.lt_succ_self _) _ _) (by rfl) (by rfl)) rfl ⟨rfl, ?_⟩
         repeat (first | with_reducible exact HH.out.farW HBW (Nat.le_succ _) _ _ | with_reducible apply below_at))
      | (have HBW := HB0.out.trans (HS.out.bel.mono (Nat.le_succ _))
         have HBZ := HZ.out.below HS.out.bel (Nat.lt_succ_self _)
         refine bodyPost_ret (end_head (HBZ.alloc _) (by rfl) (by rfl)) rfl ⟨rfl, ?_⟩
         repeat (first | with_reducible exact below_alloc HBW (Nat.le_trans (Nat.le_succ _) (Nat.le_of_lt HS.out.rd.blk.lt)) | with_reducible apply below_at))

set_option maxHeartbeats 4000000 in
theorem rHead_c31 (w : World) (A : Option Addr) (bs : List UInt8) (c : Nat) (h : Bs w A bs c) (hl : 54 ≤ bs.length) (c0 : wd bs 0 = 1) (c1 : wd bs 2 = 0) (c2 : wd4 bs 12 = 1594834165) (lg : wd bs 50 = 1) (c3 : (wd bs 52 == 0) = false) :
    Calls Try.prog 28 #[.slice A bs.length c] w fun e w' => e = .returned (.tuple #[.agg #[.int .i64 0, .int .i64 0, .int .i64 0, .int .i64 0, .int .i64 0, .int .i64 0, .int .i64 0, .int .i64 0, .bool false], .bool false]) ∧ Below w.heap.size w w' := by
  have HL := Lib.hid hl
  clear hl
  have HZ := Lib.hid (Blk.new w 48 [.int .i64 0, .int .i64 0, .int .i64 0, .int .i64 0, .int .i64 0, .int .i64 0, .int .i64 0, .int .i64 0, .bool false])
  have HS := Lib.hid (RRd.start (w.alloc (.cells #[.int .i64 0, .int .i64 0, .int .i64 0, .int .i64 0, .int .i64 0, .int .i64 0, .int .i64 0, .int .i64 0, .bool false] 48)) 89 (w.heap.size + 1) bs A c (by simp) rfl (h.sl.keep (bel_alloc bel_refl).below) h.cap h.small)
  have HB0 : Hid (Below w.heap.size w (w.alloc (.cells #[.int .i64 0, .int .i64 0, .int .i64 0, .int .i64 0, .int .i64 0, .int .i64 0, .int .i64 0, .int .i64 0, .bool false] 48))) := Lib.hid (bel_alloc (bel_refl (a := w))).below
  clear h
  have kb : True := trivial
  have kh : True := trivial
  have fh : True := trivial
  have hc : True := trivial
  have hf : True := trivial
  have HH : True := trivial
  have hgl : True := trivial
  have hsz : True := trivial
  go_enter Try.func28, Try.ntmps28
  go_wp2_with (first
    | (go_at_call 47; (with_reducible refine (u2_PS HS.out ?_).mono ?_); (· have := HL.out; omega); rintro e w' ⟨rfl, HS'⟩
       replace HS := Lib.hid HS'
       clear HS'
       replace kb := HS.out.rd.blk.cell 2
       replace hsz := HS.out.rd.blk.lt
       replace hc := fun j => (HS.out.bel.cell (p := ⟨w.heap.size, j, none⟩) (Nat.lt_succ_self _)).trans (HZ.out.cell j)
       replace hf := fun j => (HS.out.bel.frozen (p := ⟨w.heap.size, j, none⟩) (Nat.lt_succ_self _)).trans (HZ.out.frozen j))
    | (go_at_call 47; (with_reducible refine (u4_PS HS.out ?_).mono ?_); (· have := HL.out; omega); rintro e w' ⟨rfl, HS'⟩
       replace HS := Lib.hid HS'
       clear HS'
       replace kb := HS.out.rd.blk.cell 2
       replace hsz := HS.out.rd.blk.lt
       replace hc := fun j => (HS.out.bel.cell (p := ⟨w.heap.size, j, none⟩) (Nat.lt_succ_self _)).trans (HZ.out.cell j)
       replace hf := fun j => (HS.out.bel.frozen (p := ⟨w.heap.size, j, none⟩) (Nat.lt_succ_self _)).trans (HZ.out.frozen j))
    | (go_at_call 67; (with_reducible refine (t_PS 8 _ ?_ HS.out ?_).mono ?_); (· rfl); (· have := HL.out; omega); rintro e w' ⟨A', m', c', rfl, HS'⟩
       replace HS := Lib.hid HS'
       clear HS'
       replace kb := HS.out.rd.blk.cell 2
       replace hsz := HS.out.rd.blk.lt
       replace hc := fun j => (HS.out.bel.cell (p := ⟨w.heap.size, j, none⟩) (Nat.lt_succ_self _)).trans (HZ.out.cell j)
       replace hf := fun j => (HS.out.bel.frozen (p := ⟨w.heap.size, j, none⟩) (Nat.lt_succ_self _)).trans (HZ.out.frozen j))
    | (go_at_call 67; (with_reducible refine (t_PS 16 _ ?_ HS.out ?_).mono ?_); (· rfl); (· have := HL.out; omega); rintro e w' ⟨A', m', c', rfl, HS'⟩
       replace HS := Lib.hid HS'
       clear HS'
       replace kb := HS.out.rd.blk.cell 2
       replace hsz := HS.out.rd.blk.lt
       replace hc := fun j => (HS.out.bel.cell (p := ⟨w.heap.size, j, none⟩) (Nat.lt_succ_self _)).trans (HZ.out.cell j)
       replace hf := fun j => (HS.out.bel.frozen (p := ⟨w.heap.size, j, none⟩) (Nat.lt_succ_self _)).trans (HZ.out.frozen j))
    | (go_at_call 67; (with_reducible refine (t_PS 2 _ ?_ HS.out ?_).mono ?_); (· rfl); (· have := HL.out; omega); rintro e w' ⟨A', m', c', rfl, HS'⟩
       replace HS := Lib.hid HS'
       clear HS'
       replace kb := HS.out.rd.blk.cell 2
       replace hsz := HS.out.rd.blk.lt
       replace hc := fun j => (HS.out.bel.cell (p := ⟨w.heap.size, j, none⟩) (Nat.lt_succ_self _)).trans (HZ.out.cell j)
       replace hf := fun j => (HS.out.bel.frozen (p := ⟨w.heap.size, j, none⟩) (Nat.lt_succ_self _)).trans (HZ.out.frozen j))
    | (go_at_call 47; (first | (with_reducible refine (u2_PH HH.out ?_).mono ?_) | (with_reducible refine (u2_PH (HH.out.store _ _) ?_).mono ?_) | (refine (u2_PH (HS.out.new HS.out.rowlt _ _) ?_).mono ?_)); (· have := HL.out; omega); rintro e w' ⟨rfl, HH'⟩
       replace HH := Lib.hid HH'
       clear HH'
       replace kb := HH.out.rd.blk.cell 2
       replace kh := fun j => HH.out.blk.cell j
       replace fh := fun j => HH.out.blk.frozen j
       replace hgl := HH.out.glt
       replace hc := fun j => (HH.out.bel.cell (p := ⟨w.heap.size, j, none⟩) (Nat.lt_succ_self _)).trans (HZ.out.cell j)
       replace hf := fun j => (HH.out.bel.frozen (p := ⟨w.heap.size, j, none⟩) (Nat.lt_succ_self _)).trans (HZ.out.frozen j))
    | (go_at_call 47; (first | (with_reducible refine (u4_PH HH.out ?_).mono ?_) | (with_reducible refine (u4_PH (HH.out.store _ _) ?_).mono ?_) | (refine (u4_PH (HS.out.new HS.out.rowlt _ _) ?_).mono ?_)); (· have := HL.out; omega); rintro e w' ⟨rfl, HH'⟩
       replace HH := Lib.hid HH'
       clear HH'
       replace kb := HH.out.rd.blk.cell 2
       replace kh := fun j => HH.out.blk.cell j
       replace fh := fun j => HH.out.blk.frozen j
       replace hgl := HH.out.glt
       replace hc := fun j => (HH.out.bel.cell (p := ⟨w.heap.size, j, none⟩) (Nat.lt_succ_self _)).trans (HZ.out.cell j)
       replace hf := fun j => (HH.out.bel.frozen (p := ⟨w.heap.size, j, none⟩) (Nat.lt_succ_self _)).trans (HZ.out.frozen j))
    | (go_at_call 67; (first | (with_reducible refine (t_PH 8 _ ?_ HH.out ?_).mono ?_) | (with_reducible refine (t_PH 8 _ ?_ (HH.out.store _ _) ?_).mono ?_) | (refine (t_PH 8 _ ?_ (HS.out.new HS.out.rowlt _ _) ?_).mono ?_)); (· rfl); (· have := HL.out; omega); rintro e w' ⟨A', m', c', rfl, HH'⟩
       replace HH := Lib.hid HH'
       clear HH'
       replace kb := HH.out.rd.blk.cell 2
       replace kh := fun j => HH.out.blk.cell j
       replace fh := fun j => HH.out.blk.frozen j
       replace hgl := HH.out.glt
       replace hc := fun j => (HH.out.bel.cell (p := ⟨w.heap.size, j, none⟩) (Nat.lt_succ_self _)).trans (HZ.out.cell j)
       replace hf := fun j => (HH.out.bel.frozen (p := ⟨w.heap.size, j, none⟩) (Nat.lt_succ_self _)).trans (HZ.out.frozen j))
    | (go_at_call 67; (first | (with_reducible refine (t_PH 16 _ ?_ HH.out ?_).mono ?_) | (with_reducible refine (t_PH 16 _ ?_ (HH.out.store _ _) ?_).mono ?_) | (refine (t_PH 16 _ ?_ (HS.out.new HS.out.rowlt _ _) ?_).mono ?_)); (· rfl); (· have := HL.out; omega); rintro e w' ⟨A', m', c', rfl, HH'⟩
       replace HH := Lib.hid HH'
       clear HH'
       replace kb := HH.out.rd.blk.cell 2
       replace kh := fun j => HH.out.blk.cell j
       replace fh := fun j => HH.out.blk.frozen j
       replace hgl := HH.out.glt
       replace hc := fun j => (HH.out.bel.cell (p := ⟨w.heap.size, j, none⟩) (Nat.lt_succ_self _)).trans (HZ.out.cell j)
       replace hf := fun j => (HH.out.bel.frozen (p := ⟨w.heap.size, j, none⟩) (Nat.lt_succ_self _)).trans (HZ.out.frozen j))
    | (go_at_call 67; (first | (with_reducible refine (t_PH 2 _ ?_ HH.out ?_).mono ?_) | (with_reducible refine (t_PH 2 _ ?_ (HH.out.store _ _) ?_).mono ?_) | (refine (t_PH 2 _ ?_ (HS.out.new HS.out.rowlt _ _) ?_).mono ?_)); (· rfl); (· have := HL.out; omega); rintro e w' ⟨A', m', c', rfl, HH'⟩
       replace HH := Lib.hid HH'
       clear HH'
       replace kb := HH.out.rd.blk.cell 2
       replace kh := fun j => HH.out.blk.cell j
       replace fh := fun j => HH.out.blk.frozen j
       replace hgl := HH.out.glt
       replace hc := fun j => (HH.out.bel.cell (p := ⟨w.heap.size, j, none⟩) (Nat.lt_succ_self _)).trans (HZ.out.cell j)
       replace hf := fun j => (HH.out.bel.frozen (p := ⟨w.heap.size, j, none⟩) (Nat.lt_succ_self _)).trans (HZ.out.frozen j))
    | (go_at_call 68; (first | (with_reducible refine (i_PH HH.out ?_).mono ?_) | (with_reducible refine (i_PH (HH.out.store _ _) ?_).mono ?_) | (refine (i_PH (HS.out.new HS.out.rowlt _ _) ?_).mono ?_)); (· have := HL.out; omega); rintro e w' ⟨rfl, HH'⟩
       replace HH := Lib.hid HH'
       clear HH'
       replace kb := HH.out.rd.blk.cell 2
       replace kh := fun j => HH.out.blk.cell j
       replace fh := fun j => HH.out.blk.frozen j
       replace hgl := HH.out.glt
       replace hc := fun j => (HH.out.bel.cell (p := ⟨w.heap.size, j, none⟩) (Nat.lt_succ_self _)).trans (HZ.out.cell j)
       replace hf := fun j => (HH.out.bel.frozen (p := ⟨w.heap.size, j, none⟩) (Nat.lt_succ_self _)).trans (HZ.out.frozen j)))
  all_goals
    first
      | (have HBW := HB0.out.trans (HH.out.bel.mono (Nat.le_succ _))
         have HBZ := HZ.out.below HH.out.bel (Nat.lt_succ_self _)
         refine bodyPost_ret (end_head (HBZ) (by rfl) (by rfl)) rfl ⟨rfl, ?_⟩
         repeat (first | with_reducible exact HBW | with_reducible apply below_at))
      | (have HBW := HB0.out.trans (HH.out.bel.mono (Nat.le_succ _))
         have HBZ := HZ.out.below HH.out.bel (Nat.lt_succ_self _)
         refine bodyPost_ret (end_head (HH.out.farB HBZ (Nat.lt_succ_self _) _ _) (by rfl) (by rfl)) rfl ⟨rfl, ?_⟩
         repeat (first | with_reducible exact HH.out.farW HBW (Nat.le_succ _) _ _ | with_reducible apply below_at))
      | (have HBW := HB0.out.trans (HS.out.bel.mono (Nat.le_succ _))
         have HBZ := HZ.out.below HS.out.bel (Nat.lt_succ_self _)
         refine bodyPost_ret (end_head (HBZ.alloc _) (by rfl) (by rfl)) rfl ⟨rfl, ?_⟩
         repeat (first | with_reducible exact below_alloc HBW (Nat.le_trans (Nat.le_succ _) (Nat.le_of_lt HS.out.rd.blk.lt)) | with_reducible apply below_at))

set_option maxHeartbeats 4000000 in
theorem rHead_c30 (w : World) (A : Option Addr) (bs : List UInt8) (c : Nat) (h : Bs w A bs c) (hl : 54 ≤ bs.length) (c0 : wd bs 0 = 1) (c1 : wd bs 2 = 0) (c2 : wd4 bs 12 = 1594834165) (lg : wd bs 50 = 0) (c3 : (wd bs 52 == 0) = false) :
    Calls Try.prog 28 #[.slice A bs.length c] w fun e w' => e = .returned (.tuple #[.agg #[.int .i64 0, .int .i64 0, .int .i64 0, .int .i64 0, .int .i64 0, .int .i64 0, .int .i64 0, .int .i64 0, .bool false], .bool false]) ∧ Below w.heap.size w w' := by
  have HL := Lib.hid hl
  clear hl
  have HZ := Lib.hid (Blk.new w 48 [.int .i64 0, .int .i64 0, .int .i64 0, .int .i64 0, .int .i64 0, .int .i64 0, .int .i64 0, .int .i64 0, .bool false])
  have HS := Lib.hid (RRd.start (w.alloc (.cells #[.int .i64 0, .int .i64 0, .int .i64 0, .int .i64 0, .int .i64 0, .int .i64 0, .int .i64 0, .int .i64 0, .bool false] 48)) 89 (w.heap.size + 1) bs A c (by simp) rfl (h.sl.keep (bel_alloc bel_refl).below) h.cap h.small)
  have HB0 : Hid (Below w.heap.size w (w.alloc (.cells #[.int .i64 0, .int .i64 0, .int .i64 0, .int .i64 0, .int .i64 0, .int .i64 0, .int .i64 0, .int .i64 0, .bool false] 48))) := Lib.hid (bel_alloc (bel_refl (a := w))).below
  clear h
  have kb : True := trivial
  have kh : True := trivial
  have fh : True := trivial
  have hc : True := trivial
  have hf : True := trivial
  have HH : True := trivial
  have hgl : True := trivial
  have hsz : True := trivial
  go_enter Try.func28, Try.ntmps28
  go_wp2_with (first
    | (go_at_call 47; (with_reducible refine (u2_PS HS.out ?_).mono ?_); (· have := HL.out; omega); rintro e w' ⟨rfl, HS'⟩
       replace HS := Lib.hid HS'
       clear HS'
       replace kb := HS.out.rd.blk.cell 2
       replace hsz := HS.out.rd.blk.lt
       replace hc := fun j => (HS.out.bel.cell (p := ⟨w.heap.size, j, none⟩) (Nat.lt_succ_self _)).trans (HZ.out.cell j)
       replace hf := fun j => (HS.out.bel.frozen (p := ⟨w.heap.size, j, none⟩) (Nat.lt_succ_self _)).trans (HZ.out.frozen j))
    | (go_at_call 47; (with_reducible refine (u4_PS HS.out ?_).mono ?_); (· have := HL.out; omega); rintro e w' ⟨rfl, HS'⟩
       replace HS := Lib.hid HS'
       clear HS'
       replace kb := HS.out.rd.blk.cell 2
       replace hsz := HS.out.rd.blk.lt
       replace hc := fun j => (HS.out.bel.cell (p := ⟨w.heap.size, j, none⟩) (Nat.lt_succ_self _)).trans (HZ.out.cell j)
       replace hf := fun j => (HS.out.bel.frozen (p := ⟨w.heap.size, j, none⟩) (Nat.lt_succ_self _)).trans (HZ.out.frozen j))
    | (go_at_call 67; (with_reducible refine (t_PS 8 _ ?_ HS.out ?_).mono ?_); (· rfl); (· have := HL.out; omega); rintro e w' ⟨A', m', c', rfl, HS'⟩
       replace HS := Lib.hid HS'
       clear HS'
       replace kb := HS.out.rd.blk.cell 2
       replace hsz := HS.out.rd.blk.lt
       replace hc := fun j => (HS.out.bel.cell (p := ⟨w.heap.size, j, none⟩) (Nat.lt_succ_self _)).trans (HZ.out.cell j)
       replace hf := fun j => (HS.out.bel.frozen (p := ⟨w.heap.size, j, none⟩) (Nat.lt_succ_self _)).trans (HZ.out.frozen j))
    | (go_at_call 67; (with_reducible refine (t_PS 16 _ ?_ HS.out ?_).mono ?_); (· rfl); (· have := HL.out; omega); rintro e w' ⟨A', m', c', rfl, HS'⟩
       replace HS := Lib.hid HS'
       clear HS'
       replace kb := HS.out.rd.blk.cell 2
       replace hsz := HS.out.rd.blk.lt
       replace hc := fun j => (HS.out.bel.cell (p := ⟨w.heap.size, j, none⟩) (Nat.lt_succ_self _)).trans (HZ.out.cell j)
       replace hf := fun j => (HS.out.bel.frozen (p := ⟨w.heap.size, j, none⟩) (Nat.lt_succ_self _)).trans (HZ.out.frozen j))
    | (go_at_call 67; (with_reducible refine (t_PS 2 _ ?_ HS.out ?_).mono ?_); (· rfl); (· have := HL.out; omega); rintro e w' ⟨A', m', c', rfl, HS'⟩
       replace HS := Lib.hid HS'
       clear HS'
       replace kb := HS.out.rd.blk.cell 2
       replace hsz := HS.out.rd.blk.lt
       replace hc := fun j => (HS.out.bel.cell (p := ⟨w.heap.size, j, none⟩) (Nat.lt_succ_self _)).trans (HZ.out.cell j)
       replace hf := fun j => (HS.out.bel.frozen (p := ⟨w.heap.size, j, none⟩) (Nat.lt_succ_self _)).trans (HZ.out.frozen j))
    | (go_at_call 47; (first | (with_reducible refine (u2_PH HH.out ?_).mono ?_) | (with_reducible refine (u2_PH (HH.out.store _ _) ?_).mono ?_) | (refine (u2_PH (HS.out.new HS.out.rowlt _ _) ?_).mono ?_)); (· have := HL.out; omega); rintro e w' ⟨rfl, HH'⟩
       replace HH := Lib.hid HH'
       clear HH'
       replace kb := HH.out.rd.blk.cell 2
       replace kh := fun j => HH.out.blk.cell j
       replace fh := fun j => HH.out.blk.frozen j
       replace hgl := HH.out.glt
       replace hc := fun j => (HH.out.bel.cell (p := ⟨w.heap.size, j, none⟩) (Nat.lt_succ_self _)).trans (HZ.out.cell j)
       replace hf := fun j => (HH.out.bel.frozen (p := ⟨w.heap.size, j, none⟩) (Nat.lt_succ_self _)).trans (HZ.out.frozen j))
    | (go_at_call 47; (first | (with_reducible refine (u4_PH HH.out ?_).mono ?_) | (with_reducible refine (u4_PH (HH.out.store _ _) ?_).mono ?_) | (refine (u4_PH (HS.out.new HS.out.rowlt _ _) ?_).mono ?_)); (· have := HL.out; omega); rintro e w' ⟨rfl, HH'⟩
       replace HH := Lib.hid HH'
       clear HH'
       replace kb := HH.out.rd.blk.cell 2
       replace kh := fun j => HH.out.blk.cell j
       replace fh := fun j => HH.out.blk.frozen j
       replace hgl := HH.out.glt
       replace hc := fun j => (HH.out.bel.cell (p := ⟨w.heap.size, j, none⟩) (Nat.lt_succ_self _)).trans (HZ.out.cell j)
       replace hf := fun j => (HH.out.bel.frozen (p := ⟨w.heap.size, j, none⟩) (Nat.lt_succ_self _)).trans (HZ.out.frozen j))
    | (go_at_call 67; (first | (with_reducible refine (t_PH 8 _ ?_ HH.out ?_).mono ?_) | (with_reducible refine (t_PH 8 _ ?_ (HH.out.store _ _) ?_).mono ?_) | (refine (t_PH 8 _ ?_ (HS.out.new HS.out.rowlt _ _) ?_).mono ?_)); (· rfl); (· have := HL.out; omega); rintro e w' ⟨A', m', c', rfl, HH'⟩
       replace HH := Lib.hid HH'
       clear HH'
       replace kb := HH.out.rd.blk.cell 2
       replace kh := fun j => HH.out.blk.cell j
       replace fh := fun j => HH.out.blk.frozen j
       replace hgl := HH.out.glt
       replace hc := fun j => (HH.out.bel.cell (p := ⟨w.heap.size, j, none⟩) (Nat.lt_succ_self _)).trans (HZ.out.cell j)
       replace hf := fun j => (HH.out.bel.frozen (p := ⟨w.heap.size, j, none⟩) (Nat.lt_succ_self _)).trans (HZ.out.frozen j))
    | (go_at_call 67; (first | (with_reducible refine (t_PH 16 _ ?_ HH.out ?_).mono ?_) | (with_reducible refine (t_PH 16 _ ?_ (HH.out.store _ _) ?_).mono ?_) | (refine (t_PH 16 _ ?_ (HS.out.new HS.out.rowlt _ _) ?_).mono ?_)); (· rfl); (· have := HL.out; omega); rintro e w' ⟨A', m', c', rfl, HH'⟩
       replace HH := Lib.hid HH'
       clear HH'
       replace kb := HH.out.rd.blk.cell 2
       replace kh := fun j => HH.out.blk.cell j
       replace fh := fun j => HH.out.blk.frozen j
       replace hgl := HH.out.glt
       replace hc := fun j => (HH.out.bel.cell (p := ⟨w.heap.size, j, none⟩) (Nat.lt_succ_self _)).trans (HZ.out.cell j)
       replace hf := fun j => (HH.out.bel.frozen (p := ⟨w.heap.size, j, none⟩) (Nat.lt_succ_self _)).trans (HZ.out.frozen j))
    | (go_at_call 67; (first | (with_reducible refine (t_PH 2 _ ?_ HH.out ?_).mono ?_) | (with_reducible refine (t_PH 2 _ ?_ (HH.out.store _ _) ?_).mono ?_) | (refine (t_PH 2 _ ?_ (HS.out.new HS.out.rowlt _ _) ?_).mono ?_)); (· rfl); (· have := HL.out; omega); rintro e w' ⟨A', m', c', rfl, HH'⟩
       replace HH := Lib.hid HH'
       clear HH'
       replace kb := HH.out.rd.blk.cell 2
       replace kh := fun j => HH.out.blk.cell j
       replace fh := fun j => HH.out.blk.frozen j
       replace hgl := HH.out.glt
       replace hc := fun j => (HH.out.bel.cell (p := ⟨w.heap.size, j, none⟩) (Nat.lt_succ_self _)).trans (HZ.out.cell j)
       replace hf := fun j => (HH.out.bel.frozen (p := ⟨w.heap.size, j, none⟩) (Nat.lt_succ_self _)).trans (HZ.out.frozen j))
    | (go_at_call 68; (first | (with_reducible refine (i_PH HH.out ?_).mono ?_) | (with_reducible refine (i_PH (HH.out.store _ _) ?_).mono ?_) | (refine (i_PH (HS.out.new HS.out.rowlt _ _) ?_).mono ?_)); (· have := HL.out; omega); rintro e w' ⟨rfl, HH'⟩
       replace HH := Lib.hid HH'
       clear HH'
       replace kb := HH.out.rd.blk.cell 2
       replace kh := fun j => HH.out.blk.cell j
       replace fh := fun j => HH.out.blk.frozen j
       replace hgl := HH.out.glt
       replace hc := fun j => (HH.out.bel.cell (p := ⟨w.heap.size, j, none⟩) (Nat.lt_succ_self _)).trans (HZ.out.cell j)
       replace hf := fun j => (HH.out.bel.frozen (p := ⟨w.heap.size, j, none⟩) (Nat.lt_succ_self _)).trans (HZ.out.frozen j)))
  all_goals
    first
      | (have HBW := HB0.out.trans (HH.out.bel.mono (Nat.le_succ _))
         have HBZ := HZ.out.below HH.out.bel (Nat.lt_succ_self _)
         refine bodyPost_ret (end_head (HBZ) (by rfl) (by rfl)) rfl ⟨rfl, ?_⟩
         repeat (first | with_reducible exact HBW | with_reducible apply below_at))
      | (have HBW := HB0.out.trans (HH.out.bel.mono (Nat.le_succ _))
         have HBZ := HZ.out.below HH.out.bel (Nat.lt_succ_self _)
         refine bodyPost_ret (end_head (HH.out.farB HBZ (Nat.lt_succ_self _) _ _) (by rfl) (by rfl)) rfl ⟨rfl, ?_⟩
         repeat (first | with_reducible exact HH.out.farW HBW (Nat.le_succ _) _ _ | with_reducible apply below_at))
      | (have HBW := HB0.out.trans (HS.out.bel.mono (Nat.le_succ _))
         have HBZ := HZ.out.below HS.out.bel (Nat.lt_succ_self _)
         refine bodyPost_ret (end_head (HBZ.alloc _) (by rfl) (by rfl)) rfl ⟨rfl, ?_⟩
         repeat (first | with_reducible exact below_alloc HBW (Nat.le_trans (Nat.le_succ _) (Nat.le_of_lt HS.out.rd.blk.lt)) | with_reducible apply below_at))

end Go.Proofs.Ytbmflgcahbkdeaa
