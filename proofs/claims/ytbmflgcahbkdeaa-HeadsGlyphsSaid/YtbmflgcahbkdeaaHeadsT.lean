/-
  The document's Head: enough bytes that say no head; too few bytes.
-/
import Derived.Test.YtbmflgcahbkdeaaHeadsR
import Derived.Test.YtbmflgcahbkdeaaRdI
namespace Go.Proofs.Ytbmflgcahbkdeaa
open Go.RowKit

set_option maxHeartbeats 4000000 in
theorem rHead_short (w : World) (A : Option Addr) (bs : List UInt8) (c : Nat) (h : Bs w A bs c) (hl : bs.length < 54) :
    Calls Try.prog 28 #[.slice A bs.length c] w fun e w' => e = .returned (.tuple #[.agg #[.int .i64 0, .int .i64 0, .int .i64 0, .int .i64 0, .int .i64 0, .int .i64 0, .int .i64 0, .int .i64 0, .bool false], .bool false]) ∧ Below w.heap.size w w' := by
  have hbad : (advF bs (advF bs (advF bs (advF bs (advF bs (advF bs (advF bs (advF bs (advF bs (advF bs (advF bs (advF bs (advF bs (advF bs (advF bs (advF bs (0, false) 2) 2) 8) 4) 2) 2) 16) 2) 2) 2) 2) 2) 2) 2) 2) 2).2 = true := by
    have := advs_bad bs [2, 2, 8, 4, 2, 2, 16, 2, 2, 2, 2, 2, 2, 2, 2, 2] (0, false) (Nat.zero_le _)
    rw [show advs bs (0, false) [2, 2, 8, 4, 2, 2, 16, 2, 2, 2, 2, 2, 2, 2, 2, 2] = (advF bs (advF bs (advF bs (advF bs (advF bs (advF bs (advF bs (advF bs (advF bs (advF bs (advF bs (advF bs (advF bs (advF bs (advF bs (advF bs (0, false) 2) 2) 8) 4) 2) 2) 16) 2) 2) 2) 2) 2) 2) 2) 2) 2) from rfl] at this
    rw [this]
    simp
    omega
  clear hl
  have HZ := Lib.hid (Blk.new w 48 [.int .i64 0, .int .i64 0, .int .i64 0, .int .i64 0, .int .i64 0, .int .i64 0, .int .i64 0, .int .i64 0, .bool false])
  have HS := Lib.hid (RRd.start (w.alloc (.cells #[.int .i64 0, .int .i64 0, .int .i64 0, .int .i64 0, .int .i64 0, .int .i64 0, .int .i64 0, .int .i64 0, .bool false] 48)) 89 (w.heap.size + 1) bs A c (by simp) rfl (h.sl.keep (bel_alloc bel_refl).below) h.cap h.small)
  have HB0 : Hid (Below w.heap.size w (w.alloc (.cells #[.int .i64 0, .int .i64 0, .int .i64 0, .int .i64 0, .int .i64 0, .int .i64 0, .int .i64 0, .int .i64 0, .bool false] 48))) := Lib.hid (bel_alloc (bel_refl (a := w))).below
  clear h
  have kb : True := trivial
  have kh : True := trivial
  have fh : True := trivial
  have hc : True := trivial
  have hf : True := trivial
  have HH : True := trivial
  have hgl : True := trivial
  have hsz : True := trivial
  go_enter Try.func28, Try.ntmps28
  go_wp2_with (first
    | (go_at_call 47; (with_reducible refine (u2_GS HS.out).mono ?_); rintro e w' ⟨rfl, HS'⟩
       replace HS := Lib.hid HS'
       clear HS'
       replace kb := HS.out.rd.blk.cell 2
       replace hsz := HS.out.rd.blk.lt
       replace hc := fun j => (HS.out.bel.cell (p := ⟨w.heap.size, j, none⟩) (Nat.lt_succ_self _)).trans (HZ.out.cell j)
       replace hf := fun j => (HS.out.bel.frozen (p := ⟨w.heap.size, j, none⟩) (Nat.lt_succ_self _)).trans (HZ.out.frozen j))
    | (go_at_call 47; (with_reducible refine (u4_GS HS.out).mono ?_); rintro e w' ⟨rfl, HS'⟩
       replace HS := Lib.hid HS'
       clear HS'
       replace kb := HS.out.rd.blk.cell 2
       replace hsz := HS.out.rd.blk.lt
       replace hc := fun j => (HS.out.bel.cell (p := ⟨w.heap.size, j, none⟩) (Nat.lt_succ_self _)).trans (HZ.out.cell j)
       replace hf := fun j => (HS.out.bel.frozen (p := ⟨w.heap.size, j, none⟩) (Nat.lt_succ_self _)).trans (HZ.out.frozen j))
    | (go_at_call 67; (with_reducible refine (t_GS 8 _ ?_ HS.out).mono ?_); (· rfl); rintro e w' ⟨A', m', c', rfl, HS'⟩
       replace HS := Lib.hid HS'
       clear HS'
       replace kb := HS.out.rd.blk.cell 2
       replace hsz := HS.out.rd.blk.lt
       replace hc := fun j => (HS.out.bel.cell (p := ⟨w.heap.size, j, none⟩) (Nat.lt_succ_self _)).trans (HZ.out.cell j)
       replace hf := fun j => (HS.out.bel.frozen (p := ⟨w.heap.size, j, none⟩) (Nat.lt_succ_self _)).trans (HZ.out.frozen j))
    | (go_at_call 67; (with_reducible refine (t_GS 16 _ ?_ HS.out).mono ?_); (· rfl); rintro e w' ⟨A', m', c', rfl, HS'⟩
       replace HS := Lib.hid HS'
       clear HS'
       replace kb := HS.out.rd.blk.cell 2
       replace hsz := HS.out.rd.blk.lt
       replace hc := fun j => (HS.out.bel.cell (p := ⟨w.heap.size, j, none⟩) (Nat.lt_succ_self _)).trans (HZ.out.cell j)
       replace hf := fun j => (HS.out.bel.frozen (p := ⟨w.heap.size, j, none⟩) (Nat.lt_succ_self _)).trans (HZ.out.frozen j))
    | (go_at_call 67; (with_reducible refine (t_GS 2 _ ?_ HS.out).mono ?_); (· rfl); rintro e w' ⟨A', m', c', rfl, HS'⟩
       replace HS := Lib.hid HS'
       clear HS'
       replace kb := HS.out.rd.blk.cell 2
       replace hsz := HS.out.rd.blk.lt
       replace hc := fun j => (HS.out.bel.cell (p := ⟨w.heap.size, j, none⟩) (Nat.lt_succ_self _)).trans (HZ.out.cell j)
       replace hf := fun j => (HS.out.bel.frozen (p := ⟨w.heap.size, j, none⟩) (Nat.lt_succ_self _)).trans (HZ.out.frozen j))
    | (go_at_call 47; (first | (with_reducible refine (u2_GH HH.out).mono ?_) | (with_reducible refine (u2_GH (HH.out.store _ _)).mono ?_) | (refine (u2_GH (HS.out.new HS.out.rowlt _ _)).mono ?_)); rintro e w' ⟨rfl, HH'⟩
       replace HH := Lib.hid HH'
       clear HH'
       replace kb := HH.out.rd.blk.cell 2
       replace kh := fun j => HH.out.blk.cell j
       replace fh := fun j => HH.out.blk.frozen j
       replace hgl := HH.out.glt
       replace hc := fun j => (HH.out.bel.cell (p := ⟨w.heap.size, j, none⟩) (Nat.lt_succ_self _)).trans (HZ.out.cell j)
       replace hf := fun j => (HH.out.bel.frozen (p := ⟨w.heap.size, j, none⟩) (Nat.lt_succ_self _)).trans (HZ.out.frozen j))
    | (go_at_call 47; (first | (with_reducible refine (u4_GH HH.out).mono ?_) | (with_reducible refine (u4_GH (HH.out.store _ _)).mono ?_) | (refine (u4_GH (HS.out.new HS.out.rowlt _ _)).mono ?_)); rintro e w' ⟨rfl, HH'⟩
       replace HH := Lib.hid HH'
       clear HH'
       replace kb := HH.out.rd.blk.cell 2
       replace kh := fun j => HH.out.blk.cell j
       replace fh := fun j => HH.out.blk.frozen j
       replace hgl := HH.out.glt
       replace hc := fun j => (HH.out.bel.cell (p := ⟨w.heap.size, j, none⟩) (Nat.lt_succ_self _)).trans (HZ.out.cell j)
       replace hf := fun j => (HH.out.bel.frozen (p := ⟨w.heap.size, j, none⟩) (Nat.lt_succ_self _)).trans (HZ.out.frozen j))
    | (go_at_call 67; (first | (with_reducible refine (t_GH 8 _ ?_ HH.out).mono ?_) | (with_reducible refine (t_GH 8 _ ?_ (HH.out.store _ _)).mono ?_) | (refine (t_GH 8 _ ?_ (HS.out.new HS.out.rowlt _ _)).mono ?_)); (· rfl); rintro e w' ⟨A', m', c', rfl, HH'⟩
       replace HH := Lib.hid HH'
       clear HH'
       replace kb := HH.out.rd.blk.cell 2
       replace kh := fun j => HH.out.blk.cell j
       replace fh := fun j => HH.out.blk.frozen j
       replace hgl := HH.out.glt
       replace hc := fun j => (HH.out.bel.cell (p := ⟨w.heap.size, j, none⟩) (Nat.lt_succ_self _)).trans (HZ.out.cell j)
       replace hf := fun j => (HH.out.bel.frozen (p := ⟨w.heap.size, j, none⟩) (Nat.lt_succ_self _)).trans (HZ.out.frozen j))
    | (go_at_call 67; (first | (with_reducible refine (t_GH 16 _ ?_ HH.out).mono ?_) | (with_reducible refine (t_GH 16 _ ?_ (HH.out.store _ _)).mono ?_) | (refine (t_GH 16 _ ?_ (HS.out.new HS.out.rowlt _ _)).mono ?_)); (· rfl); rintro e w' ⟨A', m', c', rfl, HH'⟩
       replace HH := Lib.hid HH'
       clear HH'
       replace kb := HH.out.rd.blk.cell 2
       replace kh := fun j => HH.out.blk.cell j
       replace fh := fun j => HH.out.blk.frozen j
       replace hgl := HH.out.glt
       replace hc := fun j => (HH.out.bel.cell (p := ⟨w.heap.size, j, none⟩) (Nat.lt_succ_self _)).trans (HZ.out.cell j)
       replace hf := fun j => (HH.out.bel.frozen (p := ⟨w.heap.size, j, none⟩) (Nat.lt_succ_self _)).trans (HZ.out.frozen j))
    | (go_at_call 67; (first | (with_reducible refine (t_GH 2 _ ?_ HH.out).mono ?_) | (with_reducible refine (t_GH 2 _ ?_ (HH.out.store _ _)).mono ?_) | (refine (t_GH 2 _ ?_ (HS.out.new HS.out.rowlt _ _)).mono ?_)); (· rfl); rintro e w' ⟨A', m', c', rfl, HH'⟩
       replace HH := Lib.hid HH'
       clear HH'
       replace kb := HH.out.rd.blk.cell 2
       replace kh := fun j => HH.out.blk.cell j
       replace fh := fun j => HH.out.blk.frozen j
       replace hgl := HH.out.glt
       replace hc := fun j => (HH.out.bel.cell (p := ⟨w.heap.size, j, none⟩) (Nat.lt_succ_self _)).trans (HZ.out.cell j)
       replace hf := fun j => (HH.out.bel.frozen (p := ⟨w.heap.size, j, none⟩) (Nat.lt_succ_self _)).trans (HZ.out.frozen j))
    | (go_at_call 68; (first | (with_reducible refine (i_GH HH.out).mono ?_) | (with_reducible refine (i_GH (HH.out.store _ _)).mono ?_) | (refine (i_GH (HS.out.new HS.out.rowlt _ _)).mono ?_)); rintro e w' ⟨rfl, HH'⟩
       replace HH := Lib.hid HH'
       clear HH'
       replace kb := HH.out.rd.blk.cell 2
       replace kh := fun j => HH.out.blk.cell j
       replace fh := fun j => HH.out.blk.frozen j
       replace hgl := HH.out.glt
       replace hc := fun j => (HH.out.bel.cell (p := ⟨w.heap.size, j, none⟩) (Nat.lt_succ_self _)).trans (HZ.out.cell j)
       replace hf := fun j => (HH.out.bel.frozen (p := ⟨w.heap.size, j, none⟩) (Nat.lt_succ_self _)).trans (HZ.out.frozen j)))
  all_goals
    first
      | (have HBW := HB0.out.trans (HH.out.bel.mono (Nat.le_succ _))
         have HBZ := HZ.out.below HH.out.bel (Nat.lt_succ_self _)
         refine bodyPost_ret (end_head (HBZ) (by rfl) (by rfl)) rfl ⟨rfl, ?_⟩
         repeat (first | with_reducible exact HBW | with_reducible apply below_at))
      | (have HBW := HB0.out.trans (HH.out.bel.mono (Nat.le_succ _))
         have HBZ := HZ.out.below HH.out.bel (Nat.lt_succ_self _)
         refine bodyPost_ret (end_head (HH.out.farB HBZ (Nat.lt_succ_self _) _ _) (by rfl) (by rfl)) rfl ⟨rfl, ?_⟩
         repeat (first | with_reducible exact HH.out.farW HBW (Nat.le_succ _) _ _ | with_reducible apply below_at))
      | (have HBW := HB0.out.trans (HS.out.bel.mono (Nat.le_succ _))
         have HBZ := HZ.out.below HS.out.bel (Nat.lt_succ_self _)
         refine bodyPost_ret (end_head (HBZ.alloc _) (by rfl) (by rfl)) rfl ⟨rfl, ?_⟩
         repeat (first | with_reducible exact below_alloc HBW (Nat.le_trans (Nat.le_succ _) (Nat.le_of_lt HS.out.rd.blk.lt)) | with_reducible apply below_at))

end Go.Proofs.Ytbmflgcahbkdeaa
