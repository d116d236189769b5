/-
  The document's Glyphs.
-/
import Derived.Test.YtbmflgcahbkdeaaHeadsN
import Derived.Test.YtbmflgcahbkdeaaHeadsM
import Derived.Test.YtbmflgcahbkdeaaRdI
namespace Go.Proofs.Ytbmflgcahbkdeaa
open Go.RowKit

theorem end_glyph {w : World} {g : Nat} {T : TypeId} {a : Array Value} {b : Bool} {z0 z1 v0 v1 : Value} (h : Blk w g T [z0, z1]) (ha : a.getD 2 undef = .pointer (some ⟨g, 0, none⟩)) (hb : a.getD 3 undef = .bool b) :
    (results Try.f31 a).run Try.prog ((w.setCell ⟨g, 0, none⟩ v0).setCell ⟨g, 1, none⟩ v1) = .ok (.tuple #[.agg #[v0, v1], .bool b]) ((w.setCell ⟨g, 0, none⟩ v0).setCell ⟨g, 1, none⟩ v1) := by
  have hB : Blk ((w.setCell ⟨g, 0, none⟩ v0).setCell ⟨g, 1, none⟩ v1) g T [v0, v1] := Blk.to ((h.set 0 v0).set 1 v1) rfl
  generalize ((w.setCell ⟨g, 0, none⟩ v0).setCell ⟨g, 1, none⟩ v1) = W at hB ⊢
  have k0 : W.cell? ⟨g, 0, none⟩ = some v0 := hB.cell 0
  have k1 : W.cell? ⟨g, 1, none⟩ = some v1 := hB.cell 1
  have ha2 := ha
  have hb2 := hb
  simp at ha2 hb2
  clear hB h ha hb
  simp [results, Try.results31, go_sem, *]

set_option maxHeartbeats 4000000 in
theorem rGlyphs_cff (w : World) (A : Option Addr) (bs : List UInt8) (c : Nat) (h : Bs w A bs c) (hl : 6 ≤ bs.length) (hv : wd4 bs 0 = 20480) (hm : allF 1 65535 [wd bs 4] = true) :
    Calls Try.prog 31 #[.slice A bs.length c] w fun e w' => e = .returned (.tuple #[.agg #[.int .i64 (wd bs 4), .bool false], .bool true]) ∧ Below w.heap.size w w' := by
  have HM := Lib.hid hm
  clear hm
  have HL := Lib.hid hl
  clear hl
  have HZ := Lib.hid (Blk.new w 59 [.int .i64 0, .bool false])
  have HS := Lib.hid (RRd.start (w.alloc (.cells #[.int .i64 0, .bool false] 59)) 89 (w.heap.size + 1) bs A c (by simp) rfl (h.sl.keep (bel_alloc bel_refl).below) h.cap h.small)
  have HB0 : Hid (Below w.heap.size w (w.alloc (.cells #[.int .i64 0, .bool false] 59))) := Lib.hid (bel_alloc (bel_refl (a := w))).below
  clear h
  have kb : True := trivial
  have kh : True := trivial
  have fh : True := trivial
  have hc : True := trivial
  have hf : True := trivial
  have HH : True := trivial
  have hgl : True := trivial
  have hsz : True := trivial
  go_enter Try.func31, Try.ntmps31
  go_wp2_with (first
    | (go_at_call 47; (with_reducible refine (u4_PS HS.out ?_).mono ?_); (· have := HL.out; omega); rintro e w' ⟨rfl, HS'⟩
       replace HS := Lib.hid HS'
       clear HS'
       replace kb := HS.out.rd.blk.cell 2
       replace hsz := HS.out.rd.blk.lt
       replace hc := fun j => (HS.out.bel.cell (p := ⟨w.heap.size, j, none⟩) (Nat.lt_succ_self _)).trans (HZ.out.cell j)
       replace hf := fun j => (HS.out.bel.frozen (p := ⟨w.heap.size, j, none⟩) (Nat.lt_succ_self _)).trans (HZ.out.frozen j))
    | (go_at_call 47; (with_reducible refine (u2_PS HS.out ?_).mono ?_); (· have := HL.out; omega); rintro e w' ⟨rfl, HS'⟩
       replace HS := Lib.hid HS'
       clear HS'
       replace kb := HS.out.rd.blk.cell 2
       replace hsz := HS.out.rd.blk.lt
       replace hc := fun j => (HS.out.bel.cell (p := ⟨w.heap.size, j, none⟩) (Nat.lt_succ_self _)).trans (HZ.out.cell j)
       replace hf := fun j => (HS.out.bel.frozen (p := ⟨w.heap.size, j, none⟩) (Nat.lt_succ_self _)).trans (HZ.out.frozen j))
    | (go_at_call 67; (with_reducible refine (t_PS 26 _ ?_ HS.out ?_).mono ?_); (· rfl); (· have := HL.out; omega); rintro e w' ⟨A', m', c', rfl, HS'⟩
       replace HS := Lib.hid HS'
       clear HS'
       replace kb := HS.out.rd.blk.cell 2
       replace hsz := HS.out.rd.blk.lt
       replace hc := fun j => (HS.out.bel.cell (p := ⟨w.heap.size, j, none⟩) (Nat.lt_succ_self _)).trans (HZ.out.cell j)
       replace hf := fun j => (HS.out.bel.frozen (p := ⟨w.heap.size, j, none⟩) (Nat.lt_succ_self _)).trans (HZ.out.frozen j))
    | (go_at_call 47; (first | (with_reducible refine (u4_PH HH.out ?_).mono ?_) | (with_reducible refine (u4_PH (HH.out.store _ _) ?_).mono ?_) | (refine (u4_PH (HS.out.new HS.out.rowlt _ _) ?_).mono ?_)); (· have := HL.out; omega); rintro e w' ⟨rfl, HH'⟩
       replace HH := Lib.hid HH'
       clear HH'
       replace kb := HH.out.rd.blk.cell 2
       replace kh := fun j => HH.out.blk.cell j
       replace fh := fun j => HH.out.blk.frozen j
       replace hgl := HH.out.glt
       replace hc := fun j => (HH.out.bel.cell (p := ⟨w.heap.size, j, none⟩) (Nat.lt_succ_self _)).trans (HZ.out.cell j)
       replace hf := fun j => (HH.out.bel.frozen (p := ⟨w.heap.size, j, none⟩) (Nat.lt_succ_self _)).trans (HZ.out.frozen j))
    | (go_at_call 47; (first | (with_reducible refine (u2_PH HH.out ?_).mono ?_) | (with_reducible refine (u2_PH (HH.out.store _ _) ?_).mono ?_) | (refine (u2_PH (HS.out.new HS.out.rowlt _ _) ?_).mono ?_)); (· have := HL.out; omega); rintro e w' ⟨rfl, HH'⟩
       replace HH := Lib.hid HH'
       clear HH'
       replace kb := HH.out.rd.blk.cell 2
       replace kh := fun j => HH.out.blk.cell j
       replace fh := fun j => HH.out.blk.frozen j
       replace hgl := HH.out.glt
       replace hc := fun j => (HH.out.bel.cell (p := ⟨w.heap.size, j, none⟩) (Nat.lt_succ_self _)).trans (HZ.out.cell j)
       replace hf := fun j => (HH.out.bel.frozen (p := ⟨w.heap.size, j, none⟩) (Nat.lt_succ_self _)).trans (HZ.out.frozen j))
    | (go_at_call 67; (first | (with_reducible refine (t_PH 26 _ ?_ HH.out ?_).mono ?_) | (with_reducible refine (t_PH 26 _ ?_ (HH.out.store _ _) ?_).mono ?_) | (refine (t_PH 26 _ ?_ (HS.out.new HS.out.rowlt _ _) ?_).mono ?_)); (· rfl); (· have := HL.out; omega); rintro e w' ⟨A', m', c', rfl, HH'⟩
       replace HH := Lib.hid HH'
       clear HH'
       replace kb := HH.out.rd.blk.cell 2
       replace kh := fun j => HH.out.blk.cell j
       replace fh := fun j => HH.out.blk.frozen j
       replace hgl := HH.out.glt
       replace hc := fun j => (HH.out.bel.cell (p := ⟨w.heap.size, j, none⟩) (Nat.lt_succ_self _)).trans (HZ.out.cell j)
       replace hf := fun j => (HH.out.bel.frozen (p := ⟨w.heap.size, j, none⟩) (Nat.lt_succ_self _)).trans (HZ.out.frozen j))
    | (go_at_call 32; (with_reducible refine (rMayGlyphs_any _ _ _).mono ?_); rw [HM.out]; rintro e w5 ⟨rfl, hb5⟩
       first | replace HH := Lib.hid (HH.out.keep hb5) | replace HH := Lib.hid ((HH.out.store _ _).keep hb5) | replace HH := Lib.hid ((HS.out.new HS.out.rowlt _ _).keep hb5)
       clear hb5
       replace kb := HH.out.rd.blk.cell 2
       replace kh := fun j => HH.out.blk.cell j
       replace fh := fun j => HH.out.blk.frozen j
       replace hgl := HH.out.glt
       replace hc := fun j => (HH.out.bel.cell (p := ⟨w.heap.size, j, none⟩) (Nat.lt_succ_self _)).trans (HZ.out.cell j)
       replace hf := fun j => (HH.out.bel.frozen (p := ⟨w.heap.size, j, none⟩) (Nat.lt_succ_self _)).trans (HZ.out.frozen j)))
  all_goals
    first
      | (have HBW := HB0.out.trans (HH.out.bel.mono (Nat.le_succ _))
         have HBZ := HZ.out.below HH.out.bel (Nat.lt_succ_self _)
         refine bodyPost_ret (end_glyph (HBZ) (by rfl) (by rfl)) rfl ⟨rfl, ?_⟩
         repeat (first | with_reducible exact HBW | with_reducible apply below_at))
      | (have HBW := HB0.out.trans (HH.out.bel.mono (Nat.le_succ _))
         have HBZ := HZ.out.below HH.out.bel (Nat.lt_succ_self _)
         refine bodyPost_ret (end_glyph (HH.out.farB HBZ (Nat.lt_succ_self _) _ _) (by rfl) (by rfl)) rfl ⟨rfl, ?_⟩
         repeat (first | with_reducible exact HH.out.farW HBW (Nat.le_succ _) _ _ | with_reducible apply below_at))
      | (have HBW := HB0.out.trans (HS.out.bel.mono (Nat.le_succ _))
         have HBZ := HZ.out.below HS.out.bel (Nat.lt_succ_self _)
         refine bodyPost_ret (end_glyph (HBZ.alloc _) (by rfl) (by rfl)) rfl ⟨rfl, ?_⟩
         repeat (first | with_reducible exact below_alloc HBW (Nat.le_trans (Nat.le_succ _) (Nat.le_of_lt HS.out.rd.blk.lt)) | with_reducible apply below_at))

set_option maxHeartbeats 4000000 in
theorem rGlyphs_cff_no (w : World) (A : Option Addr) (bs : List UInt8) (c : Nat) (h : Bs w A bs c) (hl : 6 ≤ bs.length) (hv : wd4 bs 0 = 20480) (hm : allF 1 65535 [wd bs 4] = false) :
    Calls Try.prog 31 #[.slice A bs.length c] w fun e w' => e = .returned (.tuple #[.agg #[.int .i64 0, .bool false], .bool false]) ∧ Below w.heap.size w w' := by
  have HM := Lib.hid hm
  clear hm
  have HL := Lib.hid hl
  clear hl
  have HZ := Lib.hid (Blk.new w 59 [.int .i64 0, .bool false])
  have HS := Lib.hid (RRd.start (w.alloc (.cells #[.int .i64 0, .bool false] 59)) 89 (w.heap.size + 1) bs A c (by simp) rfl (h.sl.keep (bel_alloc bel_refl).below) h.cap h.small)
  have HB0 : Hid (Below w.heap.size w (w.alloc (.cells #[.int .i64 0, .bool false] 59))) := Lib.hid (bel_alloc (bel_refl (a := w))).below
  clear h
  have kb : True := trivial
  have kh : True := trivial
  have fh : True := trivial
  have hc : True := trivial
  have hf : True := trivial
  have HH : True := trivial
  have hgl : True := trivial
  have hsz : True := trivial
  go_enter Try.func31, Try.ntmps31
  go_wp2_with (first
    | (go_at_call 47; (with_reducible refine (u4_PS HS.out ?_).mono ?_); (· have := HL.out; omega); rintro e w' ⟨rfl, HS'⟩
       replace HS := Lib.hid HS'
       clear HS'
       replace kb := HS.out.rd.blk.cell 2
       replace hsz := HS.out.rd.blk.lt
       replace hc := fun j => (HS.out.bel.cell (p := ⟨w.heap.size, j, none⟩) (Nat.lt_succ_self _)).trans (HZ.out.cell j)
       replace hf := fun j => (HS.out.bel.frozen (p := ⟨w.heap.size, j, none⟩) (Nat.lt_succ_self _)).trans (HZ.out.frozen j))
    | (go_at_call 47; (with_reducible refine (u2_PS HS.out ?_).mono ?_); (· have := HL.out; omega); rintro e w' ⟨rfl, HS'⟩
       replace HS := Lib.hid HS'
       clear HS'
       replace kb := HS.out.rd.blk.cell 2
       replace hsz := HS.out.rd.blk.lt
       replace hc := fun j => (HS.out.bel.cell (p := ⟨w.heap.size, j, none⟩) (Nat.lt_succ_self _)).trans (HZ.out.cell j)
       replace hf := fun j => (HS.out.bel.frozen (p := ⟨w.heap.size, j, none⟩) (Nat.lt_succ_self _)).trans (HZ.out.frozen j))
    | (go_at_call 67; (with_reducible refine (t_PS 26 _ ?_ HS.out ?_).mono ?_); (· rfl); (· have := HL.out; omega); rintro e w' ⟨A', m', c', rfl, HS'⟩
       replace HS := Lib.hid HS'
       clear HS'
       replace kb := HS.out.rd.blk.cell 2
       replace hsz := HS.out.rd.blk.lt
       replace hc := fun j => (HS.out.bel.cell (p := ⟨w.heap.size, j, none⟩) (Nat.lt_succ_self _)).trans (HZ.out.cell j)
       replace hf := fun j => (HS.out.bel.frozen (p := ⟨w.heap.size, j, none⟩) (Nat.lt_succ_self _)).trans (HZ.out.frozen j))
    | (go_at_call 47; (first | (with_reducible refine (u4_PH HH.out ?_).mono ?_) | (with_reducible refine (u4_PH (HH.out.store _ _) ?_).mono ?_) | (refine (u4_PH (HS.out.new HS.out.rowlt _ _) ?_).mono ?_)); (· have := HL.out; omega); rintro e w' ⟨rfl, HH'⟩
       replace HH := Lib.hid HH'
       clear HH'
       replace kb := HH.out.rd.blk.cell 2
       replace kh := fun j => HH.out.blk.cell j
       replace fh := fun j => HH.out.blk.frozen j
       replace hgl := HH.out.glt
       replace hc := fun j => (HH.out.bel.cell (p := ⟨w.heap.size, j, none⟩) (Nat.lt_succ_self _)).trans (HZ.out.cell j)
       replace hf := fun j => (HH.out.bel.frozen (p := ⟨w.heap.size, j, none⟩) (Nat.lt_succ_self _)).trans (HZ.out.frozen j))
    | (go_at_call 47; (first | (with_reducible refine (u2_PH HH.out ?_).mono ?_) | (with_reducible refine (u2_PH (HH.out.store _ _) ?_).mono ?_) | (refine (u2_PH (HS.out.new HS.out.rowlt _ _) ?_).mono ?_)); (· have := HL.out; omega); rintro e w' ⟨rfl, HH'⟩
       replace HH := Lib.hid HH'
       clear HH'
       replace kb := HH.out.rd.blk.cell 2
       replace kh := fun j => HH.out.blk.cell j
       replace fh := fun j => HH.out.blk.frozen j
       replace hgl := HH.out.glt
       replace hc := fun j => (HH.out.bel.cell (p := ⟨w.heap.size, j, none⟩) (Nat.lt_succ_self _)).trans (HZ.out.cell j)
       replace hf := fun j => (HH.out.bel.frozen (p := ⟨w.heap.size, j, none⟩) (Nat.lt_succ_self _)).trans (HZ.out.frozen j))
    | (go_at_call 67; (first | (with_reducible refine (t_PH 26 _ ?_ HH.out ?_).mono ?_) | (with_reducible refine (t_PH 26 _ ?_ (HH.out.store _ _) ?_).mono ?_) | (refine (t_PH 26 _ ?_ (HS.out.new HS.out.rowlt _ _) ?_).mono ?_)); (· rfl); (· have := HL.out; omega); rintro e w' ⟨A', m', c', rfl, HH'⟩
       replace HH := Lib.hid HH'
       clear HH'
       replace kb := HH.out.rd.blk.cell 2
       replace kh := fun j => HH.out.blk.cell j
       replace fh := fun j => HH.out.blk.frozen j
       replace hgl := HH.out.glt
       replace hc := fun j => (HH.out.bel.cell (p := ⟨w.heap.size, j, none⟩) (Nat.lt_succ_self _)).trans (HZ.out.cell j)
       replace hf := fun j => (HH.out.bel.frozen (p := ⟨w.heap.size, j, none⟩) (Nat.lt_succ_self _)).trans (HZ.out.frozen j))
    | (go_at_call 32; (with_reducible refine (rMayGlyphs_any _ _ _).mono ?_); rw [HM.out]; rintro e w5 ⟨rfl, hb5⟩
       first | replace HH := Lib.hid (HH.out.keep hb5) | replace HH := Lib.hid ((HH.out.store _ _).keep hb5) | replace HH := Lib.hid ((HS.out.new HS.out.rowlt _ _).keep hb5)
       clear hb5
       replace kb := HH.out.rd.blk.cell 2
       replace kh := fun j => HH.out.blk.cell j
       replace fh := fun j => HH.out.blk.frozen j
       replace hgl := HH.out.glt
       replace hc := fun j => (HH.out.bel.cell (p := ⟨w.heap.size, j, none⟩) (Nat.lt_succ_self _)).trans (HZ.out.cell j)
       replace hf := fun j => (HH.out.bel.frozen (p := ⟨w.heap.size, j, none⟩) (Nat.lt_succ_self _)).trans (HZ.out.frozen j)))
  all_goals
    first
      | (have HBW := HB0.out.trans (HH.out.bel.mono (Nat.le_succ _))
         have HBZ := HZ.out.below HH.out.bel (Nat.lt_succ_self _)
         refine bodyPost_ret (end_glyph (HBZ) (by rfl) (by rfl)) rfl ⟨rfl, ?_⟩
         repeat (first | with_reducible exact HBW | with_reducible apply below_at))
      | (have HBW := HB0.out.trans (HH.out.bel.mono (Nat.le_succ _))
         have HBZ := HZ.out.below HH.out.bel (Nat.lt_succ_self _)
         refine bodyPost_ret (end_glyph (HH.out.farB HBZ (Nat.lt_succ_self _) _ _) (by rfl) (by rfl)) rfl ⟨rfl, ?_⟩
         repeat (first | with_reducible exact HH.out.farW HBW (Nat.le_succ _) _ _ | with_reducible apply below_at))
      | (have HBW := HB0.out.trans (HS.out.bel.mono (Nat.le_succ _))
         have HBZ := HZ.out.below HS.out.bel (Nat.lt_succ_self _)
         refine bodyPost_ret (end_glyph (HBZ.alloc _) (by rfl) (by rfl)) rfl ⟨rfl, ?_⟩
         repeat (first | with_reducible exact below_alloc HBW (Nat.le_trans (Nat.le_succ _) (Nat.le_of_lt HS.out.rd.blk.lt)) | with_reducible apply below_at))

set_option maxHeartbeats 4000000 in
theorem rGlyphs_true (w : World) (A : Option Addr) (bs : List UInt8) (c : Nat) (h : Bs w A bs c) (hl : 32 ≤ bs.length) (hv : wd4 bs 0 = 65536) (hm : allF 1 65535 [wd bs 4] = true) :
    Calls Try.prog 31 #[.slice A bs.length c] w fun e w' => e = .returned (.tuple #[.agg #[.int .i64 (wd bs 4), .bool true], .bool true]) ∧ Below w.heap.size w w' := by
  have HM := Lib.hid hm
  clear hm
  have HL := Lib.hid hl
  clear hl
  have HZ := Lib.hid (Blk.new w 59 [.int .i64 0, .bool false])
  have HS := Lib.hid (RRd.start (w.alloc (.cells #[.int .i64 0, .bool false] 59)) 89 (w.heap.size + 1) bs A c (by simp) rfl (h.sl.keep (bel_alloc bel_refl).below) h.cap h.small)
  have HB0 : Hid (Below w.heap.size w (w.alloc (.cells #[.int .i64 0, .bool false] 59))) := Lib.hid (bel_alloc (bel_refl (a := w))).below
  clear h
  have kb : True := trivial
  have kh : True := trivial
  have fh : True := trivial
  have hc : True := trivial
  have hf : True := trivial
  have HH : True := trivial
  have hgl : True := trivial
  have hsz : True := trivial
  go_enter Try.func31, Try.ntmps31
  go_wp2_with (first
    | (go_at_call 47; (with_reducible refine (u4_PS HS.out ?_).mono ?_); (· have := HL.out; omega); rintro e w' ⟨rfl, HS'⟩
       replace HS := Lib.hid HS'
       clear HS'
       replace kb := HS.out.rd.blk.cell 2
       replace hsz := HS.out.rd.blk.lt
       replace hc := fun j => (HS.out.bel.cell (p := ⟨w.heap.size, j, none⟩) (Nat.lt_succ_self _)).trans (HZ.out.cell j)
       replace hf := fun j => (HS.out.bel.frozen (p := ⟨w.heap.size, j, none⟩) (Nat.lt_succ_self _)).trans (HZ.out.frozen j))
    | (go_at_call 47; (with_reducible refine (u2_PS HS.out ?_).mono ?_); (· have := HL.out; omega); rintro e w' ⟨rfl, HS'⟩
       replace HS := Lib.hid HS'
       clear HS'
       replace kb := HS.out.rd.blk.cell 2
       replace hsz := HS.out.rd.blk.lt
       replace hc := fun j => (HS.out.bel.cell (p := ⟨w.heap.size, j, none⟩) (Nat.lt_succ_self _)).trans (HZ.out.cell j)
       replace hf := fun j => (HS.out.bel.frozen (p := ⟨w.heap.size, j, none⟩) (Nat.lt_succ_self _)).trans (HZ.out.frozen j))
    | (go_at_call 67; (with_reducible refine (t_PS 26 _ ?_ HS.out ?_).mono ?_); (· rfl); (· have := HL.out; omega); rintro e w' ⟨A', m', c', rfl, HS'⟩
       replace HS := Lib.hid HS'
       clear HS'
       replace kb := HS.out.rd.blk.cell 2
       replace hsz := HS.out.rd.blk.lt
       replace hc := fun j => (HS.out.bel.cell (p := ⟨w.heap.size, j, none⟩) (Nat.lt_succ_self _)).trans (HZ.out.cell j)
       replace hf := fun j => (HS.out.bel.frozen (p := ⟨w.heap.size, j, none⟩) (Nat.lt_succ_self _)).trans (HZ.out.frozen j))
    | (go_at_call 47; (first | (with_reducible refine (u4_PH HH.out ?_).mono ?_) | (with_reducible refine (u4_PH (HH.out.store _ _) ?_).mono ?_) | (refine (u4_PH (HS.out.new HS.out.rowlt _ _) ?_).mono ?_)); (· have := HL.out; omega); rintro e w' ⟨rfl, HH'⟩
       replace HH := Lib.hid HH'
       clear HH'
       replace kb := HH.out.rd.blk.cell 2
       replace kh := fun j => HH.out.blk.cell j
       replace fh := fun j => HH.out.blk.frozen j
       replace hgl := HH.out.glt
       replace hc := fun j => (HH.out.bel.cell (p := ⟨w.heap.size, j, none⟩) (Nat.lt_succ_self _)).trans (HZ.out.cell j)
       replace hf := fun j => (HH.out.bel.frozen (p := ⟨w.heap.size, j, none⟩) (Nat.lt_succ_self _)).trans (HZ.out.frozen j))
    | (go_at_call 47; (first | (with_reducible refine (u2_PH HH.out ?_).mono ?_) | (with_reducible refine (u2_PH (HH.out.store _ _) ?_).mono ?_) | (refine (u2_PH (HS.out.new HS.out.rowlt _ _) ?_).mono ?_)); (· have := HL.out; omega); rintro e w' ⟨rfl, HH'⟩
       replace HH := Lib.hid HH'
       clear HH'
       replace kb := HH.out.rd.blk.cell 2
       replace kh := fun j => HH.out.blk.cell j
       replace fh := fun j => HH.out.blk.frozen j
       replace hgl := HH.out.glt
       replace hc := fun j => (HH.out.bel.cell (p := ⟨w.heap.size, j, none⟩) (Nat.lt_succ_self _)).trans (HZ.out.cell j)
       replace hf := fun j => (HH.out.bel.frozen (p := ⟨w.heap.size, j, none⟩) (Nat.lt_succ_self _)).trans (HZ.out.frozen j))
    | (go_at_call 67; (first | (with_reducible refine (t_PH 26 _ ?_ HH.out ?_).mono ?_) | (with_reducible refine (t_PH 26 _ ?_ (HH.out.store _ _) ?_).mono ?_) | (refine (t_PH 26 _ ?_ (HS.out.new HS.out.rowlt _ _) ?_).mono ?_)); (· rfl); (· have := HL.out; omega); rintro e w' ⟨A', m', c', rfl, HH'⟩
       replace HH := Lib.hid HH'
       clear HH'
       replace kb := HH.out.rd.blk.cell 2
       replace kh := fun j => HH.out.blk.cell j
       replace fh := fun j => HH.out.blk.frozen j
       replace hgl := HH.out.glt
       replace hc := fun j => (HH.out.bel.cell (p := ⟨w.heap.size, j, none⟩) (Nat.lt_succ_self _)).trans (HZ.out.cell j)
       replace hf := fun j => (HH.out.bel.frozen (p := ⟨w.heap.size, j, none⟩) (Nat.lt_succ_self _)).trans (HZ.out.frozen j))
    | (go_at_call 32; (with_reducible refine (rMayGlyphs_any _ _ _).mono ?_); rw [HM.out]; rintro e w5 ⟨rfl, hb5⟩
       first | replace HH := Lib.hid (HH.out.keep hb5) | replace HH := Lib.hid ((HH.out.store _ _).keep hb5) | replace HH := Lib.hid ((HS.out.new HS.out.rowlt _ _).keep hb5)
       clear hb5
       replace kb := HH.out.rd.blk.cell 2
       replace kh := fun j => HH.out.blk.cell j
       replace fh := fun j => HH.out.blk.frozen j
       replace hgl := HH.out.glt
       replace hc := fun j => (HH.out.bel.cell (p := ⟨w.heap.size, j, none⟩) (Nat.lt_succ_self _)).trans (HZ.out.cell j)
       replace hf := fun j => (HH.out.bel.frozen (p := ⟨w.heap.size, j, none⟩) (Nat.lt_succ_self _)).trans (HZ.out.frozen j)))
  all_goals
    first
      | (have HBW := HB0.out.trans (HH.out.bel.mono (Nat.le_succ _))
         have HBZ := HZ.out.below HH.out.bel (Nat.lt_succ_self _)
         refine bodyPost_ret (end_glyph (HBZ) (by rfl) (by rfl)) rfl ⟨rfl, ?_⟩
         repeat (first | with_reducible exact HBW | with_reducible apply below_at))
      | (have HBW := HB0.out.trans (HH.out.bel.mono (Nat.le_succ _))
         have HBZ := HZ.out.below HH.out.bel (Nat.lt_succ_self _)
         refine bodyPost_ret (end_glyph (HH.out.farB HBZ (Nat.lt_succ_self _) _ _) (by rfl) (by rfl)) rfl ⟨rfl, ?_⟩
         repeat (first | with_reducible exact HH.out.farW HBW (Nat.le_succ _) _ _ | with_reducible apply below_at))
      | (have HBW := HB0.out.trans (HS.out.bel.mono (Nat.le_succ _))
         have HBZ := HZ.out.below HS.out.bel (Nat.lt_succ_self _)
         refine bodyPost_ret (end_glyph (HBZ.alloc _) (by rfl) (by rfl)) rfl ⟨rfl, ?_⟩
         repeat (first | with_reducible exact below_alloc HBW (Nat.le_trans (Nat.le_succ _) (Nat.le_of_lt HS.out.rd.blk.lt)) | with_reducible apply below_at))

set_option maxHeartbeats 4000000 in
theorem rGlyphs_true_no (w : World) (A : Option Addr) (bs : List UInt8) (c : Nat) (h : Bs w A bs c) (hl : 32 ≤ bs.length) (hv : wd4 bs 0 = 65536) (hm : allF 1 65535 [wd bs 4] = false) :
    Calls Try.prog 31 #[.slice A bs.length c] w fun e w' => e = .returned (.tuple #[.agg #[.int .i64 0, .bool false], .bool false]) ∧ Below w.heap.size w w' := by
  have HM := Lib.hid hm
  clear hm
  have HL := Lib.hid hl
  clear hl
  have HZ := Lib.hid (Blk.new w 59 [.int .i64 0, .bool false])
  have HS := Lib.hid (RRd.start (w.alloc (.cells #[.int .i64 0, .bool false] 59)) 89 (w.heap.size + 1) bs A c (by simp) rfl (h.sl.keep (bel_alloc bel_refl).below) h.cap h.small)
  have HB0 : Hid (Below w.heap.size w (w.alloc (.cells #[.int .i64 0, .bool false] 59))) := Lib.hid (bel_alloc (bel_refl (a := w))).below
  clear h
  have kb : True := trivial
  have kh : True := trivial
  have fh : True := trivial
  have hc : True := trivial
  have hf : True := trivial
  have HH : True := trivial
  have hgl : True := trivial
  have hsz : True := trivial
  go_enter Try.func31, Try.ntmps31
  go_wp2_with (first
    | (go_at_call 47; (with_reducible refine (u4_PS HS.out ?_).mono ?_); (· have := HL.out; omega); rintro e w' ⟨rfl, HS'⟩
       replace HS := Lib.hid HS'
       clear HS'
       replace kb := HS.out.rd.blk.cell 2
       replace hsz := HS.out.rd.blk.lt
       replace hc := fun j => (HS.out.bel.cell (p := ⟨w.heap.size, j, none⟩) (Nat.lt_succ_self _)).trans (HZ.out.cell j)
       replace hf := fun j => (HS.out.bel.frozen (p := ⟨w.heap.size, j, none⟩) (Nat.lt_succ_self _)).trans (HZ.out.frozen j))
    | (go_at_call 47; (with_reducible refine (u2_PS HS.out ?_).mono ?_); (· have := HL.out; omega); rintro e w' ⟨rfl, HS'⟩
       replace HS := Lib.hid HS'
       clear HS'
       replace kb := HS.out.rd.blk.cell 2
       replace hsz := HS.out.rd.blk.lt
       replace hc := fun j => (HS.out.bel.cell (p := ⟨w.heap.size, j, none⟩) (Nat.lt_succ_self _)).trans (HZ.out.cell j)
       replace hf := fun j => (HS.out.bel.frozen (p := ⟨w.heap.size, j, none⟩) (Nat.lt_succ_self _)).trans (HZ.out.frozen j))
    | (go_at_call 67; (with_reducible refine (t_PS 26 _ ?_ HS.out ?_).mono ?_); (· rfl); (· have := HL.out; omega); rintro e w' ⟨A', m', c', rfl, HS'⟩
       replace HS := Lib.hid HS'
       clear HS'
       replace kb := HS.out.rd.blk.cell 2
       replace hsz := HS.out.rd.blk.lt
       replace hc := fun j => (HS.out.bel.cell (p := ⟨w.heap.size, j, none⟩) (Nat.lt_succ_self _)).trans (HZ.out.cell j)
       replace hf := fun j => (HS.out.bel.frozen (p := ⟨w.heap.size, j, none⟩) (Nat.lt_succ_self _)).trans (HZ.out.frozen j))
    | (go_at_call 47; (first | (with_reducible refine (u4_PH HH.out ?_).mono ?_) | (with_reducible refine (u4_PH (HH.out.store _ _) ?_).mono ?_) | (refine (u4_PH (HS.out.new HS.out.rowlt _ _) ?_).mono ?_)); (· have := HL.out; omega); rintro e w' ⟨rfl, HH'⟩
       replace HH := Lib.hid HH'
       clear HH'
       replace kb := HH.out.rd.blk.cell 2
       replace kh := fun j => HH.out.blk.cell j
       replace fh := fun j => HH.out.blk.frozen j
       replace hgl := HH.out.glt
       replace hc := fun j => (HH.out.bel.cell (p := ⟨w.heap.size, j, none⟩) (Nat.lt_succ_self _)).trans (HZ.out.cell j)
       replace hf := fun j => (HH.out.bel.frozen (p := ⟨w.heap.size, j, none⟩) (Nat.lt_succ_self _)).trans (HZ.out.frozen j))
    | (go_at_call 47; (first | (with_reducible refine (u2_PH HH.out ?_).mono ?_) | (with_reducible refine (u2_PH (HH.out.store _ _) ?_).mono ?_) | (refine (u2_PH (HS.out.new HS.out.rowlt _ _) ?_).mono ?_)); (· have := HL.out; omega); rintro e w' ⟨rfl, HH'⟩
       replace HH := Lib.hid HH'
       clear HH'
       replace kb := HH.out.rd.blk.cell 2
       replace kh := fun j => HH.out.blk.cell j
       replace fh := fun j => HH.out.blk.frozen j
       replace hgl := HH.out.glt
       replace hc := fun j => (HH.out.bel.cell (p := ⟨w.heap.size, j, none⟩) (Nat.lt_succ_self _)).trans (HZ.out.cell j)
       replace hf := fun j => (HH.out.bel.frozen (p := ⟨w.heap.size, j, none⟩) (Nat.lt_succ_self _)).trans (HZ.out.frozen j))
    | (go_at_call 67; (first | (with_reducible refine (t_PH 26 _ ?_ HH.out ?_).mono ?_) | (with_reducible refine (t_PH 26 _ ?_ (HH.out.store _ _) ?_).mono ?_) | (refine (t_PH 26 _ ?_ (HS.out.new HS.out.rowlt _ _) ?_).mono ?_)); (· rfl); (· have := HL.out; omega); rintro e w' ⟨A', m', c', rfl, HH'⟩
       replace HH := Lib.hid HH'
       clear HH'
       replace kb := HH.out.rd.blk.cell 2
       replace kh := fun j => HH.out.blk.cell j
       replace fh := fun j => HH.out.blk.frozen j
       replace hgl := HH.out.glt
       replace hc := fun j => (HH.out.bel.cell (p := ⟨w.heap.size, j, none⟩) (Nat.lt_succ_self _)).trans (HZ.out.cell j)
       replace hf := fun j => (HH.out.bel.frozen (p := ⟨w.heap.size, j, none⟩) (Nat.lt_succ_self _)).trans (HZ.out.frozen j))
    | (go_at_call 32; (with_reducible refine (rMayGlyphs_any _ _ _).mono ?_); rw [HM.out]; rintro e w5 ⟨rfl, hb5⟩
       first | replace HH := Lib.hid (HH.out.keep hb5) | replace HH := Lib.hid ((HH.out.store _ _).keep hb5) | replace HH := Lib.hid ((HS.out.new HS.out.rowlt _ _).keep hb5)
       clear hb5
       replace kb := HH.out.rd.blk.cell 2
       replace kh := fun j => HH.out.blk.cell j
       replace fh := fun j => HH.out.blk.frozen j
       replace hgl := HH.out.glt
       replace hc := fun j => (HH.out.bel.cell (p := ⟨w.heap.size, j, none⟩) (Nat.lt_succ_self _)).trans (HZ.out.cell j)
       replace hf := fun j => (HH.out.bel.frozen (p := ⟨w.heap.size, j, none⟩) (Nat.lt_succ_self _)).trans (HZ.out.frozen j)))
  all_goals
    first
      | (have HBW := HB0.out.trans (HH.out.bel.mono (Nat.le_succ _))
         have HBZ := HZ.out.below HH.out.bel (Nat.lt_succ_self _)
         refine bodyPost_ret (end_glyph (HBZ) (by rfl) (by rfl)) rfl ⟨rfl, ?_⟩
         repeat (first | with_reducible exact HBW | with_reducible apply below_at))
      | (have HBW := HB0.out.trans (HH.out.bel.mono (Nat.le_succ _))
         have HBZ := HZ.out.below HH.out.bel (Nat.lt_succ_self _)
         refine bodyPost_ret (end_glyph (HH.out.farB HBZ (Nat.lt_succ_self _) _ _) (by rfl) (by rfl)) rfl ⟨rfl, ?_⟩
         repeat (first | with_reducible exact HH.out.farW HBW (Nat.le_succ _) _ _ | with_reducible apply below_at))
      | (have HBW := HB0.out.trans (HS.out.bel.mono (Nat.le_succ _))
         have HBZ := HZ.out.below HS.out.bel (Nat.lt_succ_self _)
         refine bodyPost_ret (end_glyph (HBZ.alloc _) (by rfl) (by rfl)) rfl ⟨rfl, ?_⟩
         repeat (first | with_reducible exact below_alloc HBW (Nat.le_trans (Nat.le_succ _) (Nat.le_of_lt HS.out.rd.blk.lt)) | with_reducible apply below_at))

set_option maxHeartbeats 4000000 in
theorem rGlyphs_other (w : World) (A : Option Addr) (bs : List UInt8) (c : Nat) (h : Bs w A bs c) (hl : 6 ≤ bs.length) (h2 : (wd4 bs 0 == 65536) = false) (h3 : (wd4 bs 0 != 20480) = true) :
    Calls Try.prog 31 #[.slice A bs.length c] w fun e w' => e = .returned (.tuple #[.agg #[.int .i64 0, .bool false], .bool false]) ∧ Below w.heap.size w w' := by
  have HL := Lib.hid hl
  clear hl
  have HZ := Lib.hid (Blk.new w 59 [.int .i64 0, .bool false])
  have HS := Lib.hid (RRd.start (w.alloc (.cells #[.int .i64 0, .bool false] 59)) 89 (w.heap.size + 1) bs A c (by simp) rfl (h.sl.keep (bel_alloc bel_refl).below) h.cap h.small)
  have HB0 : Hid (Below w.heap.size w (w.alloc (.cells #[.int .i64 0, .bool false] 59))) := Lib.hid (bel_alloc (bel_refl (a := w))).below
  clear h
  have kb : True := trivial
  have kh : True := trivial
  have fh : True := trivial
  have hc : True := trivial
  have hf : True := trivial
  have HH : True := trivial
  have hgl : True := trivial
  have hsz : True := trivial
  go_enter Try.func31, Try.ntmps31
  go_wp2_with (first
    | (go_at_call 47; (with_reducible refine (u4_PS HS.out ?_).mono ?_); (· have := HL.out; omega); rintro e w' ⟨rfl, HS'⟩
       replace HS := Lib.hid HS'
       clear HS'
       replace kb := HS.out.rd.blk.cell 2
       replace hsz := HS.out.rd.blk.lt
       replace hc := fun j => (HS.out.bel.cell (p := ⟨w.heap.size, j, none⟩) (Nat.lt_succ_self _)).trans (HZ.out.cell j)
       replace hf := fun j => (HS.out.bel.frozen (p := ⟨w.heap.size, j, none⟩) (Nat.lt_succ_self _)).trans (HZ.out.frozen j))
    | (go_at_call 47; (with_reducible refine (u2_PS HS.out ?_).mono ?_); (· have := HL.out; omega); rintro e w' ⟨rfl, HS'⟩
       replace HS := Lib.hid HS'
       clear HS'
       replace kb := HS.out.rd.blk.cell 2
       replace hsz := HS.out.rd.blk.lt
       replace hc := fun j => (HS.out.bel.cell (p := ⟨w.heap.size, j, none⟩) (Nat.lt_succ_self _)).trans (HZ.out.cell j)
       replace hf := fun j => (HS.out.bel.frozen (p := ⟨w.heap.size, j, none⟩) (Nat.lt_succ_self _)).trans (HZ.out.frozen j))
    | (go_at_call 67; (with_reducible refine (t_PS 26 _ ?_ HS.out ?_).mono ?_); (· rfl); (· have := HL.out; omega); rintro e w' ⟨A', m', c', rfl, HS'⟩
       replace HS := Lib.hid HS'
       clear HS'
       replace kb := HS.out.rd.blk.cell 2
       replace hsz := HS.out.rd.blk.lt
       replace hc := fun j => (HS.out.bel.cell (p := ⟨w.heap.size, j, none⟩) (Nat.lt_succ_self _)).trans (HZ.out.cell j)
       replace hf := fun j => (HS.out.bel.frozen (p := ⟨w.heap.size, j, none⟩) (Nat.lt_succ_self _)).trans (HZ.out.frozen j))
    | (go_at_call 47; (first | (with_reducible refine (u4_PH HH.out ?_).mono ?_) | (with_reducible refine (u4_PH (HH.out.store _ _) ?_).mono ?_) | (refine (u4_PH (HS.out.new HS.out.rowlt _ _) ?_).mono ?_)); (· have := HL.out; omega); rintro e w' ⟨rfl, HH'⟩
       replace HH := Lib.hid HH'
       clear HH'
       replace kb := HH.out.rd.blk.cell 2
       replace kh := fun j => HH.out.blk.cell j
       replace fh := fun j => HH.out.blk.frozen j
       replace hgl := HH.out.glt
       replace hc := fun j => (HH.out.bel.cell (p := ⟨w.heap.size, j, none⟩) (Nat.lt_succ_self _)).trans (HZ.out.cell j)
       replace hf := fun j => (HH.out.bel.frozen (p := ⟨w.heap.size, j, none⟩) (Nat.lt_succ_self _)).trans (HZ.out.frozen j))
    | (go_at_call 47; (first | (with_reducible refine (u2_PH HH.out ?_).mono ?_) | (with_reducible refine (u2_PH (HH.out.store _ _) ?_).mono ?_) | (refine (u2_PH (HS.out.new HS.out.rowlt _ _) ?_).mono ?_)); (· have := HL.out; omega); rintro e w' ⟨rfl, HH'⟩
       replace HH := Lib.hid HH'
       clear HH'
       replace kb := HH.out.rd.blk.cell 2
       replace kh := fun j => HH.out.blk.cell j
       replace fh := fun j => HH.out.blk.frozen j
       replace hgl := HH.out.glt
       replace hc := fun j => (HH.out.bel.cell (p := ⟨w.heap.size, j, none⟩) (Nat.lt_succ_self _)).trans (HZ.out.cell j)
       replace hf := fun j => (HH.out.bel.frozen (p := ⟨w.heap.size, j, none⟩) (Nat.lt_succ_self _)).trans (HZ.out.frozen j))
    | (go_at_call 67; (first | (with_reducible refine (t_PH 26 _ ?_ HH.out ?_).mono ?_) | (with_reducible refine (t_PH 26 _ ?_ (HH.out.store _ _) ?_).mono ?_) | (refine (t_PH 26 _ ?_ (HS.out.new HS.out.rowlt _ _) ?_).mono ?_)); (· rfl); (· have := HL.out; omega); rintro e w' ⟨A', m', c', rfl, HH'⟩
       replace HH := Lib.hid HH'
       clear HH'
       replace kb := HH.out.rd.blk.cell 2
       replace kh := fun j => HH.out.blk.cell j
       replace fh := fun j => HH.out.blk.frozen j
       replace hgl := HH.out.glt
       replace hc := fun j => (HH.out.bel.cell (p := ⟨w.heap.size, j, none⟩) (Nat.lt_succ_self _)).trans (HZ.out.cell j)
       replace hf := fun j => (HH.out.bel.frozen (p := ⟨w.heap.size, j, none⟩) (Nat.lt_succ_self _)).trans (HZ.out.frozen j)))
  all_goals
    first
      | (have HBW := HB0.out.trans (HH.out.bel.mono (Nat.le_succ _))
         have HBZ := HZ.out.below HH.out.bel (Nat.lt_succ_self _)
         refine bodyPost_ret (end_glyph (HBZ) (by rfl) (by rfl)) rfl ⟨rfl, ?_⟩
         repeat (first | with_reducible exact HBW | with_reducible apply below_at))
      | (have HBW := HB0.out.trans (HH.out.bel.mono (Nat.le_succ _))
         have HBZ := HZ.out.below HH.out.bel (Nat.lt_succ_self _)
         refine bodyPost_ret (end_glyph (HH.out.farB HBZ (Nat.lt_succ_self _) _ _) (by rfl) (by rfl)) rfl ⟨rfl, ?_⟩
         repeat (first | with_reducible exact HH.out.farW HBW (Nat.le_succ _) _ _ | with_reducible apply below_at))
      | (have HBW := HB0.out.trans (HS.out.bel.mono (Nat.le_succ _))
         have HBZ := HZ.out.below HS.out.bel (Nat.lt_succ_self _)
         refine bodyPost_ret (end_glyph (HBZ.alloc _) (by rfl) (by rfl)) rfl ⟨rfl, ?_⟩
         repeat (first | with_reducible exact below_alloc HBW (Nat.le_trans (Nat.le_succ _) (Nat.le_of_lt HS.out.rd.blk.lt)) | with_reducible apply below_at))

set_option maxHeartbeats 4000000 in
theorem rGlyphs_true_short (w : World) (A : Option Addr) (bs : List UInt8) (c : Nat) (h : Bs w A bs c) (hl : 6 ≤ bs.length) (hl2 : bs.length < 32) (hv : wd4 bs 0 = 65536) :
    Calls Try.prog 31 #[.slice A bs.length c] w fun e w' => e = .returned (.tuple #[.agg #[.int .i64 0, .bool false], .bool false]) ∧ Below w.heap.size w w' := by
  have hbad : (advF bs (advF bs (advF bs (0, false) 4) 2) 26).2 = true := by
    have := advs_bad bs [4, 2, 26] (0, false) (Nat.zero_le _)
    rw [show advs bs (0, false) [4, 2, 26] = (advF bs (advF bs (advF bs (0, false) 4) 2) 26) from rfl] at this
    rw [this]
    simp
    omega
  have hnv : ((numF bs (0, false) 4 : Nat) : Int) = 65536 := by rw [wd4F (by omega)]; exact hv
  clear hl hl2 hv
  have HZ := Lib.hid (Blk.new w 59 [.int .i64 0, .bool false])
  have HS := Lib.hid (RRd.start (w.alloc (.cells #[.int .i64 0, .bool false] 59)) 89 (w.heap.size + 1) bs A c (by simp) rfl (h.sl.keep (bel_alloc bel_refl).below) h.cap h.small)
  have HB0 : Hid (Below w.heap.size w (w.alloc (.cells #[.int .i64 0, .bool false] 59))) := Lib.hid (bel_alloc (bel_refl (a := w))).below
  clear h
  have kb : True := trivial
  have kh : True := trivial
  have fh : True := trivial
  have hc : True := trivial
  have hf : True := trivial
  have HH : True := trivial
  have hgl : True := trivial
  have hsz : True := trivial
  go_enter Try.func31, Try.ntmps31
  go_wp2_with (first
    | (go_at_call 47; (with_reducible refine (u4_GS HS.out).mono ?_); rintro e w' ⟨rfl, HS'⟩
       replace HS := Lib.hid HS'
       clear HS'
       replace kb := HS.out.rd.blk.cell 2
       replace hsz := HS.out.rd.blk.lt
       replace hc := fun j => (HS.out.bel.cell (p := ⟨w.heap.size, j, none⟩) (Nat.lt_succ_self _)).trans (HZ.out.cell j)
       replace hf := fun j => (HS.out.bel.frozen (p := ⟨w.heap.size, j, none⟩) (Nat.lt_succ_self _)).trans (HZ.out.frozen j))
    | (go_at_call 47; (with_reducible refine (u2_GS HS.out).mono ?_); rintro e w' ⟨rfl, HS'⟩
       replace HS := Lib.hid HS'
       clear HS'
       replace kb := HS.out.rd.blk.cell 2
       replace hsz := HS.out.rd.blk.lt
       replace hc := fun j => (HS.out.bel.cell (p := ⟨w.heap.size, j, none⟩) (Nat.lt_succ_self _)).trans (HZ.out.cell j)
       replace hf := fun j => (HS.out.bel.frozen (p := ⟨w.heap.size, j, none⟩) (Nat.lt_succ_self _)).trans (HZ.out.frozen j))
    | (go_at_call 67; (with_reducible refine (t_GS 26 _ ?_ HS.out).mono ?_); (· rfl); rintro e w' ⟨A', m', c', rfl, HS'⟩
       replace HS := Lib.hid HS'
       clear HS'
       replace kb := HS.out.rd.blk.cell 2
       replace hsz := HS.out.rd.blk.lt
       replace hc := fun j => (HS.out.bel.cell (p := ⟨w.heap.size, j, none⟩) (Nat.lt_succ_self _)).trans (HZ.out.cell j)
       replace hf := fun j => (HS.out.bel.frozen (p := ⟨w.heap.size, j, none⟩) (Nat.lt_succ_self _)).trans (HZ.out.frozen j))
    | (go_at_call 47; (first | (with_reducible refine (u4_GH HH.out).mono ?_) | (with_reducible refine (u4_GH (HH.out.store _ _)).mono ?_) | (refine (u4_GH (HS.out.new HS.out.rowlt _ _)).mono ?_)); rintro e w' ⟨rfl, HH'⟩
       replace HH := Lib.hid HH'
       clear HH'
       replace kb := HH.out.rd.blk.cell 2
       replace kh := fun j => HH.out.blk.cell j
       replace fh := fun j => HH.out.blk.frozen j
       replace hgl := HH.out.glt
       replace hc := fun j => (HH.out.bel.cell (p := ⟨w.heap.size, j, none⟩) (Nat.lt_succ_self _)).trans (HZ.out.cell j)
       replace hf := fun j => (HH.out.bel.frozen (p := ⟨w.heap.size, j, none⟩) (Nat.lt_succ_self _)).trans (HZ.out.frozen j))
    | (go_at_call 47; (first | (with_reducible refine (u2_GH HH.out).mono ?_) | (with_reducible refine (u2_GH (HH.out.store _ _)).mono ?_) | (refine (u2_GH (HS.out.new HS.out.rowlt _ _)).mono ?_)); rintro e w' ⟨rfl, HH'⟩
       replace HH := Lib.hid HH'
       clear HH'
       replace kb := HH.out.rd.blk.cell 2
       replace kh := fun j => HH.out.blk.cell j
       replace fh := fun j => HH.out.blk.frozen j
       replace hgl := HH.out.glt
       replace hc := fun j => (HH.out.bel.cell (p := ⟨w.heap.size, j, none⟩) (Nat.lt_succ_self _)).trans (HZ.out.cell j)
       replace hf := fun j => (HH.out.bel.frozen (p := ⟨w.heap.size, j, none⟩) (Nat.lt_succ_self _)).trans (HZ.out.frozen j))
    | (go_at_call 67; (first | (with_reducible refine (t_GH 26 _ ?_ HH.out).mono ?_) | (with_reducible refine (t_GH 26 _ ?_ (HH.out.store _ _)).mono ?_) | (refine (t_GH 26 _ ?_ (HS.out.new HS.out.rowlt _ _)).mono ?_)); (· rfl); rintro e w' ⟨A', m', c', rfl, HH'⟩
       replace HH := Lib.hid HH'
       clear HH'
       replace kb := HH.out.rd.blk.cell 2
       replace kh := fun j => HH.out.blk.cell j
       replace fh := fun j => HH.out.blk.frozen j
       replace hgl := HH.out.glt
       replace hc := fun j => (HH.out.bel.cell (p := ⟨w.heap.size, j, none⟩) (Nat.lt_succ_self _)).trans (HZ.out.cell j)
       replace hf := fun j => (HH.out.bel.frozen (p := ⟨w.heap.size, j, none⟩) (Nat.lt_succ_self _)).trans (HZ.out.frozen j)))
  all_goals
    first
      | (have HBW := HB0.out.trans (HH.out.bel.mono (Nat.le_succ _))
         have HBZ := HZ.out.below HH.out.bel (Nat.lt_succ_self _)
         refine bodyPost_ret (end_glyph (HBZ) (by rfl) (by rfl)) rfl ⟨rfl, ?_⟩
         repeat (first | with_reducible exact HBW | with_reducible apply below_at))
      | (have HBW := HB0.out.trans (HH.out.bel.mono (Nat.le_succ _))
         have HBZ := HZ.out.below HH.out.bel (Nat.lt_succ_self _)
         refine bodyPost_ret (end_glyph (HH.out.farB HBZ (Nat.lt_succ_self _) _ _) (by rfl) (by rfl)) rfl ⟨rfl, ?_⟩
         repeat (first | with_reducible exact HH.out.farW HBW (Nat.le_succ _) _ _ | with_reducible apply below_at))
      | (have HBW := HB0.out.trans (HS.out.bel.mono (Nat.le_succ _))
         have HBZ := HZ.out.below HS.out.bel (Nat.lt_succ_self _)
         refine bodyPost_ret (end_glyph (HBZ.alloc _) (by rfl) (by rfl)) rfl ⟨rfl, ?_⟩
         repeat (first | with_reducible exact below_alloc HBW (Nat.le_trans (Nat.le_succ _) (Nat.le_of_lt HS.out.rd.blk.lt)) | with_reducible apply below_at))

set_option maxHeartbeats 4000000 in
theorem rGlyphs_short (w : World) (A : Option Addr) (bs : List UInt8) (c : Nat) (h : Bs w A bs c) (hl : bs.length < 6) :
    Calls Try.prog 31 #[.slice A bs.length c] w fun e w' => e = .returned (.tuple #[.agg #[.int .i64 0, .bool false], .bool false]) ∧ Below w.heap.size w w' := by
  have hbad : (advF bs (advF bs (0, false) 4) 2).2 = true := by
    have := advs_bad bs [4, 2] (0, false) (Nat.zero_le _)
    rw [show advs bs (0, false) [4, 2] = (advF bs (advF bs (0, false) 4) 2) from rfl] at this
    rw [this]
    simp
    omega
  have hbad2 : (advF bs (advF bs (advF bs (0, false) 4) 2) 26).2 = true := by
    have := advs_bad bs [4, 2, 26] (0, false) (Nat.zero_le _)
    rw [show advs bs (0, false) [4, 2, 26] = (advF bs (advF bs (advF bs (0, false) 4) 2) 26) from rfl] at this
    rw [this]
    simp
    omega
  clear hl
  have HZ := Lib.hid (Blk.new w 59 [.int .i64 0, .bool false])
  have HS := Lib.hid (RRd.start (w.alloc (.cells #[.int .i64 0, .bool false] 59)) 89 (w.heap.size + 1) bs A c (by simp) rfl (h.sl.keep (bel_alloc bel_refl).below) h.cap h.small)
  have HB0 : Hid (Below w.heap.size w (w.alloc (.cells #[.int .i64 0, .bool false] 59))) := Lib.hid (bel_alloc (bel_refl (a := w))).below
  clear h
  have kb : True := trivial
  have kh : True := trivial
  have fh : True := trivial
  have hc : True := trivial
  have hf : True := trivial
  have HH : True := trivial
  have hgl : True := trivial
  have hsz : True := trivial
  go_enter Try.func31, Try.ntmps31
  go_wp2_with (first
    | (go_at_call 47; (with_reducible refine (u4_GS HS.out).mono ?_); rintro e w' ⟨rfl, HS'⟩
       replace HS := Lib.hid HS'
       clear HS'
       replace kb := HS.out.rd.blk.cell 2
       replace hsz := HS.out.rd.blk.lt
       replace hc := fun j => (HS.out.bel.cell (p := ⟨w.heap.size, j, none⟩) (Nat.lt_succ_self _)).trans (HZ.out.cell j)
       replace hf := fun j => (HS.out.bel.frozen (p := ⟨w.heap.size, j, none⟩) (Nat.lt_succ_self _)).trans (HZ.out.frozen j))
    | (go_at_call 47; (with_reducible refine (u2_GS HS.out).mono ?_); rintro e w' ⟨rfl, HS'⟩
       replace HS := Lib.hid HS'
       clear HS'
       replace kb := HS.out.rd.blk.cell 2
       replace hsz := HS.out.rd.blk.lt
       replace hc := fun j => (HS.out.bel.cell (p := ⟨w.heap.size, j, none⟩) (Nat.lt_succ_self _)).trans (HZ.out.cell j)
       replace hf := fun j => (HS.out.bel.frozen (p := ⟨w.heap.size, j, none⟩) (Nat.lt_succ_self _)).trans (HZ.out.frozen j))
    | (go_at_call 67; (with_reducible refine (t_GS 26 _ ?_ HS.out).mono ?_); (· rfl); rintro e w' ⟨A', m', c', rfl, HS'⟩
       replace HS := Lib.hid HS'
       clear HS'
       replace kb := HS.out.rd.blk.cell 2
       replace hsz := HS.out.rd.blk.lt
       replace hc := fun j => (HS.out.bel.cell (p := ⟨w.heap.size, j, none⟩) (Nat.lt_succ_self _)).trans (HZ.out.cell j)
       replace hf := fun j => (HS.out.bel.frozen (p := ⟨w.heap.size, j, none⟩) (Nat.lt_succ_self _)).trans (HZ.out.frozen j))
    | (go_at_call 47; (first | (with_reducible refine (u4_GH HH.out).mono ?_) | (with_reducible refine (u4_GH (HH.out.store _ _)).mono ?_) | (refine (u4_GH (HS.out.new HS.out.rowlt _ _)).mono ?_)); rintro e w' ⟨rfl, HH'⟩
       replace HH := Lib.hid HH'
       clear HH'
       replace kb := HH.out.rd.blk.cell 2
       replace kh := fun j => HH.out.blk.cell j
       replace fh := fun j => HH.out.blk.frozen j
       replace hgl := HH.out.glt
       replace hc := fun j => (HH.out.bel.cell (p := ⟨w.heap.size, j, none⟩) (Nat.lt_succ_self _)).trans (HZ.out.cell j)
       replace hf := fun j => (HH.out.bel.frozen (p := ⟨w.heap.size, j, none⟩) (Nat.lt_succ_self _)).trans (HZ.out.frozen j))
    | (go_at_call 47; (first | (with_reducible refine (u2_GH HH.out).mono ?_) | (with_reducible refine (u2_GH (HH.out.store _ _)).mono ?_) | (refine (u2_GH (HS.out.new HS.out.rowlt _ _)).mono ?_)); rintro e w' ⟨rfl, HH'⟩
       replace HH := Lib.hid HH'
       clear HH'
       replace kb := HH.out.rd.blk.cell 2
       replace kh := fun j => HH.out.blk.cell j
       replace fh := fun j => HH.out.blk.frozen j
       replace hgl := HH.out.glt
       replace hc := fun j => (HH.out.bel.cell (p := ⟨w.heap.size, j, none⟩) (Nat.lt_succ_self _)).trans (HZ.out.cell j)
       replace hf := fun j => (HH.out.bel.frozen (p := ⟨w.heap.size, j, none⟩) (Nat.lt_succ_self _)).trans (HZ.out.frozen j))
    | (go_at_call 67; (first | (with_reducible refine (t_GH 26 _ ?_ HH.out).mono ?_) | (with_reducible refine (t_GH 26 _ ?_ (HH.out.store _ _)).mono ?_) | (refine (t_GH 26 _ ?_ (HS.out.new HS.out.rowlt _ _)).mono ?_)); (· rfl); rintro e w' ⟨A', m', c', rfl, HH'⟩
       replace HH := Lib.hid HH'
       clear HH'
       replace kb := HH.out.rd.blk.cell 2
       replace kh := fun j => HH.out.blk.cell j
       replace fh := fun j => HH.out.blk.frozen j
       replace hgl := HH.out.glt
       replace hc := fun j => (HH.out.bel.cell (p := ⟨w.heap.size, j, none⟩) (Nat.lt_succ_self _)).trans (HZ.out.cell j)
       replace hf := fun j => (HH.out.bel.frozen (p := ⟨w.heap.size, j, none⟩) (Nat.lt_succ_self _)).trans (HZ.out.frozen j)))
  all_goals
    first
      | (have HBW := HB0.out.trans (HH.out.bel.mono (Nat.le_succ _))
         have HBZ := HZ.out.below HH.out.bel (Nat.lt_succ_self _)
         refine bodyPost_ret (end_glyph (HBZ) (by rfl) (by rfl)) rfl ⟨rfl, ?_⟩
         repeat (first | with_reducible exact HBW | with_reducible apply below_at))
      | (have HBW := HB0.out.trans (HH.out.bel.mono (Nat.le_succ _))
         have HBZ := HZ.out.below HH.out.bel (Nat.lt_succ_self _)
         refine bodyPost_ret (end_glyph (HH.out.farB HBZ (Nat.lt_succ_self _) _ _) (by rfl) (by rfl)) rfl ⟨rfl, ?_⟩
         repeat (first | with_reducible exact HH.out.farW HBW (Nat.le_succ _) _ _ | with_reducible apply below_at))
      | (have HBW := HB0.out.trans (HS.out.bel.mono (Nat.le_succ _))
         have HBZ := HZ.out.below HS.out.bel (Nat.lt_succ_self _)
         refine bodyPost_ret (end_glyph (HBZ.alloc _) (by rfl) (by rfl)) rfl ⟨rfl, ?_⟩
         repeat (first | with_reducible exact below_alloc HBW (Nat.le_trans (Nat.le_succ _) (Nat.le_of_lt HS.out.rd.blk.lt)) | with_reducible apply below_at))

end Go.Proofs.Ytbmflgcahbkdeaa
