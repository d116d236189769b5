/-
  The document's PutHead, PutLines.
-/
import Derived.Test.YtbmflgcahbkdeaaHeadsN
import Derived.Test.YtbmflgcahbkdeaaRPut
namespace Go.Proofs.Ytbmflgcahbkdeaa
open Go.RowKit

theorem RPut.start (w : World) (o : Obj) (T : TypeId) (n : Nat) (room : Int) (hn : w.heap.size + 1 = n) (hT : T = 107) : RPut n (w.alloc o) ((w.alloc o).alloc (.cells #[.slice none 0 0, .int .i64 room, .bool false] T)) n [] room none 0 := by
  subst hn hT
  have hb : Blk ((w.alloc o).alloc (.cells #[.slice none 0 0, .int .i64 room, .bool false] 107)) (w.heap.size + 1) 107 [.slice none 0 0, .int .i64 room, .bool false] := by
    have := Blk.new (w.alloc o) 107 [.slice none 0 0, .int .i64 room, .bool false]
    simpa using this
  refine ⟨⟨hb, World.ownsRow_nil _ _ _ _, by intro e; cases e⟩, ?_, Nat.le_refl _, fun _ e => by cases e⟩
  have := (bel_alloc (o := .cells #[.slice none 0 0, .int .i64 room, .bool false] 107) (bel_refl (a := w.alloc o))).below
  simpa using this

theorem rHead_eq (h : HeadR) : ([] ++ beB 2 1 ++ List.replicate 10 0 ++ beB 4 1594834165 ++ beB 2 h.fl ++ beB 2 h.u ++ List.replicate 16 0 ++ beB 2 h.x0 ++ beB 2 h.y0 ++ beB 2 h.x1 ++ beB 2 h.y1 ++ beB 2 h.st ++ beB 2 h.le ++ beB 2 0 ++ beB 2 (if h.long then 1 else 0) ++ beB 2 0 : List UInt8) = headB h := by
  have e1 : beB 2 0 = [0, 0] := by decide
  have e2 : (List.replicate 10 0 : List UInt8) = [0, 0] ++ (zeros 4 ++ zeros 4) := by decide
  have e3 : zeros 2 = [0, 0] := by decide
  simp only [headB, e1, e2, e3, List.append_assoc, List.nil_append]
  rfl
theorem rLine_eq (h : LineR) : ([] ++ beB 2 1 ++ beB 2 0 ++ beB 2 h.a ++ beB 2 h.d ++ beB 2 h.g ++ List.replicate 24 0 ++ beB 2 h.m : List UInt8) = lineB h := by
  have e1 : beB 2 0 = [0, 0] := by decide
  have e2 : (List.replicate 24 0 : List UInt8) = zeros 22 ++ [0, 0] := by decide
  simp only [lineB, e1, e2, List.append_assoc, List.nil_append]

set_option maxHeartbeats 4000000 in
theorem rPutHead_true (w : World) (u fl x0 y0 x1 y1 st le : Int) :
    Calls Try.prog 27 #[.agg #[.int .i64 u, .int .i64 fl, .int .i64 x0, .int .i64 y0, .int .i64 x1, .int .i64 y1, .int .i64 st, .int .i64 le, .bool true]] w fun e w' => ∃ A' c', e = .returned (.slice A' 54 c') ∧ SlAt w' A' 54 ((headB ⟨u, fl, x0, y0, x1, y1, st, le, true⟩).map byteV) ∧ Below w.heap.size w w' ∧ (∀ k, rowOf A' = some k → w.heap.size ≤ k) := by
  have hmk10 : ∀ W : World, (Instr.makeSlice 22 (.int .i64 10) (.int .i64 10)).run Try.prog W = .ok (.slice (some ⟨W.heap.size, 0, none⟩) 10 10) (W.alloc (.cells (Array.replicate 10 (byteV 0)) 5)) := fun W => make_zeros 10 (by decide) W
  have hmk16 : ∀ W : World, (Instr.makeSlice 22 (.int .i64 16) (.int .i64 16)).run Try.prog W = .ok (.slice (some ⟨W.heap.size, 0, none⟩) 16 16) (W.alloc (.cells (Array.replicate 16 (byteV 0)) 5)) := fun W => make_zeros 16 (by decide) W
  have HS := Lib.hid (RPut.start w (.cells #[.int .i64 u, .int .i64 fl, .int .i64 x0, .int .i64 y0, .int .i64 x1, .int .i64 y1, .int .i64 st, .int .i64 le, .bool true] 48) 107 _ 54 rfl rfl)
  have HO := Lib.hid (Blk.new w 48 [.int .i64 u, .int .i64 fl, .int .i64 x0, .int .i64 y0, .int .i64 x1, .int .i64 y1, .int .i64 st, .int .i64 le, .bool true])
  have HEQ := Lib.hid (rHead_eq ⟨u, fl, x0, y0, x1, y1, st, le, true⟩)
  have hc : True := trivial
  have kw : True := trivial
  go_enter Try.func27, Try.ntmps27
  go_wp2_with (first
    | (go_at_call 65; (with_reducible refine (u2_R _ HS.out (by decide) ?_).mono ?_); (· simp [beB_length])
       rintro e w' ⟨rfl, A', c', HS'⟩
       replace HS := Lib.hid HS'
       clear HS'
       replace hc := fun j => (HS.out.bel.cell (p := ⟨w.heap.size, j, none⟩) (Nat.lt_succ_self _)).trans (HO.out.cell j)
       replace kw := HS.out.wr.blk.cell 0)
    | (go_at_call 65; (with_reducible refine (u4_R _ HS.out (by decide) ?_).mono ?_); (· simp [beB_length])
       rintro e w' ⟨rfl, A', c', HS'⟩
       replace HS := Lib.hid HS'
       clear HS'
       replace hc := fun j => (HS.out.bel.cell (p := ⟨w.heap.size, j, none⟩) (Nat.lt_succ_self _)).trans (HO.out.cell j)
       replace kw := HS.out.wr.blk.cell 0)
    | (go_at_call 66; (with_reducible refine (d_R 10 _ _ _ HS.out rfl rfl (by decide) ?_).mono ?_); (· simp [beB_length])
       rintro e w' ⟨rfl, A', c', HS'⟩
       replace HS := Lib.hid HS'
       clear HS'
       replace hc := fun j => (HS.out.bel.cell (p := ⟨w.heap.size, j, none⟩) (Nat.lt_succ_self _)).trans (HO.out.cell j)
       replace kw := HS.out.wr.blk.cell 0)
    | (go_at_call 66; (with_reducible refine (d_R 16 _ _ _ HS.out rfl rfl (by decide) ?_).mono ?_); (· simp [beB_length])
       rintro e w' ⟨rfl, A', c', HS'⟩
       replace HS := Lib.hid HS'
       clear HS'
       replace hc := fun j => (HS.out.bel.cell (p := ⟨w.heap.size, j, none⟩) (Nat.lt_succ_self _)).trans (HO.out.cell j)
       replace kw := HS.out.wr.blk.cell 0))
  go_ret
  refine ⟨A', c', by simp [beB_length], ?_, (bel_alloc (o := .cells #[.int .i64 u, .int .i64 fl, .int .i64 x0, .int .i64 y0, .int .i64 x1, .int .i64 y1, .int .i64 st, .int .i64 le, .bool true] 48) (bel_refl (a := w))).below.trans (HS.out.bel.mono (by omega)), fun k hk => by have := HS.out.row k hk; omega⟩
  have := HS.out.wr.sl
  have h2 : SlAt w' A' (headB ⟨u, fl, x0, y0, x1, y1, st, le, true⟩).length ((headB ⟨u, fl, x0, y0, x1, y1, st, le, true⟩).map byteV) := by rw [← HEQ.out]; exact this
  rwa [headB_len] at h2

set_option maxHeartbeats 4000000 in
theorem rPutHead_false (w : World) (u fl x0 y0 x1 y1 st le : Int) :
    Calls Try.prog 27 #[.agg #[.int .i64 u, .int .i64 fl, .int .i64 x0, .int .i64 y0, .int .i64 x1, .int .i64 y1, .int .i64 st, .int .i64 le, .bool false]] w fun e w' => ∃ A' c', e = .returned (.slice A' 54 c') ∧ SlAt w' A' 54 ((headB ⟨u, fl, x0, y0, x1, y1, st, le, false⟩).map byteV) ∧ Below w.heap.size w w' ∧ (∀ k, rowOf A' = some k → w.heap.size ≤ k) := by
  have hmk10 : ∀ W : World, (Instr.makeSlice 22 (.int .i64 10) (.int .i64 10)).run Try.prog W = .ok (.slice (some ⟨W.heap.size, 0, none⟩) 10 10) (W.alloc (.cells (Array.replicate 10 (byteV 0)) 5)) := fun W => make_zeros 10 (by decide) W
  have hmk16 : ∀ W : World, (Instr.makeSlice 22 (.int .i64 16) (.int .i64 16)).run Try.prog W = .ok (.slice (some ⟨W.heap.size, 0, none⟩) 16 16) (W.alloc (.cells (Array.replicate 16 (byteV 0)) 5)) := fun W => make_zeros 16 (by decide) W
  have HS := Lib.hid (RPut.start w (.cells #[.int .i64 u, .int .i64 fl, .int .i64 x0, .int .i64 y0, .int .i64 x1, .int .i64 y1, .int .i64 st, .int .i64 le, .bool false] 48) 107 _ 54 rfl rfl)
  have HO := Lib.hid (Blk.new w 48 [.int .i64 u, .int .i64 fl, .int .i64 x0, .int .i64 y0, .int .i64 x1, .int .i64 y1, .int .i64 st, .int .i64 le, .bool false])
  have HEQ := Lib.hid (rHead_eq ⟨u, fl, x0, y0, x1, y1, st, le, false⟩)
  have hc : True := trivial
  have kw : True := trivial
  go_enter Try.func27, Try.ntmps27
  go_wp2_with (first
    | (go_at_call 65; (with_reducible refine (u2_R _ HS.out (by decide) ?_).mono ?_); (· simp [beB_length])
       rintro e w' ⟨rfl, A', c', HS'⟩
       replace HS := Lib.hid HS'
       clear HS'
       replace hc := fun j => (HS.out.bel.cell (p := ⟨w.heap.size, j, none⟩) (Nat.lt_succ_self _)).trans (HO.out.cell j)
       replace kw := HS.out.wr.blk.cell 0)
    | (go_at_call 65; (with_reducible refine (u4_R _ HS.out (by decide) ?_).mono ?_); (· simp [beB_length])
       rintro e w' ⟨rfl, A', c', HS'⟩
       replace HS := Lib.hid HS'
       clear HS'
       replace hc := fun j => (HS.out.bel.cell (p := ⟨w.heap.size, j, none⟩) (Nat.lt_succ_self _)).trans (HO.out.cell j)
       replace kw := HS.out.wr.blk.cell 0)
    | (go_at_call 66; (with_reducible refine (d_R 10 _ _ _ HS.out rfl rfl (by decide) ?_).mono ?_); (· simp [beB_length])
       rintro e w' ⟨rfl, A', c', HS'⟩
       replace HS := Lib.hid HS'
       clear HS'
       replace hc := fun j => (HS.out.bel.cell (p := ⟨w.heap.size, j, none⟩) (Nat.lt_succ_self _)).trans (HO.out.cell j)
       replace kw := HS.out.wr.blk.cell 0)
    | (go_at_call 66; (with_reducible refine (d_R 16 _ _ _ HS.out rfl rfl (by decide) ?_).mono ?_); (· simp [beB_length])
       rintro e w' ⟨rfl, A', c', HS'⟩
       replace HS := Lib.hid HS'
       clear HS'
       replace hc := fun j => (HS.out.bel.cell (p := ⟨w.heap.size, j, none⟩) (Nat.lt_succ_self _)).trans (HO.out.cell j)
       replace kw := HS.out.wr.blk.cell 0))
  go_ret
  refine ⟨A', c', by simp [beB_length], ?_, (bel_alloc (o := .cells #[.int .i64 u, .int .i64 fl, .int .i64 x0, .int .i64 y0, .int .i64 x1, .int .i64 y1, .int .i64 st, .int .i64 le, .bool false] 48) (bel_refl (a := w))).below.trans (HS.out.bel.mono (by omega)), fun k hk => by have := HS.out.row k hk; omega⟩
  have := HS.out.wr.sl
  have h2 : SlAt w' A' (headB ⟨u, fl, x0, y0, x1, y1, st, le, false⟩).length ((headB ⟨u, fl, x0, y0, x1, y1, st, le, false⟩).map byteV) := by rw [← HEQ.out]; exact this
  rwa [headB_len] at h2

set_option maxHeartbeats 4000000 in
theorem rPutLines_any (w : World) (a d g m : Int) :
    Calls Try.prog 37 #[.agg #[.int .i64 a, .int .i64 d, .int .i64 g, .int .i64 m]] w fun e w' => ∃ A' c', e = .returned (.slice A' 36 c') ∧ SlAt w' A' 36 ((lineB ⟨a, d, g, m⟩).map byteV) ∧ Below w.heap.size w w' ∧ (∀ k, rowOf A' = some k → w.heap.size ≤ k) := by
  have hmk24 : ∀ W : World, (Instr.makeSlice 22 (.int .i64 24) (.int .i64 24)).run Try.prog W = .ok (.slice (some ⟨W.heap.size, 0, none⟩) 24 24) (W.alloc (.cells (Array.replicate 24 (byteV 0)) 5)) := fun W => make_zeros 24 (by decide) W
  have HS := Lib.hid (RPut.start w (.cells #[.int .i64 a, .int .i64 d, .int .i64 g, .int .i64 m] 69) 107 _ 36 rfl rfl)
  have HO := Lib.hid (Blk.new w 69 [.int .i64 a, .int .i64 d, .int .i64 g, .int .i64 m])
  have HEQ := Lib.hid (rLine_eq ⟨a, d, g, m⟩)
  have hc : True := trivial
  have kw : True := trivial
  go_enter Try.func37, Try.ntmps37
  go_wp2_with (first
    | (go_at_call 65; (with_reducible refine (u2_R _ HS.out (by decide) ?_).mono ?_); (· simp [beB_length])
       rintro e w' ⟨rfl, A', c', HS'⟩
       replace HS := Lib.hid HS'
       clear HS'
       replace hc := fun j => (HS.out.bel.cell (p := ⟨w.heap.size, j, none⟩) (Nat.lt_succ_self _)).trans (HO.out.cell j)
       replace kw := HS.out.wr.blk.cell 0)
    | (go_at_call 65; (with_reducible refine (u4_R _ HS.out (by decide) ?_).mono ?_); (· simp [beB_length])
       rintro e w' ⟨rfl, A', c', HS'⟩
       replace HS := Lib.hid HS'
       clear HS'
       replace hc := fun j => (HS.out.bel.cell (p := ⟨w.heap.size, j, none⟩) (Nat.lt_succ_self _)).trans (HO.out.cell j)
       replace kw := HS.out.wr.blk.cell 0)
    | (go_at_call 66; (with_reducible refine (d_R 24 _ _ _ HS.out rfl rfl (by decide) ?_).mono ?_); (· simp [beB_length])
       rintro e w' ⟨rfl, A', c', HS'⟩
       replace HS := Lib.hid HS'
       clear HS'
       replace hc := fun j => (HS.out.bel.cell (p := ⟨w.heap.size, j, none⟩) (Nat.lt_succ_self _)).trans (HO.out.cell j)
       replace kw := HS.out.wr.blk.cell 0))
  go_ret
  refine ⟨A', c', by simp [beB_length], ?_, (bel_alloc (o := .cells #[.int .i64 a, .int .i64 d, .int .i64 g, .int .i64 m] 69) (bel_refl (a := w))).below.trans (HS.out.bel.mono (by omega)), fun k hk => by have := HS.out.row k hk; omega⟩
  have := HS.out.wr.sl
  have h2 : SlAt w' A' (lineB ⟨a, d, g, m⟩).length ((lineB ⟨a, d, g, m⟩).map byteV) := by rw [← HEQ.out]; exact this
  rwa [lineB_len] at h2

end Go.Proofs.Ytbmflgcahbkdeaa
