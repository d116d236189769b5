/-
  (*Canvas).rows: a function over the parts of rows.
-/
import Derived.Test.YtdapakoicegdoaaCvG
namespace Go.Proofs.Ytdapakoicegdoaa
open Go.RowKit

theorem Turn.setNew {w w' : World} {k : Nat} (h : Turn w w' k none) {p : Addr} (hp : w.heap.size ≤ p.block) (v : Value) : Turn w (w'.setCell p v) k none :=
  ⟨h.os, h.tape, h.output, by simpa [World.setCell] using h.size, fun b hb h1 h2 => (Below.heap_setCell w' p v b (by omega)).trans (h.block b hb h1 h2)⟩
theorem Byt.far {w : World} {k : Nat} {bs : List UInt8} (h : Byt w k bs) {p : Addr} (hp : k ≠ p.block) (v : Value) : Byt (w.setCell p v) k bs := let ⟨ex, h⟩ := h; ⟨ex, h.far hp v⟩
def boxA (b : Bx) : Value := .agg #[.int .i64 b.x0, .int .i64 b.y0, .int .i64 b.x1, .int .i64 b.y1]

set_option maxRecDepth 20000 in
set_option maxHeartbeats 4000000 in
theorem rows_any {w : World} {g k W H c : Nat} {bs : List UInt8} (h : Cv 102 w g k W H c bs) (b : Bx) (hb : bB b.x0 b.y0 b.x1 b.y1 = true) (f : FuncId) (caps : Array Value)
    (hent : ∀ args w, (callFunc f args).run Try.prog w = .ok (.enter f args) w) (F : Nat → Nat → UInt8 → UInt8) {x0 y0 n m : Nat} (hM : MeetN W H b x0 y0 n m)
    (hcl : ∀ (wr : World) (j : Nat), j < m → Turn w wr k none → Byt wr k (boxG F bs (y0 * W + x0) W n j) →
      Calls Try.prog f (#[.slice (some ⟨k, y0 * W + x0 + j * W, none⟩) n (c - (y0 * W + x0 + j * W)), .int .i64 x0, .int .i64 ((y0 : Int) + j)] ++ caps) wr fun e w' =>
        e = .returned (.tuple #[]) ∧ Byt w' k (rowG (F j) (boxG F bs (y0 * W + x0) W n j) (y0 * W + x0 + j * W) n) ∧ Turn wr w' k none) :
    Calls Try.prog 60 #[.pointer (some ⟨g, 0, none⟩), boxA b, .func (.func f) #[] caps] w fun e w' =>
      e = .returned (.tuple #[boxA ⟨x0, y0, (x0 : Int) + n, (y0 : Int) + m⟩, .int .i64 0]) ∧ Cv 102 w' g k W H c (boxG F bs (y0 * W + x0) W n m) ∧ Turn w w' k none := by
  obtain ⟨bx0, by0, bx1, by1⟩ := b
  have hw1 := h.w1
  have hh1 := h.h1
  have hME : MeetE ⟨0, 0, W, H⟩ ⟨bx0, by0, bx1, by1⟩ = (⟨x0, y0, (x0 : Int) + n, (y0 : Int) + m⟩, 0) := by
    have h1 : bB 0 0 W H = true := bB_side hw1.2 hh1.2
    simp only [MeetE]
    rw [h1, hb, hM.eq]
    rfl
  have KM := fun w => Meet_any 0 0 W H bx0 by0 bx1 by1 w
  simp only [hME] at KM
  replace KM := Lib.hid KM
  have HC := Lib.hid h
  have HC1 := Lib.hid (h.keep (bel_alloc (o := .cells #[.int .i64 0, .int .i64 0, .int .i64 0, .int .i64 0] 23) (bel_alloc (o := .cells #[.int .i64 bx0, .int .i64 by0, .int .i64 bx1, .int .i64 by1] 23) (bel_refl (a := w)))).below)
  have HCL := Lib.hid hcl
  have HMM := Lib.hid hM
  have hgl := h.blk.lt
  have hkl := h.byt.lt
  clear h hcl hME hb hM
  unfold boxA
  go_enter Try.func60, Try.ntmps60
  go_wp2_with fail
  have hblk : Blk ((w.alloc (.cells #[.int .i64 bx0, .int .i64 by0, .int .i64 bx1, .int .i64 by1] 23)).alloc (.cells #[.int .i64 0, .int .i64 0, .int .i64 0, .int .i64 0] 23)).drew w.heap.size 23 [.int .i64 bx0, .int .i64 by0, .int .i64 bx1, .int .i64 by1] := ((Blk.new w 23 [.int .i64 bx0, .int .i64 by0, .int .i64 bx1, .int .i64 by1]).alloc _).drew
  have hblk2 : Blk ((w.alloc (.cells #[.int .i64 bx0, .int .i64 by0, .int .i64 bx1, .int .i64 by1] 23)).alloc (.cells #[.int .i64 0, .int .i64 0, .int .i64 0, .int .i64 0] 23)).drew (w.heap.size + 1) 23 [.int .i64 0, .int .i64 0, .int .i64 0, .int .i64 0] := (Blk.newAt _ 23 [.int .i64 0, .int .i64 0, .int .i64 0, .int .i64 0] (by simp)).drew
  have hbel : Bel w.heap.size w ((w.alloc (.cells #[.int .i64 bx0, .int .i64 by0, .int .i64 bx1, .int .i64 by1] 23)).alloc (.cells #[.int .i64 0, .int .i64 0, .int .i64 0, .int .i64 0] 23)).drew := bel_drew (bel_alloc (bel_alloc bel_refl))
  have HBK := Lib.hid hblk
  have HBK2 := Lib.hid hblk2
  have HBEL := Lib.hid hbel
  have HC2 := Lib.hid HC1.out.drew
  have q0 := hblk.cell 0
  have q1 := hblk.cell 1
  have q2 := hblk.cell 2
  have q3 := hblk.cell 3
  clear hblk hblk2 hbel
  go_region_with (first
    | (go_at_call 64; (with_reducible refine (cvAll HC2.out).mono ?_); rintro e w1 ⟨rfl, hb1⟩
       have HBK1 := Lib.hid (HBK.out.keepB hb1)
       have HBK3 := Lib.hid (HBK2.out.keepB hb1)
       have HBEL1 := Lib.hid (bel_call hb1 HBEL.out)
       have q4 := HBK1.out.cell 0
       have q5 := HBK1.out.cell 1
       have q6 := HBK1.out.cell 2
       have q7 := HBK1.out.cell 3
       simp at q4 q5 q6 q7
       clear hb1)
    | (go_at_call 97; (with_reducible refine (KM.out _).mono ?_); rintro e w2 ⟨rfl, hb2⟩
       have HBK4 := Lib.hid (HBK1.out.keepB hb2)
       have HBK5 := Lib.hid (HBK3.out.keepB hb2)
       have HBEL2 := Lib.hid (bel_call hb2 HBEL1.out)
       have r0 := HBK4.out.cell 0
       have r1 := HBK4.out.cell 1
       have r2 := HBK4.out.cell 2
       have r3 := HBK4.out.cell 3
       have s0 := HBK4.out.frozen 0
       have s1 := HBK4.out.frozen 1
       have s2 := HBK4.out.frozen 2
       have s3 := HBK4.out.frozen 3
       simp at r0 r1 r2 r3
       clear hb2))
  all_goals
    obtain ⟨W2, hW2⟩ : ∃ W2, ((((w2.setCell ⟨w.heap.size, 0, none⟩ (.int .i64 x0)).setCell ⟨w.heap.size, 1, none⟩ (.int .i64 y0)).setCell ⟨w.heap.size, 2, none⟩ (.int .i64 ((x0 : Int) + n))).setCell ⟨w.heap.size, 3, none⟩ (.int .i64 ((y0 : Int) + m))) = W2 := ⟨_, rfl⟩
    have hBX : Blk W2 w.heap.size 23 [.int .i64 x0, .int .i64 y0, .int .i64 ((x0 : Int) + n), .int .i64 ((y0 : Int) + m)] := by rw [← hW2]; exact (((HBK4.out.set 0 _).set 1 _).set 2 _).set 3 _
    have hBR : Blk W2 (w.heap.size + 1) 23 [.int .i64 0, .int .i64 0, .int .i64 0, .int .i64 0] := by
      rw [← hW2]
      exact (((HBK5.out.far (p := ⟨w.heap.size, 0, none⟩) (by show w.heap.size + 1 ≠ w.heap.size; omega) _).far (p := ⟨w.heap.size, 1, none⟩) (by show w.heap.size + 1 ≠ w.heap.size; omega) _).far (p := ⟨w.heap.size, 2, none⟩) (by show w.heap.size + 1 ≠ w.heap.size; omega) _).far (p := ⟨w.heap.size, 3, none⟩) (by show w.heap.size + 1 ≠ w.heap.size; omega) _
    have hBE : Bel w.heap.size w W2 := by rw [← hW2]; exact bel_set (bel_set (bel_set (bel_set HBEL2.out (Nat.le_refl _)) (Nat.le_refl _)) (Nat.le_refl _)) (Nat.le_refl _)
    rw [hW2]
    have HBX := Lib.hid hBX
    have HBR := Lib.hid hBR
    have HBE := Lib.hid hBE
    have q0 := hBX.cell 0
    have q1 := hBX.cell 1
    have q2 := hBX.cell 2
    have q3 := hBX.cell 3
    simp at q0 q1 q2 q3
    clear hW2 hBX hBR hBE
    go_wp2_with fail
    clear q0 q1 q2 q3
    go_loopw [9] (fun y wr => ∃ j : Nat, j ≤ m ∧ y = .int .i64 ((y0 : Int) + j) ∧ Hid (Byt wr k (boxG F bs (y0 * W + x0) W n j)) ∧ Hid (Turn w wr k none) ∧
      Hid (Blk wr w.heap.size 23 [.int .i64 x0, .int .i64 y0, .int .i64 ((x0 : Int) + n), .int .i64 ((y0 : Int) + m)]) ∧ Hid (Blk wr (w.heap.size + 1) 23 [.int .i64 0, .int .i64 0, .int .i64 0, .int .i64 0])) (fun y _ => m + y0 - (intOf y).toNat)
    case atStart => exact ⟨0, Nat.zero_le _, by simp, Lib.hid (HC.out.byt.keepB HBE.out.below), Lib.hid (Turn.of_below HBE.out.below), HBX, HBR⟩
    case round =>
      obtain ⟨j, hj, rfl, HJ, HT, HX, HR⟩ := hrel
      have q0 := HX.out.cell 0
      have q1 := HX.out.cell 1
      have q2 := HX.out.cell 2
      have q3 := HX.out.cell 3
      simp at q0 q1 q2 q3
      have hyh : (y0 : Int) + m ≤ 4096 := by have := HMM.out.yh; omega
      by_cases hlt : j < m
      · have hfit := row_fits HC.out HMM.out.xw HMM.out.yh hlt
        have hn1 := HMM.out.pos (by omega)
        have hcap := HC.out.cap
        have hbd := HC.out.bd.1
        have hGB : Blk wr g 102 [.int .i64 W, .int .i64 H, .slice (some ⟨k, 0, none⟩) bs.length c] := HT.out.blk HC.out.blk HC.out.ne (fun e => by cases e)
        have g0 := hGB.cell 0
        have g2 := hGB.cell 2
        obtain ⟨lo, hlo⟩ : ∃ lo, y0 * W + x0 + j * W = lo := ⟨_, rfl⟩
        have hmul : ((y0 : Int) + j) * W = (lo : Int) - x0 := by rw [← hlo]; push_cast; rw [Int.add_mul]; omega
        rw [hlo] at hfit
        obtain ⟨Wi, hWi⟩ : ∃ Wi : Int, (W : Int) = Wi := ⟨_, rfl⟩
        rw [hWi] at g0 hmul
        obtain ⟨mm, hmm⟩ : ∃ mm : Int, ((y0 : Int) + j) * Wi = mm := ⟨_, rfl⟩
        have hx0 : x0 ≤ lo := by rw [← hlo]; omega
        rw [hmm] at hmul
        have hq0 : wrap64 (((y0 : Int) + j) * Wi) = mm := by rw [hmm]; exact IntWalk.wrap64_in _ (by omega)
        have hq1 : IntKind.i64.wrap (mm + x0) = mm + x0 := IntWalk.i64_in _ (by omega)
        have hq2 : IntKind.i64.wrap (mm + ((x0 : Int) + n)) = mm + ((x0 : Int) + n) := IntWalk.i64_in _ (by omega)
        have hsl : ∀ u : World, (Instr.slice 24 (.slice (some ⟨k, 0, none⟩) bs.length c) (some (.int .i64 (mm + x0))) (some (.int .i64 (mm + ((x0 : Int) + n)))) none).run Try.prog u = .ok (.slice (some ⟨k, lo, none⟩) n (c - lo)) u := fun u => by
          rw [run_sl_lh u k 0 bs.length c lo (lo + n) _ _ (by omega) (by omega) (by omega) (by omega) (by omega), Nat.zero_add, Nat.add_sub_cancel_left]
        have HLO := Lib.hid hlo
        have HCJ := Lib.hid (fun nq => HCL.out (wr.drewN nq) j hlt (HT.out.drewN nq) (HJ.out.drewN nq))
        rw [hlo] at HCJ
        clear hlo hmul hmm hWi hGB hfit hx0
        go_wp2_with fail
        refine wp_region_drew_tail 17 (by kernel_rfl) (by kernel_rfl) ?_
        simp only [List.take_succ_cons, List.take_zero, List.drop_succ_cons, List.drop_zero]
        repeat (go_big_quiet_step (fail))
        refine wpQuiet_nil ?_
        rintro _ ⟨nq, rfl⟩
        go_wp2_with (first | ((with_reducible refine (HCJ.out nq).mono ?_); rintro e w3 ⟨rfl, hB3, ht3⟩; have HB3 := Lib.hid hB3; have HT3 := Lib.hid (((Turn.refl wr k none).drewN nq).trans ht3 (.inl rfl)); clear hB3 ht3))
        go_roundw
        case rel =>
          have hkx := HC.out.byt.lt
          exact ⟨j + 1, by omega, by push_cast; go_num, Lib.hid (by rw [boxG, HLO.out]; exact HB3.out), Lib.hid (HT.out.trans HT3.out (.inl rfl)), Lib.hid (HT3.out.blk HX.out (by omega) (fun e => by cases e)), Lib.hid (HT3.out.blk HR.out (by omega) (fun e => by cases e))⟩
        case measure => simp [intOf]; omega
      · obtain rfl : j = m := by omega
        have z0 := HR.out.cell 0
        have z1 := HR.out.cell 1
        have z2 := HR.out.cell 2
        have z3 := HR.out.cell 3
        have y0' := HR.out.frozen 0
        have y1' := HR.out.frozen 1
        have y2' := HR.out.frozen 2
        have y3' := HR.out.frozen 3
        simp at z0 z1 z2 z3
        go_wp2
        refine bodyPost_ret (v := .tuple #[.agg #[.int .i64 x0, .int .i64 y0, .int .i64 ((x0 : Int) + n), .int .i64 ((y0 : Int) + j)], .int .i64 0]) ?_ rfl ⟨rfl, ?_, ?_⟩
        · simp [results, Try.results60, go_sem, *]
        all_goals
          have hT4 := (((HT.out.setNew (p := ⟨w.heap.size + 1, 0, none⟩) (Nat.le_succ _) (.int .i64 x0)).setNew (p := ⟨w.heap.size + 1, 1, none⟩) (Nat.le_succ _) (.int .i64 y0)).setNew (p := ⟨w.heap.size + 1, 2, none⟩) (Nat.le_succ _) (.int .i64 ((x0 : Int) + n))).setNew (p := ⟨w.heap.size + 1, 3, none⟩) (Nat.le_succ _) (.int .i64 ((y0 : Int) + j))
        · refine HC.out.bytes hT4 ?_ (boxG_len _ _ _ _ _ _)
          have hne : k ≠ w.heap.size + 1 := by omega
          exact (((HJ.out.far (p := ⟨w.heap.size + 1, 0, none⟩) hne _).far (p := ⟨w.heap.size + 1, 1, none⟩) hne _).far (p := ⟨w.heap.size + 1, 2, none⟩) hne _).far (p := ⟨w.heap.size + 1, 3, none⟩) hne _
        · exact hT4

end Go.Proofs.Ytdapakoicegdoaa
