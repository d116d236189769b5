/-
  (*Canvas).Fill that fills.
-/
import Derived.Test.YtdapakoicegdoaaCvX
import Derived.Test.YtdapakoicegdoaaCvJ
namespace Go.Proofs.Ytdapakoicegdoaa
open Go.RowKit Go.Shelf

theorem repeat_at (w : World) (N n : Nat) (c : Int) (e : N = w.heap.size) (h1 : 1 ≤ n) (h2 : n ≤ 16777216) :
    Calls Try.prog 56 #[.slice (some ⟨N, 0, none⟩) 1 1, .int .i64 n] (w.alloc (.cells #[.int .u8 c] 5)) fun e w' =>
      ∃ g, e = .returned (.slice (some ⟨g, 0, none⟩) n n) ∧ w.heap.size + 1 ≤ g ∧ Blk w' g 5 (List.replicate n (.int .u8 c)) ∧ Below w.heap.size w w' := by
  subst e
  exact repeat_new w n c h1 h2

set_option maxRecDepth 20000 in
set_option maxHeartbeats 4000000 in
theorem Fill_ok {w : World} {g k W H c : Nat} {bs : List UInt8} {b0 b1 b2 b3 col : Int} (h : Cv 102 w g k W H c bs) (hm : bB b0 b1 b2 b3 = true) (hc : byteB col = true) {x0 y0 n m : Nat} (hM : MeetN W H ⟨b0, b1, b2, b3⟩ x0 y0 n m) :
    Calls Try.prog 31 #[.pointer (some ⟨g, 0, none⟩), .agg #[.int .i64 b0, .int .i64 b1, .int .i64 b2, .int .i64 b3], .int .i64 col] w fun e w' =>
      e = .returned (.tuple #[boxA ⟨x0, y0, (x0 : Int) + n, (y0 : Int) + m⟩, .int .i64 0]) ∧ Cv 102 w' g k W H c (boxG (fun _ _ _ => byt col) bs (y0 * W + x0) W n m) ∧ Turn w w' k none := by
  have KB := fun w => isByte_new w col
  have KM := fun w => MayBox_any b0 b1 b2 b3 w
  rw [hm] at KM; rw [hc] at KB
  have hcr := byteB_true.1 hc
  have KR := Lib.hid (fun w N e => repeat_at w N W col e h.w1.1 (by have := h.w1.2; omega))
  have hconv : IntKind.u8.wrap col = col := by rw [IntKind.wrap_u8]; omega
  replace KB := Lib.hid KB
  replace KM := Lib.hid KM
  have hgl := h.blk.lt
  have hkl := h.byt.lt
  have HB0 : Hid (Bel w.heap.size w ((w.alloc (.cells #[.int .i64 b0, .int .i64 b1, .int .i64 b2, .int .i64 b3] 23)).alloc (.cells #[.int .i64 0, .int .i64 0, .int .i64 0, .int .i64 0] 23))) := Lib.hid (bel_alloc (bel_alloc bel_refl))
  have HX4 : Hid (Blk ((w.alloc (.cells #[.int .i64 b0, .int .i64 b1, .int .i64 b2, .int .i64 b3] 23)).alloc (.cells #[.int .i64 0, .int .i64 0, .int .i64 0, .int .i64 0] 23)) w.heap.size 23 [.int .i64 b0, .int .i64 b1, .int .i64 b2, .int .i64 b3]) :=
    Lib.hid ((Blk.new w 23 [.int .i64 b0, .int .i64 b1, .int .i64 b2, .int .i64 b3]).alloc _)
  have HX7 : Hid (Blk ((w.alloc (.cells #[.int .i64 b0, .int .i64 b1, .int .i64 b2, .int .i64 b3] 23)).alloc (.cells #[.int .i64 0, .int .i64 0, .int .i64 0, .int .i64 0] 23)) (w.heap.size + 1) 23 [.int .i64 0, .int .i64 0, .int .i64 0, .int .i64 0]) :=
    Lib.hid (Blk.newAt (n := w.heap.size + 1) (w.alloc (.cells #[.int .i64 b0, .int .i64 b1, .int .i64 b2, .int .i64 b3] 23)) 23 [.int .i64 0, .int .i64 0, .int .i64 0, .int .i64 0] (by simp))
  have HH := Lib.hid h
  have HMN := Lib.hid hM
  have HSB := Lib.hid hm
  have HCC := Lib.hid hc
  clear h hM hm hc
  go_enter Try.func31, Try.ntmps31
  go_wp2_with (first
    | (go_at_call 73; (with_reducible refine (KM.out _).mono ?_); rintro e w1 ⟨rfl, hb1⟩
       have H1 := Lib.hid (bel_alloc (o := .cells #[.int .i64 col] 3) (bel_call hb1 HB0.out))
       have HX41 := Lib.hid ((HX4.out.keepB hb1).alloc (.cells #[.int .i64 col] 3))
       have HX71 := Lib.hid ((HX7.out.keepB hb1).alloc (.cells #[.int .i64 col] 3))
       have HH1 := Lib.hid ((HH.out.keep HB0.out.below).keep hb1)
       have g0 := HH1.out.blk.cell 0
       have hg1 := HH1.out.blk.lt
       simp at g0
       clear hb1)
    | (go_at_call 55; (with_reducible refine (KB.out _).mono ?_); rintro e w2 ⟨rfl, rfl⟩)
    | (go_at_call 56; (with_reducible refine (KR.out _ _ ?_).mono ?_); (· simp); rintro e w3 ⟨lb, rfl, hlb, hB3, hb3⟩
       have H3 := Lib.hid (bel_call hb3 H1.out)
       have HX43 := Lib.hid (HX41.out.keepB hb3)
       have HX73 := Lib.hid (HX71.out.keepB hb3)
       have HL3 := Lib.hid hB3
       have q0 := HX43.out.cell 0
       have q1 := HX43.out.cell 1
       have q2 := HX43.out.cell 2
       have q3 := HX43.out.cell 3
       have hql := HX43.out.lt
       simp at q0 q1 q2 q3
       clear hB3 hb3))
  obtain ⟨W5, hW5⟩ : ∃ W5, w3.alloc (.cells #[.slice (some ⟨lb, 0, none⟩) W W] 24) = W5 := ⟨_, rfl⟩
  have hY8 : Blk W5 w3.heap.size 24 [.slice (some ⟨lb, 0, none⟩) W W] := by rw [← hW5]; exact Blk.new w3 24 [.slice (some ⟨lb, 0, none⟩) W W]
  have hb5 : Below w3.heap.size w3 W5 := by rw [← hW5]; exact (bel_alloc bel_refl).below
  have h5 := bel_call hb5 H3.out
  have hYL := HL3.out.keepB hb5
  rw [← byteV_byt HCC.out] at hYL
  have hY7 := HX73.out.keepB hb5
  have hcv5 := HH.out.keep h5.below
  have hz3 := H3.out.le
  rw [World.size_alloc] at hlb
  have hzl : w.heap.size ≤ lb := by have := H1.out.le; rw [World.size_alloc] at this; omega
  rw [hW5]
  refine (rows_any hcv5 ⟨b0, b1, b2, b3⟩ HSB.out 74 #[.pointer (some ⟨w3.heap.size, 0, none⟩)]
    (enters_of Try.func74 (by kernel_rfl) rfl) (fun _ _ _ => byt col) HMN.out ?_).mono ?_
  · intro wr j hj ht hB
    have hfit := row_fits HH.out HMN.out.xw HMN.out.yh hj
    have hlen := boxG_len (fun _ _ _ => byt col) bs (y0 * W + x0) W n j
    have hxw := HMN.out.xw
    exact fill1 (lo := y0 * W + x0 + j * W) (x := x0) (y := (y0 : Int) + j) (cc := c - (y0 * W + x0 + j * W)) hB (by omega) (by omega) (ht.blk hY8 (by omega) (fun e => by cases e)) (ht.blk hYL (by omega) (fun e => by cases e))
  · rintro e w6 ⟨rfl, hcv6, ht6⟩
    have hZ7 := ht6.blk hY7 (by omega) (fun e => by cases e)
    have z0 := hZ7.cell 0
    have z1 := hZ7.cell 1
    have z2 := hZ7.cell 2
    have z3 := hZ7.cell 3
    have f0 := hZ7.frozen 0
    have f1 := hZ7.frozen 1
    have f2 := hZ7.frozen 2
    have f3 := hZ7.frozen 3
    simp at z0 z1 z2 z3
    have HC6 := Lib.hid hcv6
    have HT6 := Lib.hid ((Turn.of_below (g := k) (row := none) h5.below).trans ht6 (.inl rfl))
    clear hcv6 ht6 hZ7 hY8 hYL hY7 hb5 h5 hcv5 hW5
    unfold boxA
    go_wp2
    refine bodyPost_ret (v := .tuple #[.agg #[.int .i64 x0, .int .i64 y0, .int .i64 ((x0 : Int) + n), .int .i64 ((y0 : Int) + m)], .int .i64 0]) ?_ rfl ⟨rfl, ?_, ?_⟩
    · simp [results, Try.results31, go_sem, *]
    all_goals
      have hT4 := (((HT6.out.setNew (p := ⟨w.heap.size + 1, 0, none⟩) (Nat.le_add_right _ 1) (.int .i64 x0)).setNew (p := ⟨w.heap.size + 1, 1, none⟩) (Nat.le_add_right _ 1) (.int .i64 y0)).setNew (p := ⟨w.heap.size + 1, 2, none⟩) (Nat.le_add_right _ 1) (.int .i64 ((x0 : Int) + n))).setNew (p := ⟨w.heap.size + 1, 3, none⟩) (Nat.le_add_right _ 1) (.int .i64 ((y0 : Int) + m))
    · refine HH.out.bytes hT4 ?_ (boxG_len _ _ _ _ _ _)
      have hne : k ≠ w.heap.size + 1 := by omega
      exact (((HC6.out.byt.far (p := ⟨w.heap.size + 1, 0, none⟩) hne _).far (p := ⟨w.heap.size + 1, 1, none⟩) hne _).far (p := ⟨w.heap.size + 1, 2, none⟩) hne _).far (p := ⟨w.heap.size + 1, 3, none⟩) hne _
    · exact hT4

end Go.Proofs.Ytdapakoicegdoaa
