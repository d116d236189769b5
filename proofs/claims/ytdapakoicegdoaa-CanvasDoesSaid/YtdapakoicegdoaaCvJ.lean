/-
  (*Canvas).Blend.
-/
import Derived.Test.YtdapakoicegdoaaCvI
import Derived.Test.YtdapakoicegdoaaLs
import Derived.Shelf.Abstract
namespace Go.Proofs.Ytdapakoicegdoaa
open Go.RowKit Go.Shelf

/-- A mask's box, further on. -/
def shB (a b c d x y : Int) : Bx := if eq4 a b c d 0 0 0 0 = true then ⟨0, 0, 0, 0⟩ else ⟨a + x, b + y, c + x, d + y⟩
/-- How row j of the box turns bytes. -/
def blF (c : Int) (ms : List UInt8) (b : Bx) (wd : Int) (x0 y0 : Nat) (j : Nat) : Nat → UInt8 → UInt8 := blendF c ms ((((y0 : Int) + j) - b.y0) * wd + x0 - b.x0).toNat
theorem maskE_ok {a b c d n : Int} (h : maskE a b c d n = 0) : (a = 0 ∧ b = 0 ∧ c = 0 ∧ d = 0 ∧ n = 0) ∨ (eq4 a b c d 0 0 0 0 = false ∧ cellE a b c d = 0 ∧ n = (c - a) * (d - b)) := by
  unfold maskE at h
  rcases Bool.eq_false_or_eq_true (eq4 a b c d 0 0 0 0) with h4 | h4
  · obtain ⟨rfl, rfl, rfl, rfl⟩ := eq4_true.1 h4
    rw [if_pos h4] at h
    by_cases hn : n = 0
    · exact .inl ⟨rfl, rfl, rfl, rfl, hn⟩
    · rw [if_neg hn] at h; cases h
  · rw [if_neg (by rw [h4]; decide)] at h
    by_cases hh : cellE a b c d = 0 ∧ n = (c - a) * (d - b)
    · exact .inr ⟨h4, hh.1, hh.2⟩
    · rw [if_neg hh] at h; cases h
theorem shift_ok {a b c d n x y : Int} (h : maskE a b c d n = 0) (hx : farB x = false) (hy : farB y = false) : ShiftE ⟨a, b, c, d⟩ x y = (shB a b c d x y, 0) ∧ bB (shB a b c d x y).x0 (shB a b c d x y).y0 (shB a b c d x y).x1 (shB a b c d x y).y1 = true := by
  have hx := farB_false.1 hx
  have hy := farB_false.1 hy
  have mx : mayB x = true := mayB_true.2 (by omega)
  have my : mayB y = true := mayB_true.2 (by omega)
  rcases maskE_ok h with ⟨rfl, rfl, rfl, rfl, _⟩ | ⟨h4, hc, _⟩
  · have e : shB 0 0 0 0 x y = ⟨0, 0, 0, 0⟩ := if_pos (eq4_self 0 0 0 0)
    rw [e]
    refine ⟨?_, by decide⟩
    simp only [ShiftE, shiftF, mx, my]
    rfl
  · obtain ⟨g1, g2, g3, g4, g5, g6, g7, _⟩ := cellE_zero.1 hc
    have e : shB a b c d x y = ⟨a + x, b + y, c + x, d + y⟩ := by simp [shB, h4]
    have hb : bB (a + x) (b + y) (c + x) (d + y) = true := by simp only [bB, mayB]; simp; omega
    rw [e]
    refine ⟨?_, hb⟩
    simp only [ShiftE, shiftF, mx, my, g1, hb, emptyB_false.2 ⟨g2, g3⟩]
    rfl
/-- What Blend wants of a row: its bytes of the mask. -/
theorem row_mask {a b c d L x y : Int} (h : maskE a b c d L = 0) (hx : farB x = false) (hy : farB y = false) {W H x0 y0 n m j : Nat} (hM : MeetN W H (shB a b c d x y) x0 y0 n m) (hj : j < m) :
    ∃ q : Nat, (((y0 : Int) + j) - (shB a b c d x y).y0) * (c - a) + x0 - (shB a b c d x y).x0 = q ∧ (q : Int) + n ≤ L ∧ L ≤ 4194304 ∧ 0 ≤ ((y0 : Int) + j) - (shB a b c d x y).y0 ∧ ((y0 : Int) + j) - (shB a b c d x y).y0 ≤ 32768 ∧
      -1100000 ≤ (shB a b c d x y).x0 ∧ (shB a b c d x y).x0 ≤ 1100000 := by
  obtain ⟨l1, l2, l3, l4⟩ := hM.lo (by omega)
  have hx := farB_false.1 hx
  have hy := farB_false.1 hy
  rcases maskE_ok h with ⟨rfl, rfl, rfl, rfl, _⟩ | ⟨h4, hc, hn⟩
  · have e : shB 0 0 0 0 x y = ⟨0, 0, 0, 0⟩ := if_pos (eq4_self 0 0 0 0)
    rw [e] at l3 l4
    simp only at l3 l4
    omega
  · obtain ⟨g1, g2, g3, g4, g5, g6, g7, g8⟩ := cellE_zero.1 hc
    have e : shB a b c d x y = ⟨a + x, b + y, c + x, d + y⟩ := by simp [shB, h4]
    rw [e] at l1 l2 l3 l4 ⊢
    simp only at l1 l2 l3 l4 ⊢
    have h1 : ((y0 : Int) + j - (b + y)) * (c - a) ≤ (d - b - 1) * (c - a) := Int.mul_le_mul_of_nonneg_right (by omega) (by omega)
    have h2 : 0 ≤ ((y0 : Int) + j - (b + y)) * (c - a) := Int.mul_nonneg (by omega) (by omega)
    have h3 : (d - b - 1) * (c - a) = L - (c - a) := by rw [hn, Int.sub_mul, Int.one_mul, Int.mul_comm]
    obtain ⟨q, hq⟩ := Int.eq_ofNat_of_zero_le (show 0 ≤ ((y0 : Int) + j - (b + y)) * (c - a) + x0 - (a + x) by omega)
    exact ⟨q, hq, by omega, by omega, by omega, by omega, by omega, by omega⟩

set_option maxRecDepth 20000 in
set_option maxHeartbeats 4000000 in
theorem Blend_ok {w : World} {g k W H c : Nat} {bs ms : List UInt8} {Am : Option Addr} {L cm : Nat} {m0 m1 m2 m3 x y col : Int} (h : Cv 102 w g k W H c bs) (hm : maskE m0 m1 m2 m3 L = 0) (hms : Bw w Am ms cm) (hL : ms.length = L)
    (hne : 0 < ms.length → ∀ b, rowOf Am = some b → b ≠ k) (hx : farB x = false) (hy : farB y = false) (hc : byteB col = true) {x0 y0 n m : Nat} (hM : MeetN W H (shB m0 m1 m2 m3 x y) x0 y0 n m) :
    Calls Try.prog 16 #[.pointer (some ⟨g, 0, none⟩), .agg #[.int .i64 m0, .int .i64 m1, .int .i64 m2, .int .i64 m3, .slice Am L cm], .int .i64 x, .int .i64 y, .int .i64 col] w fun e w' =>
      e = .returned (.tuple #[boxA ⟨x0, y0, (x0 : Int) + n, (y0 : Int) + m⟩, .int .i64 0]) ∧ Cv 102 w' g k W H c (boxG (blF col ms (shB m0 m1 m2 m3 x y) (m2 - m0) x0 y0) bs (y0 * W + x0) W n m) ∧ Turn w w' k none := by
  obtain ⟨hs, hsb⟩ := shift_ok hm hx hy
  have hLb : (L : Int) ≤ 140737488355328 := by have := hms.small; omega
  have KC := fun w => Check_any m0 m1 m2 m3 Am L cm (by omega) w
  have KB := fun w => isByte_new w col
  have KX := fun w => cfar_any x w
  have KY := fun w => cfar_any y w
  have KS := fun w => Shift_any m0 m1 m2 m3 x y w
  rw [hm] at KC; rw [hc] at KB; rw [hx] at KX; rw [hy] at KY
  simp only [hs] at KS
  have hrm := fun j (hj : j < m) => row_mask hm hx hy hM hj
  generalize hb : shB m0 m1 m2 m3 x y = b at *
  obtain ⟨b0, b1, b2, b3⟩ := b
  simp only at KS hsb hrm
  have hwd : -32768 ≤ m2 - m0 ∧ m2 - m0 ≤ 32768 := by
    rcases maskE_ok hm with ⟨rfl, rfl, rfl, rfl, _⟩ | ⟨_, hc, _⟩
    · omega
    · have := cellE_zero.1 hc; omega
  have hwb : b2 - b0 = m2 - m0 ∧ -1100000 ≤ b0 ∧ b0 ≤ 1100000 := by
    have gx := farB_false.1 hx
    rcases maskE_ok hm with ⟨rfl, rfl, rfl, rfl, _⟩ | ⟨h4, hc, _⟩
    · rw [shB, if_pos (eq4_self 0 0 0 0)] at hb; injection hb with e0 e1 e2 e3; omega
    · rw [shB, if_neg (by rw [h4]; decide)] at hb; injection hb with e0 e1 e2 e3
      have := cellE_zero.1 hc; omega
  have hwd2 : -32768 ≤ b2 - b0 ∧ b2 - b0 ≤ 32768 := by omega
  have HWD := Lib.hid hwb.1
  have hb0r := hwb.2
  clear hwb
  replace KC := Lib.hid KC
  replace KB := Lib.hid KB
  replace KX := Lib.hid KX
  replace KY := Lib.hid KY
  replace KS := Lib.hid KS
  have hgl := h.blk.lt
  have hkl := h.byt.lt
  obtain ⟨W0, hW0⟩ : ∃ W0, ((w.alloc (.cells #[.int .i64 m0, .int .i64 m1, .int .i64 m2, .int .i64 m3, .slice Am L cm] 26)).alloc (.cells #[.int .i64 col] 3)).alloc (.cells #[.int .i64 0, .int .i64 0, .int .i64 0, .int .i64 0] 23) = W0 := ⟨_, rfl⟩
  have hb0 : Bel w.heap.size w W0 := by rw [← hW0]; exact bel_alloc (bel_alloc (bel_alloc bel_refl))
  have hX5 : Blk W0 w.heap.size 26 [.int .i64 m0, .int .i64 m1, .int .i64 m2, .int .i64 m3, .slice Am L cm] := by rw [← hW0]; exact ((Blk.new w 26 [.int .i64 m0, .int .i64 m1, .int .i64 m2, .int .i64 m3, .slice Am L cm]).alloc _).alloc _
  have hX6 : Blk W0 (w.heap.size + 1) 3 [.int .i64 col] := by rw [← hW0]; exact (Blk.newAt _ 3 [.int .i64 col] (by simp)).alloc _
  have hX7 : Blk W0 (w.heap.size + 1 + 1) 23 [.int .i64 0, .int .i64 0, .int .i64 0, .int .i64 0] := by rw [← hW0]; exact Blk.newAt _ 23 [.int .i64 0, .int .i64 0, .int .i64 0, .int .i64 0] (by simp)
  have hz0 : W0.heap.size = w.heap.size + 1 + 1 + 1 := by rw [← hW0]; simp
  have k0 := hX5.cell 0
  have k1 := hX5.cell 1
  have k2 := hX5.cell 2
  have k3 := hX5.cell 3
  have k4 := hX5.cell 4
  simp at k0 k1 k2 k3 k4
  have H0 := Lib.hid hb0
  have HX5 := Lib.hid hX5
  have HX6 := Lib.hid hX6
  have HX7 := Lib.hid hX7
  have HZ0 := Lib.hid hz0
  have HH := Lib.hid h
  have HMS := Lib.hid hms
  have HMN := Lib.hid hM
  have HRM := Lib.hid hrm
  have HSB := Lib.hid hsb
  have HLL := Lib.hid hL
  have HNE := Lib.hid hne
  have HCC := Lib.hid (byteB_true.1 hc)
  clear hs hb hrm hx hy hc hm h hms hL hne hM hb0 hX5 hX6 hX7 hz0 hsb
  go_enter Try.func16, Try.ntmps16
  go_wp2_with (first
    | (go_at_call 57; (with_reducible refine (KC.out _).mono ?_); rintro e w1 ⟨rfl, hb1⟩
       have H1 := Lib.hid (bel_call hb1 H0.out)
       have HX51 := Lib.hid (HX5.out.keepB hb1)
       have HX61 := Lib.hid (HX6.out.keepB hb1)
       have HX71 := Lib.hid (HX7.out.keepB hb1)
       have j1 : w1.cell? ⟨w.heap.size + 1, 0, none⟩ = some (.int .i64 col) := HX61.out.cell 0
       clear hb1)
    | (go_at_call 55; (with_reducible refine (KB.out _).mono ?_); rintro e w2 ⟨rfl, rfl⟩
       have HX52 := Lib.hid (HX51.out.alloc (.cells #[.int .i64 col] 3))
       have l0 := HX52.out.cell 0
       have l1 := HX52.out.cell 1
       have l2 := HX52.out.cell 2
       have l3 := HX52.out.cell 3
       simp at l0 l1 l2 l3)
    | (go_at_call 58; (with_reducible refine (KX.out _).mono ?_); rintro e w3 ⟨rfl, rfl⟩)
    | (go_at_call 58; (with_reducible refine (KY.out _).mono ?_); rintro e w3 ⟨rfl, rfl⟩)
    | (go_at_call 59; (with_reducible refine (KS.out _).mono ?_); rintro e w4 ⟨rfl, hb4⟩
       have H4 := Lib.hid (bel_call hb4 (bel_alloc (o := .cells #[.int .i64 col] 3) H1.out))
       have HX54 := Lib.hid (HX52.out.keepB hb4)
       have HX64 := Lib.hid ((HX61.out.alloc (.cells #[.int .i64 col] 3)).keepB hb4)
       have HX74 := Lib.hid ((HX71.out.alloc (.cells #[.int .i64 col] 3)).keepB hb4)
       clear hb4))
  obtain ⟨W5, hW5⟩ : ∃ W5, (w4.alloc (.cells #[.int .i64 b0, .int .i64 b1, .int .i64 b2, .int .i64 b3] 23)).alloc (.cells #[.int .i64 (b2 - b0)] 3) = W5 := ⟨_, rfl⟩
  have hY3 : Blk W5 w4.heap.size 23 [.int .i64 b0, .int .i64 b1, .int .i64 b2, .int .i64 b3] := by rw [← hW5]; exact (Blk.new w4 23 [.int .i64 b0, .int .i64 b1, .int .i64 b2, .int .i64 b3]).alloc _
  have hY4 : Blk W5 (w4.heap.size + 1) 3 [.int .i64 (b2 - b0)] := by rw [← hW5]; exact Blk.newAt _ 3 [.int .i64 (b2 - b0)] (by simp)
  have hb5 : Below w4.heap.size w4 W5 := by rw [← hW5]; exact (bel_alloc (bel_alloc bel_refl)).below
  have h5 := bel_call hb5 H4.out
  have hY5 := HX54.out.keepB hb5
  have hY6 := HX64.out.keepB hb5
  have hY7 := HX74.out.keepB hb5
  have hcv5 := HH.out.keep h5.below
  have hz4 := H4.out.le
  rw [hW5]
  refine (rows_any hcv5 ⟨b0, b1, b2, b3⟩ HSB.out 61 #[.pointer (some ⟨w4.heap.size, 0, none⟩), .pointer (some ⟨w4.heap.size + 1, 0, none⟩), .pointer (some ⟨w.heap.size, 0, none⟩), .pointer (some ⟨w.heap.size + 1, 0, none⟩)]
    (enters_of Try.func61 (by kernel_rfl) rfl) (blF col ms ⟨b0, b1, b2, b3⟩ (m2 - m0) x0 y0) HMN.out ?_).mono ?_
  · intro wr j hj ht hB
    obtain ⟨q, hq, hqn, hL2, hy1, hy2, hx1, hx2⟩ := HRM.out j hj
    have hn1 := HMN.out.pos (by omega)
    have hfit := row_fits HH.out HMN.out.xw HMN.out.yh hj
    have hcap := HH.out.cap
    have hbd := HH.out.bd.1
    have hlen := boxG_len (blF col ms ⟨b0, b1, b2, b3⟩ (m2 - m0) x0 y0) bs (y0 * W + x0) W n j
    have hLL := HLL.out
    have hxw := HMN.out.xw
    have hww := HH.out.w1
    obtain ⟨mb, mo, rfl, hmb, _⟩ := HMS.out.sl.2 0 (by omega)
    have hms5 := HMS.out.keep h5.below
    have hmne : mb ≠ k := HNE.out (by omega) mb rfl
    have hsl : SlAt wr (some ⟨mb, mo, none⟩) L (ms.map byteV) := by
      rw [← hLL]
      refine ⟨hms5.sl.1, fun i hi => ?_⟩
      obtain ⟨b', o', he, hb', hc'⟩ := hms5.sl.2 i hi
      injection he with he
      injection he with e1 e2
      subst e1 e2
      exact ⟨mb, mo, rfl, Nat.lt_of_lt_of_le hb' ht.size, by rw [World.cell?_of_block (w := W5) (w' := wr) (ht.block mb hb' hmne (fun e => by cases e))]; exact hc'⟩
    have hk : ∀ b, w.heap.size ≤ b → b ≠ k := fun b hb => by omega
    have := blend1 (lo := y0 * W + x0 + j * W) (x := x0) (y := (y0 : Int) + j) (cc := c - (y0 * W + x0 + j * W)) (q := q) hB (by omega) hn1 (by omega) (by omega) (ht.blk hY3 (hk _ hz4) (fun e => by cases e)) (ht.blk hY4 (hk _ (by omega)) (fun e => by cases e))
      (ht.blk hY5 (hk _ (Nat.le_refl _)) (fun e => by cases e)) (ht.blk hY6 (hk _ (by omega)) (fun e => by cases e)) hsl hmne (hk _ (by omega)) (by have := HMS.out.cap; omega) (by omega) (by rw [HWD.out]; exact hq) (by omega) HCC.out (by omega) (by omega) (by omega)
    have hF : blF col ms ⟨b0, b1, b2, b3⟩ (m2 - m0) x0 y0 j = blendF col ms q := by
      unfold blF
      simp only
      rw [hq, Int.toNat_natCast]
    rw [hF]
    exact this
  · rintro e w6 ⟨rfl, hcv6, ht6⟩
    have hZ7 := ht6.blk hY7 (by omega) (fun e => by cases e)
    have z0 := hZ7.cell 0
    have z1 := hZ7.cell 1
    have z2 := hZ7.cell 2
    have z3 := hZ7.cell 3
    have f0 := hZ7.frozen 0
    have f1 := hZ7.frozen 1
    have f2 := hZ7.frozen 2
    have f3 := hZ7.frozen 3
    simp at z0 z1 z2 z3
    have HC6 := Lib.hid hcv6
    have HT6 := Lib.hid ((Turn.of_below (g := k) (row := none) h5.below).trans ht6 (.inl rfl))
    clear hcv6 ht6 hZ7 hY3 hY4 hY5 hY6 hY7 hb5 h5 hcv5 hW5
    unfold boxA
    go_wp2
    refine bodyPost_ret (v := .tuple #[.agg #[.int .i64 x0, .int .i64 y0, .int .i64 ((x0 : Int) + n), .int .i64 ((y0 : Int) + m)], .int .i64 0]) ?_ rfl ⟨rfl, ?_, ?_⟩
    · simp [results, Try.results16, go_sem, *]
    all_goals
      have hT4 := (((HT6.out.setNew (p := ⟨w.heap.size + 1 + 1, 0, none⟩) (Nat.le_add_right _ 2) (.int .i64 x0)).setNew (p := ⟨w.heap.size + 1 + 1, 1, none⟩) (Nat.le_add_right _ 2) (.int .i64 y0)).setNew (p := ⟨w.heap.size + 1 + 1, 2, none⟩) (Nat.le_add_right _ 2) (.int .i64 ((x0 : Int) + n))).setNew (p := ⟨w.heap.size + 1 + 1, 3, none⟩) (Nat.le_add_right _ 2) (.int .i64 ((y0 : Int) + m))
    · refine HH.out.bytes hT4 ?_ (boxG_len _ _ _ _ _ _)
      have hne : k ≠ w.heap.size + 1 + 1 := by omega
      exact (((HC6.out.byt.far (p := ⟨w.heap.size + 1 + 1, 0, none⟩) hne _).far (p := ⟨w.heap.size + 1 + 1, 1, none⟩) hne _).far (p := ⟨w.heap.size + 1 + 1, 2, none⟩) hne _).far (p := ⟨w.heap.size + 1 + 1, 3, none⟩) hne _
    · exact hT4

end Go.Proofs.Ytdapakoicegdoaa
