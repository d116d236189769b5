/-
  Layer 25: what must come of every cache.
-/
import Derived.Test.YtakgeeopfclmoaaLrS
namespace Go.Proofs.Ytakgeeopfclmoaa
open Go.RowKit Go.Maps

instance : Coe Nat Bz := ⟨bz⟩
def kx (x : Int) : K4 := ⟨x, 0, 0, 0⟩
def mk30 (bs : List UInt8) : Ms := ⟨⟨0, 0, 30, 1⟩, bs⟩
theorem kx_ne {x y : Int} (h : x ≠ y) : kx x ≠ kx y := fun e => h (by injection e)
theorem in64_0 : in64 0 := by unfold in64; decide
theorem kx_wf (x : Int) (h : in64 x) : (kx x).wf := ⟨h, in64_0, in64_0, in64_0⟩
theorem cost30 {bs : List UInt8} (h : bs.length = 30) : costM (mk30 bs) = 94 := by unfold costM mk30; simp [h]
theorem mask30 {bs : List UInt8} (h : bs.length = 30) : maskM (mk30 bs) = 0 := by unfold maskM mk30; simp only [h]; decide
theorem ok30 {bs : List UInt8} (h : bs.length = 30) : okP 200 (mk30 bs) = true := by unfold okP; rw [mask30 h, cost30 h]; decide
section
variable {a b c : List UInt8}
theorem live1 (ha : a.length = 30) : putM 200 (kx 1) (mk30 a) [] = [(kx 1, mk30 a)] := by
  unfold putM putL
  rw [if_pos (mask30 ha), if_neg (by rw [cost30 ha]; omega), shrinkL_fit (by simp only [dropL, List.eraseP_nil, heldL, cost30 ha]; omega)]
  rfl
theorem live2 (ha : a.length = 30) (hb : b.length = 30) : putM 200 (kx 2) (mk30 b) [(kx 1, mk30 a)] = [(kx 2, mk30 b), (kx 1, mk30 a)] := by
  have hd : dropL (kx 2) [(kx 1, mk30 a)] = [(kx 1, mk30 a)] := by simp [dropL, kx]
  unfold putM putL
  rw [if_pos (mask30 hb), if_neg (by rw [cost30 hb]; omega), hd, shrinkL_fit (by simp only [heldL, cost30 ha, cost30 hb]; omega)]
theorem live3 : getL (kx 1) [(kx 2, mk30 b), (kx 1, mk30 a)] = [(kx 1, mk30 a), (kx 2, mk30 b)] := by simp [getL, findL, dropL, kx]
theorem live4 (ha : a.length = 30) (hb : b.length = 30) (hc : c.length = 30) : putM 200 (kx 3) (mk30 c) [(kx 1, mk30 a), (kx 2, mk30 b)] = [(kx 3, mk30 c), (kx 1, mk30 a)] := by
  have hd : dropL (kx 3) [(kx 1, mk30 a), (kx 2, mk30 b)] = [(kx 1, mk30 a), (kx 2, mk30 b)] := by simp [dropL, kx]
  unfold putM putL
  rw [if_pos (mask30 hc), if_neg (by rw [cost30 hc]; omega), hd, show [(kx 3, mk30 c), (kx 1, mk30 a), (kx 2, mk30 b)] = [(kx 3, mk30 c), (kx 1, mk30 a)] ++ [(kx 2, mk30 b)] from rfl,
    shrinkL_snoc (by simp only [List.cons_append, List.nil_append, heldL, cost30 ha, cost30 hb, cost30 hc]; omega), shrinkL_fit (by simp only [heldL, cost30 ha, cost30 hc]; omega)]
theorem live5 : getL (kx 1) [(kx 3, mk30 c), (kx 1, mk30 a)] = [(kx 1, mk30 a), (kx 3, mk30 c)] := by simp [getL, findL, dropL, kx]
theorem live6 : getL (kx 2) [(kx 1, mk30 a), (kx 3, mk30 c)] = [(kx 1, mk30 a), (kx 3, mk30 c)] := by simp [getL, findL, kx]
end
section
variable {B g : Nat} {w : World} {L : List En}
theorem lmask (w : World) (b : UInt8) (x : Int) (hx : x = b.toNat) : Calls Try.prog 16 #[.int .i64 30, .int .u8 x] w (MaskR w 30 b) := by subst hx; exact mask_any 30 b (by omega) (by omega)
def LPut (w : World) (g B : Nat) (L : List En) (e : Ending) (w' : World) : Prop := e = .returned (.tuple #[.bool true, .int .i64 0]) ∧ LruS w' g B 200 L ∧ KeepT B w w'
theorem lput (h : LruS w g B 200 L) (x : Int) (hx : in64 x) {bs : List UInt8} (hb : bs.length = 30) {L' : List En} (hL : putM 200 (kx x) (mk30 bs) L = L') (A : Option Addr) (c : Nat) (ha : Ar B w A bs c) :
    Calls Try.prog 12 #[.pointer (some ⟨g, 0, none⟩), .agg #[.int .i64 x, .int .i64 0, .int .i64 0, .int .i64 0], .agg #[.int .i64 0, .int .i64 0, .int .i64 30, .int .i64 1, .slice A bs.length c]] w (LPut w g B L') := by
  subst hL
  refine (Put_any h (kx x) (kx_wf x hx) (mk30 bs) A c ha (fun _ h => h.elim)).mono ?_
  rintro e w' ⟨h1, h2, h3⟩
  rw [ok30 hb, mask30 hb] at h1
  exact ⟨h1, h2, h3⟩
def LGet (w : World) (g B : Nat) (a : List UInt8) (L : List En) (e : Ending) (w' : World) : Prop :=
  ∃ A c, e = .returned (.tuple #[.agg #[.int .i64 0, .int .i64 0, .int .i64 30, .int .i64 1, .slice A a.length c], .bool true]) ∧ Bu w' A a c ∧ LruS w' g B 200 L ∧ KeepT B w w'
theorem lget (h : LruS w g B 200 L) (x : Int) (hx : in64 x) {a : List UInt8} (hf : findL (kx x) L = some (kx x, mk30 a)) {L' : List En} (hL : getL (kx x) L = L') :
    Calls Try.prog 14 #[.pointer (some ⟨g, 0, none⟩), .agg #[.int .i64 x, .int .i64 0, .int .i64 0, .int .i64 0]] w (LGet w g B a L') := by
  subst hL
  refine (Get_any h (kx x) (kx_wf x hx)).mono ?_
  rintro e w' ⟨A, c, h1, h2, h3, h4⟩
  have e1 : gm (kx x) L = mk30 a := by unfold gm; rw [hf]
  have e2 : gb (kx x) L = true := by unfold gb; rw [hf]; rfl
  rw [e1, e2] at h1
  rw [e1] at h2
  exact ⟨A, c, h1, h2, h3, h4⟩
def LNot (w : World) (g B : Nat) (L : List En) (e : Ending) (w' : World) : Prop :=
  e = .returned (.tuple #[.agg #[.int .i64 0, .int .i64 0, .int .i64 0, .int .i64 0, .slice none 0 0], .bool false]) ∧ LruS w' g B 200 L ∧ KeepT B w w'
theorem lnot (h : LruS w g B 200 L) (x : Int) (hx : in64 x) (hm : kx x ∉ L.map (·.1)) :
    Calls Try.prog 14 #[.pointer (some ⟨g, 0, none⟩), .agg #[.int .i64 x, .int .i64 0, .int .i64 0, .int .i64 0]] w (LNot w g B L) := by
  refine (Get_no h.h (kx x) (kx_wf x hx) hm).mono ?_
  intro e w' hr
  unfold GetR at hr
  rw [findL_none hm] at hr
  exact ⟨hr.1, ⟨hr.2.1, h.fit, h.b0, h.b1⟩, hr.2.2⟩
def LKeys (w : World) (x : Int) (e : Ending) (w' : World) : Prop := ∃ b c, e = .returned (.slice (some ⟨b, 0, none⟩) 2 c) ∧ w'.cell? ⟨b, 0, none⟩ = some (.int .i64 x) ∧ b < w'.heap.size ∧ 2 ≤ c ∧ Below w.heap.size w w'
theorem lkeys (x y : Int) {m m' : Ms} (h : LruS w g B 200 [(kx x, m), (kx y, m')]) : Calls Try.prog 17 #[.pointer (some ⟨g, 0, none⟩)] w (LKeys w x) := by
  refine (Keys_any h.h).mono ?_
  rintro e w' ⟨A, c, rfl, hown, hb⟩
  obtain ⟨h1, ⟨h2, h3⟩ | ⟨bb, cap, cur, h2, h3, h4, h5, h6, h7, h8⟩⟩ := hown
  · simp at h3
  · injection h2 with e1 _ e3
    subst e1 e3
    have hown : w'.ownsRow w.heap.size 24 4 (.slice (some ⟨bb, 0, none⟩) 2 c) 2 [.int .i64 x, .int .i64 0, .int .i64 0, .int .i64 0, .int .i64 y, .int .i64 0, .int .i64 0, .int .i64 0] := ⟨h1, .inr ⟨bb, c, cur, rfl, h3, h4, h5, h6, h7, h8⟩⟩
    refine ⟨bb, c, rfl, ?_, (Array.getElem?_eq_some_iff.1 h4).1, h5, hb⟩
    have := hown.cells (g := bb) rfl 0 (.int .i64 x) rfl
    simpa [Addr.add] using this
theorem llen {m m' : K4 × Ms} (h : LruS w g B 200 [m, m']) : Calls Try.prog 18 #[.pointer (some ⟨g, 0, none⟩)] w fun e w' => e = .returned (.int .i64 2) ∧ w = w' := Len_any h.h
theorem lheld {k k' : K4} {a b : List UInt8} (ha : a.length = 30) (hb : b.length = 30) (h : LruS w g B 200 [(k, mk30 a), (k', mk30 b)]) : Calls Try.prog 19 #[.pointer (some ⟨g, 0, none⟩)] w fun e w' => e = .returned (.int .i64 188) ∧ w = w' := by
  have := Held_any h.h
  simp only [heldL, cost30 ha, cost30 hb] at this
  exact this
def LNew (w : World) (e : Ending) (w' : World) : Prop := ∃ g, e = .returned (.tuple #[.pointer (some ⟨g, 0, none⟩), .int .i64 0]) ∧ LruS w' g w.heap.size 200 [] ∧ Below w.heap.size w w'
theorem lnew (w : World) : Calls Try.prog 8 #[.int .i64 200] w (LNew w) := by
  refine (New_yes 200 (by decide)).mono ?_
  rintro e w' ⟨g, h1, h2, h3⟩
  exact ⟨g, h1, ⟨h2, by simp [heldL], by omega, by omega⟩, h3⟩
end

set_option maxRecDepth 20000 in
set_option maxHeartbeats 4000000 in
theorem lives_any (w : World) : Calls Try.prog 9 #[] w fun e w' => e = .returned (.bool true) ∧ Below w.heap.size w w' := by
  go_enter Try.func9, Try.ntmps9
  go_upto_region 5 with (first
      | (go_at_call 8; (with_reducible refine (lnew _).mono ?_); rintro e w1 ⟨g, rfl, h1, hb1⟩; have HS := Lib.hid h1; have HB := Lib.hid hb1; clear h1 hb1)
      | (go_at_call 8; (with_reducible refine (New_no (-1) (by decide)).mono ?_); rintro e w2 ⟨rfl, rfl⟩))
  go_upto_region 6 with (first
      | (go_at_call 16; (with_reducible refine (lmask _ 5 5 rfl).mono ?_); rintro e w2 ⟨A1, c1, a, ha, hal, rfl, hbu, hb⟩
         have HS2 := Lib.hid (HS.out.keep hb)
         have HAL := Lib.hid hal
         have HA := Lib.hid ha
         have HAR := Lib.hid (Ar.mk (B := w.heap.size) hbu.bs.bw (fun _ b e => .inr (hbu.typed b e)))
         have HB2 := Lib.hid (HB.out.trans (hb.mono HB.out.size))
         clear hal ha hbu hb)
      | (go_at_call 12; (with_reducible refine (lput HS2.out 1 (by unfold in64; decide) HAL.out (live1 HAL.out) _ _ HAR.out).mono ?_); rintro e w3 ⟨rfl, h3, hk3⟩
         have HS3 := Lib.hid h3
         have HB3 := Lib.hid (HB2.out.trans hk3.toBelow)
         clear h3 hk3))
  clear HS HB HS2 HAR HB2
  go_upto_region 7 with (first
      | (go_at_call 16; (with_reducible refine (lmask _ 6 6 rfl).mono ?_); rintro e w2' ⟨A2, c2, b, hbb, hbl, rfl, hbu, hb⟩
         have HS2 := Lib.hid (HS3.out.keep hb)
         have HBL := Lib.hid hbl
         have HAR := Lib.hid (Ar.mk (B := w.heap.size) hbu.bs.bw (fun _ b e => .inr (hbu.typed b e)))
         have HB2 := Lib.hid (HB3.out.trans (hb.mono HB3.out.size))
         clear hbl hbb hbu hb)
      | (go_at_call 12; (with_reducible refine (lput HS2.out 2 (by unfold in64; decide) HBL.out (live2 HAL.out HBL.out) _ _ HAR.out).mono ?_); rintro e w4 ⟨rfl, h3, hk3⟩
         have HS4 := Lib.hid h3
         have HB4 := Lib.hid (HB2.out.trans hk3.toBelow)
         clear h3 hk3))
  clear HS3 HB3 HS2 HAR HB2
  go_upto_region 8 with (first
      | (go_at_call 14; (with_reducible refine (lget (a := a) HS4.out 1 (by unfold in64; decide) (by simp [findL, kx]) live3).mono ?_); rintro e w5 ⟨A5, c5, rfl, hbu, h3, hk3⟩
         have HS5 := Lib.hid h3
         have HB5 := Lib.hid (HB4.out.trans hk3.toBelow)
         clear h3 hk3 hbu))
  clear HS4 HB4
  go_upto_region 9 with (first
      | (go_at_call 16; (with_reducible refine (lmask _ 7 7 rfl).mono ?_); rintro e w6 ⟨A6, c6, d, hdd, hdl, rfl, hbu, hb⟩
         have hbW : Below w5.heap.size w5 w6 := by
           refine Bel.below (bel_call hb ?_)
           repeat (first | with_reducible exact bel_refl | with_reducible apply bel_alloc | with_reducible apply bel_drewN | with_reducible apply bel_drew | (with_reducible refine bel_set ?_ ?_; rotate_left; · first | (simp; done) | (simp; omega) | omega) | with_reducible refine bel_call (by assumption) ?_)
         have HS6 := Lib.hid (HS5.out.keep hbW)
         have HDL := Lib.hid hdl
         have HAR := Lib.hid (Ar.mk (B := w.heap.size) hbu.bs.bw (fun _ b e => .inr (hbu.typed b e)))
         have HB6 := Lib.hid (HB5.out.trans (hbW.mono HB5.out.size))
         clear hdl hdd hbu hb hbW)
      | (go_at_call 12; (with_reducible refine (lput HS6.out 3 (by unfold in64; decide) HDL.out (live4 HAL.out HBL.out HDL.out) _ _ HAR.out).mono ?_); rintro e w7 ⟨rfl, h3, hk3⟩
         have HS7 := Lib.hid h3
         have HB7 := Lib.hid (HB6.out.trans hk3.toBelow)
         clear h3 hk3))
  clear HS5 HB5 HS6 HB6 HAR
  go_upto_region 10 with (first
      | (go_at_call 14; (with_reducible refine (lget (a := a) HS7.out 1 (by unfold in64; decide) (by simp [findL, kx]) live5).mono ?_); rintro e w8 ⟨A8, c8, rfl, hbu, h3, hk3⟩
         have HS8 := Lib.hid h3
         have HU8 := Lib.hid hbu
         have HB8 := Lib.hid (HB7.out.trans hk3.toBelow)
         clear h3 hk3 hbu))
  clear HS7 HB7
  go_upto_region 11 with (first
      | (go_at_call 14; (with_reducible refine (lnot (HS8.out.keep ?_) 2 (by unfold in64; decide) (by simp [kx])).mono ?_); (focus (refine Bel.below ?_; (repeat (first | with_reducible exact bel_refl | with_reducible apply bel_alloc | with_reducible apply bel_drewN | with_reducible apply bel_drew | (with_reducible refine bel_set ?_ ?_; rotate_left; · first | (simp; done) | (simp; omega) | omega) | with_reducible refine bel_call (by assumption) ?_)))); rintro e w9 ⟨rfl, h3, hk3⟩
         have hmb : Blk (w8.alloc (.cells #[.int .i64 0, .int .i64 0, .int .i64 30, .int .i64 1, .slice A8 a.length c8] 35)) w8.heap.size 35 [.int .i64 0, .int .i64 0, .int .i64 30, .int .i64 1, .slice A8 a.length c8] := Blk.newAt _ _ [_, _, _, _, _] rfl
         have HMB := Lib.hid (hk3.blk hmb (by decide))
         have HAR := Lib.hid (((Ar.mk (B := w.heap.size) HU8.out.bs.bw (fun _ b e => .inr (HU8.out.typed b e))).keepB (bel_alloc bel_refl).below).keepT hk3)
         have HS9 := Lib.hid h3
         have HB9 := Lib.hid ((bel_alloc (o := .cells #[.int .i64 0, .int .i64 0, .int .i64 30, .int .i64 1, .slice A8 a.length c8] 35) ⟨HB8.out, HB8.out.size⟩).below.trans hk3.toBelow)
         clear hmb h3 hk3))
  clear HS8 HU8 HB8
  have hal := HAL.out
  have hl1 : ((a.length : Int) == 30) = true := by rw [hal]; rfl
  have hl2 : (0 : Int) < a.length := by omega
  clear hal
  go_wp2_with (first
      | (go_at_call 17; (with_reducible refine (lkeys 1 3 (HS9.out.keep ?_)).mono ?_); (focus (refine Bel.below ?_; (repeat (first | with_reducible exact bel_refl | with_reducible apply bel_alloc | with_reducible apply bel_drewN | with_reducible apply bel_drew | (with_reducible refine bel_set ?_ ?_; rotate_left; · first | (simp; done) | (simp; omega) | omega) | with_reducible refine bel_call (by assumption) ?_)))); rintro e w10 ⟨kb, kc, rfl, hkc, hkl, hkk, hb10⟩
         have hbW : Below w9.heap.size w9 w10 := by
           refine Bel.below (bel_call hb10 ?_)
           repeat (first | with_reducible exact bel_refl | with_reducible apply bel_alloc | with_reducible apply bel_drewN | with_reducible apply bel_drew | (with_reducible refine bel_set ?_ ?_; rotate_left; · first | (simp; done) | (simp; omega) | omega) | with_reducible refine bel_call (by assumption) ?_)
         have hmb := HMB.out.keepB hbW
         have har := HAR.out.keepB hbW
         have m4 : w10.cell? ⟨w8.heap.size, 4, none⟩ = some (.slice A8 a.length c8) := hmb.cell 4
         have hml := hmb.lt
         obtain ⟨ab, ao, hA8, habl, hac⟩ := har.br.sl.2 0 (by omega)
         have hac2 : w10.cell? ⟨ab, ao, none⟩ = some (.int .u8 5) := by
           rw [Nat.add_zero] at hac
           rw [hac, HA.out]
           rfl
         subst hA8
         have HS10 := Lib.hid (HS9.out.keep hbW)
         have HB10 := Lib.hid (HB9.out.trans (hbW.mono HB9.out.size))
         clear hb10 hbW hmb har hac)
      | (go_at_call 18; (with_reducible refine (llen HS10.out).mono ?_); rintro e w11 ⟨rfl, rfl⟩)
      | (go_at_call 19; (with_reducible refine (lheld HAL.out HDL.out HS10.out).mono ?_); rintro e w11 ⟨rfl, rfl⟩))
  go_ret
  exact ⟨rfl, HB10.out⟩
end Go.Proofs.Ytakgeeopfclmoaa
