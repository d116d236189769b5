/-
  Layer 25: a slice of calls; a budget below any cost.
-/
import Derived.Test.YtakgeeopfclmoaaLrU
namespace Go.Proofs.Ytakgeeopfclmoaa
open Go.RowKit Go.Maps

/-- The calls of a slice, in memory. -/
def CallsAt (w : World) (A : Option Addr) (os : List Cq) : Prop :=
  ∀ i o, os[i]? = some o → ∃ b off, A = some ⟨b, off, none⟩ ∧ b < w.heap.size ∧ (∀ j v, o.cells[j]? = some v → w.cell? ⟨b, off + (i * 11 + j), none⟩ = some v) ∧ Bw w o.A o.m.bs o.c ∧ o.k.wf
theorem CallsAt.keep {w w' : World} {A : Option Addr} {os : List Cq} {B : Nat} (h : CallsAt w A os) (hb : Below B w w') (hB : w.heap.size ≤ B) (hz : w.heap.size ≤ w'.heap.size) : CallsAt w' A os := fun i o ho => by
  obtain ⟨b, off, hA, hlt, hc, hm, hk⟩ := h i o ho
  have hb' : Below w.heap.size w w' := hb.mono hB
  exact ⟨b, off, hA, Nat.lt_of_lt_of_le hlt hz, fun j v hj => by rw [hb'.cell (p := ⟨b, _, none⟩) hlt]; exact hc j v hj, hm.keep hb', hk⟩
theorem cells_some {w : World} : ∀ {ks : List CK} {f : Nat → Option Value}, CellsOk w ks f → ∀ j, j < ks.length → ∃ v, f j = some v
  | [], _, _, j, hj => by simp at hj
  | k :: ks, f, h, 0, _ => by
    simp only [CellsOk] at h
    obtain ⟨⟨v, hv, _⟩, _⟩ := h
    exact ⟨v, hv⟩
  | k :: ks, f, h, j + 1, hj => by
    simp only [CellsOk] at h
    exact cells_some (f := fun i => f (i + 1)) h.2 j (by simpa using hj)
theorem cells_list {w : World} {ks : List CK} {f : Nat → Option Value} (h : CellsOk w ks f) : ∃ vs : List Value, vs.length = ks.length ∧ ∀ j v, vs[j]? = some v → f j = some v :=
  list_of ks.length (cells_some h)
theorem call_get {w : World} {f : Nat → Option Value}
    (h : CellsOk w [.int .i64, .int .i64, .int .i64, .int .i64, .int .i64, .int .i64, .int .i64, .int .i64, .int .i64, .sl 1 [.int .u8], .int .i64] f) : ∃ o : Cq, (∀ j v, o.cells[j]? = some v → f j = some v) ∧ Bw w o.A o.m.bs o.c ∧ o.k.wf := by
  obtain ⟨vs, hl, hv⟩ := cells_list (w := w) (ks := [.int .i64, .int .i64, .int .i64, .int .i64, .int .i64, .int .i64, .int .i64, .int .i64, .int .i64, .sl 1 [.int .u8], .int .i64]) h
  obtain ⟨o, rfl, hm, hk, _⟩ := call_of hl (h.congr fun j hj => by
    rw [List.getElem?_eq_getElem (by rw [hl]; exact hj)]
    exact hv j _ (List.getElem?_eq_getElem (by rw [hl]; exact hj)))
  exact ⟨o, hv, hm, hk⟩
theorem calls_of {w : World} {A : Option Addr} {n : Nat} (h : ∀ i, i < n → ∃ b o, A = some ⟨b, o, none⟩ ∧ b < w.heap.size ∧ CellsOk w [.int .i64, .int .i64, .int .i64, .int .i64, .int .i64, .int .i64, .int .i64, .int .i64, .int .i64, .sl 1 [.int .u8], .int .i64] (fun j => w.cell? ⟨b, o + (i * [CK.int .i64, .int .i64, .int .i64, .int .i64, .int .i64, .int .i64, .int .i64, .int .i64, .int .i64, .sl 1 [.int .u8], .int .i64].length + j), none⟩)) :
    ∃ os : List Cq, os.length = n ∧ CallsAt w A os := by
  obtain ⟨os, hl, hp⟩ := list_of (p := fun i (o : Cq) => ∃ b off, A = some ⟨b, off, none⟩ ∧ b < w.heap.size ∧ (∀ j v, o.cells[j]? = some v → w.cell? ⟨b, off + (i * 11 + j), none⟩ = some v) ∧ Bw w o.A o.m.bs o.c ∧ o.k.wf) n (fun i hi => by
    obtain ⟨b, o, hA, hb, hc⟩ := h i hi
    obtain ⟨c, hc1, hc2, hc3⟩ := call_get hc
    exact ⟨c, b, o, hA, hb, hc1, hc2, hc3⟩)
  exact ⟨os, hl, hp⟩

/-- A cache of a budget below any cost stays empty. -/
theorem zero_put {budget : Int} (h : budget < 64) (k : K4) (m : Ms) : putM budget k m [] = [] := by
  unfold putM putL
  split
  · rw [if_pos (by unfold costM; omega)]; rfl
  · rfl
theorem zero_ok {budget : Int} (h : budget < 64) (m : Ms) : okP budget m = false := by
  unfold okP
  rw [decide_eq_true (show budget < costM m by unfold costM; omega)]
  simp
def ZGet (w : World) (g B : Nat) (budget : Int) (e : Ending) (w' : World) : Prop :=
  e = .returned (.tuple #[.agg #[.int .i64 0, .int .i64 0, .int .i64 0, .int .i64 0, .slice none 0 0], .bool false]) ∧ LruS w' g B budget [] ∧ KeepT B w w'
section
variable {B g : Nat} {w : World} {budget : Int}
theorem zput (h : LruS w g B budget []) (hb : budget < 64) (k : K4) (hk : k.wf) (m : Ms) (A : Option Addr) (c : Nat) (ha : Ar B w A m.bs c) :
    Calls Try.prog 12 #[.pointer (some ⟨g, 0, none⟩), .agg #[.int .i64 k.g, .int .i64 k.p, .int .i64 k.x, .int .i64 k.y], .agg #[.int .i64 m.box.a, .int .i64 m.box.b, .int .i64 m.box.c, .int .i64 m.box.d, .slice A m.bs.length c]] w
      fun e w' => e = .returned (.tuple #[.bool false, .int .i64 (maskM m)]) ∧ LruS w' g B budget [] ∧ KeepT B w w' := by
  refine (Put_any h k hk m A c ha (fun _ h => h.elim)).mono ?_
  rintro e w' ⟨h1, h2, h3⟩
  rw [zero_ok hb] at h1
  rw [zero_put hb] at h2
  exact ⟨h1, h2, h3⟩
theorem zget (h : LruS w g B budget []) (k : K4) (hk : k.wf) :
    Calls Try.prog 14 #[.pointer (some ⟨g, 0, none⟩), .agg #[.int .i64 k.g, .int .i64 k.p, .int .i64 k.x, .int .i64 k.y]] w (ZGet w g B budget) := by
  refine (Get_no h.h k hk (by simp)).mono ?_
  intro e w' hr
  unfold GetR at hr
  rw [findL_none (by simp)] at hr
  exact ⟨hr.1, ⟨hr.2.1, h.fit, h.b0, h.b1⟩, hr.2.2⟩
theorem zdrop (h : LruS w g B budget []) (k : K4) (hk : k.wf) :
    Calls Try.prog 20 #[.pointer (some ⟨g, 0, none⟩), .agg #[.int .i64 k.g, .int .i64 k.p, .int .i64 k.x, .int .i64 k.y]] w fun e w' => e = .returned (.bool false) ∧ LruS w' g B budget [] ∧ KeepT B w w' := by
  refine (Drop_any h.h (by simp [heldL]) k hk).mono ?_
  rintro e w' ⟨h1, h2, h3⟩
  exact ⟨h1, ⟨h2, h.fit, h.b0, h.b1⟩, h3⟩
theorem zlen (h : LruS w g B budget []) : Calls Try.prog 18 #[.pointer (some ⟨g, 0, none⟩)] w fun e w' => e = .returned (.int .i64 0) ∧ w = w' := Len_any h.h
theorem zheld (h : LruS w g B budget []) : Calls Try.prog 19 #[.pointer (some ⟨g, 0, none⟩)] w fun e w' => e = .returned (.int .i64 0) ∧ w = w' := Held_any h.h
end
/-- A call's mask, checked by the document. -/
theorem rcheck_ms (m : Ms) (A : Option Addr) (c : Nat) (hn : m.bs.length ≤ 140737488355328) (w : World) :
    Calls Try.prog 11 #[.agg #[.int .i64 m.box.a, .int .i64 m.box.b, .int .i64 m.box.c, .int .i64 m.box.d, .slice A m.bs.length c]] w fun e w' => e = .returned (.int .i64 (maskM m)) ∧ Below w.heap.size w w' := rCheck_any _ _ _ _ A _ c hn w

def ZerR (w : World) (g B : Nat) (budget : Int) (n : Nat) (k : Nat) (i : Value) (wr : World) : Prop :=
  k ≤ n ∧ i = .int .i64 ((n - k : Nat) : Int) ∧ LruS wr g B budget [] ∧ Below w.heap.size w wr ∧ B ≤ wr.heap.size
set_option maxRecDepth 20000 in
set_option maxHeartbeats 4000000 in
theorem lruZero_in (budget : Int) {w : World} {A : Option Addr} {n c : Nat} {os : List Cq} (hl : os.length = n) (hA : CallsAt w A os) (hc : n ≤ c) (h0 : 0 ≤ budget) (h1 : budget ≤ 63) :
    Calls Try.prog 5 #[.int .i64 budget, .slice A n c] w fun e w' => e = .returned (.bool true) ∧ Below w.heap.size w w' := by
  have hn := New_yes (w := w) budget (budB_true.2 ⟨h0, by omega⟩)
  have hmay := fun w => rMayBud_any budget w
  rw [budB_true.2 ⟨h0, by omega⟩] at hmay
  have HN := Lib.hid hn
  have HM := Lib.hid hmay
  have HCA := Lib.hid hA
  have HL := Lib.hid hl
  clear hn hmay hA hl
  go_enter Try.func5, Try.ntmps5
  go_wp2_with (first
      | (go_at_call 8; (with_reducible refine HN.out.mono ?_); rintro e w1 ⟨g, rfl, hh, hb1⟩
         have HS := Lib.hid (LruS.mk (L := []) hh h0 h0 (by omega))
         have HB := Lib.hid hb1
         clear hh hb1)
      | (go_at_call 9; (with_reducible refine (lives_any _).mono ?_); rintro e w2 ⟨rfl, hb2⟩
         have HS2 := Lib.hid (HS.out.keep hb2)
         have HB2 := Lib.hid (HB.out.trans (hb2.mono HB.out.size))
         clear hb2))
  go_loopg [7] n (fun k i wr => ZerR w g w.heap.size budget n k i wr)
  case atStart => exact ⟨Nat.le_refl _, by simp, HS2.out, HB2.out, HB2.out.size⟩
  case round =>
    obtain ⟨hk, rfl, hS, hbel, hBs⟩ := hrel
    obtain ⟨j, hj⟩ : ∃ j, n - gk = j := ⟨_, rfl⟩
    rw [hj]
    by_cases hin : j < n ∧ j < 60
    · obtain ⟨hjn, hj60⟩ := hin
      obtain ⟨o, ho⟩ : ∃ o, os[j]? = some o := ⟨_, List.getElem?_eq_getElem (by rw [HL.out]; exact hjn)⟩
      obtain ⟨b, off, hAA, hblt, hcell, hbw, hkw⟩ := (HCA.out.keep hbel (Nat.le_refl _) hbel.size) j o ho
      subst hAA
      have c0 : wr.cell? ⟨b, off + j * 11, none⟩ = some (.int .i64 o.kind) := by have := hcell 0 _ rfl; simpa [Nat.add_assoc] using this
      have c1 : wr.cell? ⟨b, off + j * 11 + 1, none⟩ = some (.int .i64 o.k.g) := by have := hcell 1 _ rfl; simpa [Nat.add_assoc] using this
      have c2 : wr.cell? ⟨b, off + j * 11 + 2, none⟩ = some (.int .i64 o.k.p) := by have := hcell 2 _ rfl; simpa [Nat.add_assoc] using this
      have c3 : wr.cell? ⟨b, off + j * 11 + 3, none⟩ = some (.int .i64 o.k.x) := by have := hcell 3 _ rfl; simpa [Nat.add_assoc] using this
      have c4 : wr.cell? ⟨b, off + j * 11 + 4, none⟩ = some (.int .i64 o.k.y) := by have := hcell 4 _ rfl; simpa [Nat.add_assoc] using this
      have c5 : wr.cell? ⟨b, off + j * 11 + 5, none⟩ = some (.int .i64 o.m.box.a) := by have := hcell 5 _ rfl; simpa [Nat.add_assoc] using this
      have c6 : wr.cell? ⟨b, off + j * 11 + 6, none⟩ = some (.int .i64 o.m.box.b) := by have := hcell 6 _ rfl; simpa [Nat.add_assoc] using this
      have c7 : wr.cell? ⟨b, off + j * 11 + 7, none⟩ = some (.int .i64 o.m.box.c) := by have := hcell 7 _ rfl; simpa [Nat.add_assoc] using this
      have c8 : wr.cell? ⟨b, off + j * 11 + 8, none⟩ = some (.int .i64 o.m.box.d) := by have := hcell 8 _ rfl; simpa [Nat.add_assoc] using this
      have c9 : wr.cell? ⟨b, off + j * 11 + 9, none⟩ = some (.slice o.A o.m.bs.length o.c) := by have := hcell 9 _ rfl; simpa [Nat.add_assoc] using this
      have c10 : wr.cell? ⟨b, off + j * 11 + 10, none⟩ = some (.int .i64 o.n) := by have := hcell 10 _ rfl; simpa [Nat.add_assoc] using this
      have hcell0 := (HCA.out j o ho)
      have har : Ar w.heap.size wr o.A o.m.bs o.c := by
        obtain ⟨_, _, _, _, _, hbw0, _⟩ := HCA.out j o ho
        exact ⟨hbw, fun h0 b hb => .inl (hbw0.row h0 b hb)⟩
      have hjn' : (j : Int) < n := by omega
      have hj60' : (j : Int) < 60 := by omega
      have hsm := hbw.small
      have hk1 : ∃ k, gk = k + 1 := ⟨gk - 1, by omega⟩
      obtain ⟨k, rfl⟩ := hk1
      have hnx : n - k = j + 1 := by omega
      have HAR := Lib.hid (har.keepB (bel_alloc (o := .cells o.cells.toArray 37) bel_refl).below)
      have HS := Lib.hid (hS.keep (bel_alloc (o := .cells o.cells.toArray 37) bel_refl).below)
      have HBL := Lib.hid (bel_alloc (o := .cells o.cells.toArray 37) ⟨hbel, hbel.size⟩)
      have HKW := Lib.hid hkw
      have hfin : ∀ w', LruS w' g w.heap.size budget [] → Below w.heap.size w w' → ZerR w g w.heap.size budget n k (.int .i64 ((j : Int) + 1)) w' := fun w' h1 h2 => ⟨by omega, by rw [hnx]; rfl, h1, h2, h2.size⟩
      have HF := Lib.hid hfin
      unfold Cq.cells at HAR HS HBL
      clear hcell hcell0 har hbw hkw hS hbel hBs ho hfin hj
      by_cases hbig : 16384 < o.m.bs.length
      · have hb' : (16384 : Int) < o.m.bs.length := by omega
        go_wp2_with fail
        go_roundg k
        case rel => exact HF.out _ HS.out HBL.out.below
        case measure => omega
      · have hb' : (o.m.bs.length : Int) ≤ 16384 := by omega
        clear hbig
        go_wp2_with (first
          | (go_at_call 12; (with_reducible refine (zput HS.out (by omega) o.k HKW.out o.m o.A o.c HAR.out).mono ?_); rintro e w3 ⟨rfl, h3, k3⟩
             have hmb : Blk (wr.alloc (.cells #[.int .i64 o.kind, .int .i64 o.k.g, .int .i64 o.k.p, .int .i64 o.k.x, .int .i64 o.k.y, .int .i64 o.m.box.a, .int .i64 o.m.box.b, .int .i64 o.m.box.c, .int .i64 o.m.box.d, .slice o.A o.m.bs.length o.c, .int .i64 o.n] 37)) wr.heap.size 37 [.int .i64 o.kind, .int .i64 o.k.g, .int .i64 o.k.p, .int .i64 o.k.x, .int .i64 o.k.y, .int .i64 o.m.box.a, .int .i64 o.m.box.b, .int .i64 o.m.box.c, .int .i64 o.m.box.d, .slice o.A o.m.bs.length o.c, .int .i64 o.n] := Blk.newAt _ _ [_, _, _, _, _, _, _, _, _, _, _] rfl
             have hm3 := k3.blk hmb (by decide)
             have x1 : w3.cell? ⟨wr.heap.size, 1, none⟩ = some (.int .i64 o.k.g) := hm3.cell 1
             have x2 : w3.cell? ⟨wr.heap.size, 2, none⟩ = some (.int .i64 o.k.p) := hm3.cell 2
             have x3 : w3.cell? ⟨wr.heap.size, 3, none⟩ = some (.int .i64 o.k.x) := hm3.cell 3
             have x4 : w3.cell? ⟨wr.heap.size, 4, none⟩ = some (.int .i64 o.k.y) := hm3.cell 4
             have x5 : w3.cell? ⟨wr.heap.size, 5, none⟩ = some (.int .i64 o.m.box.a) := hm3.cell 5
             have x6 : w3.cell? ⟨wr.heap.size, 6, none⟩ = some (.int .i64 o.m.box.b) := hm3.cell 6
             have x7 : w3.cell? ⟨wr.heap.size, 7, none⟩ = some (.int .i64 o.m.box.c) := hm3.cell 7
             have x8 : w3.cell? ⟨wr.heap.size, 8, none⟩ = some (.int .i64 o.m.box.d) := hm3.cell 8
             have x9 : w3.cell? ⟨wr.heap.size, 9, none⟩ = some (.slice o.A o.m.bs.length o.c) := hm3.cell 9
             have HM3 := Lib.hid hm3
             have hml3 := hm3.lt
             have HS3 := Lib.hid h3
             have HB3 := Lib.hid (HBL.out.below.trans k3.toBelow)
             clear hmb hm3 h3 k3)
          | (go_at_call 11; (with_reducible refine (rcheck_ms o.m o.A o.c hsm _).mono ?_); rintro e w4 ⟨rfl, hb4⟩
             have hm4 := HM3.out.keepB hb4
             have y1 : w4.cell? ⟨wr.heap.size, 1, none⟩ = some (.int .i64 o.k.g) := hm4.cell 1
             have y2 : w4.cell? ⟨wr.heap.size, 2, none⟩ = some (.int .i64 o.k.p) := hm4.cell 2
             have y3 : w4.cell? ⟨wr.heap.size, 3, none⟩ = some (.int .i64 o.k.x) := hm4.cell 3
             have y4 : w4.cell? ⟨wr.heap.size, 4, none⟩ = some (.int .i64 o.k.y) := hm4.cell 4
             have HM4 := Lib.hid hm4
             have hml4 := hm4.lt
             have HS4 := Lib.hid (HS3.out.keep hb4)
             have HB4 := Lib.hid (HB3.out.trans (hb4.mono HB3.out.size))
             clear hm4 hb4)
          | (go_at_call 14; (with_reducible refine (zget HS4.out o.k HKW.out).mono ?_); rintro e w5 ⟨rfl, h5, k5⟩
             have hm5 := HM4.out.keepB (bel_refl (a := w4)).below
             have hm6 := k5.blk hm5 (by decide)
             have z1 : w5.cell? ⟨wr.heap.size, 1, none⟩ = some (.int .i64 o.k.g) := hm6.cell 1
             have z2 : w5.cell? ⟨wr.heap.size, 2, none⟩ = some (.int .i64 o.k.p) := hm6.cell 2
             have z3 : w5.cell? ⟨wr.heap.size, 3, none⟩ = some (.int .i64 o.k.x) := hm6.cell 3
             have z4 : w5.cell? ⟨wr.heap.size, 4, none⟩ = some (.int .i64 o.k.y) := hm6.cell 4
             have hml5 := hm6.lt
             have HS5 := Lib.hid (h5.keep (bel_alloc (o := .cells #[.int .i64 0, .int .i64 0, .int .i64 0, .int .i64 0, .slice none 0 0] 35) bel_refl).below)
             have HB5 := Lib.hid (bel_alloc (o := .cells #[.int .i64 0, .int .i64 0, .int .i64 0, .int .i64 0, .slice none 0 0] 35) ⟨HB4.out.trans k5.toBelow, (HB4.out.trans k5.toBelow).size⟩)
             clear hm5 hm6 h5 k5)
          | (go_at_call 18; (with_reducible refine (zlen HS5.out).mono ?_); rintro e w6 ⟨rfl, rfl⟩)
          | (go_at_call 19; (with_reducible refine (zheld HS5.out).mono ?_); rintro e w6 ⟨rfl, rfl⟩)
          | (go_at_call 20; (with_reducible refine (zdrop HS5.out o.k HKW.out).mono ?_); rintro e w7 ⟨rfl, h7, k7⟩
             have HS7 := Lib.hid h7
             have HB7 := Lib.hid (HB5.out.below.trans k7.toBelow)
             clear h7 k7))
        go_roundg k
        case rel => exact HF.out _ HS7.out HB7.out
        case measure => omega
    · have hd : n ≤ j ∨ 60 ≤ j := by omega
      have HBL := Lib.hid hbel
      clear hS hbel hBs hj hin
      rcases Nat.lt_or_ge j n with hjn | hjn
      · have hjn' : (j : Int) < n := by omega
        have hj60 : (60 : Int) ≤ j := by omega
        go_wp2_with (first | (go_at_call 10; (with_reducible refine (HM.out _).mono ?_); rintro e w3 ⟨rfl, rfl⟩))
        go_ret
        exact ⟨rfl, HBL.out⟩
      · have hjn' : (n : Int) ≤ j := by omega
        go_wp2_with (first | (go_at_call 10; (with_reducible refine (HM.out _).mono ?_); rintro e w3 ⟨rfl, rfl⟩))
        go_ret
        exact ⟨rfl, HBL.out⟩
/-- A budget that is not asked about. -/
theorem lruZero_any (budget : Int) {w : World} {A : Option Addr} {n c : Nat} {os : List Cq} (hl : os.length = n) (hA : CallsAt w A os) (hc : n ≤ c) :
    Calls Try.prog 5 #[.int .i64 budget, .slice A n c] w fun e w' => e = .returned (.bool true) ∧ Below w.heap.size w w' := by
  by_cases h : 0 ≤ budget ∧ budget ≤ 63
  · exact lruZero_in budget hl hA hc h.1 h.2
  · clear hA hl
    rcases Int.lt_or_le budget 0 with h1 | h1
    · go_enter Try.func5, Try.ntmps5
      go_wp2_with (first | (go_at_call 9; (with_reducible refine (lives_any _).mono ?_); rintro e w3 ⟨rfl, hb3⟩))
      go_ret
      exact ⟨rfl, hb3⟩
    · have h2 : 63 < budget := by omega
      go_enter Try.func5, Try.ntmps5
      go_wp2_with (first | (go_at_call 9; (with_reducible refine (lives_any _).mono ?_); rintro e w3 ⟨rfl, hb3⟩))
      go_ret
      exact ⟨rfl, hb3⟩
end Go.Proofs.Ytakgeeopfclmoaa
