/-
  For every mask, every box and every two numbers RasterMasks answers true and leaves its arguments as they were. No conditions.
  Layer 23: a mask and a box that came in.
  Layer 23: the law RasterMasks.
  Layer 23: what a box has of a mask: the document's Crop.
  Layer 23: the document's Same (of two that are), its At.
-/
import Derived.Test.YtbflncfhbmlibaaRtGm
import Derived.Test.YtbflncfhbmlibaaFlatB
import Derived.Test.YtbflncfhbmlibaaLists
import Derived.Test.YtbflncfhbmlibaaFrame
import Derived.Test.YtbflncfhbmlibaaFlat
namespace Go.Proofs.Ytbflncfhbmlibaa
open Go.RowKit Go.Shelf

def bytesU (bs : List Int) : List UInt8 := bs.map fun x => UInt8.ofNat x.toNat
theorem bytesU_map {bs : List Int} (h : okBs bs) : (bytesU bs).map byteV = bs.map (.int .u8) := by
  unfold bytesU
  rw [List.map_map]
  refine List.map_congr_left fun x hx => ?_
  have := h x hx
  show Value.int .u8 _ = _
  have e : (((UInt8.ofNat x.toNat).toNat : Nat) : Int) = x := by
    show ((x.toNat % 256 : Nat) : Int) = x
    omega
  rw [e]
theorem by_str {w : World} {A : Option Addr} {bs : List Int} (h : ByAt w A bs) (ho : okBs bs) (c : Nat) : (convert 27 9 (.slice A bs.length c)).run Try.prog w = .ok (.string (strB (bytesU bs))) w := by
  have h2 : SlAt w A bs.length ((bytesU bs).map byteV) := by rw [bytesU_map ho]; exact h
  exact run_str (P := Try.prog) h2 Try.underlying27 Try.underlying5 Try.underlying9 c
set_option maxRecDepth 20000 in
set_option maxHeartbeats 2000000 in
theorem Same_eq {w : World} (b : B4) {A A2 : Option Addr} {n c c2 : Nat} {bs : List Int} (h : ByAt w A bs) (h2 : ByAt w A2 bs) (ho : okBs bs) (hn : bs.length = n) : Calls Try.prog 14 #[.agg #[.int .i64 b.x0, .int .i64 b.y0, .int .i64 b.x1, .int .i64 b.y1, .slice A n c], .agg #[.int .i64 b.x0, .int .i64 b.y0, .int .i64 b.x1, .int .i64 b.y1, .slice A2 n c2]] w fun e w' =>
    e = .returned (.bool true) ∧ Below w.heap.size w w' := by
  subst hn
  obtain ⟨x0, y0, x1, y1⟩ := b
  dsimp only
  have hb : Below w.heap.size w ((w.alloc (.cells #[.int .i64 x0, .int .i64 y0, .int .i64 x1, .int .i64 y1, .slice A bs.length c] 29)).alloc (.cells #[.int .i64 x0, .int .i64 y0, .int .i64 x1, .int .i64 y1, .slice A2 bs.length c2] 29)) := (bel_alloc (bel_alloc bel_refl)).below
  have q1 := by_str (h.keep hb) ho c
  have q2 := by_str (h2.keep hb) ho c2
  have HB := Lib.hid hb
  obtain ⟨n, hn⟩ : ∃ n, bs.length = n := ⟨_, rfl⟩
  rw [hn] at q1 q2 HB ⊢
  clear h h2 hb ho hn
  go_enter Try.func14, Try.ntmps14
  go_wp2_with fail
  go_ret
  exact ⟨by simp, HB.out⟩
set_option maxRecDepth 20000 in
set_option maxHeartbeats 2000000 in
theorem rAt23_any {w : World} (b : B4) {A : Option Addr} {c : Nat} {bs : List Int} (x y : Int) (h : ByAt w A bs) (ho : okBs bs) (hn : bs.length ≤ 16777216) (hm : maskE b.x0 b.y0 b.x1 b.y1 bs.length = 0) : Calls Try.prog 23 #[.agg #[.int .i64 b.x0, .int .i64 b.y0, .int .i64 b.x1, .int .i64 b.y1, .slice A bs.length c], .int .i64 x, .int .i64 y] w fun e w' =>
    e = .returned (.int .i64 (atM b bs x y)) ∧ Below w.heap.size w w' := by
  have hnb := maskE_near hm
  by_cases hin : b.x0 ≤ x ∧ x < b.x1 ∧ b.y0 ≤ y ∧ y < b.y1
  · have hbb : bB b.x0 b.y0 b.x1 b.y1 = true := by
      unfold nearB at hnb
      unfold bB mayB
      simp only [Bool.and_eq_true, decide_eq_true_eq]
      omega
    have hh : holdsB b.x0 b.y0 b.x1 b.y1 x y = true := holdsB_true.2 ⟨hbb, hin⟩
    have hpl := plN_lt hm hh
    have e : atM b bs x y = bs.getD (plN b x y).toNat 0 := by unfold atM; rw [if_pos ⟨hm, hh⟩]
    obtain ⟨p, hp⟩ : ∃ p : Nat, plN b x y = p := ⟨(plN b x y).toNat, by omega⟩
    have hp2 := hp
    unfold plN at hp2
    rw [if_pos hh] at hp2
    rw [hp] at hpl e
    have hlt : p < bs.length := by omega
    obtain ⟨v, hv⟩ := get_some hlt
    have hvb := ho v (List.mem_of_getElem? hv)
    have hwv : IntKind.i64.wrap v = v := IntWalk.i64_in _ (by omega)
    rw [show bs.getD ((p : Int)).toNat 0 = v by rw [List.getD_eq_getElem?_getD, Int.toNat_natCast, hv]; rfl] at e
    rw [e]
    obtain ⟨ab, ao, rfl, hab, hcell⟩ := h.2 p hlt
    rw [List.getElem?_map, hv] at hcell
    obtain ⟨x0, y0, x1, y1⟩ := b
    unfold nearB at hnb
    dsimp only at hin hnb hp2 ⊢
    have hq := mul_bdd (a := y - y0) (b := x1 - x0) (A := 32768) (B := 32768) (by omega) (by omega) (by omega) (by omega)
    have s1 : IntKind.i64.wrap (y - y0) = y - y0 := IntWalk.i64_in _ (by omega)
    have s2 : IntKind.i64.wrap (x1 - x0) = x1 - x0 := IntWalk.i64_in _ (by omega)
    obtain ⟨q, hqq⟩ : ∃ q, (y - y0) * (x1 - x0) = q := ⟨_, rfl⟩
    rw [hqq] at hq hp2
    have s3 : IntKind.i64.wrap ((y - y0) * (x1 - x0)) = q := by rw [hqq]; exact IntWalk.i64_in _ (by omega)
    have s4 : IntKind.i64.wrap (q + x) = q + x := IntWalk.i64_in _ (by omega)
    have s5 : IntKind.i64.wrap (q + x - x0) = (p : Int) := by rw [hp2]; exact IntWalk.i64_in _ (by omega)
    have g1 : decide (x < x0) = false := by rw [decide_eq_false_iff_not]; omega
    have g2 : decide (x1 ≤ x) = false := by rw [decide_eq_false_iff_not]; omega
    have g3 : decide (y < y0) = false := by rw [decide_eq_false_iff_not]; omega
    have g4 : decide (y1 ≤ y) = false := by rw [decide_eq_false_iff_not]; omega
    obtain ⟨n, hn2⟩ : ∃ n, bs.length = n := ⟨_, rfl⟩
    rw [hn2] at hlt ⊢
    have hlt2 : (p : Int) < n := by omega
    have hcell2 : w.cell? ⟨ab, ao + p, none⟩ = some (.int .u8 v) := hcell
    clear hcell hm hh hpl e hp hv hn2 hn h ho hbb hqq hp2 hvb hq hnb hin
    go_enter Try.func23, Try.ntmps23
    go_wp2_with fail
    go_ret
    refine ⟨rfl, Bel.below ?_⟩
    repeat (first | with_reducible exact bel_refl | with_reducible apply bel_alloc | with_reducible apply bel_drewN | with_reducible apply bel_drew | (with_reducible refine bel_set ?_ ?_; rotate_left; · first | (simp; done) | (simp; omega) | omega) | with_reducible refine bel_call (by assumption) ?_)
  · have e : atM b bs x y = 0 := by unfold atM; rw [if_neg (fun h => hin (holdsB_true.1 h.2).2)]
    rw [e]
    obtain ⟨x0, y0, x1, y1⟩ := b
    dsimp only at hin ⊢
    clear e hm hnb h ho
    have hc : x < x0 ∨ (x0 ≤ x ∧ x1 ≤ x) ∨ (x0 ≤ x ∧ x < x1 ∧ y < y0) ∨ (x0 ≤ x ∧ x < x1 ∧ y0 ≤ y ∧ y1 ≤ y) := by omega
    clear hin
    rcases hc with hc | hc | hc | hc
    all_goals
      go_enter Try.func23, Try.ntmps23
      go_wp2_with fail
      go_ret
      refine ⟨rfl, Bel.below ?_⟩
      repeat (first | with_reducible exact bel_refl | with_reducible apply bel_alloc | with_reducible apply bel_drewN | with_reducible apply bel_drew | (with_reducible refine bel_set ?_ ?_; rotate_left; · first | (simp; done) | (simp; omega) | omega) | with_reducible refine bel_call (by assumption) ?_)
end Go.Proofs.Ytbflncfhbmlibaa

namespace Go.Proofs.Ytbflncfhbmlibaa
open Go.RowKit Go.Shelf

/-- A row's pixels, one by one. -/
def cropX (m : B4) (bs : List Int) (b : B4) (k j : Nat) : List Int := (List.range j).map fun (i : Nat) => atM m bs (b.x0 + i) (b.y0 + k)
theorem cropX_succ (m : B4) (bs : List Int) (b : B4) (k j : Nat) : cropX m bs b k (j + 1) = cropX m bs b k j ++ [atM m bs (b.x0 + j) (b.y0 + k)] := by
  unfold cropX
  rw [List.range_succ, List.map_append]
  rfl
theorem cropX_len (m : B4) (bs : List Int) (b : B4) (k j : Nat) : (cropX m bs b k j).length = j := by simp [cropX]
theorem cropX_row {m b : B4} {bs : List Int} (hm : maskE m.x0 m.y0 m.x1 m.y1 bs.length = 0) (h : b.x0 < b.x1 ∧ b.y0 < b.y1 ∧ m.x0 ≤ b.x0 ∧ b.x1 ≤ m.x1 ∧ m.y0 ≤ b.y0 ∧ b.y1 ≤ m.y1) {k : Nat} (hk : b.y0 + (k : Int) < b.y1) :
    cropX m bs b k (b.x1 - b.x0).toNat = (bs.drop (plN m b.x0 (b.y0 + k)).toNat).take (b.x1 - b.x0).toNat := by
  have hr := crop_row hm h (y := b.y0 + k) (by omega) hk
  have hnb := maskE_near hm
  have hbb : bB m.x0 m.y0 m.x1 m.y1 = true := by
    unfold nearB at hnb
    unfold bB mayB
    simp only [Bool.and_eq_true, decide_eq_true_eq]
    omega
  apply List.ext_getElem?
  intro i
  rw [List.getElem?_take]
  by_cases hi : i < (b.x1 - b.x0).toNat
  · rw [if_pos hi, List.getElem?_drop]
    unfold cropX
    rw [List.getElem?_map, List.getElem?_range hi]
    have hh : holdsB m.x0 m.y0 m.x1 m.y1 (b.x0 + i) (b.y0 + k) = true := holdsB_true.2 ⟨hbb, by omega, by omega, by omega, by omega⟩
    have hh0 : holdsB m.x0 m.y0 m.x1 m.y1 b.x0 (b.y0 + k) = true := holdsB_true.2 ⟨hbb, by omega, by omega, by omega, by omega⟩
    have hpl := plN_lt hm hh
    have e : plN m (b.x0 + i) (b.y0 + k) = plN m b.x0 (b.y0 + k) + i := by
      unfold plN
      rw [if_pos hh, if_pos hh0]
      omega
    have hlt : (plN m b.x0 (b.y0 + k)).toNat + i < bs.length := by omega
    rw [List.getElem?_eq_getElem hlt]
    show some (atM m bs (b.x0 + i) (b.y0 + k)) = _
    unfold atM
    rw [if_pos ⟨hm, hh⟩, e, show (plN m b.x0 (b.y0 + k) + i).toNat = (plN m b.x0 (b.y0 + k)).toNat + i by omega, List.getD_eq_getElem?_getD, List.getElem?_eq_getElem hlt]
    rfl
  · rw [if_neg hi, List.getElem?_eq_none (by rw [cropX_len]; omega)]
theorem atM_ok {m : B4} {bs : List Int} (ho : okBs bs) (x y : Int) : 0 ≤ atM m bs x y ∧ atM m bs x y ≤ 255 := by
  unfold atM
  split
  · rw [List.getD_eq_getElem?_getD]
    cases h : bs[(plN m x y).toNat]? with
    | none => simp
    | some v => exact ho v (List.mem_of_getElem? h)
  · omega
structure RcI (w0 : World) (m : B4) (bs : List Int) (A : Option Addr) (c : Nat) (b : B4) (ob : Nat) (k j : Nat) (wr : World) : Prop where
  fm : Blk wr w0.heap.size 29 [.int .i64 m.x0, .int .i64 m.y0, .int .i64 m.x1, .int .i64 m.y1, .slice A bs.length c]
  fr : Blk wr (w0.heap.size + 1 + 1) 29 [.int .i64 0, .int .i64 0, .int .i64 0, .int .i64 0, .slice none 0 0]
  fo : ∃ v, Blk wr ob 29 [.int .i64 b.x0, .int .i64 b.y0, .int .i64 b.x1, .int .i64 b.y1, v] ∧ wr.ownsRow w0.heap.size 5 1 v (k * (b.x1 - b.x0).toNat + j) ((cropN m bs b k ++ cropX m bs b k j).map (.int .u8))
  fk : Below w0.heap.size w0 wr
  fne : w0.heap.size + 1 + 1 < ob
theorem RcI.keepB {w0 wr w' : World} {m : B4} {bs : List Int} {A : Option Addr} {c : Nat} {b : B4} {ob k j : Nat} (F : RcI w0 m bs A c b ob k j wr) (hb : Below wr.heap.size wr w') : RcI w0 m bs A c b ob k j w' :=
  ⟨F.fm.keepB hb, F.fr.keepB hb, let ⟨v, h1, h2⟩ := F.fo; ⟨v, h1.keepB hb, own_keep h2 fun r hr => hb.block r (own_lt h2 r hr).2⟩, F.fk.trans (hb.mono F.fk.size), F.fne⟩
theorem RcI.next {w0 w5 w6 : World} {m : B4} {bs : List Int} {A : Option Addr} {c : Nat} {b : B4} {ob k j L : Nat} (F : RcI w0 m bs A c b ob k j w5) {v v' : Value} (hm : Blk w5 ob 29 [.int .i64 b.x0, .int .i64 b.y0, .int .i64 b.x1, .int .i64 b.y1, v]) (hown : w5.ownsRow w0.heap.size 5 1 v L ((cropN m bs b k ++ cropX m bs b k j).map (.int .u8)))
    (hg : w5.grownBy w6 v.ownBlock) (hown' : w6.ownsRow w0.heap.size 5 1 v' (L + 1) ((cropN m bs b k ++ cropX m bs b k j).map (.int .u8) ++ [.int .u8 (atM m bs (b.x0 + j) (b.y0 + k))])) (hL : L = k * (b.x1 - b.x0).toNat + j) :
    RcI w0 m bs A c b ob k (j + 1) (w6.setCell ⟨ob, 4, none⟩ v') := by
  have hm6 := grown_blk hg hown hm (by decide)
  have hmm := grown_blk hg hown F.fm (by decide)
  have hr6 := grown_blk hg hown F.fr (by decide)
  have hne := F.fne
  have hkeep : Below w0.heap.size w0 w6 := F.fk.trans (grown_low hg F.fk.size (fun r e => (own_lt hown r e).1))
  refine ⟨hmm.far (by show w0.heap.size ≠ ob; omega) _, hr6.far (by show w0.heap.size + 1 + 1 ≠ ob; omega) _, ⟨v', hm6.set 4 _, ?_⟩, Below.setOne hkeep (by show w0.heap.size ≤ ob; omega) _, F.fne⟩
  rw [cropX_succ, ← List.append_assoc, List.map_append (l₁ := cropN m bs b k ++ cropX m bs b k j), ← Nat.add_assoc, ← hL]
  exact own_keep hown' fun r hr2 => Below.heap_setCell _ _ _ _ (fun e2 => own_blk_ne hown' hm6 (by decide) (by rw [hr2]; exact congrArg some e2))
def RcR (m : B4) (bs : List Int) (b : B4) (w : World) (e : Ending) (w' : World) : Prop :=
  ∃ v, e = .returned (maskV (meetB m b) v) ∧ w'.ownsRow w.heap.size 5 1 v (cropN m bs (meetB m b) ((meetB m b).y1 - (meetB m b).y0).toNat).length ((cropN m bs (meetB m b) ((meetB m b).y1 - (meetB m b).y0).toNat).map (.int .u8)) ∧ Below w.heap.size w w'
set_option maxRecDepth 20000 in
set_option maxHeartbeats 4000000 in
theorem rCrop_any {w : World} (m b : B4) {A : Option Addr} {c : Nat} {bs : List Int} (h : ByAt w A bs) (ho : okBs bs) (hn : bs.length ≤ 16777216) (hm : maskE m.x0 m.y0 m.x1 m.y1 bs.length = 0) :
    Calls Try.prog 27 #[.agg #[.int .i64 m.x0, .int .i64 m.y0, .int .i64 m.x1, .int .i64 m.y1, .slice A bs.length c], .agg #[.int .i64 b.x0, .int .i64 b.y0, .int .i64 b.x1, .int .i64 b.y1]] w (RcR m bs b w) := by
  have HM := Lib.hid hm
  have HNB := Lib.hid (maskE_near hm)
  have HME := Lib.hid fun W => rMeet_any m.x0 m.y0 m.x1 m.y1 b.x0 b.y0 b.x1 b.y1 W
  have HIN := Lib.hid (meetB_in (m := m) (b := b))
  unfold RcR
  obtain ⟨B, hB⟩ : ∃ B, meetB m b = B := ⟨_, rfl⟩
  have hB0 : (meetF ⟨m.x0, m.y0, m.x1, m.y1⟩ ⟨b.x0, b.y0, b.x1, b.y1⟩).x0 = B.x0 := by rw [← hB]; rfl
  have hB1 : (meetF ⟨m.x0, m.y0, m.x1, m.y1⟩ ⟨b.x0, b.y0, b.x1, b.y1⟩).y0 = B.y0 := by rw [← hB]; rfl
  have hB2 : (meetF ⟨m.x0, m.y0, m.x1, m.y1⟩ ⟨b.x0, b.y0, b.x1, b.y1⟩).x1 = B.x1 := by rw [← hB]; rfl
  have hB3 : (meetF ⟨m.x0, m.y0, m.x1, m.y1⟩ ⟨b.x0, b.y0, b.x1, b.y1⟩).y1 = B.y1 := by rw [← hB]; rfl
  rw [hB0, hB1, hB2, hB3] at HME
  rw [hB] at HIN ⊢
  clear hB hB0 hB1 hB2 hB3 hm
  have HA := Lib.hid h
  have HO := Lib.hid ho
  obtain ⟨x0, y0, x1, y1⟩ := m
  obtain ⟨u0, v0, u1, v1⟩ := b
  obtain ⟨X0, Y0, X1, Y1⟩ := B
  dsimp only at HME HIN HM
  have HM3 : Hid (Blk (((w.alloc (.cells #[.int .i64 x0, .int .i64 y0, .int .i64 x1, .int .i64 y1, .slice A bs.length c] 29)).alloc (.cells #[.int .i64 u0, .int .i64 v0, .int .i64 u1, .int .i64 v1] 26)).alloc (.cells #[.int .i64 0, .int .i64 0, .int .i64 0, .int .i64 0, .slice none 0 0] 29)) w.heap.size 29 [.int .i64 x0, .int .i64 y0, .int .i64 x1, .int .i64 y1, .slice A bs.length c]) := Lib.hid (((Blk.new w _ [_, _, _, _, _]).alloc _).alloc _)
  have HR3 : Hid (Blk (((w.alloc (.cells #[.int .i64 x0, .int .i64 y0, .int .i64 x1, .int .i64 y1, .slice A bs.length c] 29)).alloc (.cells #[.int .i64 u0, .int .i64 v0, .int .i64 u1, .int .i64 v1] 26)).alloc (.cells #[.int .i64 0, .int .i64 0, .int .i64 0, .int .i64 0, .slice none 0 0] 29)) (w.heap.size + 1 + 1) 29 [.int .i64 0, .int .i64 0, .int .i64 0, .int .i64 0, .slice none 0 0]) := Lib.hid (Blk.newAt _ _ [_, _, _, _, _] (by simp))
  clear h ho
  go_enter Try.func27, Try.ntmps27
  go_wp2_with (first
    | (go_at_call 47; (with_reducible refine (HME.out _).mono ?_); rintro e w2 ⟨rfl, hb2⟩; have HM5 := Lib.hid (HM3.out.keepB hb2); have HR5 := Lib.hid (HR3.out.keepB hb2); have HW2 : Hid (Below w.heap.size w w2) := Lib.hid ((bel_alloc (bel_alloc (bel_alloc bel_refl))).below.trans (hb2.mono (by simp; omega))); clear hb2)
    | fail)
  obtain ⟨h, hh⟩ : ∃ h : Nat, h = (Y1 - Y0).toNat := ⟨_, rfl⟩
  obtain ⟨n, hnn⟩ : ∃ n : Nat, n = (X1 - X0).toNat := ⟨_, rfl⟩
  obtain ⟨W3, hW3⟩ : ∃ W3, w2.alloc (.cells #[.int .i64 X0, .int .i64 Y0, .int .i64 X1, .int .i64 Y1, .slice none 0 0] 29) = W3 := ⟨_, rfl⟩
  obtain ⟨ob, hob⟩ : ∃ ob, w2.heap.size = ob := ⟨_, rfl⟩
  have HF0 : Hid (RcI w ⟨x0, y0, x1, y1⟩ bs A c ⟨X0, Y0, X1, Y1⟩ ob 0 0 W3) := Lib.hid (by
    rw [← hW3]
    have hlt := HR5.out.lt
    refine ⟨HM5.out.alloc _, HR5.out.alloc _, ⟨_, by rw [← hob]; exact Blk.new w2 _ [_, _, _, _, _], ?_⟩, HW2.out.alloc HW2.out.size _, by rw [← hob]; exact hlt⟩
    rw [Nat.zero_mul]
    exact World.ownsRow_nil _ _ _ _)
  have HH := Lib.hid hh
  have HNN := Lib.hid hnn
  rw [hW3, hob]
  clear hW3 hob hh hnn
  go_loopg [6] h (fun r y wr => ∃ k : Nat, r + k = h ∧ y = .int .i64 (Y0 + k) ∧ Hid (RcI w ⟨x0, y0, x1, y1⟩ bs A c ⟨X0, Y0, X1, Y1⟩ ob k 0 wr))
  case atStart => exact ⟨0, rfl, by simp, HF0⟩
  case round =>
    clear HF0
    obtain ⟨k, hk, rfl, HF⟩ := hrel
    obtain ⟨v, hm, hown⟩ := HF.out.fo
    dsimp only at hm
    have b0 : wr.cell? ⟨ob, 0, none⟩ = some (.int .i64 X0) := hm.cell 0
    have b1 : wr.cell? ⟨ob, 1, none⟩ = some (.int .i64 Y0) := hm.cell 1
    have b2 : wr.cell? ⟨ob, 2, none⟩ = some (.int .i64 X1) := hm.cell 2
    have b3 : wr.cell? ⟨ob, 3, none⟩ = some (.int .i64 Y1) := hm.cell 3
    have bl := hm.lt
    by_cases hlt : k < h
    · have hin : X0 < X1 ∧ Y0 < Y1 ∧ x0 ≤ X0 ∧ X1 ≤ x1 ∧ y0 ≤ Y0 ∧ Y1 ≤ y1 := by
        rcases HIN.out with h1 | h1
        · injection h1 with h1 h2 h3 h4
          have := HH.out
          subst h2 h4
          simp at this
          omega
        · exact h1
      have HI := Lib.hid hin
      have hnb := HNB.out
      unfold nearB at hnb
      dsimp only at hnb
      have hhh := HH.out
      have hk3 : k ≤ 32768 := by omega
      have hn3 : n ≤ 32768 := by have := HNN.out; omega
      have s0 : IntKind.i64.wrap (Y0 + (k : Int) + 1) = Y0 + k + 1 := IntWalk.i64_in _ (by omega)
      have e1 : decide (Y0 + (k : Int) < Y1) = true := by rw [decide_eq_true_eq]; omega
      have hxb : -16384 ≤ X0 ∧ X1 ≤ 16384 := by omega
      have hx01 : X0 < X1 := hin.1
      have hkn : k * n ≤ 1073741824 := Nat.mul_le_mul hk3 hn3
      have HKY : Hid (Y0 + (k : Int) < Y1) := Lib.hid (by omega)
      clear hm hown hhh hnb hin
      go_wp2_with fail
      clear b0 b1 b2 b3 bl e1
      go_loopg [7] n (fun r x wq => ∃ j : Nat, r + j = n ∧ x = .int .i64 (X0 + j) ∧ Hid (RcI w ⟨x0, y0, x1, y1⟩ bs A c ⟨X0, Y0, X1, Y1⟩ ob k j wq))
      case atStart => exact ⟨0, rfl, by simp, HF⟩
      case round =>
        clear HF
        obtain ⟨j, hj, rfl, HF⟩ := hrel
        obtain ⟨v, hm, hown⟩ := HF.out.fo
        dsimp only at hm hown
        rw [← HNN.out] at hown
        have b2 : wr.cell? ⟨ob, 2, none⟩ = some (.int .i64 X1) := hm.cell 2
        have bl := hm.lt
        by_cases hltj : j < n
        · have e1 : decide (X0 + (j : Int) < X1) = true := by rw [decide_eq_true_eq]; have := HNN.out; omega
          have s1 : IntKind.i64.wrap (X0 + (j : Int) + 1) = X0 + j + 1 := IntWalk.i64_in _ (by omega)
          obtain ⟨L, hL⟩ : ∃ L, k * n + j = L := ⟨_, rfl⟩
          rw [hL] at hown
          have hLb : L ≤ 1073774592 := by omega
          obtain ⟨Am, cm, rfl⟩ := own_slice hown
          have hmm := HF.out.fm
          have m0 : wr.cell? ⟨w.heap.size, 0, none⟩ = some (.int .i64 x0) := hmm.cell 0
          have m1 : wr.cell? ⟨w.heap.size, 1, none⟩ = some (.int .i64 y0) := hmm.cell 1
          have m2 : wr.cell? ⟨w.heap.size, 2, none⟩ = some (.int .i64 x1) := hmm.cell 2
          have m3 : wr.cell? ⟨w.heap.size, 3, none⟩ = some (.int .i64 y1) := hmm.cell 3
          have m4 : wr.cell? ⟨w.heap.size, 4, none⟩ = some (.slice A bs.length c) := hmm.cell 4
          have ml := hmm.lt
          have o4 : wr.cell? ⟨ob, 4, none⟩ = some (.slice Am L cm) := hm.cell 4
          obtain ⟨V, hV⟩ : ∃ V, atM ⟨x0, y0, x1, y1⟩ bs (X0 + j) (Y0 + k) = V := ⟨_, rfl⟩
          have hvb := atM_ok (m := ⟨x0, y0, x1, y1⟩) HO.out (X0 + j) (Y0 + k)
          rw [hV] at hvb
          have sv : IntKind.u8.wrap V = V := IntWalk.u8_in V hvb
          have HAT := Lib.hid (rAt23_any ⟨x0, y0, x1, y1⟩ (c := c) (X0 + j) (Y0 + k) ((HA.out.keep HF.out.fk).keep (w' := wr.drew) (bel_drew bel_refl).below) HO.out hn HM.out)
          rw [hV] at HAT
          have HVV := Lib.hid hV
          have HLL := Lib.hid hL
          have HMB := Lib.hid hm
          have HOW := Lib.hid hown
          obtain ⟨i0, hi0, hz0, hz1, hz2⟩ := info_parts u8_info
          clear hmm hm hown hV hL
          go_wp2_with fail
          have ol := HMB.out.lt
          go_region_law (first
            | (refine step_call_ret (f := 23) (by rfl) (by kernel_rfl) HAT.out ?_; rintro e w5 ⟨rfl, hb5⟩; refine ⟨_, rfl, ?_⟩; have HB5 : Hid (Below wr.heap.size wr w5) := Lib.hid ⟨hb5.os, hb5.tape, hb5.output, hb5.size, hb5.block⟩; have HMB5 := Lib.hid (HMB.out.keepB HB5.out); have o5 : w5.cell? ⟨ob, 4, none⟩ = some (.slice Am L cm) := HMB5.out.cell 4; have ol5 := HMB5.out.lt; have HOW5 := Lib.hid ((own_keep HOW.out (fun r hr2 => HB5.out.block r (own_lt HOW.out r hr2).2)).alloc (.cells #[.int .u8 V] 5)); have HMA := Lib.hid (HMB5.out.alloc (.cells #[.int .u8 V] 5)); have HFA := Lib.hid ((HF.out.keepB HB5.out).keepB (w' := w5.alloc (.cells #[.int .u8 V] 5)) (bel_alloc bel_refl).below); have HRD := Lib.hid (reads_new w5 [.int .u8 V] 5 1 1 (by rfl)); have hz5 : w.heap.size ≤ (w5.alloc (.cells #[.int .u8 V] 5)).heap.size := HFA.out.fk.size; clear hb5)
            | (refine step_append_any _ (by rfl) (.tmp 34) (.tmp 40) 27 (by rfl) w.heap.size 5 i0 (.int .u8 0) 1 1 Try.underlying27 hi0 hz0 hz1 hz2 rfl (by omega) (.slice Am L cm) L _ (by kernel_rfl) HOW5.out _ (some ⟨w5.heap.size, 0, none⟩) 1 1 _ (by kernel_rfl) HRD.out ?_ ?_ ?_ hz5 ?_; (· intro u hu; simp at hu; subst hu; rfl); (· unfold maxLen; omega); (· omega); intro v' w6 hown6 hgrow6 hat6; obtain ⟨A6, c6, rfl⟩ := own_slice hown6; have HF6 := Lib.hid (HFA.out.next HMA.out HOW5.out hgrow6 (by dsimp only; rw [HVV.out]; exact hown6) (by dsimp only; rw [← HNN.out]; exact HLL.out.symm)); have hm6 := grown_blk hgrow6 HOW5.out HMA.out (by decide); have zf := hm6.frozen 4; have z4 : w6.cell? ⟨ob, 4, none⟩ = some (.slice Am L cm) := hm6.cell 4; clear hown6 hgrow6 hat6 hm6)
            | fail)
          all_goals
            go_wp2_with fail
            go_roundg (n - (j + 1))
            case rel => exact ⟨j + 1, by omega, by go_num, HF6⟩
            case measure => omega
        · have e1 : decide (X0 + (j : Int) < X1) = false := by rw [decide_eq_false_iff_not]; have := HNN.out; omega
          obtain rfl : j = n := by omega
          clear hm hown
          go_wp2_with fail
          go_roundg (h - (k + 1))
          case rel => exact ⟨k + 1, by omega, by go_num, Lib.hid (by
            have hcx := cropX_row (m := ⟨x0, y0, x1, y1⟩) (b := ⟨X0, Y0, X1, Y1⟩) HM.out HI.out (k := k) HKY.out
            have F := HF.out
            refine ⟨F.fm, F.fr, ?_, F.fk, F.fne⟩
            obtain ⟨v, h1, h2⟩ := F.fo
            refine ⟨v, h1, ?_⟩
            rw [cropN_succ, ← hcx]
            dsimp only at h2 ⊢
            rw [← HNN.out] at h2 ⊢
            have ex : cropX ⟨x0, y0, x1, y1⟩ bs ⟨X0, Y0, X1, Y1⟩ (k + 1) 0 = [] := rfl
            rw [ex, List.append_nil, Nat.add_zero, Nat.succ_mul]
            exact h2)⟩
          case measure => omega
    · have e1 : decide (Y0 + (k : Int) < Y1) = false := by rw [decide_eq_false_iff_not]; have := HH.out; omega
      obtain rfl : k = h := by omega
      obtain ⟨Am, cm, rfl⟩ := own_slice hown
      obtain ⟨L, hL⟩ : ∃ L, k * (X1 - X0).toNat + 0 = L := ⟨_, rfl⟩
      dsimp only at hown
      rw [hL] at hm hown
      have m4 : wr.cell? ⟨ob, 4, none⟩ = some (.slice Am L cm) := hm.cell 4
      have hrr := HF.out.fr
      have d0 := hrr.cell 0
      have d1 := hrr.cell 1
      have d2 := hrr.cell 2
      have d3 := hrr.cell 3
      have d4 := hrr.cell 4
      have f0 := hrr.frozen 0
      have f1 := hrr.frozen 1
      have f2 := hrr.frozen 2
      have f3 := hrr.frozen 3
      have f4 := hrr.frozen 4
      have hl := hrr.lt
      have HRR := Lib.hid hrr
      have HOW := Lib.hid hown
      have HKE := Lib.hid HF.out.fk
      clear hm hown hrr hL
      go_wp2_with fail
      generalize hWf : World.setCell _ _ _ = Wf
      have HRF : Hid (Blk Wf (w.heap.size + 1 + 1) 29 [.int .i64 X0, .int .i64 Y0, .int .i64 X1, .int .i64 Y1, .slice Am L cm]) := Lib.hid (by rw [← hWf]; exact ((((HRR.out.set 0 _).set 1 _).set 2 _).set 3 _).set 4 _)
      have HOF : Hid (Wf.ownsRow w.heap.size 5 1 (.slice Am L cm) L ((cropN ⟨x0, y0, x1, y1⟩ bs ⟨X0, Y0, X1, Y1⟩ k).map (.int .u8))) := Lib.hid (by
        rw [← hWf]
        have ex : cropX ⟨x0, y0, x1, y1⟩ bs ⟨X0, Y0, X1, Y1⟩ k 0 = [] := rfl
        have h1 := HOW.out
        rw [ex, List.append_nil] at h1
        refine own_keep h1 fun r hr2 => ?_
        have hne : r ≠ w.heap.size + 1 + 1 := fun e2 => own_blk_ne HOW.out HRR.out (by decide) (by rw [hr2, e2])
        rw [Below.heap_setCell _ _ _ _ hne, Below.heap_setCell _ _ _ _ hne, Below.heap_setCell _ _ _ _ hne, Below.heap_setCell _ _ _ _ hne, Below.heap_setCell _ _ _ _ hne])
      have HBF : Hid (Below w.heap.size w Wf) := Lib.hid (by
        rw [← hWf]
        have hle : w.heap.size ≤ w.heap.size + 1 + 1 := by omega
        exact ((((HKE.out.setCell hle _).setCell hle _).setCell hle _).setCell hle _).setCell hle _)
      clear hWf d0 d1 d2 d3 d4 f0 f1 f2 f3 f4 m4 b0 b1 b2 b3
      have e0 := HRF.out.cell 0
      have e1 := HRF.out.cell 1
      have e2 := HRF.out.cell 2
      have e3 := HRF.out.cell 3
      have e4 := HRF.out.cell 4
      with_reducible refine bodyPost_ret (v := .agg #[.int .i64 X0, .int .i64 Y0, .int .i64 X1, .int .i64 Y1, .slice Am L cm]) (by simp [results, Try.results27, go_sem, e0, e1, e2, e3, e4]) rfl ?_
      have hcr : (Y1 - Y0).toNat = k := HH.out.symm
      refine ⟨.slice Am L cm, rfl, ?_, HBF.out⟩
      have hlen : (cropN ⟨x0, y0, x1, y1⟩ bs ⟨X0, Y0, X1, Y1⟩ k).length = L := by
        have := HOF.out.1
        rw [List.length_map, Nat.mul_one] at this
        exact this
      show World.ownsRow Wf _ _ _ _ (cropN _ _ _ (Y1 - Y0).toNat).length ((cropN _ _ _ (Y1 - Y0).toNat).map _)
      rw [hcr, hlen]
      exact HOF.out
end Go.Proofs.Ytbflncfhbmlibaa

namespace Go.Proofs.Ytbflncfhbmlibaa
open Go.RowKit Go.Shelf

theorem masks_far {w : World} (m b : B4) {A : Option Addr} {n c : Nat} (x y : Int) (hn : 20000 < n) : Calls Try.prog 8 #[.agg #[.int .i64 m.x0, .int .i64 m.y0, .int .i64 m.x1, .int .i64 m.y1, .slice A n c], .agg #[.int .i64 b.x0, .int .i64 b.y0, .int .i64 b.x1, .int .i64 b.y1], .int .i64 x, .int .i64 y] w fun e w' =>
    e = .returned (.bool true) ∧ Below w.heap.size w w' := by
  obtain ⟨x0, y0, x1, y1⟩ := m
  obtain ⟨u0, v0, u1, v1⟩ := b
  dsimp only
  have hn2 : (20000 : Int) < (n : Int) := by omega
  go_enter Try.func8, Try.ntmps8
  go_wp2_with (first
    | (go_at_call 11; (with_reducible refine (lives23_any _).mono ?_); rintro e w1 ⟨rfl, hb⟩; have HB := Lib.hid hb; clear hb)
    | fail)
  go_ret
  exact ⟨rfl, (bel_alloc (bel_alloc bel_refl)).below.trans (HB.out.mono (by simp; omega))⟩
set_option maxRecDepth 20000 in
set_option maxHeartbeats 8000000 in
theorem masks_bad {w : World} (m b : B4) {A : Option Addr} {c : Nat} {bs : List Int} (x y : Int) (h : ByAt w A bs) (ho : okBs bs) (hn : bs.length ≤ 20000) (hc : bs.length ≤ c) (hm : maskE m.x0 m.y0 m.x1 m.y1 bs.length = 220) : Calls Try.prog 8 #[.agg #[.int .i64 m.x0, .int .i64 m.y0, .int .i64 m.x1, .int .i64 m.y1, .slice A bs.length c], .agg #[.int .i64 b.x0, .int .i64 b.y0, .int .i64 b.x1, .int .i64 b.y1], .int .i64 x, .int .i64 y] w fun e w' =>
    e = .returned (.bool true) ∧ Below w.heap.size w w' := by
  have hn7 : bs.length ≤ 16777216 := by omega
  have HK := Lib.hid fun W => rCheck_any m.x0 m.y0 m.x1 m.y1 A bs.length c (by omega) W
  have HKP := Lib.hid fun W => Check_any m.x0 m.y0 m.x1 m.y1 A bs.length c (by omega) W
  have HT := Lib.hid fun W (h : ByAt W A bs) => Total_any m (c := c) h ho hn7
  have HP := Lib.hid fun W (h : ByAt W A bs) => At23_any m (c := c) x y h ho hn7
  have HCR : Hid (∀ W, ByAt W A bs → Calls Try.prog 24 #[.agg #[.int .i64 m.x0, .int .i64 m.y0, .int .i64 m.x1, .int .i64 m.y1, .slice A bs.length c], .agg #[.int .i64 b.x0, .int .i64 b.y0, .int .i64 b.x1, .int .i64 b.y1]] W fun e w' => ∃ A3 c3, e = .returned (.tuple #[.agg #[.int .i64 0, .int .i64 0, .int .i64 0, .int .i64 0, .slice A3 0 c3], .int .i64 220]) ∧ ByAt w' A3 [] ∧ Below W.heap.size W w') := Lib.hid fun W hW => by
    have hce : cropE m bs b = 220 := by unfold cropE; rw [if_neg (by rw [hm]; decide), hm]
    refine (Crop_any m b hW hn7 hc).mono fun e w' he => ?_
    obtain ⟨v, rfl, h1, h2⟩ := he
    have hcr : cropR m bs b = [] := by unfold cropR; rw [if_neg (by rw [hce]; decide)]
    rw [hcr] at h1
    obtain ⟨A3, c3, rfl⟩ := own_slice h1
    exact ⟨A3, c3, by unfold maskV cropB; rw [hce, if_neg (by decide)]; rfl, (by_of_own h1).1, h2⟩
  rw [hm] at HK HKP
  have e1 : totE m bs = 220 := hm
  have e2 : totV m bs = 0 := by unfold totV; rw [if_neg (by rw [e1]; decide)]
  have e3 : atM m bs x y = 0 := by unfold atM; rw [if_neg (fun h => by rw [hm] at h; cases h.1)]
  rw [e1, e2] at HT
  rw [e3] at HP
  clear e1 e2 e3 hm
  obtain ⟨x0, y0, x1, y1⟩ := m
  obtain ⟨u0, v0, u1, v1⟩ := b
  dsimp only at HK HKP HT HP HCR ⊢
  have HM0 : Hid (Blk ((w.alloc (.cells #[.int .i64 x0, .int .i64 y0, .int .i64 x1, .int .i64 y1, .slice A bs.length c] 29)).alloc (.cells #[.int .i64 u0, .int .i64 v0, .int .i64 u1, .int .i64 v1] 26)) w.heap.size 29 [.int .i64 x0, .int .i64 y0, .int .i64 x1, .int .i64 y1, .slice A bs.length c]) := Lib.hid ((Blk.new w _ [_, _, _, _, _]).alloc _)
  have HX0 : Hid (Blk ((w.alloc (.cells #[.int .i64 x0, .int .i64 y0, .int .i64 x1, .int .i64 y1, .slice A bs.length c] 29)).alloc (.cells #[.int .i64 u0, .int .i64 v0, .int .i64 u1, .int .i64 v1] 26)) (w.heap.size + 1) 26 [.int .i64 u0, .int .i64 v0, .int .i64 u1, .int .i64 v1]) := Lib.hid (Blk.newAt _ _ [_, _, _, _] (by simp))
  have HW0 : Hid (Below w.heap.size w ((w.alloc (.cells #[.int .i64 x0, .int .i64 y0, .int .i64 x1, .int .i64 y1, .slice A bs.length c] 29)).alloc (.cells #[.int .i64 u0, .int .i64 v0, .int .i64 u1, .int .i64 v1] 26))) := Lib.hid (bel_alloc (bel_alloc bel_refl)).below
  have HA0 := Lib.hid (h.keep HW0.out)
  have hn2 : (bs.length : Int) ≤ 20000 := by omega
  clear h ho hn hc
  go_enter Try.func8, Try.ntmps8
  go_wp2_with (first
    | (go_at_call 21; (with_reducible refine (HK.out _).mono ?_); rintro e w1 ⟨rfl, hb⟩; have HM1 := Lib.hid (HM0.out.keepB hb); have HX1 := Lib.hid (HX0.out.keepB hb); have HA1 := Lib.hid (HA0.out.keep hb); have HW1 := Lib.hid (HW0.out.trans (hb.mono HW0.out.size)); clear hb; have a0 : w1.cell? ⟨w.heap.size, 0, none⟩ = some (.int .i64 x0) := HM1.out.cell 0; have a1 : w1.cell? ⟨w.heap.size, 1, none⟩ = some (.int .i64 y0) := HM1.out.cell 1; have a2 : w1.cell? ⟨w.heap.size, 2, none⟩ = some (.int .i64 x1) := HM1.out.cell 2; have a3 : w1.cell? ⟨w.heap.size, 3, none⟩ = some (.int .i64 y1) := HM1.out.cell 3; have a4 : w1.cell? ⟨w.heap.size, 4, none⟩ = some (.slice A bs.length c) := HM1.out.cell 4; have b0 : w1.cell? ⟨w.heap.size + 1, 0, none⟩ = some (.int .i64 u0) := HX1.out.cell 0; have b1 : w1.cell? ⟨w.heap.size + 1, 1, none⟩ = some (.int .i64 v0) := HX1.out.cell 1; have b2 : w1.cell? ⟨w.heap.size + 1, 2, none⟩ = some (.int .i64 u1) := HX1.out.cell 2; have b3 : w1.cell? ⟨w.heap.size + 1, 3, none⟩ = some (.int .i64 v1) := HX1.out.cell 3; have al := HM1.out.lt; have bl := HX1.out.lt; skip)
    | (go_at_call 24; (with_reducible refine (HCR.out _ HA1.out).mono ?_); rintro e w2 ⟨A3, c3, rfl, ho, hb⟩; have HM2 := Lib.hid ((HM1.out.keepB hb).alloc (.cells #[.int .i64 0, .int .i64 0, .int .i64 0, .int .i64 0, .slice A3 0 c3] 29)); have HX2 := Lib.hid ((HX1.out.keepB hb).alloc (.cells #[.int .i64 0, .int .i64 0, .int .i64 0, .int .i64 0, .slice A3 0 c3] 29)); have HA2 := Lib.hid ((HA1.out.keep hb).keep (w' := w2.alloc (.cells #[.int .i64 0, .int .i64 0, .int .i64 0, .int .i64 0, .slice A3 0 c3] 29)) (bel_alloc bel_refl).below); have HW2 := Lib.hid ((HW1.out.trans (hb.mono HW1.out.size)).alloc (Nat.le_trans HW1.out.size hb.size) (.cells #[.int .i64 0, .int .i64 0, .int .i64 0, .int .i64 0, .slice A3 0 c3] 29)); have HC2 := Lib.hid (Blk.new w2 29 [.int .i64 0, .int .i64 0, .int .i64 0, .int .i64 0, .slice A3 0 c3]); have HY2 := Lib.hid (ho.keep (w' := w2.alloc (.cells #[.int .i64 0, .int .i64 0, .int .i64 0, .int .i64 0, .slice A3 0 c3] 29)) (bel_alloc bel_refl).below); clear a0 a1 a2 a3 a4 b0 b1 b2 b3 al bl hb ho; have a0 : (w2.alloc (.cells #[.int .i64 0, .int .i64 0, .int .i64 0, .int .i64 0, .slice A3 0 c3] 29)).cell? ⟨w.heap.size, 0, none⟩ = some (.int .i64 x0) := HM2.out.cell 0; have a1 : (w2.alloc (.cells #[.int .i64 0, .int .i64 0, .int .i64 0, .int .i64 0, .slice A3 0 c3] 29)).cell? ⟨w.heap.size, 1, none⟩ = some (.int .i64 y0) := HM2.out.cell 1; have a2 : (w2.alloc (.cells #[.int .i64 0, .int .i64 0, .int .i64 0, .int .i64 0, .slice A3 0 c3] 29)).cell? ⟨w.heap.size, 2, none⟩ = some (.int .i64 x1) := HM2.out.cell 2; have a3 : (w2.alloc (.cells #[.int .i64 0, .int .i64 0, .int .i64 0, .int .i64 0, .slice A3 0 c3] 29)).cell? ⟨w.heap.size, 3, none⟩ = some (.int .i64 y1) := HM2.out.cell 3; have a4 : (w2.alloc (.cells #[.int .i64 0, .int .i64 0, .int .i64 0, .int .i64 0, .slice A3 0 c3] 29)).cell? ⟨w.heap.size, 4, none⟩ = some (.slice A bs.length c) := HM2.out.cell 4; have b0 : (w2.alloc (.cells #[.int .i64 0, .int .i64 0, .int .i64 0, .int .i64 0, .slice A3 0 c3] 29)).cell? ⟨w.heap.size + 1, 0, none⟩ = some (.int .i64 u0) := HX2.out.cell 0; have b1 : (w2.alloc (.cells #[.int .i64 0, .int .i64 0, .int .i64 0, .int .i64 0, .slice A3 0 c3] 29)).cell? ⟨w.heap.size + 1, 1, none⟩ = some (.int .i64 v0) := HX2.out.cell 1; have b2 : (w2.alloc (.cells #[.int .i64 0, .int .i64 0, .int .i64 0, .int .i64 0, .slice A3 0 c3] 29)).cell? ⟨w.heap.size + 1, 2, none⟩ = some (.int .i64 u1) := HX2.out.cell 2; have b3 : (w2.alloc (.cells #[.int .i64 0, .int .i64 0, .int .i64 0, .int .i64 0, .slice A3 0 c3] 29)).cell? ⟨w.heap.size + 1, 3, none⟩ = some (.int .i64 v1) := HX2.out.cell 3; have d0 : (w2.alloc (.cells #[.int .i64 0, .int .i64 0, .int .i64 0, .int .i64 0, .slice A3 0 c3] 29)).cell? ⟨w2.heap.size, 0, none⟩ = some (.int .i64 0) := HC2.out.cell 0; have d1 : (w2.alloc (.cells #[.int .i64 0, .int .i64 0, .int .i64 0, .int .i64 0, .slice A3 0 c3] 29)).cell? ⟨w2.heap.size, 1, none⟩ = some (.int .i64 0) := HC2.out.cell 1; have d2 : (w2.alloc (.cells #[.int .i64 0, .int .i64 0, .int .i64 0, .int .i64 0, .slice A3 0 c3] 29)).cell? ⟨w2.heap.size, 2, none⟩ = some (.int .i64 0) := HC2.out.cell 2; have d3 : (w2.alloc (.cells #[.int .i64 0, .int .i64 0, .int .i64 0, .int .i64 0, .slice A3 0 c3] 29)).cell? ⟨w2.heap.size, 3, none⟩ = some (.int .i64 0) := HC2.out.cell 3; have d4 : (w2.alloc (.cells #[.int .i64 0, .int .i64 0, .int .i64 0, .int .i64 0, .slice A3 0 c3] 29)).cell? ⟨w2.heap.size, 4, none⟩ = some (.slice A3 0 c3) := HC2.out.cell 4; have al := HM2.out.lt; have bl := HX2.out.lt; have dl := HC2.out.lt; skip)
    | (go_at_call 25; (with_reducible refine (HT.out _ HA2.out).mono ?_); rintro e w3 ⟨rfl, hb⟩; have hb' := hb; have HM3 := Lib.hid (HM2.out.keepB hb); have HX3 := Lib.hid (HX2.out.keepB hb); have HA3 := Lib.hid (HA2.out.keep hb); have HW3 := Lib.hid (HW2.out.trans (hb.mono HW2.out.size)); have HC3 := Lib.hid (HC2.out.keepB hb); clear a0 a1 a2 a3 a4 b0 b1 b2 b3 al bl d0 d1 d2 d3 d4 dl; clear hb; have HY3 := Lib.hid (HY2.out.keep hb'); clear hb'; have a0 : w3.cell? ⟨w.heap.size, 0, none⟩ = some (.int .i64 x0) := HM3.out.cell 0; have a1 : w3.cell? ⟨w.heap.size, 1, none⟩ = some (.int .i64 y0) := HM3.out.cell 1; have a2 : w3.cell? ⟨w.heap.size, 2, none⟩ = some (.int .i64 x1) := HM3.out.cell 2; have a3 : w3.cell? ⟨w.heap.size, 3, none⟩ = some (.int .i64 y1) := HM3.out.cell 3; have a4 : w3.cell? ⟨w.heap.size, 4, none⟩ = some (.slice A bs.length c) := HM3.out.cell 4; have b0 : w3.cell? ⟨w.heap.size + 1, 0, none⟩ = some (.int .i64 u0) := HX3.out.cell 0; have b1 : w3.cell? ⟨w.heap.size + 1, 1, none⟩ = some (.int .i64 v0) := HX3.out.cell 1; have b2 : w3.cell? ⟨w.heap.size + 1, 2, none⟩ = some (.int .i64 u1) := HX3.out.cell 2; have b3 : w3.cell? ⟨w.heap.size + 1, 3, none⟩ = some (.int .i64 v1) := HX3.out.cell 3; have al := HM3.out.lt; have bl := HX3.out.lt; have d0 : w3.cell? ⟨w2.heap.size, 0, none⟩ = some (.int .i64 0) := HC3.out.cell 0; have d1 : w3.cell? ⟨w2.heap.size, 1, none⟩ = some (.int .i64 0) := HC3.out.cell 1; have d2 : w3.cell? ⟨w2.heap.size, 2, none⟩ = some (.int .i64 0) := HC3.out.cell 2; have d3 : w3.cell? ⟨w2.heap.size, 3, none⟩ = some (.int .i64 0) := HC3.out.cell 3; have d4 : w3.cell? ⟨w2.heap.size, 4, none⟩ = some (.slice A3 0 c3) := HC3.out.cell 4; have dl := HC3.out.lt; skip)
    | (go_at_call 26; (with_reducible refine (HP.out _ HA3.out).mono ?_); rintro e w4 ⟨rfl, hb⟩; have hb' := hb; have HM4 := Lib.hid (HM3.out.keepB hb); have HX4 := Lib.hid (HX3.out.keepB hb); have HA4 := Lib.hid (HA3.out.keep hb); have HW4 := Lib.hid (HW3.out.trans (hb.mono HW3.out.size)); have HC4 := Lib.hid (HC3.out.keepB hb); clear a0 a1 a2 a3 a4 b0 b1 b2 b3 al bl d0 d1 d2 d3 d4 dl; clear hb; have HY4 := Lib.hid (HY3.out.keep hb'); clear hb'; have a0 : w4.cell? ⟨w.heap.size, 0, none⟩ = some (.int .i64 x0) := HM4.out.cell 0; have a1 : w4.cell? ⟨w.heap.size, 1, none⟩ = some (.int .i64 y0) := HM4.out.cell 1; have a2 : w4.cell? ⟨w.heap.size, 2, none⟩ = some (.int .i64 x1) := HM4.out.cell 2; have a3 : w4.cell? ⟨w.heap.size, 3, none⟩ = some (.int .i64 y1) := HM4.out.cell 3; have a4 : w4.cell? ⟨w.heap.size, 4, none⟩ = some (.slice A bs.length c) := HM4.out.cell 4; have b0 : w4.cell? ⟨w.heap.size + 1, 0, none⟩ = some (.int .i64 u0) := HX4.out.cell 0; have b1 : w4.cell? ⟨w.heap.size + 1, 1, none⟩ = some (.int .i64 v0) := HX4.out.cell 1; have b2 : w4.cell? ⟨w.heap.size + 1, 2, none⟩ = some (.int .i64 u1) := HX4.out.cell 2; have b3 : w4.cell? ⟨w.heap.size + 1, 3, none⟩ = some (.int .i64 v1) := HX4.out.cell 3; have al := HM4.out.lt; have bl := HX4.out.lt; have d0 : w4.cell? ⟨w2.heap.size, 0, none⟩ = some (.int .i64 0) := HC4.out.cell 0; have d1 : w4.cell? ⟨w2.heap.size, 1, none⟩ = some (.int .i64 0) := HC4.out.cell 1; have d2 : w4.cell? ⟨w2.heap.size, 2, none⟩ = some (.int .i64 0) := HC4.out.cell 2; have d3 : w4.cell? ⟨w2.heap.size, 3, none⟩ = some (.int .i64 0) := HC4.out.cell 3; have d4 : w4.cell? ⟨w2.heap.size, 4, none⟩ = some (.slice A3 0 c3) := HC4.out.cell 4; have dl := HC4.out.lt; skip)
    | (go_at_call 11; (with_reducible refine (lives23_any _).mono ?_); rintro e w5 ⟨rfl, hb⟩; have hb' := hb; have HM5 := Lib.hid (HM4.out.keepB hb); have HX5 := Lib.hid (HX4.out.keepB hb); have HA5 := Lib.hid (HA4.out.keep hb); have HW5 := Lib.hid (HW4.out.trans (hb.mono HW4.out.size)); have HC5 := Lib.hid (HC4.out.keepB hb); clear a0 a1 a2 a3 a4 b0 b1 b2 b3 al bl d0 d1 d2 d3 d4 dl; clear hb; have HY5 := Lib.hid (HY4.out.keep hb'); clear hb'; have a0 : w5.cell? ⟨w.heap.size, 0, none⟩ = some (.int .i64 x0) := HM5.out.cell 0; have a1 : w5.cell? ⟨w.heap.size, 1, none⟩ = some (.int .i64 y0) := HM5.out.cell 1; have a2 : w5.cell? ⟨w.heap.size, 2, none⟩ = some (.int .i64 x1) := HM5.out.cell 2; have a3 : w5.cell? ⟨w.heap.size, 3, none⟩ = some (.int .i64 y1) := HM5.out.cell 3; have a4 : w5.cell? ⟨w.heap.size, 4, none⟩ = some (.slice A bs.length c) := HM5.out.cell 4; have b0 : w5.cell? ⟨w.heap.size + 1, 0, none⟩ = some (.int .i64 u0) := HX5.out.cell 0; have b1 : w5.cell? ⟨w.heap.size + 1, 1, none⟩ = some (.int .i64 v0) := HX5.out.cell 1; have b2 : w5.cell? ⟨w.heap.size + 1, 2, none⟩ = some (.int .i64 u1) := HX5.out.cell 2; have b3 : w5.cell? ⟨w.heap.size + 1, 3, none⟩ = some (.int .i64 v1) := HX5.out.cell 3; have al := HM5.out.lt; have bl := HX5.out.lt; have d0 : w5.cell? ⟨w2.heap.size, 0, none⟩ = some (.int .i64 0) := HC5.out.cell 0; have d1 : w5.cell? ⟨w2.heap.size, 1, none⟩ = some (.int .i64 0) := HC5.out.cell 1; have d2 : w5.cell? ⟨w2.heap.size, 2, none⟩ = some (.int .i64 0) := HC5.out.cell 2; have d3 : w5.cell? ⟨w2.heap.size, 3, none⟩ = some (.int .i64 0) := HC5.out.cell 3; have d4 : w5.cell? ⟨w2.heap.size, 4, none⟩ = some (.slice A3 0 c3) := HC5.out.cell 4; have dl := HC5.out.lt; skip)
    | (go_at_call 15; (with_reducible refine (HKP.out _).mono ?_); rintro e w6 ⟨rfl, hb⟩; have hb' := hb; have HM6 := Lib.hid (HM5.out.keepB hb); have HX6 := Lib.hid (HX5.out.keepB hb); have HA6 := Lib.hid (HA5.out.keep hb); have HW6 := Lib.hid (HW5.out.trans (hb.mono HW5.out.size)); have HC6 := Lib.hid (HC5.out.keepB hb); clear a0 a1 a2 a3 a4 b0 b1 b2 b3 al bl d0 d1 d2 d3 d4 dl; clear hb; have HY6 := Lib.hid (HY5.out.keep hb'); clear hb'; have a0 : w6.cell? ⟨w.heap.size, 0, none⟩ = some (.int .i64 x0) := HM6.out.cell 0; have a1 : w6.cell? ⟨w.heap.size, 1, none⟩ = some (.int .i64 y0) := HM6.out.cell 1; have a2 : w6.cell? ⟨w.heap.size, 2, none⟩ = some (.int .i64 x1) := HM6.out.cell 2; have a3 : w6.cell? ⟨w.heap.size, 3, none⟩ = some (.int .i64 y1) := HM6.out.cell 3; have a4 : w6.cell? ⟨w.heap.size, 4, none⟩ = some (.slice A bs.length c) := HM6.out.cell 4; have b0 : w6.cell? ⟨w.heap.size + 1, 0, none⟩ = some (.int .i64 u0) := HX6.out.cell 0; have b1 : w6.cell? ⟨w.heap.size + 1, 1, none⟩ = some (.int .i64 v0) := HX6.out.cell 1; have b2 : w6.cell? ⟨w.heap.size + 1, 2, none⟩ = some (.int .i64 u1) := HX6.out.cell 2; have b3 : w6.cell? ⟨w.heap.size + 1, 3, none⟩ = some (.int .i64 v1) := HX6.out.cell 3; have al := HM6.out.lt; have bl := HX6.out.lt; have d0 : w6.cell? ⟨w2.heap.size, 0, none⟩ = some (.int .i64 0) := HC6.out.cell 0; have d1 : w6.cell? ⟨w2.heap.size, 1, none⟩ = some (.int .i64 0) := HC6.out.cell 1; have d2 : w6.cell? ⟨w2.heap.size, 2, none⟩ = some (.int .i64 0) := HC6.out.cell 2; have d3 : w6.cell? ⟨w2.heap.size, 3, none⟩ = some (.int .i64 0) := HC6.out.cell 3; have d4 : w6.cell? ⟨w2.heap.size, 4, none⟩ = some (.slice A3 0 c3) := HC6.out.cell 4; have dl := HC6.out.lt; skip)
    | fail)
  go_ret
  exact ⟨rfl, HW6.out⟩
set_option maxRecDepth 20000 in
set_option maxHeartbeats 8000000 in
theorem masks_over {w : World} (m b : B4) {A : Option Addr} {c : Nat} {bs : List Int} (x y : Int) (h : ByAt w A bs) (ho : okBs bs) (hn : bs.length ≤ 20000) (hc : bs.length ≤ c) (hm : maskE m.x0 m.y0 m.x1 m.y1 bs.length = 0) (hbb : bB b.x0 b.y0 b.x1 b.y1 = false) : Calls Try.prog 8 #[.agg #[.int .i64 m.x0, .int .i64 m.y0, .int .i64 m.x1, .int .i64 m.y1, .slice A bs.length c], .agg #[.int .i64 b.x0, .int .i64 b.y0, .int .i64 b.x1, .int .i64 b.y1], .int .i64 x, .int .i64 y] w fun e w' =>
    e = .returned (.bool true) ∧ Below w.heap.size w w' := by
  have hn7 : bs.length ≤ 16777216 := by omega
  have HK := Lib.hid fun W => rCheck_any m.x0 m.y0 m.x1 m.y1 A bs.length c (by omega) W
  have HKP := Lib.hid fun W => Check_any m.x0 m.y0 m.x1 m.y1 A bs.length c (by omega) W
  have HT := Lib.hid fun W (h : ByAt W A bs) => Total_any m (c := c) h ho hn7
  have HP := Lib.hid fun W (h : ByAt W A bs) => At23_any m (c := c) x y h ho hn7
  have HCR : Hid (∀ W, ByAt W A bs → Calls Try.prog 24 #[.agg #[.int .i64 m.x0, .int .i64 m.y0, .int .i64 m.x1, .int .i64 m.y1, .slice A bs.length c], .agg #[.int .i64 b.x0, .int .i64 b.y0, .int .i64 b.x1, .int .i64 b.y1]] W fun e w' => ∃ A3 c3, e = .returned (.tuple #[.agg #[.int .i64 0, .int .i64 0, .int .i64 0, .int .i64 0, .slice A3 0 c3], .int .i64 10]) ∧ ByAt w' A3 [] ∧ Below W.heap.size W w') := Lib.hid fun W hW => by
    have hce : cropE m bs b = 10 := by unfold cropE; rw [if_pos hm, hbb, if_neg (by decide)]
    refine (Crop_any m b hW hn7 hc).mono fun e w' he => ?_
    obtain ⟨v, rfl, h1, h2⟩ := he
    have hcr : cropR m bs b = [] := by unfold cropR; rw [if_neg (by rw [hce]; decide)]
    rw [hcr] at h1
    obtain ⟨A3, c3, rfl⟩ := own_slice h1
    exact ⟨A3, c3, by unfold maskV cropB; rw [hce, if_neg (by decide)]; rfl, (by_of_own h1).1, h2⟩
  rw [hm] at HK HKP
  have e1 : totE m bs = 0 := hm
  have e2 : totV m bs = bs.sum := by unfold totV; rw [if_pos e1]
  have HRA := Lib.hid fun W (h : ByAt W A bs) => rAt23_any m (c := c) x y h ho hn7 hm
  rw [e1, e2] at HT
  clear e1 e2
  have HMB := Lib.hid fun W => rMayBox_any b.x0 b.y0 b.x1 b.y1 W
  rw [hbb] at HMB
  have HO := Lib.hid ho
  clear hm hbb
  obtain ⟨x0, y0, x1, y1⟩ := m
  obtain ⟨u0, v0, u1, v1⟩ := b
  dsimp only at HK HKP HT HP HCR HRA HMB ⊢
  have HM0 : Hid (Blk ((w.alloc (.cells #[.int .i64 x0, .int .i64 y0, .int .i64 x1, .int .i64 y1, .slice A bs.length c] 29)).alloc (.cells #[.int .i64 u0, .int .i64 v0, .int .i64 u1, .int .i64 v1] 26)) w.heap.size 29 [.int .i64 x0, .int .i64 y0, .int .i64 x1, .int .i64 y1, .slice A bs.length c]) := Lib.hid ((Blk.new w _ [_, _, _, _, _]).alloc _)
  have HX0 : Hid (Blk ((w.alloc (.cells #[.int .i64 x0, .int .i64 y0, .int .i64 x1, .int .i64 y1, .slice A bs.length c] 29)).alloc (.cells #[.int .i64 u0, .int .i64 v0, .int .i64 u1, .int .i64 v1] 26)) (w.heap.size + 1) 26 [.int .i64 u0, .int .i64 v0, .int .i64 u1, .int .i64 v1]) := Lib.hid (Blk.newAt _ _ [_, _, _, _] (by simp))
  have HW0 : Hid (Below w.heap.size w ((w.alloc (.cells #[.int .i64 x0, .int .i64 y0, .int .i64 x1, .int .i64 y1, .slice A bs.length c] 29)).alloc (.cells #[.int .i64 u0, .int .i64 v0, .int .i64 u1, .int .i64 v1] 26))) := Lib.hid (bel_alloc (bel_alloc bel_refl)).below
  have HA0 := Lib.hid (h.keep HW0.out)
  have hn2 : (bs.length : Int) ≤ 20000 := by omega
  clear h ho hn hc
  go_enter Try.func8, Try.ntmps8
  go_wp2_with (first
    | (go_at_call 21; (with_reducible refine (HK.out _).mono ?_); rintro e w1 ⟨rfl, hb⟩; have HM1 := Lib.hid (HM0.out.keepB hb); have HX1 := Lib.hid (HX0.out.keepB hb); have HA1 := Lib.hid (HA0.out.keep hb); have HW1 := Lib.hid (HW0.out.trans (hb.mono HW0.out.size)); clear hb; have a0 : w1.cell? ⟨w.heap.size, 0, none⟩ = some (.int .i64 x0) := HM1.out.cell 0; have a1 : w1.cell? ⟨w.heap.size, 1, none⟩ = some (.int .i64 y0) := HM1.out.cell 1; have a2 : w1.cell? ⟨w.heap.size, 2, none⟩ = some (.int .i64 x1) := HM1.out.cell 2; have a3 : w1.cell? ⟨w.heap.size, 3, none⟩ = some (.int .i64 y1) := HM1.out.cell 3; have a4 : w1.cell? ⟨w.heap.size, 4, none⟩ = some (.slice A bs.length c) := HM1.out.cell 4; have b0 : w1.cell? ⟨w.heap.size + 1, 0, none⟩ = some (.int .i64 u0) := HX1.out.cell 0; have b1 : w1.cell? ⟨w.heap.size + 1, 1, none⟩ = some (.int .i64 v0) := HX1.out.cell 1; have b2 : w1.cell? ⟨w.heap.size + 1, 2, none⟩ = some (.int .i64 u1) := HX1.out.cell 2; have b3 : w1.cell? ⟨w.heap.size + 1, 3, none⟩ = some (.int .i64 v1) := HX1.out.cell 3; have al := HM1.out.lt; have bl := HX1.out.lt; skip)
    | (go_at_call 24; (with_reducible refine (HCR.out _ HA1.out).mono ?_); rintro e w2 ⟨A3, c3, rfl, ho, hb⟩; have HM2 := Lib.hid ((HM1.out.keepB hb).alloc (.cells #[.int .i64 0, .int .i64 0, .int .i64 0, .int .i64 0, .slice A3 0 c3] 29)); have HX2 := Lib.hid ((HX1.out.keepB hb).alloc (.cells #[.int .i64 0, .int .i64 0, .int .i64 0, .int .i64 0, .slice A3 0 c3] 29)); have HA2 := Lib.hid ((HA1.out.keep hb).keep (w' := w2.alloc (.cells #[.int .i64 0, .int .i64 0, .int .i64 0, .int .i64 0, .slice A3 0 c3] 29)) (bel_alloc bel_refl).below); have HW2 := Lib.hid ((HW1.out.trans (hb.mono HW1.out.size)).alloc (Nat.le_trans HW1.out.size hb.size) (.cells #[.int .i64 0, .int .i64 0, .int .i64 0, .int .i64 0, .slice A3 0 c3] 29)); have HC2 := Lib.hid (Blk.new w2 29 [.int .i64 0, .int .i64 0, .int .i64 0, .int .i64 0, .slice A3 0 c3]); have HY2 := Lib.hid (ho.keep (w' := w2.alloc (.cells #[.int .i64 0, .int .i64 0, .int .i64 0, .int .i64 0, .slice A3 0 c3] 29)) (bel_alloc bel_refl).below); clear a0 a1 a2 a3 a4 b0 b1 b2 b3 al bl hb ho; have a0 : (w2.alloc (.cells #[.int .i64 0, .int .i64 0, .int .i64 0, .int .i64 0, .slice A3 0 c3] 29)).cell? ⟨w.heap.size, 0, none⟩ = some (.int .i64 x0) := HM2.out.cell 0; have a1 : (w2.alloc (.cells #[.int .i64 0, .int .i64 0, .int .i64 0, .int .i64 0, .slice A3 0 c3] 29)).cell? ⟨w.heap.size, 1, none⟩ = some (.int .i64 y0) := HM2.out.cell 1; have a2 : (w2.alloc (.cells #[.int .i64 0, .int .i64 0, .int .i64 0, .int .i64 0, .slice A3 0 c3] 29)).cell? ⟨w.heap.size, 2, none⟩ = some (.int .i64 x1) := HM2.out.cell 2; have a3 : (w2.alloc (.cells #[.int .i64 0, .int .i64 0, .int .i64 0, .int .i64 0, .slice A3 0 c3] 29)).cell? ⟨w.heap.size, 3, none⟩ = some (.int .i64 y1) := HM2.out.cell 3; have a4 : (w2.alloc (.cells #[.int .i64 0, .int .i64 0, .int .i64 0, .int .i64 0, .slice A3 0 c3] 29)).cell? ⟨w.heap.size, 4, none⟩ = some (.slice A bs.length c) := HM2.out.cell 4; have b0 : (w2.alloc (.cells #[.int .i64 0, .int .i64 0, .int .i64 0, .int .i64 0, .slice A3 0 c3] 29)).cell? ⟨w.heap.size + 1, 0, none⟩ = some (.int .i64 u0) := HX2.out.cell 0; have b1 : (w2.alloc (.cells #[.int .i64 0, .int .i64 0, .int .i64 0, .int .i64 0, .slice A3 0 c3] 29)).cell? ⟨w.heap.size + 1, 1, none⟩ = some (.int .i64 v0) := HX2.out.cell 1; have b2 : (w2.alloc (.cells #[.int .i64 0, .int .i64 0, .int .i64 0, .int .i64 0, .slice A3 0 c3] 29)).cell? ⟨w.heap.size + 1, 2, none⟩ = some (.int .i64 u1) := HX2.out.cell 2; have b3 : (w2.alloc (.cells #[.int .i64 0, .int .i64 0, .int .i64 0, .int .i64 0, .slice A3 0 c3] 29)).cell? ⟨w.heap.size + 1, 3, none⟩ = some (.int .i64 v1) := HX2.out.cell 3; have d0 : (w2.alloc (.cells #[.int .i64 0, .int .i64 0, .int .i64 0, .int .i64 0, .slice A3 0 c3] 29)).cell? ⟨w2.heap.size, 0, none⟩ = some (.int .i64 0) := HC2.out.cell 0; have d1 : (w2.alloc (.cells #[.int .i64 0, .int .i64 0, .int .i64 0, .int .i64 0, .slice A3 0 c3] 29)).cell? ⟨w2.heap.size, 1, none⟩ = some (.int .i64 0) := HC2.out.cell 1; have d2 : (w2.alloc (.cells #[.int .i64 0, .int .i64 0, .int .i64 0, .int .i64 0, .slice A3 0 c3] 29)).cell? ⟨w2.heap.size, 2, none⟩ = some (.int .i64 0) := HC2.out.cell 2; have d3 : (w2.alloc (.cells #[.int .i64 0, .int .i64 0, .int .i64 0, .int .i64 0, .slice A3 0 c3] 29)).cell? ⟨w2.heap.size, 3, none⟩ = some (.int .i64 0) := HC2.out.cell 3; have d4 : (w2.alloc (.cells #[.int .i64 0, .int .i64 0, .int .i64 0, .int .i64 0, .slice A3 0 c3] 29)).cell? ⟨w2.heap.size, 4, none⟩ = some (.slice A3 0 c3) := HC2.out.cell 4; have al := HM2.out.lt; have bl := HX2.out.lt; have dl := HC2.out.lt; skip)
    | (go_at_call 25; (with_reducible refine (HT.out _ HA2.out).mono ?_); rintro e w3 ⟨rfl, hb⟩; have hb' := hb; have HM3 := Lib.hid (HM2.out.keepB hb); have HX3 := Lib.hid (HX2.out.keepB hb); have HA3 := Lib.hid (HA2.out.keep hb); have HW3 := Lib.hid (HW2.out.trans (hb.mono HW2.out.size)); have HC3 := Lib.hid (HC2.out.keepB hb); clear a0 a1 a2 a3 a4 b0 b1 b2 b3 al bl d0 d1 d2 d3 d4 dl; clear hb; have HY3 := Lib.hid (HY2.out.keep hb'); clear hb'; have a0 : w3.cell? ⟨w.heap.size, 0, none⟩ = some (.int .i64 x0) := HM3.out.cell 0; have a1 : w3.cell? ⟨w.heap.size, 1, none⟩ = some (.int .i64 y0) := HM3.out.cell 1; have a2 : w3.cell? ⟨w.heap.size, 2, none⟩ = some (.int .i64 x1) := HM3.out.cell 2; have a3 : w3.cell? ⟨w.heap.size, 3, none⟩ = some (.int .i64 y1) := HM3.out.cell 3; have a4 : w3.cell? ⟨w.heap.size, 4, none⟩ = some (.slice A bs.length c) := HM3.out.cell 4; have b0 : w3.cell? ⟨w.heap.size + 1, 0, none⟩ = some (.int .i64 u0) := HX3.out.cell 0; have b1 : w3.cell? ⟨w.heap.size + 1, 1, none⟩ = some (.int .i64 v0) := HX3.out.cell 1; have b2 : w3.cell? ⟨w.heap.size + 1, 2, none⟩ = some (.int .i64 u1) := HX3.out.cell 2; have b3 : w3.cell? ⟨w.heap.size + 1, 3, none⟩ = some (.int .i64 v1) := HX3.out.cell 3; have al := HM3.out.lt; have bl := HX3.out.lt; have d0 : w3.cell? ⟨w2.heap.size, 0, none⟩ = some (.int .i64 0) := HC3.out.cell 0; have d1 : w3.cell? ⟨w2.heap.size, 1, none⟩ = some (.int .i64 0) := HC3.out.cell 1; have d2 : w3.cell? ⟨w2.heap.size, 2, none⟩ = some (.int .i64 0) := HC3.out.cell 2; have d3 : w3.cell? ⟨w2.heap.size, 3, none⟩ = some (.int .i64 0) := HC3.out.cell 3; have d4 : w3.cell? ⟨w2.heap.size, 4, none⟩ = some (.slice A3 0 c3) := HC3.out.cell 4; have dl := HC3.out.lt; skip)
    | (go_at_call 26; (with_reducible refine (HP.out _ HA3.out).mono ?_); rintro e w4 ⟨rfl, hb⟩; have hb' := hb; have HM4 := Lib.hid (HM3.out.keepB hb); have HX4 := Lib.hid (HX3.out.keepB hb); have HA4 := Lib.hid (HA3.out.keep hb); have HW4 := Lib.hid (HW3.out.trans (hb.mono HW3.out.size)); have HC4 := Lib.hid (HC3.out.keepB hb); clear a0 a1 a2 a3 a4 b0 b1 b2 b3 al bl d0 d1 d2 d3 d4 dl; clear hb; have HY4 := Lib.hid (HY3.out.keep hb'); clear hb'; have a0 : w4.cell? ⟨w.heap.size, 0, none⟩ = some (.int .i64 x0) := HM4.out.cell 0; have a1 : w4.cell? ⟨w.heap.size, 1, none⟩ = some (.int .i64 y0) := HM4.out.cell 1; have a2 : w4.cell? ⟨w.heap.size, 2, none⟩ = some (.int .i64 x1) := HM4.out.cell 2; have a3 : w4.cell? ⟨w.heap.size, 3, none⟩ = some (.int .i64 y1) := HM4.out.cell 3; have a4 : w4.cell? ⟨w.heap.size, 4, none⟩ = some (.slice A bs.length c) := HM4.out.cell 4; have b0 : w4.cell? ⟨w.heap.size + 1, 0, none⟩ = some (.int .i64 u0) := HX4.out.cell 0; have b1 : w4.cell? ⟨w.heap.size + 1, 1, none⟩ = some (.int .i64 v0) := HX4.out.cell 1; have b2 : w4.cell? ⟨w.heap.size + 1, 2, none⟩ = some (.int .i64 u1) := HX4.out.cell 2; have b3 : w4.cell? ⟨w.heap.size + 1, 3, none⟩ = some (.int .i64 v1) := HX4.out.cell 3; have al := HM4.out.lt; have bl := HX4.out.lt; have d0 : w4.cell? ⟨w2.heap.size, 0, none⟩ = some (.int .i64 0) := HC4.out.cell 0; have d1 : w4.cell? ⟨w2.heap.size, 1, none⟩ = some (.int .i64 0) := HC4.out.cell 1; have d2 : w4.cell? ⟨w2.heap.size, 2, none⟩ = some (.int .i64 0) := HC4.out.cell 2; have d3 : w4.cell? ⟨w2.heap.size, 3, none⟩ = some (.int .i64 0) := HC4.out.cell 3; have d4 : w4.cell? ⟨w2.heap.size, 4, none⟩ = some (.slice A3 0 c3) := HC4.out.cell 4; have dl := HC4.out.lt; skip)
    | (go_at_call 11; (with_reducible refine (lives23_any _).mono ?_); rintro e w5 ⟨rfl, hb⟩; have hb' := hb; have HM5 := Lib.hid (HM4.out.keepB hb); have HX5 := Lib.hid (HX4.out.keepB hb); have HA5 := Lib.hid (HA4.out.keep hb); have HW5 := Lib.hid (HW4.out.trans (hb.mono HW4.out.size)); have HC5 := Lib.hid (HC4.out.keepB hb); clear a0 a1 a2 a3 a4 b0 b1 b2 b3 al bl d0 d1 d2 d3 d4 dl; clear hb; have HY5 := Lib.hid (HY4.out.keep hb'); clear hb'; have a0 : w5.cell? ⟨w.heap.size, 0, none⟩ = some (.int .i64 x0) := HM5.out.cell 0; have a1 : w5.cell? ⟨w.heap.size, 1, none⟩ = some (.int .i64 y0) := HM5.out.cell 1; have a2 : w5.cell? ⟨w.heap.size, 2, none⟩ = some (.int .i64 x1) := HM5.out.cell 2; have a3 : w5.cell? ⟨w.heap.size, 3, none⟩ = some (.int .i64 y1) := HM5.out.cell 3; have a4 : w5.cell? ⟨w.heap.size, 4, none⟩ = some (.slice A bs.length c) := HM5.out.cell 4; have b0 : w5.cell? ⟨w.heap.size + 1, 0, none⟩ = some (.int .i64 u0) := HX5.out.cell 0; have b1 : w5.cell? ⟨w.heap.size + 1, 1, none⟩ = some (.int .i64 v0) := HX5.out.cell 1; have b2 : w5.cell? ⟨w.heap.size + 1, 2, none⟩ = some (.int .i64 u1) := HX5.out.cell 2; have b3 : w5.cell? ⟨w.heap.size + 1, 3, none⟩ = some (.int .i64 v1) := HX5.out.cell 3; have al := HM5.out.lt; have bl := HX5.out.lt; have d0 : w5.cell? ⟨w2.heap.size, 0, none⟩ = some (.int .i64 0) := HC5.out.cell 0; have d1 : w5.cell? ⟨w2.heap.size, 1, none⟩ = some (.int .i64 0) := HC5.out.cell 1; have d2 : w5.cell? ⟨w2.heap.size, 2, none⟩ = some (.int .i64 0) := HC5.out.cell 2; have d3 : w5.cell? ⟨w2.heap.size, 3, none⟩ = some (.int .i64 0) := HC5.out.cell 3; have d4 : w5.cell? ⟨w2.heap.size, 4, none⟩ = some (.slice A3 0 c3) := HC5.out.cell 4; have dl := HC5.out.lt; skip)
    | (go_at_call 15; (with_reducible refine (HKP.out _).mono ?_); rintro e w6 ⟨rfl, hb⟩; have hb' := hb; have HM6 := Lib.hid (HM5.out.keepB hb); have HX6 := Lib.hid (HX5.out.keepB hb); have HA6 := Lib.hid (HA5.out.keep hb); have HW6 := Lib.hid (HW5.out.trans (hb.mono HW5.out.size)); have HC6 := Lib.hid (HC5.out.keepB hb); clear a0 a1 a2 a3 a4 b0 b1 b2 b3 al bl d0 d1 d2 d3 d4 dl; clear hb; have HY6 := Lib.hid (HY5.out.keep hb'); clear hb'; have a0 : w6.cell? ⟨w.heap.size, 0, none⟩ = some (.int .i64 x0) := HM6.out.cell 0; have a1 : w6.cell? ⟨w.heap.size, 1, none⟩ = some (.int .i64 y0) := HM6.out.cell 1; have a2 : w6.cell? ⟨w.heap.size, 2, none⟩ = some (.int .i64 x1) := HM6.out.cell 2; have a3 : w6.cell? ⟨w.heap.size, 3, none⟩ = some (.int .i64 y1) := HM6.out.cell 3; have a4 : w6.cell? ⟨w.heap.size, 4, none⟩ = some (.slice A bs.length c) := HM6.out.cell 4; have b0 : w6.cell? ⟨w.heap.size + 1, 0, none⟩ = some (.int .i64 u0) := HX6.out.cell 0; have b1 : w6.cell? ⟨w.heap.size + 1, 1, none⟩ = some (.int .i64 v0) := HX6.out.cell 1; have b2 : w6.cell? ⟨w.heap.size + 1, 2, none⟩ = some (.int .i64 u1) := HX6.out.cell 2; have b3 : w6.cell? ⟨w.heap.size + 1, 3, none⟩ = some (.int .i64 v1) := HX6.out.cell 3; have al := HM6.out.lt; have bl := HX6.out.lt; have d0 : w6.cell? ⟨w2.heap.size, 0, none⟩ = some (.int .i64 0) := HC6.out.cell 0; have d1 : w6.cell? ⟨w2.heap.size, 1, none⟩ = some (.int .i64 0) := HC6.out.cell 1; have d2 : w6.cell? ⟨w2.heap.size, 2, none⟩ = some (.int .i64 0) := HC6.out.cell 2; have d3 : w6.cell? ⟨w2.heap.size, 3, none⟩ = some (.int .i64 0) := HC6.out.cell 3; have d4 : w6.cell? ⟨w2.heap.size, 4, none⟩ = some (.slice A3 0 c3) := HC6.out.cell 4; have dl := HC6.out.lt; skip)
    | fail)
  clear a0 a1 a2 a3 b0 b1 b2 b3 d0 d1 d2 d3 d4 dl bl
  go_loop [15, 16] (fun s i => ∃ k : Nat, k ≤ bs.length ∧ i = .int .i64 k ∧ s = .int .i64 (bs.take k).sum) (fun _ i => bs.length - (intOf i).toNat)
  case atStart => exact ⟨0, Nat.zero_le _, rfl, rfl⟩
  case round =>
    obtain ⟨k, hk, rfl, rfl⟩ := hrel
    have hsum := okBs_take HO.out k
    by_cases hlt : k < bs.length
    · obtain ⟨v, hv⟩ := get_some hlt
      have hvb := HO.out v (List.mem_of_getElem? hv)
      obtain ⟨ab, ao, rfl, hab, hcell⟩ := HA6.out.2 k hlt
      rw [List.getElem?_map, hv] at hcell
      have hcell2 : w6.cell? ⟨ab, ao + k, none⟩ = some (.int .u8 v) := hcell
      have hwv : IntKind.i64.wrap v = v := IntWalk.i64_in _ (by omega)
      have HS : Hid ((bs.take (k + 1)).sum = (bs.take k).sum + v) := Lib.hid (by rw [List.take_add_one, hv]; simp)
      have hlt2 : (k : Int) < bs.length := by omega
      obtain ⟨S, hS⟩ : ∃ S, (bs.take k).sum = S := ⟨_, rfl⟩
      rw [hS] at hsum HS ⊢
      have hws : IntKind.i64.wrap (S + v) = S + v := IntWalk.i64_in _ (by omega)
      clear hcell hv hS
      go_wp2_with fail
      go_round
      case rel => exact ⟨k + 1, by omega, by go_num, by rw [HS.out]⟩
      case measure => simp [intOf]; omega
    · obtain rfl : k = bs.length := by omega
      rw [List.take_length] at hsum ⊢
      have a0 : w6.cell? ⟨w.heap.size, 0, none⟩ = some (.int .i64 x0) := HM6.out.cell 0
      have a1 : w6.cell? ⟨w.heap.size, 1, none⟩ = some (.int .i64 y0) := HM6.out.cell 1
      have a2 : w6.cell? ⟨w.heap.size, 2, none⟩ = some (.int .i64 x1) := HM6.out.cell 2
      have a3 : w6.cell? ⟨w.heap.size, 3, none⟩ = some (.int .i64 y1) := HM6.out.cell 3
      have a4 : w6.cell? ⟨w.heap.size, 4, none⟩ = some (.slice A bs.length c) := HM6.out.cell 4
      have b0 : w6.cell? ⟨w.heap.size + 1, 0, none⟩ = some (.int .i64 u0) := HX6.out.cell 0
      have b1 : w6.cell? ⟨w.heap.size + 1, 1, none⟩ = some (.int .i64 v0) := HX6.out.cell 1
      have b2 : w6.cell? ⟨w.heap.size + 1, 2, none⟩ = some (.int .i64 u1) := HX6.out.cell 2
      have b3 : w6.cell? ⟨w.heap.size + 1, 3, none⟩ = some (.int .i64 v1) := HX6.out.cell 3
      have al := HM6.out.lt
      have bl := HX6.out.lt
      have d0 : w6.cell? ⟨w2.heap.size, 0, none⟩ = some (.int .i64 0) := HC6.out.cell 0
      have d1 : w6.cell? ⟨w2.heap.size, 1, none⟩ = some (.int .i64 0) := HC6.out.cell 1
      have d2 : w6.cell? ⟨w2.heap.size, 2, none⟩ = some (.int .i64 0) := HC6.out.cell 2
      have d3 : w6.cell? ⟨w2.heap.size, 3, none⟩ = some (.int .i64 0) := HC6.out.cell 3
      have d4 : w6.cell? ⟨w2.heap.size, 4, none⟩ = some (.slice A3 0 c3) := HC6.out.cell 4
      have dl := HC6.out.lt
      go_wp2_with (first
        | (go_at_call 23; (with_reducible refine (HRA.out _ HA6.out).mono ?_); rintro e w7 ⟨rfl, hb⟩; have HM7 := Lib.hid (HM6.out.keepB hb); have HX7 := Lib.hid (HX6.out.keepB hb); have HC7 := Lib.hid (HC6.out.keepB hb); have HW7 := Lib.hid (HW6.out.trans (hb.mono HW6.out.size)); clear hb a0 a1 a2 a3 a4 b0 b1 b2 b3 al bl d0 d1 d2 d3 d4 dl; have a0 : w7.cell? ⟨w.heap.size, 0, none⟩ = some (.int .i64 x0) := HM7.out.cell 0; have a1 : w7.cell? ⟨w.heap.size, 1, none⟩ = some (.int .i64 y0) := HM7.out.cell 1; have a2 : w7.cell? ⟨w.heap.size, 2, none⟩ = some (.int .i64 x1) := HM7.out.cell 2; have a3 : w7.cell? ⟨w.heap.size, 3, none⟩ = some (.int .i64 y1) := HM7.out.cell 3; have a4 : w7.cell? ⟨w.heap.size, 4, none⟩ = some (.slice A bs.length c) := HM7.out.cell 4; have b0 : w7.cell? ⟨w.heap.size + 1, 0, none⟩ = some (.int .i64 u0) := HX7.out.cell 0; have b1 : w7.cell? ⟨w.heap.size + 1, 1, none⟩ = some (.int .i64 v0) := HX7.out.cell 1; have b2 : w7.cell? ⟨w.heap.size + 1, 2, none⟩ = some (.int .i64 u1) := HX7.out.cell 2; have b3 : w7.cell? ⟨w.heap.size + 1, 3, none⟩ = some (.int .i64 v1) := HX7.out.cell 3; have al := HM7.out.lt; have bl := HX7.out.lt; have d0 : w7.cell? ⟨w2.heap.size, 0, none⟩ = some (.int .i64 0) := HC7.out.cell 0; have d1 : w7.cell? ⟨w2.heap.size, 1, none⟩ = some (.int .i64 0) := HC7.out.cell 1; have d2 : w7.cell? ⟨w2.heap.size, 2, none⟩ = some (.int .i64 0) := HC7.out.cell 2; have d3 : w7.cell? ⟨w2.heap.size, 3, none⟩ = some (.int .i64 0) := HC7.out.cell 3; have d4 : w7.cell? ⟨w2.heap.size, 4, none⟩ = some (.slice A3 0 c3) := HC7.out.cell 4; have dl := HC7.out.lt; skip)
        | (go_at_call 17; (with_reducible refine (HMB.out _).mono ?_); rintro e w8 ⟨rfl, hb⟩; have HC8 := Lib.hid (HC7.out.keepB hb); have HW8 := Lib.hid (HW7.out.trans (hb.mono HW7.out.size)); clear hb a0 a1 a2 a3 a4 b0 b1 b2 b3 al bl d0 d1 d2 d3 d4 dl; have d0 : w8.cell? ⟨w2.heap.size, 0, none⟩ = some (.int .i64 0) := HC8.out.cell 0; have d1 : w8.cell? ⟨w2.heap.size, 1, none⟩ = some (.int .i64 0) := HC8.out.cell 1; have d2 : w8.cell? ⟨w2.heap.size, 2, none⟩ = some (.int .i64 0) := HC8.out.cell 2; have d3 : w8.cell? ⟨w2.heap.size, 3, none⟩ = some (.int .i64 0) := HC8.out.cell 3; have d4 : w8.cell? ⟨w2.heap.size, 4, none⟩ = some (.slice A3 0 c3) := HC8.out.cell 4; have dl := HC8.out.lt; skip)
        | fail)
      go_ret
      exact ⟨rfl, HW8.out⟩
set_option maxRecDepth 20000 in
set_option maxHeartbeats 8000000 in
theorem masks_ok {w : World} (m b : B4) {A : Option Addr} {c : Nat} {bs : List Int} (x y : Int) (h : ByAt w A bs) (ho : okBs bs) (hn : bs.length ≤ 20000) (hc : bs.length ≤ c) (hm : maskE m.x0 m.y0 m.x1 m.y1 bs.length = 0) (hbb : bB b.x0 b.y0 b.x1 b.y1 = true) : Calls Try.prog 8 #[.agg #[.int .i64 m.x0, .int .i64 m.y0, .int .i64 m.x1, .int .i64 m.y1, .slice A bs.length c], .agg #[.int .i64 b.x0, .int .i64 b.y0, .int .i64 b.x1, .int .i64 b.y1], .int .i64 x, .int .i64 y] w fun e w' =>
    e = .returned (.bool true) ∧ Below w.heap.size w w' := by
  have hn7 : bs.length ≤ 16777216 := by omega
  have HK := Lib.hid fun W => rCheck_any m.x0 m.y0 m.x1 m.y1 A bs.length c (by omega) W
  have HKP := Lib.hid fun W => Check_any m.x0 m.y0 m.x1 m.y1 A bs.length c (by omega) W
  have HT := Lib.hid fun W (h : ByAt W A bs) => Total_any m (c := c) h ho hn7
  have HP := Lib.hid fun W (h : ByAt W A bs) => At23_any m (c := c) x y h ho hn7
  obtain ⟨R, hR⟩ : ∃ R, cropN m bs (meetB m b) ((meetB m b).y1 - (meetB m b).y0).toNat = R := ⟨_, rfl⟩
  obtain ⟨⟨X0, Y0, X1, Y1⟩, hB⟩ : ∃ B, meetB m b = B := ⟨_, rfl⟩
  have hOR : okBs R := by
    rw [← hR]
    intro z hz
    unfold cropN at hz
    obtain ⟨j, _, hz⟩ := List.mem_flatMap.1 hz
    exact ho z (List.mem_of_mem_drop (List.mem_of_mem_take hz))
  have HOR := Lib.hid hOR
  obtain ⟨N3, hN3⟩ : ∃ N3, R.length = N3 := ⟨_, rfl⟩
  have HN3 := Lib.hid hN3
  have HCR : Hid (∀ W, ByAt W A bs → Calls Try.prog 24 #[.agg #[.int .i64 m.x0, .int .i64 m.y0, .int .i64 m.x1, .int .i64 m.y1, .slice A bs.length c], .agg #[.int .i64 b.x0, .int .i64 b.y0, .int .i64 b.x1, .int .i64 b.y1]] W fun e w' => ∃ A3 c3, e = .returned (.tuple #[.agg #[.int .i64 X0, .int .i64 Y0, .int .i64 X1, .int .i64 Y1, .slice A3 N3 c3], .int .i64 0]) ∧ ByAt w' A3 R ∧ Below W.heap.size W w') := Lib.hid fun W hW => by
    have hce : cropE m bs b = 0 := by unfold cropE; rw [if_pos hm, if_pos hbb]
    refine (Crop_any m b hW hn7 hc).mono fun e w' he => ?_
    obtain ⟨v, rfl, h1, h2⟩ := he
    have hcr : cropR m bs b = R := by unfold cropR; rw [if_pos hce, hR]
    rw [hcr, hN3] at h1
    obtain ⟨A3, c3, rfl⟩ := own_slice h1
    exact ⟨A3, c3, by unfold maskV cropB; rw [hce, if_pos rfl, hB], (by_of_own h1).1, h2⟩
  have HRC : Hid (∀ W, ByAt W A bs → Calls Try.prog 27 #[.agg #[.int .i64 m.x0, .int .i64 m.y0, .int .i64 m.x1, .int .i64 m.y1, .slice A bs.length c], .agg #[.int .i64 b.x0, .int .i64 b.y0, .int .i64 b.x1, .int .i64 b.y1]] W fun e w' => ∃ A3 c3, e = .returned (.agg #[.int .i64 X0, .int .i64 Y0, .int .i64 X1, .int .i64 Y1, .slice A3 N3 c3]) ∧ ByAt w' A3 R ∧ Below W.heap.size W w') := Lib.hid fun W hW => by
    refine (rCrop_any m b hW ho hn7 hm).mono fun e w' he => ?_
    obtain ⟨v, rfl, h1, h2⟩ := he
    rw [hR, hN3] at h1
    obtain ⟨A3, c3, rfl⟩ := own_slice h1
    exact ⟨A3, c3, by unfold maskV; rw [hB], (by_of_own h1).1, h2⟩
  have HSA := Lib.hid fun W A3 c3 A4 c4 (h : ByAt W A3 R) (h2 : ByAt W A4 R) => Same_eq ⟨X0, Y0, X1, Y1⟩ (n := N3) (c := c3) (c2 := c4) h h2 hOR hN3
  clear hR hB hN3 hOR
  rw [hm] at HK HKP
  have e1 : totE m bs = 0 := hm
  have e2 : totV m bs = bs.sum := by unfold totV; rw [if_pos e1]
  have HRA := Lib.hid fun W (h : ByAt W A bs) => rAt23_any m (c := c) x y h ho hn7 hm
  rw [e1, e2] at HT
  clear e1 e2
  have HMB := Lib.hid fun W => rMayBox_any b.x0 b.y0 b.x1 b.y1 W
  rw [hbb] at HMB
  have HO := Lib.hid ho
  clear hm hbb
  obtain ⟨x0, y0, x1, y1⟩ := m
  obtain ⟨u0, v0, u1, v1⟩ := b
  dsimp only at HK HKP HT HP HCR HRA HMB HRC HSA ⊢
  have HM0 : Hid (Blk ((w.alloc (.cells #[.int .i64 x0, .int .i64 y0, .int .i64 x1, .int .i64 y1, .slice A bs.length c] 29)).alloc (.cells #[.int .i64 u0, .int .i64 v0, .int .i64 u1, .int .i64 v1] 26)) w.heap.size 29 [.int .i64 x0, .int .i64 y0, .int .i64 x1, .int .i64 y1, .slice A bs.length c]) := Lib.hid ((Blk.new w _ [_, _, _, _, _]).alloc _)
  have HX0 : Hid (Blk ((w.alloc (.cells #[.int .i64 x0, .int .i64 y0, .int .i64 x1, .int .i64 y1, .slice A bs.length c] 29)).alloc (.cells #[.int .i64 u0, .int .i64 v0, .int .i64 u1, .int .i64 v1] 26)) (w.heap.size + 1) 26 [.int .i64 u0, .int .i64 v0, .int .i64 u1, .int .i64 v1]) := Lib.hid (Blk.newAt _ _ [_, _, _, _] (by simp))
  have HW0 : Hid (Below w.heap.size w ((w.alloc (.cells #[.int .i64 x0, .int .i64 y0, .int .i64 x1, .int .i64 y1, .slice A bs.length c] 29)).alloc (.cells #[.int .i64 u0, .int .i64 v0, .int .i64 u1, .int .i64 v1] 26))) := Lib.hid (bel_alloc (bel_alloc bel_refl)).below
  have HA0 := Lib.hid (h.keep HW0.out)
  have hn2 : (bs.length : Int) ≤ 20000 := by omega
  clear h ho hn hc
  go_enter Try.func8, Try.ntmps8
  go_wp2_with (first
    | (go_at_call 21; (with_reducible refine (HK.out _).mono ?_); rintro e w1 ⟨rfl, hb⟩; have HM1 := Lib.hid (HM0.out.keepB hb); have HX1 := Lib.hid (HX0.out.keepB hb); have HA1 := Lib.hid (HA0.out.keep hb); have HW1 := Lib.hid (HW0.out.trans (hb.mono HW0.out.size)); clear hb; have a0 : w1.cell? ⟨w.heap.size, 0, none⟩ = some (.int .i64 x0) := HM1.out.cell 0; have a1 : w1.cell? ⟨w.heap.size, 1, none⟩ = some (.int .i64 y0) := HM1.out.cell 1; have a2 : w1.cell? ⟨w.heap.size, 2, none⟩ = some (.int .i64 x1) := HM1.out.cell 2; have a3 : w1.cell? ⟨w.heap.size, 3, none⟩ = some (.int .i64 y1) := HM1.out.cell 3; have a4 : w1.cell? ⟨w.heap.size, 4, none⟩ = some (.slice A bs.length c) := HM1.out.cell 4; have b0 : w1.cell? ⟨w.heap.size + 1, 0, none⟩ = some (.int .i64 u0) := HX1.out.cell 0; have b1 : w1.cell? ⟨w.heap.size + 1, 1, none⟩ = some (.int .i64 v0) := HX1.out.cell 1; have b2 : w1.cell? ⟨w.heap.size + 1, 2, none⟩ = some (.int .i64 u1) := HX1.out.cell 2; have b3 : w1.cell? ⟨w.heap.size + 1, 3, none⟩ = some (.int .i64 v1) := HX1.out.cell 3; have al := HM1.out.lt; have bl := HX1.out.lt; skip)
    | (go_at_call 24; (with_reducible refine (HCR.out _ HA1.out).mono ?_); rintro e w2 ⟨A3, c3, rfl, ho, hb⟩; have HM2 := Lib.hid ((HM1.out.keepB hb).alloc (.cells #[.int .i64 X0, .int .i64 Y0, .int .i64 X1, .int .i64 Y1, .slice A3 N3 c3] 29)); have HX2 := Lib.hid ((HX1.out.keepB hb).alloc (.cells #[.int .i64 X0, .int .i64 Y0, .int .i64 X1, .int .i64 Y1, .slice A3 N3 c3] 29)); have HA2 := Lib.hid ((HA1.out.keep hb).keep (w' := w2.alloc (.cells #[.int .i64 X0, .int .i64 Y0, .int .i64 X1, .int .i64 Y1, .slice A3 N3 c3] 29)) (bel_alloc bel_refl).below); have HW2 := Lib.hid ((HW1.out.trans (hb.mono HW1.out.size)).alloc (Nat.le_trans HW1.out.size hb.size) (.cells #[.int .i64 X0, .int .i64 Y0, .int .i64 X1, .int .i64 Y1, .slice A3 N3 c3] 29)); have HC2 := Lib.hid (Blk.new w2 29 [.int .i64 X0, .int .i64 Y0, .int .i64 X1, .int .i64 Y1, .slice A3 N3 c3]); have HY2 := Lib.hid (ho.keep (w' := w2.alloc (.cells #[.int .i64 X0, .int .i64 Y0, .int .i64 X1, .int .i64 Y1, .slice A3 N3 c3] 29)) (bel_alloc bel_refl).below); clear a0 a1 a2 a3 a4 b0 b1 b2 b3 al bl hb ho; have a0 : (w2.alloc (.cells #[.int .i64 X0, .int .i64 Y0, .int .i64 X1, .int .i64 Y1, .slice A3 N3 c3] 29)).cell? ⟨w.heap.size, 0, none⟩ = some (.int .i64 x0) := HM2.out.cell 0; have a1 : (w2.alloc (.cells #[.int .i64 X0, .int .i64 Y0, .int .i64 X1, .int .i64 Y1, .slice A3 N3 c3] 29)).cell? ⟨w.heap.size, 1, none⟩ = some (.int .i64 y0) := HM2.out.cell 1; have a2 : (w2.alloc (.cells #[.int .i64 X0, .int .i64 Y0, .int .i64 X1, .int .i64 Y1, .slice A3 N3 c3] 29)).cell? ⟨w.heap.size, 2, none⟩ = some (.int .i64 x1) := HM2.out.cell 2; have a3 : (w2.alloc (.cells #[.int .i64 X0, .int .i64 Y0, .int .i64 X1, .int .i64 Y1, .slice A3 N3 c3] 29)).cell? ⟨w.heap.size, 3, none⟩ = some (.int .i64 y1) := HM2.out.cell 3; have a4 : (w2.alloc (.cells #[.int .i64 X0, .int .i64 Y0, .int .i64 X1, .int .i64 Y1, .slice A3 N3 c3] 29)).cell? ⟨w.heap.size, 4, none⟩ = some (.slice A bs.length c) := HM2.out.cell 4; have b0 : (w2.alloc (.cells #[.int .i64 X0, .int .i64 Y0, .int .i64 X1, .int .i64 Y1, .slice A3 N3 c3] 29)).cell? ⟨w.heap.size + 1, 0, none⟩ = some (.int .i64 u0) := HX2.out.cell 0; have b1 : (w2.alloc (.cells #[.int .i64 X0, .int .i64 Y0, .int .i64 X1, .int .i64 Y1, .slice A3 N3 c3] 29)).cell? ⟨w.heap.size + 1, 1, none⟩ = some (.int .i64 v0) := HX2.out.cell 1; have b2 : (w2.alloc (.cells #[.int .i64 X0, .int .i64 Y0, .int .i64 X1, .int .i64 Y1, .slice A3 N3 c3] 29)).cell? ⟨w.heap.size + 1, 2, none⟩ = some (.int .i64 u1) := HX2.out.cell 2; have b3 : (w2.alloc (.cells #[.int .i64 X0, .int .i64 Y0, .int .i64 X1, .int .i64 Y1, .slice A3 N3 c3] 29)).cell? ⟨w.heap.size + 1, 3, none⟩ = some (.int .i64 v1) := HX2.out.cell 3; have d0 : (w2.alloc (.cells #[.int .i64 X0, .int .i64 Y0, .int .i64 X1, .int .i64 Y1, .slice A3 N3 c3] 29)).cell? ⟨w2.heap.size, 0, none⟩ = some (.int .i64 X0) := HC2.out.cell 0; have d1 : (w2.alloc (.cells #[.int .i64 X0, .int .i64 Y0, .int .i64 X1, .int .i64 Y1, .slice A3 N3 c3] 29)).cell? ⟨w2.heap.size, 1, none⟩ = some (.int .i64 Y0) := HC2.out.cell 1; have d2 : (w2.alloc (.cells #[.int .i64 X0, .int .i64 Y0, .int .i64 X1, .int .i64 Y1, .slice A3 N3 c3] 29)).cell? ⟨w2.heap.size, 2, none⟩ = some (.int .i64 X1) := HC2.out.cell 2; have d3 : (w2.alloc (.cells #[.int .i64 X0, .int .i64 Y0, .int .i64 X1, .int .i64 Y1, .slice A3 N3 c3] 29)).cell? ⟨w2.heap.size, 3, none⟩ = some (.int .i64 Y1) := HC2.out.cell 3; have d4 : (w2.alloc (.cells #[.int .i64 X0, .int .i64 Y0, .int .i64 X1, .int .i64 Y1, .slice A3 N3 c3] 29)).cell? ⟨w2.heap.size, 4, none⟩ = some (.slice A3 N3 c3) := HC2.out.cell 4; have al := HM2.out.lt; have bl := HX2.out.lt; have dl := HC2.out.lt; skip)
    | (go_at_call 25; (with_reducible refine (HT.out _ HA2.out).mono ?_); rintro e w3 ⟨rfl, hb⟩; have hb' := hb; have HM3 := Lib.hid (HM2.out.keepB hb); have HX3 := Lib.hid (HX2.out.keepB hb); have HA3 := Lib.hid (HA2.out.keep hb); have HW3 := Lib.hid (HW2.out.trans (hb.mono HW2.out.size)); have HC3 := Lib.hid (HC2.out.keepB hb); clear a0 a1 a2 a3 a4 b0 b1 b2 b3 al bl d0 d1 d2 d3 d4 dl; clear hb; have HY3 := Lib.hid (HY2.out.keep hb'); clear hb'; have a0 : w3.cell? ⟨w.heap.size, 0, none⟩ = some (.int .i64 x0) := HM3.out.cell 0; have a1 : w3.cell? ⟨w.heap.size, 1, none⟩ = some (.int .i64 y0) := HM3.out.cell 1; have a2 : w3.cell? ⟨w.heap.size, 2, none⟩ = some (.int .i64 x1) := HM3.out.cell 2; have a3 : w3.cell? ⟨w.heap.size, 3, none⟩ = some (.int .i64 y1) := HM3.out.cell 3; have a4 : w3.cell? ⟨w.heap.size, 4, none⟩ = some (.slice A bs.length c) := HM3.out.cell 4; have b0 : w3.cell? ⟨w.heap.size + 1, 0, none⟩ = some (.int .i64 u0) := HX3.out.cell 0; have b1 : w3.cell? ⟨w.heap.size + 1, 1, none⟩ = some (.int .i64 v0) := HX3.out.cell 1; have b2 : w3.cell? ⟨w.heap.size + 1, 2, none⟩ = some (.int .i64 u1) := HX3.out.cell 2; have b3 : w3.cell? ⟨w.heap.size + 1, 3, none⟩ = some (.int .i64 v1) := HX3.out.cell 3; have al := HM3.out.lt; have bl := HX3.out.lt; have d0 : w3.cell? ⟨w2.heap.size, 0, none⟩ = some (.int .i64 X0) := HC3.out.cell 0; have d1 : w3.cell? ⟨w2.heap.size, 1, none⟩ = some (.int .i64 Y0) := HC3.out.cell 1; have d2 : w3.cell? ⟨w2.heap.size, 2, none⟩ = some (.int .i64 X1) := HC3.out.cell 2; have d3 : w3.cell? ⟨w2.heap.size, 3, none⟩ = some (.int .i64 Y1) := HC3.out.cell 3; have d4 : w3.cell? ⟨w2.heap.size, 4, none⟩ = some (.slice A3 N3 c3) := HC3.out.cell 4; have dl := HC3.out.lt; skip)
    | (go_at_call 26; (with_reducible refine (HP.out _ HA3.out).mono ?_); rintro e w4 ⟨rfl, hb⟩; have hb' := hb; have HM4 := Lib.hid (HM3.out.keepB hb); have HX4 := Lib.hid (HX3.out.keepB hb); have HA4 := Lib.hid (HA3.out.keep hb); have HW4 := Lib.hid (HW3.out.trans (hb.mono HW3.out.size)); have HC4 := Lib.hid (HC3.out.keepB hb); clear a0 a1 a2 a3 a4 b0 b1 b2 b3 al bl d0 d1 d2 d3 d4 dl; clear hb; have HY4 := Lib.hid (HY3.out.keep hb'); clear hb'; have a0 : w4.cell? ⟨w.heap.size, 0, none⟩ = some (.int .i64 x0) := HM4.out.cell 0; have a1 : w4.cell? ⟨w.heap.size, 1, none⟩ = some (.int .i64 y0) := HM4.out.cell 1; have a2 : w4.cell? ⟨w.heap.size, 2, none⟩ = some (.int .i64 x1) := HM4.out.cell 2; have a3 : w4.cell? ⟨w.heap.size, 3, none⟩ = some (.int .i64 y1) := HM4.out.cell 3; have a4 : w4.cell? ⟨w.heap.size, 4, none⟩ = some (.slice A bs.length c) := HM4.out.cell 4; have b0 : w4.cell? ⟨w.heap.size + 1, 0, none⟩ = some (.int .i64 u0) := HX4.out.cell 0; have b1 : w4.cell? ⟨w.heap.size + 1, 1, none⟩ = some (.int .i64 v0) := HX4.out.cell 1; have b2 : w4.cell? ⟨w.heap.size + 1, 2, none⟩ = some (.int .i64 u1) := HX4.out.cell 2; have b3 : w4.cell? ⟨w.heap.size + 1, 3, none⟩ = some (.int .i64 v1) := HX4.out.cell 3; have al := HM4.out.lt; have bl := HX4.out.lt; have d0 : w4.cell? ⟨w2.heap.size, 0, none⟩ = some (.int .i64 X0) := HC4.out.cell 0; have d1 : w4.cell? ⟨w2.heap.size, 1, none⟩ = some (.int .i64 Y0) := HC4.out.cell 1; have d2 : w4.cell? ⟨w2.heap.size, 2, none⟩ = some (.int .i64 X1) := HC4.out.cell 2; have d3 : w4.cell? ⟨w2.heap.size, 3, none⟩ = some (.int .i64 Y1) := HC4.out.cell 3; have d4 : w4.cell? ⟨w2.heap.size, 4, none⟩ = some (.slice A3 N3 c3) := HC4.out.cell 4; have dl := HC4.out.lt; skip)
    | (go_at_call 11; (with_reducible refine (lives23_any _).mono ?_); rintro e w5 ⟨rfl, hb⟩; have hb' := hb; have HM5 := Lib.hid (HM4.out.keepB hb); have HX5 := Lib.hid (HX4.out.keepB hb); have HA5 := Lib.hid (HA4.out.keep hb); have HW5 := Lib.hid (HW4.out.trans (hb.mono HW4.out.size)); have HC5 := Lib.hid (HC4.out.keepB hb); clear a0 a1 a2 a3 a4 b0 b1 b2 b3 al bl d0 d1 d2 d3 d4 dl; clear hb; have HY5 := Lib.hid (HY4.out.keep hb'); clear hb'; have a0 : w5.cell? ⟨w.heap.size, 0, none⟩ = some (.int .i64 x0) := HM5.out.cell 0; have a1 : w5.cell? ⟨w.heap.size, 1, none⟩ = some (.int .i64 y0) := HM5.out.cell 1; have a2 : w5.cell? ⟨w.heap.size, 2, none⟩ = some (.int .i64 x1) := HM5.out.cell 2; have a3 : w5.cell? ⟨w.heap.size, 3, none⟩ = some (.int .i64 y1) := HM5.out.cell 3; have a4 : w5.cell? ⟨w.heap.size, 4, none⟩ = some (.slice A bs.length c) := HM5.out.cell 4; have b0 : w5.cell? ⟨w.heap.size + 1, 0, none⟩ = some (.int .i64 u0) := HX5.out.cell 0; have b1 : w5.cell? ⟨w.heap.size + 1, 1, none⟩ = some (.int .i64 v0) := HX5.out.cell 1; have b2 : w5.cell? ⟨w.heap.size + 1, 2, none⟩ = some (.int .i64 u1) := HX5.out.cell 2; have b3 : w5.cell? ⟨w.heap.size + 1, 3, none⟩ = some (.int .i64 v1) := HX5.out.cell 3; have al := HM5.out.lt; have bl := HX5.out.lt; have d0 : w5.cell? ⟨w2.heap.size, 0, none⟩ = some (.int .i64 X0) := HC5.out.cell 0; have d1 : w5.cell? ⟨w2.heap.size, 1, none⟩ = some (.int .i64 Y0) := HC5.out.cell 1; have d2 : w5.cell? ⟨w2.heap.size, 2, none⟩ = some (.int .i64 X1) := HC5.out.cell 2; have d3 : w5.cell? ⟨w2.heap.size, 3, none⟩ = some (.int .i64 Y1) := HC5.out.cell 3; have d4 : w5.cell? ⟨w2.heap.size, 4, none⟩ = some (.slice A3 N3 c3) := HC5.out.cell 4; have dl := HC5.out.lt; skip)
    | (go_at_call 15; (with_reducible refine (HKP.out _).mono ?_); rintro e w6 ⟨rfl, hb⟩; have hb' := hb; have HM6 := Lib.hid (HM5.out.keepB hb); have HX6 := Lib.hid (HX5.out.keepB hb); have HA6 := Lib.hid (HA5.out.keep hb); have HW6 := Lib.hid (HW5.out.trans (hb.mono HW5.out.size)); have HC6 := Lib.hid (HC5.out.keepB hb); clear a0 a1 a2 a3 a4 b0 b1 b2 b3 al bl d0 d1 d2 d3 d4 dl; clear hb; have HY6 := Lib.hid (HY5.out.keep hb'); clear hb'; have a0 : w6.cell? ⟨w.heap.size, 0, none⟩ = some (.int .i64 x0) := HM6.out.cell 0; have a1 : w6.cell? ⟨w.heap.size, 1, none⟩ = some (.int .i64 y0) := HM6.out.cell 1; have a2 : w6.cell? ⟨w.heap.size, 2, none⟩ = some (.int .i64 x1) := HM6.out.cell 2; have a3 : w6.cell? ⟨w.heap.size, 3, none⟩ = some (.int .i64 y1) := HM6.out.cell 3; have a4 : w6.cell? ⟨w.heap.size, 4, none⟩ = some (.slice A bs.length c) := HM6.out.cell 4; have b0 : w6.cell? ⟨w.heap.size + 1, 0, none⟩ = some (.int .i64 u0) := HX6.out.cell 0; have b1 : w6.cell? ⟨w.heap.size + 1, 1, none⟩ = some (.int .i64 v0) := HX6.out.cell 1; have b2 : w6.cell? ⟨w.heap.size + 1, 2, none⟩ = some (.int .i64 u1) := HX6.out.cell 2; have b3 : w6.cell? ⟨w.heap.size + 1, 3, none⟩ = some (.int .i64 v1) := HX6.out.cell 3; have al := HM6.out.lt; have bl := HX6.out.lt; have d0 : w6.cell? ⟨w2.heap.size, 0, none⟩ = some (.int .i64 X0) := HC6.out.cell 0; have d1 : w6.cell? ⟨w2.heap.size, 1, none⟩ = some (.int .i64 Y0) := HC6.out.cell 1; have d2 : w6.cell? ⟨w2.heap.size, 2, none⟩ = some (.int .i64 X1) := HC6.out.cell 2; have d3 : w6.cell? ⟨w2.heap.size, 3, none⟩ = some (.int .i64 Y1) := HC6.out.cell 3; have d4 : w6.cell? ⟨w2.heap.size, 4, none⟩ = some (.slice A3 N3 c3) := HC6.out.cell 4; have dl := HC6.out.lt; skip)
    | fail)
  clear a0 a1 a2 a3 b0 b1 b2 b3 d0 d1 d2 d3 d4 dl bl
  go_loop [15, 16] (fun s i => ∃ k : Nat, k ≤ bs.length ∧ i = .int .i64 k ∧ s = .int .i64 (bs.take k).sum) (fun _ i => bs.length - (intOf i).toNat)
  case atStart => exact ⟨0, Nat.zero_le _, rfl, rfl⟩
  case round =>
    obtain ⟨k, hk, rfl, rfl⟩ := hrel
    have hsum := okBs_take HO.out k
    by_cases hlt : k < bs.length
    · obtain ⟨v, hv⟩ := get_some hlt
      have hvb := HO.out v (List.mem_of_getElem? hv)
      obtain ⟨ab, ao, rfl, hab, hcell⟩ := HA6.out.2 k hlt
      rw [List.getElem?_map, hv] at hcell
      have hcell2 : w6.cell? ⟨ab, ao + k, none⟩ = some (.int .u8 v) := hcell
      have hwv : IntKind.i64.wrap v = v := IntWalk.i64_in _ (by omega)
      have HS : Hid ((bs.take (k + 1)).sum = (bs.take k).sum + v) := Lib.hid (by rw [List.take_add_one, hv]; simp)
      have hlt2 : (k : Int) < bs.length := by omega
      obtain ⟨S, hS⟩ : ∃ S, (bs.take k).sum = S := ⟨_, rfl⟩
      rw [hS] at hsum HS ⊢
      have hws : IntKind.i64.wrap (S + v) = S + v := IntWalk.i64_in _ (by omega)
      clear hcell hv hS
      go_wp2_with fail
      go_round
      case rel => exact ⟨k + 1, by omega, by go_num, by rw [HS.out]⟩
      case measure => simp [intOf]; omega
    · obtain rfl : k = bs.length := by omega
      rw [List.take_length] at hsum ⊢
      have a0 : w6.cell? ⟨w.heap.size, 0, none⟩ = some (.int .i64 x0) := HM6.out.cell 0
      have a1 : w6.cell? ⟨w.heap.size, 1, none⟩ = some (.int .i64 y0) := HM6.out.cell 1
      have a2 : w6.cell? ⟨w.heap.size, 2, none⟩ = some (.int .i64 x1) := HM6.out.cell 2
      have a3 : w6.cell? ⟨w.heap.size, 3, none⟩ = some (.int .i64 y1) := HM6.out.cell 3
      have a4 : w6.cell? ⟨w.heap.size, 4, none⟩ = some (.slice A bs.length c) := HM6.out.cell 4
      have b0 : w6.cell? ⟨w.heap.size + 1, 0, none⟩ = some (.int .i64 u0) := HX6.out.cell 0
      have b1 : w6.cell? ⟨w.heap.size + 1, 1, none⟩ = some (.int .i64 v0) := HX6.out.cell 1
      have b2 : w6.cell? ⟨w.heap.size + 1, 2, none⟩ = some (.int .i64 u1) := HX6.out.cell 2
      have b3 : w6.cell? ⟨w.heap.size + 1, 3, none⟩ = some (.int .i64 v1) := HX6.out.cell 3
      have al := HM6.out.lt
      have bl := HX6.out.lt
      have d0 : w6.cell? ⟨w2.heap.size, 0, none⟩ = some (.int .i64 X0) := HC6.out.cell 0
      have d1 : w6.cell? ⟨w2.heap.size, 1, none⟩ = some (.int .i64 Y0) := HC6.out.cell 1
      have d2 : w6.cell? ⟨w2.heap.size, 2, none⟩ = some (.int .i64 X1) := HC6.out.cell 2
      have d3 : w6.cell? ⟨w2.heap.size, 3, none⟩ = some (.int .i64 Y1) := HC6.out.cell 3
      have d4 : w6.cell? ⟨w2.heap.size, 4, none⟩ = some (.slice A3 N3 c3) := HC6.out.cell 4
      have dl := HC6.out.lt
      go_wp2_with (first
        | (go_at_call 23; (with_reducible refine (HRA.out _ HA6.out).mono ?_); rintro e w7 ⟨rfl, hb⟩; have HM7 := Lib.hid (HM6.out.keepB hb); have HX7 := Lib.hid (HX6.out.keepB hb); have HC7 := Lib.hid (HC6.out.keepB hb); have HA7 := Lib.hid (HA6.out.keep hb); have HY7 := Lib.hid (HY6.out.keep hb); have HW7 := Lib.hid (HW6.out.trans (hb.mono HW6.out.size)); clear hb a0 a1 a2 a3 a4 b0 b1 b2 b3 al bl d0 d1 d2 d3 d4 dl; have a0 : w7.cell? ⟨w.heap.size, 0, none⟩ = some (.int .i64 x0) := HM7.out.cell 0; have a1 : w7.cell? ⟨w.heap.size, 1, none⟩ = some (.int .i64 y0) := HM7.out.cell 1; have a2 : w7.cell? ⟨w.heap.size, 2, none⟩ = some (.int .i64 x1) := HM7.out.cell 2; have a3 : w7.cell? ⟨w.heap.size, 3, none⟩ = some (.int .i64 y1) := HM7.out.cell 3; have a4 : w7.cell? ⟨w.heap.size, 4, none⟩ = some (.slice A bs.length c) := HM7.out.cell 4; have b0 : w7.cell? ⟨w.heap.size + 1, 0, none⟩ = some (.int .i64 u0) := HX7.out.cell 0; have b1 : w7.cell? ⟨w.heap.size + 1, 1, none⟩ = some (.int .i64 v0) := HX7.out.cell 1; have b2 : w7.cell? ⟨w.heap.size + 1, 2, none⟩ = some (.int .i64 u1) := HX7.out.cell 2; have b3 : w7.cell? ⟨w.heap.size + 1, 3, none⟩ = some (.int .i64 v1) := HX7.out.cell 3; have al := HM7.out.lt; have bl := HX7.out.lt; have d0 : w7.cell? ⟨w2.heap.size, 0, none⟩ = some (.int .i64 X0) := HC7.out.cell 0; have d1 : w7.cell? ⟨w2.heap.size, 1, none⟩ = some (.int .i64 Y0) := HC7.out.cell 1; have d2 : w7.cell? ⟨w2.heap.size, 2, none⟩ = some (.int .i64 X1) := HC7.out.cell 2; have d3 : w7.cell? ⟨w2.heap.size, 3, none⟩ = some (.int .i64 Y1) := HC7.out.cell 3; have d4 : w7.cell? ⟨w2.heap.size, 4, none⟩ = some (.slice A3 N3 c3) := HC7.out.cell 4; have dl := HC7.out.lt; skip)
        | (go_at_call 17; (with_reducible refine (HMB.out _).mono ?_); rintro e w8 ⟨rfl, hb⟩; have HM8 := Lib.hid (HM7.out.keepB hb); have HX8 := Lib.hid (HX7.out.keepB hb); have HC8 := Lib.hid (HC7.out.keepB hb); have HA8 := Lib.hid (HA7.out.keep hb); have HY8 := Lib.hid (HY7.out.keep hb); have HW8 := Lib.hid (HW7.out.trans (hb.mono HW7.out.size)); clear hb a0 a1 a2 a3 a4 b0 b1 b2 b3 al bl d0 d1 d2 d3 d4 dl; have a0 : w8.cell? ⟨w.heap.size, 0, none⟩ = some (.int .i64 x0) := HM8.out.cell 0; have a1 : w8.cell? ⟨w.heap.size, 1, none⟩ = some (.int .i64 y0) := HM8.out.cell 1; have a2 : w8.cell? ⟨w.heap.size, 2, none⟩ = some (.int .i64 x1) := HM8.out.cell 2; have a3 : w8.cell? ⟨w.heap.size, 3, none⟩ = some (.int .i64 y1) := HM8.out.cell 3; have a4 : w8.cell? ⟨w.heap.size, 4, none⟩ = some (.slice A bs.length c) := HM8.out.cell 4; have b0 : w8.cell? ⟨w.heap.size + 1, 0, none⟩ = some (.int .i64 u0) := HX8.out.cell 0; have b1 : w8.cell? ⟨w.heap.size + 1, 1, none⟩ = some (.int .i64 v0) := HX8.out.cell 1; have b2 : w8.cell? ⟨w.heap.size + 1, 2, none⟩ = some (.int .i64 u1) := HX8.out.cell 2; have b3 : w8.cell? ⟨w.heap.size + 1, 3, none⟩ = some (.int .i64 v1) := HX8.out.cell 3; have al := HM8.out.lt; have bl := HX8.out.lt; have d0 : w8.cell? ⟨w2.heap.size, 0, none⟩ = some (.int .i64 X0) := HC8.out.cell 0; have d1 : w8.cell? ⟨w2.heap.size, 1, none⟩ = some (.int .i64 Y0) := HC8.out.cell 1; have d2 : w8.cell? ⟨w2.heap.size, 2, none⟩ = some (.int .i64 X1) := HC8.out.cell 2; have d3 : w8.cell? ⟨w2.heap.size, 3, none⟩ = some (.int .i64 Y1) := HC8.out.cell 3; have d4 : w8.cell? ⟨w2.heap.size, 4, none⟩ = some (.slice A3 N3 c3) := HC8.out.cell 4; have dl := HC8.out.lt; skip)
        | fail)
      have hml := HM8.out.lt
      have hxl := HX8.out.lt
      have hcl := HC8.out.lt
      have p0 : ∀ u, Aft w8 u → u.cell? ⟨w.heap.size, 0, none⟩ = some (.int .i64 x0) := fun u hu => (hu.cell (p := ⟨w.heap.size, 0, none⟩) hml).trans (HM8.out.cell 0)
      have p1 : ∀ u, Aft w8 u → u.cell? ⟨w.heap.size, 1, none⟩ = some (.int .i64 y0) := fun u hu => (hu.cell (p := ⟨w.heap.size, 1, none⟩) hml).trans (HM8.out.cell 1)
      have p2 : ∀ u, Aft w8 u → u.cell? ⟨w.heap.size, 2, none⟩ = some (.int .i64 x1) := fun u hu => (hu.cell (p := ⟨w.heap.size, 2, none⟩) hml).trans (HM8.out.cell 2)
      have p3 : ∀ u, Aft w8 u → u.cell? ⟨w.heap.size, 3, none⟩ = some (.int .i64 y1) := fun u hu => (hu.cell (p := ⟨w.heap.size, 3, none⟩) hml).trans (HM8.out.cell 3)
      have p4 : ∀ u, Aft w8 u → u.cell? ⟨w.heap.size, 4, none⟩ = some (.slice A bs.length c) := fun u hu => (hu.cell (p := ⟨w.heap.size, 4, none⟩) hml).trans (HM8.out.cell 4)
      have q0 : ∀ u, Aft w8 u → u.cell? ⟨w.heap.size + 1, 0, none⟩ = some (.int .i64 u0) := fun u hu => (hu.cell (p := ⟨w.heap.size + 1, 0, none⟩) hxl).trans (HX8.out.cell 0)
      have q1 : ∀ u, Aft w8 u → u.cell? ⟨w.heap.size + 1, 1, none⟩ = some (.int .i64 v0) := fun u hu => (hu.cell (p := ⟨w.heap.size + 1, 1, none⟩) hxl).trans (HX8.out.cell 1)
      have q2 : ∀ u, Aft w8 u → u.cell? ⟨w.heap.size + 1, 2, none⟩ = some (.int .i64 u1) := fun u hu => (hu.cell (p := ⟨w.heap.size + 1, 2, none⟩) hxl).trans (HX8.out.cell 2)
      have q3 : ∀ u, Aft w8 u → u.cell? ⟨w.heap.size + 1, 3, none⟩ = some (.int .i64 v1) := fun u hu => (hu.cell (p := ⟨w.heap.size + 1, 3, none⟩) hxl).trans (HX8.out.cell 3)
      have r0 : ∀ u, Aft w8 u → u.cell? ⟨w2.heap.size, 0, none⟩ = some (.int .i64 X0) := fun u hu => (hu.cell (p := ⟨w2.heap.size, 0, none⟩) hcl).trans (HC8.out.cell 0)
      have r1 : ∀ u, Aft w8 u → u.cell? ⟨w2.heap.size, 1, none⟩ = some (.int .i64 Y0) := fun u hu => (hu.cell (p := ⟨w2.heap.size, 1, none⟩) hcl).trans (HC8.out.cell 1)
      have r2 : ∀ u, Aft w8 u → u.cell? ⟨w2.heap.size, 2, none⟩ = some (.int .i64 X1) := fun u hu => (hu.cell (p := ⟨w2.heap.size, 2, none⟩) hcl).trans (HC8.out.cell 2)
      have r3 : ∀ u, Aft w8 u → u.cell? ⟨w2.heap.size, 3, none⟩ = some (.int .i64 Y1) := fun u hu => (hu.cell (p := ⟨w2.heap.size, 3, none⟩) hcl).trans (HC8.out.cell 3)
      have r4 : ∀ u, Aft w8 u → u.cell? ⟨w2.heap.size, 4, none⟩ = some (.slice A3 N3 c3) := fun u hu => (hu.cell (p := ⟨w2.heap.size, 4, none⟩) hcl).trans (HC8.out.cell 4)
      have z0 : ∀ u, Aft w8 u → w.heap.size < u.heap.size := fun u hu => Nat.lt_of_lt_of_le hml hu.size
      have z1 : ∀ u, Aft w8 u → w.heap.size + 1 < u.heap.size := fun u hu => Nat.lt_of_lt_of_le hxl hu.size
      have z2 : ∀ u, Aft w8 u → w2.heap.size < u.heap.size := fun u hu => Nat.lt_of_lt_of_le hcl hu.size
      have HD0 : Hid (Aft w8 w8.drew) := Lib.hid aft_drew
      have HAD := Lib.hid (HA8.out.keep (w' := w8.drew) aft_drew)
      have HYD := Lib.hid (HY8.out.keep (w' := w8.drew) aft_drew)
      clear a0 a1 a2 a3 a4 b0 b1 b2 b3 al bl d0 d1 d2 d3 d4 dl hml hxl hcl
      go_region_held (fun u => Aft w8 u) (first | (with_reducible exact HD0.out) | (with_reducible exact HD9.out) | (with_reducible exact HD10.out)) (first
        | (go_at_call 27; (with_reducible refine (HRC.out _ HAD.out).mono ?_); rintro e w9 ⟨A4, c4, rfl, hy, hb⟩; have HD9 : Hid (Aft w8 w9) := Lib.hid (Below.trans HD0.out (hb.mono (Below.size HD0.out))); have HY9 := Lib.hid (HYD.out.keep hb); have HZ9 := Lib.hid hy; clear hy hb)
        | (go_at_call 14; (with_reducible refine (HSA.out _ _ _ _ _ HY9.out HZ9.out).mono ?_); rintro e w10 ⟨rfl, hb⟩; have HD10 : Hid (Aft w8 w10) := Lib.hid (Below.trans HD9.out (hb.mono (Below.size HD9.out))); clear hb)
        | fail)
      all_goals
        go_wp2_with fail
        go_ret
        exact ⟨rfl, HW8.out.trans (Below.mono HD10.out HW8.out.size)⟩
theorem masks_any {w : World} (m b : B4) {A : Option Addr} {c : Nat} {bs : List Int} (x y : Int) (h : ByAt w A bs) (ho : okBs bs) (hc : bs.length ≤ c) : Calls Try.prog 8 #[.agg #[.int .i64 m.x0, .int .i64 m.y0, .int .i64 m.x1, .int .i64 m.y1, .slice A bs.length c], .agg #[.int .i64 b.x0, .int .i64 b.y0, .int .i64 b.x1, .int .i64 b.y1], .int .i64 x, .int .i64 y] w fun e w' =>
    e = .returned (.bool true) ∧ Below w.heap.size w w' := by
  rcases Nat.lt_or_ge 20000 bs.length with hn | hn
  · exact masks_far m b x y hn
  · rcases maskE_any m bs.length with hm | hm
    · rcases Bool.eq_false_or_eq_true (bB b.x0 b.y0 b.x1 b.y1) with hb | hb
      · exact masks_ok m b x y h ho hn hc hm hb
      · exact masks_over m b x y h ho hn hc hm hb
    · exact masks_bad m b x y h ho hn hc hm
end Go.Proofs.Ytbflncfhbmlibaa

namespace Go.Proofs.Ytbflncfhbmlibaa
open Go.RowKit Go.Shelf

theorem mask_of {w : World} {cs : List Value} (hl : cs.length = 5) (h : CellsOk w [.int .i64, .int .i64, .int .i64, .int .i64, .sl 1 [.int .u8]] (fun j => cs[j]?)) :
    ∃ (b : B4) (A : Option Addr) (bs : List Int) (c : Nat), cs = [.int .i64 b.x0, .int .i64 b.y0, .int .i64 b.x1, .int .i64 b.y1, .slice A bs.length c] ∧ ByAt w A bs ∧ okBs bs ∧ bs.length ≤ c := by
  rw [CellsOk] at h; obtain ⟨⟨v0, q0, h0⟩, h⟩ := h
  rw [CellsOk] at h; obtain ⟨⟨v1, q1, h1⟩, h⟩ := h
  rw [CellsOk] at h; obtain ⟨⟨v2, q2, h2⟩, h⟩ := h
  rw [CellsOk] at h; obtain ⟨⟨v3, q3, h3⟩, h⟩ := h
  rw [CellsOk] at h; obtain ⟨⟨v4, q4, h4⟩, h⟩ := h
  simp only [CellOk] at h0 h1 h2 h3
  obtain ⟨n0, rfl, -⟩ := h0
  obtain ⟨n1, rfl, -⟩ := h1
  obtain ⟨n2, rfl, -⟩ := h2
  obtain ⟨n3, rfl, -⟩ := h3
  obtain ⟨A, us, c, rfl, hs, hc, -, hb, hr⟩ := bytes_of h4
  refine ⟨⟨n0, n1, n2, n3⟩, A, us.map (fun u => (u.toNat : Int)), c, ?_, ?_, ?_, by rw [List.length_map]; exact hc⟩
  · rw [List.length_map]
    exact list_5 hl ⟨q0, q1, q2, q3, q4⟩
  · unfold ByAt
    rw [List.length_map, List.map_map]
    exact hs
  · intro x hx
    obtain ⟨u, _, rfl⟩ := List.mem_map.1 hx
    have := u.toNat_lt
    omega
theorem box_of {w : World} {cs : List Value} (hl : cs.length = 4) (h : CellsOk w [.int .i64, .int .i64, .int .i64, .int .i64] (fun j => cs[j]?)) :
    ∃ b : B4, cs = [.int .i64 b.x0, .int .i64 b.y0, .int .i64 b.x1, .int .i64 b.y1] := by
  rw [CellsOk] at h; obtain ⟨⟨v0, q0, h0⟩, h⟩ := h
  rw [CellsOk] at h; obtain ⟨⟨v1, q1, h1⟩, h⟩ := h
  rw [CellsOk] at h; obtain ⟨⟨v2, q2, h2⟩, h⟩ := h
  rw [CellsOk] at h; obtain ⟨⟨v3, q3, h3⟩, h⟩ := h
  simp only [CellOk] at h0 h1 h2 h3
  obtain ⟨n0, rfl, -⟩ := h0
  obtain ⟨n1, rfl, -⟩ := h1
  obtain ⟨n2, rfl, -⟩ := h2
  obtain ⟨n3, rfl, -⟩ := h3
  exact ⟨⟨n0, n1, n2, n3⟩, list_4 hl ⟨q0, q1, q2, q3⟩⟩
end Go.Proofs.Ytbflncfhbmlibaa

namespace Go.Proofs.Ytbflncfhbmlibaa
open Go.ChangeShapes Go.WideShapes Go.ChangeAt Go.RowKit

set_option maxRecDepth 100000 in
theorem rasterMasks_lifted (os : Os) (started : os.Started) (H : Type) (enc : TypeId × Value → H) :
    ReturnsInHanded {} Try.checked os 8 .any (Rows.rasterMasksSpec.pre6 enc Try.prog Try.f8 Rows.rasterMasksRow.domain false) (Rows.rasterMasksSpec.post enc Try.prog Try.f8 false true false false) := by
  refine returnsInHanded_of_change_sized (C := Try.checked) own_none started (by kernel_rfl) Try.func8
    (ChangeSpec.witness6 (enc := enc) (C := Try.checked) false ⟨#[], #[.agg #[.int .i64 0, .int .i64 0, .int .i64 0, .int .i64 0, .slice none 0 0], .agg #[.int .i64 0, .int .i64 0, .int .i64 0, .int .i64 0], .int .i64 0, .int .i64 0], []⟩ 8 (by kernel_rfl) (by kernel_rfl) (by kernel_rfl) (by kernel_rfl)) ?_
  intro W base args ds gs before hval0 hW _ hwt _
  have hval : ∀ (j : Nat) t v, Try.f8.params[j]? = some t → args[j]? = some v → Value.okWide Try.prog W .any base t v := hval0
  have hW' := hW
  obtain ⟨p, q, hA0, _, _, _, _⟩ := hW
  have hA : DataW.TrodAll enc Try.prog W 0 (fun _ => true) true Try.f8.params.toList args.toList ds p := hA0
  rw [Try.params8] at hA hval
  obtain ⟨v0, v1, v2, v3, d0, d1, d2, d3, p0, p1, p2, p3, rfl, rfl, rfl, h0, h1, h2, h3⟩ := trodAll_four hA
  obtain ⟨cs0, rfl, l0, s0⟩ := open_st (ks := [.int .i64, .int .i64, .int .i64, .int .i64, .sl 1 [.int .u8]]) Try.underlying29 (by kernel_rfl) (by kernel_rfl) (hval 0 _ _ rfl rfl) h0 (reach_all (ts := [29, 26, 3, 3]) (by kernel_rfl) hwt (j := 0) rfl rfl)
  obtain ⟨cs1, rfl, l1, s1⟩ := open_st (ks := [.int .i64, .int .i64, .int .i64, .int .i64]) Try.underlying26 (by kernel_rfl) (by kernel_rfl) (hval 1 _ _ rfl rfl) h1 (reach_all (ts := [29, 26, 3, 3]) (by kernel_rfl) hwt (j := 1) rfl rfl)
  obtain ⟨x, rfl, wx⟩ := open_num Try.underlying3 (hval 2 _ _ rfl rfl) h2
  have bx := bounds_i64 wx
  obtain ⟨z, rfl, wz⟩ := open_num Try.underlying3 (hval 3 _ _ rfl rfl) h3
  have bz := bounds_i64 wz
  clear hA0 hval0
  obtain ⟨m, A, bs, c, rfl, hY, hO9, hC9⟩ := mask_of l0 s0
  obtain ⟨b, rfl⟩ := box_of l1 s1
  refine (masks_any m b x z hY hO9 hC9).mono fun e W' ⟨he, hb⟩ => ?_
  subst he
  exact ⟨_, rfl, law_post_any laid_out Try.underlying4 hW' (by kernel_rfl) rfl rfl rfl hb⟩

theorem rasterMasks_holds : Rows.RasterMasksSaid :=
  OpenClaim.holds_of_wide 8 Try.f8 rfl rfl rfl rfl rfl rfl rfl ⟨rfl, rfl, rfl, rfl, rfl⟩ rfl rfl rfl rfl rfl (by kernel_rfl) Try.func8 (by kernel_rfl)
    (of_decide_eq_true (by kernel_rfl)) (by unfold Func.isWrapper; first | (rw [if_pos (by decide +kernel)]; kernel_rfl) | (rw [if_neg (by decide +kernel)]; exact ⟨rfl, rfl⟩))
    (fun os started H enc _ => rasterMasks_lifted os started H enc)

end Go.Proofs.Ytbflncfhbmlibaa
