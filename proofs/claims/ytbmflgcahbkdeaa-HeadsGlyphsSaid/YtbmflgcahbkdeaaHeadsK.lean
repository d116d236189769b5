/-
  heads: Lines.
-/
import Derived.Test.YtbmflgcahbkdeaaHeadsJ
import Derived.Test.YtbmflgcahbkdeaaBs
namespace Go.Proofs.Ytbmflgcahbkdeaa
open Go.RowKit

theorem below_applyW {B : Nat} {w : World} {ws : List ((Nat × Nat) × Int)} (h : ∀ x ∈ ws, B ≤ x.1.1) : Below B w (applyW w ws) :=
  ⟨(applyW_os w ws).1, (applyW_os w ws).2.1, (applyW_os w ws).2.2, by rw [applyW_size]; exact Nat.le_refl _, fun k hk => applyW_heap w ws k (fun x hx e => by have := h x hx; omega)⟩
theorem blk_applyW {w : World} {ws : List ((Nat × Nat) × Int)} {b : Nat} {t : TypeId} {cs : List Value} (h : Blk w b t cs) (hn : ∀ x ∈ ws, x.1.1 ≠ b) : Blk (applyW w ws) b t cs := (applyW_heap w ws b hn).trans h

/-- get, of places whose numbers lie in blocks of one's own. -/
theorem get_own (w : World) (B : Nat) (Ab : Option Addr) (cb : Nat) (bs : List UInt8) (A : Option Addr) (n c : Nat) (l : List PlR) (hl : PlsAt w A n l) (hb : Bs w Ab bs cb) (hB : ∀ k, rowOf Ab = some k → k < B) (hn : (n : Int) ≤ 1000)
    (ht : ∀ a ∈ tos l, B ≤ a.1 ∧ (∃ T cs, Blk w a.1 T cs ∧ a.2 < cs.length) ∧ rowOf A ≠ some a.1) (hsk : ∀ p ∈ l, p.skip ≤ 1000) :
    Calls Try.prog 64 #[.slice Ab bs.length cb, .slice A n c] w fun e w' => ∃ ws, e = .returned (.bool (getOk bs l)) ∧ (∀ x ∈ ws, x.1 ∈ tos l) ∧ Below w.heap.size (applyW w ws) w' ∧ ∀ r, gets bs l (0, false) = some r → r.1 = ws :=
  get_any w Ab cb bs A n c l hl hb.sl hb.cap hb.small hb.row hn (fun a ha => by
    obtain ⟨h1, ⟨T, cs, h2, h3⟩, h4⟩ := ht a ha
    exact ⟨h2.lt, ⟨_, by rw [h2.cell]; exact List.getElem?_eq_getElem h3⟩, h2.frozen _, h4, fun e => by have := hB _ e; omega⟩) hsk

def lineR (bs : List UInt8) : LineR := ⟨sgn16 (wd bs 4), sgn16 (wd bs 6), sgn16 (wd bs 8), wd bs 34⟩
def lineF (bs : List UInt8) : Bool := lineOk bs && lMay (lineR bs)
theorem line_blk {w : World} {g : Nat} {T : TypeId} {a b c d : Value} (h : Blk w g T [a, b, c, d]) (bs : List UInt8) : Blk (applyW w (lineWs g bs)) g T (lCells (lineR bs)) :=
  Blk.to ((((h.set 0 _).set 1 _).set 2 _).set 3 _) rfl
theorem line_tos (g : Nat) : ∀ a ∈ tos (linePl g), a.1 = g ∧ a.2 < 4 := by
  intro a ha
  simp [tos, linePl] at ha
  rcases ha with rfl | rfl | rfl | rfl <;> simp
theorem line_sk (g : Nat) : ∀ p ∈ linePl g, p.skip ≤ 1000 := by
  intro p hp
  simp [linePl] at hp
  rcases hp with rfl | rfl | rfl | rfl | rfl | rfl | rfl | rfl <;> simp

set_option maxHeartbeats 4000000 in
theorem Lines_no (w : World) (A : Option Addr) (bs : List UInt8) (c : Nat) (h : Bs w A bs c) (hf : lineOk bs = false) :
    Calls Try.prog 36 #[.slice A bs.length c] w fun e w' => e = .returned (.tuple #[.agg #[.int .i64 0, .int .i64 0, .int .i64 0, .int .i64 0], .int .i64 52]) ∧ Below w.heap.size w w' := by
  have HB0 := Lib.hid h
  have HF := Lib.hid hf
  clear h hf
  go_enter Try.func36, Try.ntmps36
  go_wp2_with (first
    | (go_at_call 72; (with_reducible refine (linePlaces_any _ _).mono ?_); rintro e w1 ⟨q, hq, rfl, hpl, hb1⟩
       have hs1 := hb1.size
       simp only [World.size_alloc] at hq hs1 hb1
       have hB2 := (((Blk.new w 69 [.int .i64 0, .int .i64 0, .int .i64 0, .int .i64 0]).alloc (.cells #[.int .i64 0, .int .i64 0, .int .i64 0, .int .i64 0] 69))).below hb1 (by omega)
       have hB4 := ((Blk.new (w.alloc (.cells #[.int .i64 0, .int .i64 0, .int .i64 0, .int .i64 0] 69)) 69 [.int .i64 0, .int .i64 0, .int .i64 0, .int .i64 0])).below hb1 (by simp)
       rw [World.size_alloc] at hB4
       have HBel := Lib.hid ((bel_alloc (o := (.cells #[.int .i64 0, .int .i64 0, .int .i64 0, .int .i64 0] 69)) (bel_alloc (o := (.cells #[.int .i64 0, .int .i64 0, .int .i64 0, .int .i64 0] 69)) (bel_refl (a := w)))).below.trans (hb1.mono (by omega)))
       have HG := Lib.hid (get_own w1 w.heap.size A c bs (some ⟨q, 0, none⟩) 8 8 (linePl (w.heap.size + 1)) hpl (HB0.out.keep HBel.out) HB0.out.row (by decide) (fun a ha => by obtain ⟨e1, e2⟩ := line_tos _ a ha; rw [e1]; exact ⟨by omega, ⟨_, _, hB4, e2⟩, by intro e; injection e with e; simp only at e; omega⟩) (line_sk _))
       have HB2 := Lib.hid hB2
       have HB4 := Lib.hid hB4
       clear hpl hb1 hB2 hB4)
    | (go_at_call 64; refine HG.out.mono ?_; rw [getOk_line, HF.out]; rintro e w2 ⟨ws, rfl, hws, hb2, hgets⟩
       have hge : ∀ x ∈ ws, x.1.1 = w.heap.size + 1 := fun x hx => (line_tos _ _ (hws x hx)).1
       have HB := Lib.hid (HBel.out.trans ((below_applyW (B := w.heap.size) (w := w1) (ws := ws) (fun x hx => by have := hge x hx; omega)).trans (hb2.mono (by omega))))
       have hBr := (blk_applyW HB2.out (ws := ws) (fun x hx e => by have := hge x hx; omega)).below hb2 HB2.out.lt
       have k0 := hBr.cell 0
       have k1 := hBr.cell 1
       have k2 := hBr.cell 2
       have k3 := hBr.cell 3
       have fk0 := hBr.frozen 0
       have fk1 := hBr.frozen 1
       have fk2 := hBr.frozen 2
       have fk3 := hBr.frozen 3
       simp at k0 k1 k2 k3
       have HBr := Lib.hid hBr
       clear hge hBr hws hb2 hgets))
  refine bodyPost_ret (v := .tuple #[.agg #[.int .i64 0, .int .i64 0, .int .i64 0, .int .i64 0], .int .i64 52]) (by simp [results, Try.results36, go_sem, *]) rfl ⟨rfl, ?_⟩
  repeat (first | with_reducible exact HB.out | (with_reducible refine Below.setCell ?_ (by simp only; omega) _))

set_option maxHeartbeats 4000000 in
theorem Lines_bad (w : World) (A : Option Addr) (bs : List UInt8) (c : Nat) (h : Bs w A bs c) (hf : lineOk bs = true) (hm : lMay (lineR bs) = false) :
    Calls Try.prog 36 #[.slice A bs.length c] w fun e w' => e = .returned (.tuple #[.agg #[.int .i64 0, .int .i64 0, .int .i64 0, .int .i64 0], .int .i64 52]) ∧ Below w.heap.size w w' := by
  have HB0 := Lib.hid h
  have HF := Lib.hid hf
  have HM := Lib.hid (show mayLinesB (lineR bs).a (lineR bs).d (lineR bs).g (lineR bs).m = false from hm)
  simp only [lineR] at HM
  clear h hf hm
  go_enter Try.func36, Try.ntmps36
  go_wp2_with (first
    | (go_at_call 72; (with_reducible refine (linePlaces_any _ _).mono ?_); rintro e w1 ⟨q, hq, rfl, hpl, hb1⟩
       have hs1 := hb1.size
       simp only [World.size_alloc] at hq hs1 hb1
       have hB2 := (((Blk.new w 69 [.int .i64 0, .int .i64 0, .int .i64 0, .int .i64 0]).alloc (.cells #[.int .i64 0, .int .i64 0, .int .i64 0, .int .i64 0] 69))).below hb1 (by omega)
       have hB4 := ((Blk.new (w.alloc (.cells #[.int .i64 0, .int .i64 0, .int .i64 0, .int .i64 0] 69)) 69 [.int .i64 0, .int .i64 0, .int .i64 0, .int .i64 0])).below hb1 (by simp)
       rw [World.size_alloc] at hB4
       have HBel := Lib.hid ((bel_alloc (o := (.cells #[.int .i64 0, .int .i64 0, .int .i64 0, .int .i64 0] 69)) (bel_alloc (o := (.cells #[.int .i64 0, .int .i64 0, .int .i64 0, .int .i64 0] 69)) (bel_refl (a := w)))).below.trans (hb1.mono (by omega)))
       have HG := Lib.hid (get_own w1 w.heap.size A c bs (some ⟨q, 0, none⟩) 8 8 (linePl (w.heap.size + 1)) hpl (HB0.out.keep HBel.out) HB0.out.row (by decide) (fun a ha => by obtain ⟨e1, e2⟩ := line_tos _ a ha; rw [e1]; exact ⟨by omega, ⟨_, _, hB4, e2⟩, by intro e; injection e with e; simp only at e; omega⟩) (line_sk _))
       have HB2 := Lib.hid hB2
       have HB4 := Lib.hid hB4
       clear hpl hb1 hB2 hB4)
    | (go_at_call 64; refine HG.out.mono ?_; rw [getOk_line, HF.out]; rintro e w2 ⟨ws, rfl, hws, hb2, hgets⟩
       have hge : ∀ x ∈ ws, x.1.1 = w.heap.size + 1 := fun x hx => (line_tos _ _ (hws x hx)).1
       have HB := Lib.hid (HBel.out.trans ((below_applyW (B := w.heap.size) (w := w1) (ws := ws) (fun x hx => by have := hge x hx; omega)).trans (hb2.mono (by omega))))
       have hBr := (blk_applyW HB2.out (ws := ws) (fun x hx e => by have := hge x hx; omega)).below hb2 HB2.out.lt
       have k0 := hBr.cell 0
       have k1 := hBr.cell 1
       have k2 := hBr.cell 2
       have k3 := hBr.cell 3
       have fk0 := hBr.frozen 0
       have fk1 := hBr.frozen 1
       have fk2 := hBr.frozen 2
       have fk3 := hBr.frozen 3
       simp at k0 k1 k2 k3
       have HBr := Lib.hid hBr
       obtain rfl := hgets _ (gets_lineOk HF.out)
       have hBh := (line_blk HB4.out bs).below hb2 (by omega)
       have h0 := hBh.cell 0
       have h1 := hBh.cell 1
       have h2 := hBh.cell 2
       have h3 := hBh.cell 3
       have fh0 := hBh.frozen 0
       have fh1 := hBh.frozen 1
       have fh2 := hBh.frozen 2
       have fh3 := hBh.frozen 3
       simp [lCells, lineR] at h0 h1 h2 h3
       have HBh := Lib.hid hBh
       clear hBh
       clear hge hBr hws hb2 hgets)
    | (go_at_call 71; (with_reducible refine (mayLines_any _ _ _ _ _).mono ?_); rw [HM.out]; rintro e w3 ⟨rfl, hb3⟩
       have hBr := HBr.out.keepB hb3
       have k'0 := hBr.cell 0
       have k'1 := hBr.cell 1
       have k'2 := hBr.cell 2
       have k'3 := hBr.cell 3
       have fk'0 := hBr.frozen 0
       have fk'1 := hBr.frozen 1
       have fk'2 := hBr.frozen 2
       have fk'3 := hBr.frozen 3
       simp at k'0 k'1 k'2 k'3
       have HB3 := Lib.hid (HB.out.trans (hb3.mono HB.out.size))
       clear hBr hb3 k0 fk0 h0 fh0 k1 fk1 h1 fh1 k2 fk2 h2 fh2 k3 fk3 h3 fh3))
  refine bodyPost_ret (v := .tuple #[.agg #[.int .i64 0, .int .i64 0, .int .i64 0, .int .i64 0], .int .i64 52]) (by simp [results, Try.results36, go_sem, *]) rfl ⟨rfl, ?_⟩
  repeat (first | with_reducible exact HB3.out | (with_reducible refine Below.setCell ?_ (by simp only; omega) _))

set_option maxHeartbeats 4000000 in
theorem Lines_ok (w : World) (A : Option Addr) (bs : List UInt8) (c : Nat) (h : Bs w A bs c) (hf : lineOk bs = true) (hm : lMay (lineR bs) = true) :
    Calls Try.prog 36 #[.slice A bs.length c] w fun e w' => e = .returned (.tuple #[.agg (lCells (lineR bs)).toArray, .int .i64 0]) ∧ Below w.heap.size w w' := by
  have HB0 := Lib.hid h
  have HF := Lib.hid hf
  have HM := Lib.hid (show mayLinesB (lineR bs).a (lineR bs).d (lineR bs).g (lineR bs).m = true from hm)
  simp only [lineR] at HM
  clear h hf hm
  go_enter Try.func36, Try.ntmps36
  go_wp2_with (first
    | (go_at_call 72; (with_reducible refine (linePlaces_any _ _).mono ?_); rintro e w1 ⟨q, hq, rfl, hpl, hb1⟩
       have hs1 := hb1.size
       simp only [World.size_alloc] at hq hs1 hb1
       have hB2 := (((Blk.new w 69 [.int .i64 0, .int .i64 0, .int .i64 0, .int .i64 0]).alloc (.cells #[.int .i64 0, .int .i64 0, .int .i64 0, .int .i64 0] 69))).below hb1 (by omega)
       have hB4 := ((Blk.new (w.alloc (.cells #[.int .i64 0, .int .i64 0, .int .i64 0, .int .i64 0] 69)) 69 [.int .i64 0, .int .i64 0, .int .i64 0, .int .i64 0])).below hb1 (by simp)
       rw [World.size_alloc] at hB4
       have HBel := Lib.hid ((bel_alloc (o := (.cells #[.int .i64 0, .int .i64 0, .int .i64 0, .int .i64 0] 69)) (bel_alloc (o := (.cells #[.int .i64 0, .int .i64 0, .int .i64 0, .int .i64 0] 69)) (bel_refl (a := w)))).below.trans (hb1.mono (by omega)))
       have HG := Lib.hid (get_own w1 w.heap.size A c bs (some ⟨q, 0, none⟩) 8 8 (linePl (w.heap.size + 1)) hpl (HB0.out.keep HBel.out) HB0.out.row (by decide) (fun a ha => by obtain ⟨e1, e2⟩ := line_tos _ a ha; rw [e1]; exact ⟨by omega, ⟨_, _, hB4, e2⟩, by intro e; injection e with e; simp only at e; omega⟩) (line_sk _))
       have HB2 := Lib.hid hB2
       have HB4 := Lib.hid hB4
       clear hpl hb1 hB2 hB4)
    | (go_at_call 64; refine HG.out.mono ?_; rw [getOk_line, HF.out]; rintro e w2 ⟨ws, rfl, hws, hb2, hgets⟩
       have hge : ∀ x ∈ ws, x.1.1 = w.heap.size + 1 := fun x hx => (line_tos _ _ (hws x hx)).1
       have HB := Lib.hid (HBel.out.trans ((below_applyW (B := w.heap.size) (w := w1) (ws := ws) (fun x hx => by have := hge x hx; omega)).trans (hb2.mono (by omega))))
       have hBr := (blk_applyW HB2.out (ws := ws) (fun x hx e => by have := hge x hx; omega)).below hb2 HB2.out.lt
       have k0 := hBr.cell 0
       have k1 := hBr.cell 1
       have k2 := hBr.cell 2
       have k3 := hBr.cell 3
       have fk0 := hBr.frozen 0
       have fk1 := hBr.frozen 1
       have fk2 := hBr.frozen 2
       have fk3 := hBr.frozen 3
       simp at k0 k1 k2 k3
       have HBr := Lib.hid hBr
       obtain rfl := hgets _ (gets_lineOk HF.out)
       have hBh := (line_blk HB4.out bs).below hb2 (by omega)
       have h0 := hBh.cell 0
       have h1 := hBh.cell 1
       have h2 := hBh.cell 2
       have h3 := hBh.cell 3
       have fh0 := hBh.frozen 0
       have fh1 := hBh.frozen 1
       have fh2 := hBh.frozen 2
       have fh3 := hBh.frozen 3
       simp [lCells, lineR] at h0 h1 h2 h3
       have HBh := Lib.hid hBh
       clear hBh
       clear hge hBr hws hb2 hgets)
    | (go_at_call 71; (with_reducible refine (mayLines_any _ _ _ _ _).mono ?_); rw [HM.out]; rintro e w3 ⟨rfl, hb3⟩
       have hBr := HBr.out.keepB hb3
       have k'0 := hBr.cell 0
       have k'1 := hBr.cell 1
       have k'2 := hBr.cell 2
       have k'3 := hBr.cell 3
       have fk'0 := hBr.frozen 0
       have fk'1 := hBr.frozen 1
       have fk'2 := hBr.frozen 2
       have fk'3 := hBr.frozen 3
       simp at k'0 k'1 k'2 k'3
       have hBh := HBh.out.keepB hb3
       have h'0 := hBh.cell 0
       have h'1 := hBh.cell 1
       have h'2 := hBh.cell 2
       have h'3 := hBh.cell 3
       have fh'0 := hBh.frozen 0
       have fh'1 := hBh.frozen 1
       have fh'2 := hBh.frozen 2
       have fh'3 := hBh.frozen 3
       simp [lCells, lineR] at h'0 h'1 h'2 h'3
       clear hBh
       have HB3 := Lib.hid (HB.out.trans (hb3.mono HB.out.size))
       clear hBr hb3 k0 fk0 h0 fh0 k1 fk1 h1 fh1 k2 fk2 h2 fh2 k3 fk3 h3 fh3))
  refine bodyPost_ret (v := .tuple #[.agg (lCells (lineR bs)).toArray, .int .i64 0]) (by simp [results, Try.results36, go_sem, lCells, lineR, *]) rfl ⟨rfl, ?_⟩
  repeat (first | with_reducible exact HB3.out | (with_reducible refine Below.setCell ?_ (by simp only; omega) _))

end Go.Proofs.Ytbmflgcahbkdeaa
