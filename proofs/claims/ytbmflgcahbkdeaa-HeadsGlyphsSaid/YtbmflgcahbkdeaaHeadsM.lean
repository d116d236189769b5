/-
  heads: Glyphs.
-/
import Derived.Test.YtbmflgcahbkdeaaHeadsL
namespace Go.Proofs.Ytbmflgcahbkdeaa
open Go.RowKit

theorem glyph_n {w : World} {gv gn : Nat} {T : TypeId} {a x : Value} (h : Blk w gn T [a, x]) (hne : gn ≠ gv) (bs : List UInt8) : Blk (applyW w (glyphWs gv gn bs)) gn T [.int .i64 (wd bs 4), x] :=
  Blk.to ((h.far hne _).set 0 _) rfl
theorem glyph_v {w : World} {gv gn : Nat} {T : TypeId} {a : Value} (h : Blk w gv T [a]) (hne : gv ≠ gn) (bs : List UInt8) : Blk (applyW w (glyphWs gv gn bs)) gv T [.int .i64 (wd4 bs 0)] :=
  Blk.to ((h.set 0 _).far hne _) rfl
theorem blk_any {b : Nat} {t : TypeId} : ∀ (ws : List ((Nat × Nat) × Int)) {w : World} {cs : List Value}, Blk w b t cs → ∃ cs', cs'.length = cs.length ∧ Blk (applyW w ws) b t cs'
  | [], _, cs, h => ⟨cs, rfl, h⟩
  | x :: ws, w, cs, h => by
    by_cases e : b = x.1.1
    · subst e
      obtain ⟨cs', h1, h2⟩ := blk_any ws (h.set x.1.2 (.int .i64 x.2))
      exact ⟨cs', by rw [h1]; simp, h2⟩
    · exact blk_any ws (h.far (p := ⟨x.1.1, x.1.2, none⟩) e (.int .i64 x.2))
theorem blk_any2 {b : Nat} {t : TypeId} (ws : List ((Nat × Nat) × Int)) {w : World} {x y : Value} (h : Blk w b t [x, y]) : ∃ x' y', Blk (applyW w ws) b t [x', y'] := by
  obtain ⟨cs', h1, h2⟩ := blk_any ws h
  match cs', h1 with
  | [x', y'], _ => exact ⟨x', y', h2⟩
theorem glyph_tos (gv gn : Nat) (tr : Bool) : ∀ a ∈ tos (glyphPl gv gn tr), (a.1 = gn ∧ a.2 < 2) ∨ (a.1 = gv ∧ a.2 < 1) := by
  intro a ha
  cases tr <;> (simp [tos, glyphPl] at ha; rcases ha with rfl | rfl <;> simp)
theorem glyph_sk (gv gn : Nat) (tr : Bool) : ∀ p ∈ glyphPl gv gn tr, p.skip ≤ 1000 := by
  intro p hp
  cases tr
  · simp [glyphPl] at hp
    rcases hp with rfl | rfl <;> simp
  · simp [glyphPl] at hp
    rcases hp with rfl | rfl | rfl <;> simp

set_option maxHeartbeats 4000000 in
theorem Glyphs_short (w : World) (A : Option Addr) (bs : List UInt8) (c : Nat) (h : Bs w A bs c) (hl : bs.length < 6) :
    Calls Try.prog 30 #[.slice A bs.length c] w fun e w' => e = .returned (.tuple #[.agg #[.int .i64 0, .bool false], .int .i64 51]) ∧ Below w.heap.size w w' := by
  have HB0 := Lib.hid h
  have HF := Lib.hid (show decide ((if false = true then 32 else 6) ≤ bs.length) = false by simpa using hl)
  clear h hl
  go_enter Try.func30, Try.ntmps30
  go_wp2_with (first
    | (go_at_call 70; (with_reducible refine (glyphPlaces_f _ _ _).mono ?_); rintro e w1 ⟨q, hq, rfl, hpl, hb1⟩
       have hs1 := hb1.size
       simp only [World.size_alloc] at hq hs1 hb1
       have hB2 := (((Blk.new w 59 [.int .i64 0, .bool false]).alloc (.cells #[.int .i64 0, .bool false] 59)).alloc (.cells #[.int .i64 0] 3)).below hb1 (by omega)
       have hB4 := ((Blk.new (w.alloc (.cells #[.int .i64 0, .bool false] 59)) 59 [.int .i64 0, .bool false]).alloc (.cells #[.int .i64 0] 3)).below hb1 (by simp)
       have hB5 := (Blk.new ((w.alloc (.cells #[.int .i64 0, .bool false] 59)).alloc (.cells #[.int .i64 0, .bool false] 59)) 3 [.int .i64 0]).below hb1 (by simp)
       simp only [World.size_alloc] at hB4 hB5
       have HBel := Lib.hid ((bel_alloc (o := .cells #[.int .i64 0] 3) (bel_alloc (o := (.cells #[.int .i64 0, .bool false] 59)) (bel_alloc (o := (.cells #[.int .i64 0, .bool false] 59)) (bel_refl (a := w))))).below.trans (hb1.mono (by omega)))
       have HG := Lib.hid (get_own w1 w.heap.size A c bs (some ⟨q, 0, none⟩) 2 2 (glyphPl (w.heap.size + 1 + 1) (w.heap.size + 1) false) hpl (HB0.out.keep HBel.out) HB0.out.row (by decide) (fun a ha => by rcases glyph_tos _ _ _ a ha with ⟨e1, e2⟩ | ⟨e1, e2⟩; (· rw [e1]; exact ⟨by omega, ⟨_, _, hB4, e2⟩, by intro e; injection e with e; simp only at e; omega⟩); (· rw [e1]; exact ⟨by omega, ⟨_, _, hB5, e2⟩, by intro e; injection e with e; simp only at e; omega⟩)) (glyph_sk _ _ _))
       have HB2 := Lib.hid hB2
       have HB4 := Lib.hid hB4
       have HB5 := Lib.hid hB5
       clear hpl hb1 hB2 hB4 hB5)
    | (go_at_call 64; (with_reducible refine HG.out.mono ?_); rw [getOk_glyph, HF.out]; rintro e w2 ⟨ws, rfl, hws, hb2, hgets⟩
       have hge : ∀ x ∈ ws, x.1.1 = w.heap.size + 1 ∨ x.1.1 = w.heap.size + 1 + 1 := fun x hx => (glyph_tos _ _ _ _ (hws x hx)).imp (·.1) (·.1)
       have HB := Lib.hid (HBel.out.trans ((below_applyW (B := w.heap.size) (w := w1) (ws := ws) (fun x hx => by have := hge x hx; omega)).trans (hb2.mono (by omega))))
       have hBr := (blk_applyW HB2.out (ws := ws) (fun x hx e => by have := hge x hx; omega)).below hb2 HB2.out.lt
       have k0 := hBr.cell 0
       have k1 := hBr.cell 1
       have fk0 := hBr.frozen 0
       have fk1 := hBr.frozen 1
       simp at k0 k1
       have HBr := Lib.hid hBr
       clear hge hBr hws hb2 hgets))
  refine bodyPost_ret (v := .tuple #[.agg #[.int .i64 0, .bool false], .int .i64 51]) (by simp [results, Try.results30, go_sem, *]) rfl ⟨rfl, ?_⟩
  repeat (first | with_reducible exact HB.out | (with_reducible refine Below.setCell ?_ (by simp only; omega) _))

set_option maxHeartbeats 4000000 in
theorem Glyphs_other (w : World) (A : Option Addr) (bs : List UInt8) (c : Nat) (h : Bs w A bs c) (hl : 6 ≤ bs.length) (v : Int) (hv : wd4 bs 0 = v) (h1 : (v == 20480) = false) (h2 : (v == 65536) = false) :
    Calls Try.prog 30 #[.slice A bs.length c] w fun e w' => e = .returned (.tuple #[.agg #[.int .i64 0, .bool false], .int .i64 51]) ∧ Below w.heap.size w w' := by
  have HB0 := Lib.hid h
  have HF := Lib.hid (show decide ((if false = true then 32 else 6) ≤ bs.length) = true by simpa using hl)
  have HGE := Lib.hid (gets_glyph bs (w.heap.size + 1 + 1) (w.heap.size + 1) false (by simpa using hl))
  have HV := Lib.hid (show wd4 bs 0 = v from hv)
  clear h hl hv
  go_enter Try.func30, Try.ntmps30
  go_wp2_with (first
    | (go_at_call 70; (with_reducible refine (glyphPlaces_f _ _ _).mono ?_); rintro e w1 ⟨q, hq, rfl, hpl, hb1⟩
       have hs1 := hb1.size
       simp only [World.size_alloc] at hq hs1 hb1
       have hB2 := (((Blk.new w 59 [.int .i64 0, .bool false]).alloc (.cells #[.int .i64 0, .bool false] 59)).alloc (.cells #[.int .i64 0] 3)).below hb1 (by omega)
       have hB4 := ((Blk.new (w.alloc (.cells #[.int .i64 0, .bool false] 59)) 59 [.int .i64 0, .bool false]).alloc (.cells #[.int .i64 0] 3)).below hb1 (by simp)
       have hB5 := (Blk.new ((w.alloc (.cells #[.int .i64 0, .bool false] 59)).alloc (.cells #[.int .i64 0, .bool false] 59)) 3 [.int .i64 0]).below hb1 (by simp)
       simp only [World.size_alloc] at hB4 hB5
       have HBel := Lib.hid ((bel_alloc (o := .cells #[.int .i64 0] 3) (bel_alloc (o := (.cells #[.int .i64 0, .bool false] 59)) (bel_alloc (o := (.cells #[.int .i64 0, .bool false] 59)) (bel_refl (a := w))))).below.trans (hb1.mono (by omega)))
       have HG := Lib.hid (get_own w1 w.heap.size A c bs (some ⟨q, 0, none⟩) 2 2 (glyphPl (w.heap.size + 1 + 1) (w.heap.size + 1) false) hpl (HB0.out.keep HBel.out) HB0.out.row (by decide) (fun a ha => by rcases glyph_tos _ _ _ a ha with ⟨e1, e2⟩ | ⟨e1, e2⟩; (· rw [e1]; exact ⟨by omega, ⟨_, _, hB4, e2⟩, by intro e; injection e with e; simp only at e; omega⟩); (· rw [e1]; exact ⟨by omega, ⟨_, _, hB5, e2⟩, by intro e; injection e with e; simp only at e; omega⟩)) (glyph_sk _ _ _))
       have HB2 := Lib.hid hB2
       have HB4 := Lib.hid hB4
       have HB5 := Lib.hid hB5
       clear hpl hb1 hB2 hB4 hB5)
    | (go_at_call 64; (with_reducible refine HG.out.mono ?_); rw [getOk_glyph, HF.out]; rintro e w2 ⟨ws, rfl, hws, hb2, hgets⟩
       have hge : ∀ x ∈ ws, x.1.1 = w.heap.size + 1 ∨ x.1.1 = w.heap.size + 1 + 1 := fun x hx => (glyph_tos _ _ _ _ (hws x hx)).imp (·.1) (·.1)
       have HB := Lib.hid (HBel.out.trans ((below_applyW (B := w.heap.size) (w := w1) (ws := ws) (fun x hx => by have := hge x hx; omega)).trans (hb2.mono (by omega))))
       have hBr := (blk_applyW HB2.out (ws := ws) (fun x hx e => by have := hge x hx; omega)).below hb2 HB2.out.lt
       have k0 := hBr.cell 0
       have k1 := hBr.cell 1
       have fk0 := hBr.frozen 0
       have fk1 := hBr.frozen 1
       simp at k0 k1
       have HBr := Lib.hid hBr
       obtain rfl := hgets _ HGE.out
       have hBh := (glyph_n HB4.out (by omega) bs).below hb2 (by omega)
       have h0 := hBh.cell 0
       have h1 := hBh.cell 1
       have fh0 := hBh.frozen 0
       have fh1 := hBh.frozen 1
       simp at h0 h1
       have HBh := Lib.hid hBh
       clear hBh
       have hBl := (glyph_v HB5.out (by omega) bs).below hb2 HB5.out.lt
       have l0 := hBl.cell 0
       simp at l0
       rw [HV.out] at l0
       have HBl := Lib.hid hBl
       clear hBl
       have hs2 : w.heap.size + 1 + 1 < w2.heap.size := HBl.out.lt
       clear hge hBr hws hb2 hgets))
  refine bodyPost_ret (v := .tuple #[.agg #[.int .i64 0, .bool false], .int .i64 51]) (by simp [results, Try.results30, go_sem, *]) rfl ⟨rfl, ?_⟩
  repeat (first | with_reducible exact HB.out | (with_reducible refine Below.setCell ?_ (by simp only; omega) _))

set_option maxHeartbeats 4000000 in
theorem Glyphs_cff (w : World) (A : Option Addr) (bs : List UInt8) (c : Nat) (h : Bs w A bs c) (hl : 6 ≤ bs.length) (hv : wd4 bs 0 = 20480) (hm : allF 1 65535 [wd bs 4] = true) :
    Calls Try.prog 30 #[.slice A bs.length c] w fun e w' => e = .returned (.tuple #[.agg #[.int .i64 (wd bs 4), .bool false], .int .i64 0]) ∧ Below w.heap.size w w' := by
  have HB0 := Lib.hid h
  have HF := Lib.hid (show decide ((if false = true then 32 else 6) ≤ bs.length) = true by simpa using hl)
  have HGE := Lib.hid (gets_glyph bs (w.heap.size + 1 + 1) (w.heap.size + 1) false (by simpa using hl))
  have HV := Lib.hid (show wd4 bs 0 = 20480 from hv)
  have HM := Lib.hid hm
  clear h hl hv hm
  go_enter Try.func30, Try.ntmps30
  go_wp2_with (first
    | (go_at_call 70; (with_reducible refine (glyphPlaces_f _ _ _).mono ?_); rintro e w1 ⟨q, hq, rfl, hpl, hb1⟩
       have hs1 := hb1.size
       simp only [World.size_alloc] at hq hs1 hb1
       have hB2 := (((Blk.new w 59 [.int .i64 0, .bool false]).alloc (.cells #[.int .i64 0, .bool false] 59)).alloc (.cells #[.int .i64 0] 3)).below hb1 (by omega)
       have hB4 := ((Blk.new (w.alloc (.cells #[.int .i64 0, .bool false] 59)) 59 [.int .i64 0, .bool false]).alloc (.cells #[.int .i64 0] 3)).below hb1 (by simp)
       have hB5 := (Blk.new ((w.alloc (.cells #[.int .i64 0, .bool false] 59)).alloc (.cells #[.int .i64 0, .bool false] 59)) 3 [.int .i64 0]).below hb1 (by simp)
       simp only [World.size_alloc] at hB4 hB5
       have HBel := Lib.hid ((bel_alloc (o := .cells #[.int .i64 0] 3) (bel_alloc (o := (.cells #[.int .i64 0, .bool false] 59)) (bel_alloc (o := (.cells #[.int .i64 0, .bool false] 59)) (bel_refl (a := w))))).below.trans (hb1.mono (by omega)))
       have HG := Lib.hid (get_own w1 w.heap.size A c bs (some ⟨q, 0, none⟩) 2 2 (glyphPl (w.heap.size + 1 + 1) (w.heap.size + 1) false) hpl (HB0.out.keep HBel.out) HB0.out.row (by decide) (fun a ha => by rcases glyph_tos _ _ _ a ha with ⟨e1, e2⟩ | ⟨e1, e2⟩; (· rw [e1]; exact ⟨by omega, ⟨_, _, hB4, e2⟩, by intro e; injection e with e; simp only at e; omega⟩); (· rw [e1]; exact ⟨by omega, ⟨_, _, hB5, e2⟩, by intro e; injection e with e; simp only at e; omega⟩)) (glyph_sk _ _ _))
       have HB2 := Lib.hid hB2
       have HB4 := Lib.hid hB4
       have HB5 := Lib.hid hB5
       clear hpl hb1 hB2 hB4 hB5)
    | (go_at_call 64; (with_reducible refine HG.out.mono ?_); rw [getOk_glyph, HF.out]; rintro e w2 ⟨ws, rfl, hws, hb2, hgets⟩
       have hge : ∀ x ∈ ws, x.1.1 = w.heap.size + 1 ∨ x.1.1 = w.heap.size + 1 + 1 := fun x hx => (glyph_tos _ _ _ _ (hws x hx)).imp (·.1) (·.1)
       have HB := Lib.hid (HBel.out.trans ((below_applyW (B := w.heap.size) (w := w1) (ws := ws) (fun x hx => by have := hge x hx; omega)).trans (hb2.mono (by omega))))
       have hBr := (blk_applyW HB2.out (ws := ws) (fun x hx e => by have := hge x hx; omega)).below hb2 HB2.out.lt
       have k0 := hBr.cell 0
       have k1 := hBr.cell 1
       have fk0 := hBr.frozen 0
       have fk1 := hBr.frozen 1
       simp at k0 k1
       have HBr := Lib.hid hBr
       obtain rfl := hgets _ HGE.out
       have hBh := (glyph_n HB4.out (by omega) bs).below hb2 (by omega)
       have h0 := hBh.cell 0
       have h1 := hBh.cell 1
       have fh0 := hBh.frozen 0
       have fh1 := hBh.frozen 1
       simp at h0 h1
       have HBh := Lib.hid hBh
       clear hBh
       have hBl := (glyph_v HB5.out (by omega) bs).below hb2 HB5.out.lt
       have l0 := hBl.cell 0
       simp at l0
       rw [HV.out] at l0
       have HBl := Lib.hid hBl
       clear hBl
       have hs2 : w.heap.size + 1 + 1 < w2.heap.size := HBl.out.lt
       clear hge hBr hws hb2 hgets)
    | (go_at_call 69; (with_reducible refine (mayGlyphs_any _ _ _).mono ?_); rw [HM.out]; rintro e w5 ⟨rfl, hb5⟩
       have hBr := HBr.out.keepB hb5
       have k'0 := hBr.cell 0
       have k'1 := hBr.cell 1
       have fk'0 := hBr.frozen 0
       have fk'1 := hBr.frozen 1
       simp at k'0 k'1
       have hBh := HBh.out.keepB hb5
       have h'0 := hBh.cell 0
       have h'1 := hBh.cell 1
       have fh'0 := hBh.frozen 0
       have fh'1 := hBh.frozen 1
       simp at h'0 h'1
       clear hBh
       have HB5 := Lib.hid (HB.out.trans (hb5.mono HB.out.size))
       clear hBr hb5 k0 k1 fk0 fk1 h0 h1 fh0 fh1 l0))
  refine bodyPost_ret (v := .tuple #[.agg #[.int .i64 (wd bs 4), .bool false], .int .i64 0]) (by simp [results, Try.results30, go_sem, *]) rfl ⟨rfl, ?_⟩
  repeat (first | with_reducible exact HB5.out | (with_reducible refine Below.setCell ?_ (by simp only; omega) _))

set_option maxHeartbeats 4000000 in
theorem Glyphs_cff_no (w : World) (A : Option Addr) (bs : List UInt8) (c : Nat) (h : Bs w A bs c) (hl : 6 ≤ bs.length) (hv : wd4 bs 0 = 20480) (hm : allF 1 65535 [wd bs 4] = false) :
    Calls Try.prog 30 #[.slice A bs.length c] w fun e w' => e = .returned (.tuple #[.agg #[.int .i64 0, .bool false], .int .i64 51]) ∧ Below w.heap.size w w' := by
  have HB0 := Lib.hid h
  have HF := Lib.hid (show decide ((if false = true then 32 else 6) ≤ bs.length) = true by simpa using hl)
  have HGE := Lib.hid (gets_glyph bs (w.heap.size + 1 + 1) (w.heap.size + 1) false (by simpa using hl))
  have HV := Lib.hid (show wd4 bs 0 = 20480 from hv)
  have HM := Lib.hid hm
  clear h hl hv hm
  go_enter Try.func30, Try.ntmps30
  go_wp2_with (first
    | (go_at_call 70; (with_reducible refine (glyphPlaces_f _ _ _).mono ?_); rintro e w1 ⟨q, hq, rfl, hpl, hb1⟩
       have hs1 := hb1.size
       simp only [World.size_alloc] at hq hs1 hb1
       have hB2 := (((Blk.new w 59 [.int .i64 0, .bool false]).alloc (.cells #[.int .i64 0, .bool false] 59)).alloc (.cells #[.int .i64 0] 3)).below hb1 (by omega)
       have hB4 := ((Blk.new (w.alloc (.cells #[.int .i64 0, .bool false] 59)) 59 [.int .i64 0, .bool false]).alloc (.cells #[.int .i64 0] 3)).below hb1 (by simp)
       have hB5 := (Blk.new ((w.alloc (.cells #[.int .i64 0, .bool false] 59)).alloc (.cells #[.int .i64 0, .bool false] 59)) 3 [.int .i64 0]).below hb1 (by simp)
       simp only [World.size_alloc] at hB4 hB5
       have HBel := Lib.hid ((bel_alloc (o := .cells #[.int .i64 0] 3) (bel_alloc (o := (.cells #[.int .i64 0, .bool false] 59)) (bel_alloc (o := (.cells #[.int .i64 0, .bool false] 59)) (bel_refl (a := w))))).below.trans (hb1.mono (by omega)))
       have HG := Lib.hid (get_own w1 w.heap.size A c bs (some ⟨q, 0, none⟩) 2 2 (glyphPl (w.heap.size + 1 + 1) (w.heap.size + 1) false) hpl (HB0.out.keep HBel.out) HB0.out.row (by decide) (fun a ha => by rcases glyph_tos _ _ _ a ha with ⟨e1, e2⟩ | ⟨e1, e2⟩; (· rw [e1]; exact ⟨by omega, ⟨_, _, hB4, e2⟩, by intro e; injection e with e; simp only at e; omega⟩); (· rw [e1]; exact ⟨by omega, ⟨_, _, hB5, e2⟩, by intro e; injection e with e; simp only at e; omega⟩)) (glyph_sk _ _ _))
       have HB2 := Lib.hid hB2
       have HB4 := Lib.hid hB4
       have HB5 := Lib.hid hB5
       clear hpl hb1 hB2 hB4 hB5)
    | (go_at_call 64; (with_reducible refine HG.out.mono ?_); rw [getOk_glyph, HF.out]; rintro e w2 ⟨ws, rfl, hws, hb2, hgets⟩
       have hge : ∀ x ∈ ws, x.1.1 = w.heap.size + 1 ∨ x.1.1 = w.heap.size + 1 + 1 := fun x hx => (glyph_tos _ _ _ _ (hws x hx)).imp (·.1) (·.1)
       have HB := Lib.hid (HBel.out.trans ((below_applyW (B := w.heap.size) (w := w1) (ws := ws) (fun x hx => by have := hge x hx; omega)).trans (hb2.mono (by omega))))
       have hBr := (blk_applyW HB2.out (ws := ws) (fun x hx e => by have := hge x hx; omega)).below hb2 HB2.out.lt
       have k0 := hBr.cell 0
       have k1 := hBr.cell 1
       have fk0 := hBr.frozen 0
       have fk1 := hBr.frozen 1
       simp at k0 k1
       have HBr := Lib.hid hBr
       obtain rfl := hgets _ HGE.out
       have hBh := (glyph_n HB4.out (by omega) bs).below hb2 (by omega)
       have h0 := hBh.cell 0
       have h1 := hBh.cell 1
       have fh0 := hBh.frozen 0
       have fh1 := hBh.frozen 1
       simp at h0 h1
       have HBh := Lib.hid hBh
       clear hBh
       have hBl := (glyph_v HB5.out (by omega) bs).below hb2 HB5.out.lt
       have l0 := hBl.cell 0
       simp at l0
       rw [HV.out] at l0
       have HBl := Lib.hid hBl
       clear hBl
       have hs2 : w.heap.size + 1 + 1 < w2.heap.size := HBl.out.lt
       clear hge hBr hws hb2 hgets)
    | (go_at_call 69; (with_reducible refine (mayGlyphs_any _ _ _).mono ?_); rw [HM.out]; rintro e w5 ⟨rfl, hb5⟩
       have hBr := HBr.out.keepB hb5
       have k'0 := hBr.cell 0
       have k'1 := hBr.cell 1
       have fk'0 := hBr.frozen 0
       have fk'1 := hBr.frozen 1
       simp at k'0 k'1
       have HB5 := Lib.hid (HB.out.trans (hb5.mono HB.out.size))
       clear hBr hb5 k0 k1 fk0 fk1 h0 h1 fh0 fh1 l0))
  refine bodyPost_ret (v := .tuple #[.agg #[.int .i64 0, .bool false], .int .i64 51]) (by simp [results, Try.results30, go_sem, *]) rfl ⟨rfl, ?_⟩
  repeat (first | with_reducible exact HB5.out | (with_reducible refine Below.setCell ?_ (by simp only; omega) _))

set_option maxHeartbeats 4000000 in
theorem Glyphs_true_short (w : World) (A : Option Addr) (bs : List UInt8) (c : Nat) (h : Bs w A bs c) (hl : 6 ≤ bs.length) (hl2 : bs.length < 32) (hv : wd4 bs 0 = 65536) :
    Calls Try.prog 30 #[.slice A bs.length c] w fun e w' => e = .returned (.tuple #[.agg #[.int .i64 0, .bool false], .int .i64 51]) ∧ Below w.heap.size w w' := by
  have HB0 := Lib.hid h
  have HF := Lib.hid (show decide ((if false = true then 32 else 6) ≤ bs.length) = true by simpa using hl)
  have HGE := Lib.hid (gets_glyph bs (w.heap.size + 1 + 1) (w.heap.size + 1) false (by simpa using hl))
  have HV := Lib.hid (show wd4 bs 0 = 65536 from hv)
  have HF3 : Hid (getOk bs (glyphPl (w.heap.size + 1 + 1) (w.heap.size + 1) true) = false) := Lib.hid (by rw [getOk_glyph]; simpa using hl2)
  clear h hl hv hl2
  go_enter Try.func30, Try.ntmps30
  go_wp2_with (first
    | (go_at_call 64; (with_reducible refine HG3.out.mono ?_); rw [HF3.out]; rintro e w4 ⟨ws, rfl, hws, hb4, hgets⟩
       have hge : ∀ x ∈ ws, x.1.1 = w.heap.size + 1 ∨ x.1.1 = w.heap.size + 1 + 1 := fun x hx => (glyph_tos _ _ _ _ (hws x hx)).imp (·.1) (·.1)
       have HB5b := Lib.hid (HBel3.out.trans ((below_applyW (B := w.heap.size) (w := w3) (ws := ws) (fun x hx => by have := hge x hx; omega)).trans (hb4.mono (by omega))))
       have hBr := (blk_applyW HB2'.out (ws := ws) (fun x hx e => by have := hge x hx; omega)).below hb4 HB2'.out.lt
       have k0 := hBr.cell 0
       have k1 := hBr.cell 1
       have fk0 := hBr.frozen 0
       have fk1 := hBr.frozen 1
       simp at k0 k1
       have HBr2 := Lib.hid hBr
       obtain ⟨xa, xb, hBh0⟩ := blk_any2 ws HB4'.out
       have hBh := hBh0.below hb4 HB4'.out.lt
       have h0 := hBh.cell 0
       have h1 := hBh.cell 1
       have fh0 := hBh.frozen 0
       have fh1 := hBh.frozen 1
       simp at h0 h1
       have HBh2 := Lib.hid hBh
       clear hBh hBh0
       clear hge hBr hws hb4 hgets)
    | (go_at_call 70; (with_reducible refine (glyphPlaces_t _ _ _).mono ?_); rintro e w3 ⟨A3, c3, rfl, hrw, hpl, hb3⟩
       have HBel3 := Lib.hid (HB.out.trans (hb3.mono HB.out.size))
       have hB2 := HBr.out.keepB hb3
       have hB4 := HBh.out.keepB hb3
       have hB5 := HBl.out.keepB hb3
       have hs3 := hb3.size
       have HG3 := Lib.hid (get_own w3 w.heap.size A c bs A3 3 c3 (glyphPl (w.heap.size + 1 + 1) (w.heap.size + 1) true) hpl (HB0.out.keep HBel3.out) HB0.out.row (by decide) (fun a ha => by rcases glyph_tos _ _ _ a ha with ⟨e1, e2⟩ | ⟨e1, e2⟩; (· rw [e1]; exact ⟨by omega, ⟨_, _, hB4, e2⟩, by intro e; have := hrw _ e; omega⟩); (· rw [e1]; exact ⟨by omega, ⟨_, _, hB5, e2⟩, by intro e; have := hrw _ e; omega⟩)) (glyph_sk _ _ _))
       have HB2' := Lib.hid hB2
       have HB4' := Lib.hid hB4
       have HB5' := Lib.hid hB5
       clear hpl hb3 hB2 hB4 hB5 hrw k0 k1 fk0 fk1 h0 h1 fh0 fh1 l0)
    | (go_at_call 70; (with_reducible refine (glyphPlaces_f _ _ _).mono ?_); rintro e w1 ⟨q, hq, rfl, hpl, hb1⟩
       have hs1 := hb1.size
       simp only [World.size_alloc] at hq hs1 hb1
       have hB2 := (((Blk.new w 59 [.int .i64 0, .bool false]).alloc (.cells #[.int .i64 0, .bool false] 59)).alloc (.cells #[.int .i64 0] 3)).below hb1 (by omega)
       have hB4 := ((Blk.new (w.alloc (.cells #[.int .i64 0, .bool false] 59)) 59 [.int .i64 0, .bool false]).alloc (.cells #[.int .i64 0] 3)).below hb1 (by simp)
       have hB5 := (Blk.new ((w.alloc (.cells #[.int .i64 0, .bool false] 59)).alloc (.cells #[.int .i64 0, .bool false] 59)) 3 [.int .i64 0]).below hb1 (by simp)
       simp only [World.size_alloc] at hB4 hB5
       have HBel := Lib.hid ((bel_alloc (o := .cells #[.int .i64 0] 3) (bel_alloc (o := (.cells #[.int .i64 0, .bool false] 59)) (bel_alloc (o := (.cells #[.int .i64 0, .bool false] 59)) (bel_refl (a := w))))).below.trans (hb1.mono (by omega)))
       have HG := Lib.hid (get_own w1 w.heap.size A c bs (some ⟨q, 0, none⟩) 2 2 (glyphPl (w.heap.size + 1 + 1) (w.heap.size + 1) false) hpl (HB0.out.keep HBel.out) HB0.out.row (by decide) (fun a ha => by rcases glyph_tos _ _ _ a ha with ⟨e1, e2⟩ | ⟨e1, e2⟩; (· rw [e1]; exact ⟨by omega, ⟨_, _, hB4, e2⟩, by intro e; injection e with e; simp only at e; omega⟩); (· rw [e1]; exact ⟨by omega, ⟨_, _, hB5, e2⟩, by intro e; injection e with e; simp only at e; omega⟩)) (glyph_sk _ _ _))
       have HB2 := Lib.hid hB2
       have HB4 := Lib.hid hB4
       have HB5 := Lib.hid hB5
       clear hpl hb1 hB2 hB4 hB5)
    | (go_at_call 64; (with_reducible refine HG.out.mono ?_); rw [getOk_glyph, HF.out]; rintro e w2 ⟨ws, rfl, hws, hb2, hgets⟩
       have hge : ∀ x ∈ ws, x.1.1 = w.heap.size + 1 ∨ x.1.1 = w.heap.size + 1 + 1 := fun x hx => (glyph_tos _ _ _ _ (hws x hx)).imp (·.1) (·.1)
       have HB := Lib.hid (HBel.out.trans ((below_applyW (B := w.heap.size) (w := w1) (ws := ws) (fun x hx => by have := hge x hx; omega)).trans (hb2.mono (by omega))))
       have hBr := (blk_applyW HB2.out (ws := ws) (fun x hx e => by have := hge x hx; omega)).below hb2 HB2.out.lt
       have k0 := hBr.cell 0
       have k1 := hBr.cell 1
       have fk0 := hBr.frozen 0
       have fk1 := hBr.frozen 1
       simp at k0 k1
       have HBr := Lib.hid hBr
       obtain rfl := hgets _ HGE.out
       have hBh := (glyph_n HB4.out (by omega) bs).below hb2 (by omega)
       have h0 := hBh.cell 0
       have h1 := hBh.cell 1
       have fh0 := hBh.frozen 0
       have fh1 := hBh.frozen 1
       simp at h0 h1
       have HBh := Lib.hid hBh
       clear hBh
       have hBl := (glyph_v HB5.out (by omega) bs).below hb2 HB5.out.lt
       have l0 := hBl.cell 0
       simp at l0
       rw [HV.out] at l0
       have HBl := Lib.hid hBl
       clear hBl
       have hs2 : w.heap.size + 1 + 1 < w2.heap.size := HBl.out.lt
       clear hge hBr hws hb2 hgets))
  refine bodyPost_ret (v := .tuple #[.agg #[.int .i64 0, .bool false], .int .i64 51]) (by simp [results, Try.results30, go_sem, *]) rfl ⟨rfl, ?_⟩
  repeat (first | with_reducible exact HB5b.out | (with_reducible refine Below.setCell ?_ (by simp only; omega) _))

set_option maxHeartbeats 4000000 in
theorem Glyphs_true (w : World) (A : Option Addr) (bs : List UInt8) (c : Nat) (h : Bs w A bs c) (hl : 6 ≤ bs.length) (hl2 : 32 ≤ bs.length) (hv : wd4 bs 0 = 65536) (hm : allF 1 65535 [wd bs 4] = true) :
    Calls Try.prog 30 #[.slice A bs.length c] w fun e w' => e = .returned (.tuple #[.agg #[.int .i64 (wd bs 4), .bool true], .int .i64 0]) ∧ Below w.heap.size w w' := by
  have HB0 := Lib.hid h
  have HF := Lib.hid (show decide ((if false = true then 32 else 6) ≤ bs.length) = true by simpa using hl)
  have HGE := Lib.hid (gets_glyph bs (w.heap.size + 1 + 1) (w.heap.size + 1) false (by simpa using hl))
  have HV := Lib.hid (show wd4 bs 0 = 65536 from hv)
  have HF3 : Hid (getOk bs (glyphPl (w.heap.size + 1 + 1) (w.heap.size + 1) true) = true) := Lib.hid (by rw [getOk_glyph]; simpa using hl2)
  have HGE3 := Lib.hid (gets_glyph bs (w.heap.size + 1 + 1) (w.heap.size + 1) true (by simpa using hl2))
  have HM := Lib.hid hm
  clear h hl hv hm hl2
  go_enter Try.func30, Try.ntmps30
  go_wp2_with (first
    | (go_at_call 64; (with_reducible refine HG3.out.mono ?_); rw [HF3.out]; rintro e w4 ⟨ws, rfl, hws, hb4, hgets⟩
       have hge : ∀ x ∈ ws, x.1.1 = w.heap.size + 1 ∨ x.1.1 = w.heap.size + 1 + 1 := fun x hx => (glyph_tos _ _ _ _ (hws x hx)).imp (·.1) (·.1)
       have HB5b := Lib.hid (HBel3.out.trans ((below_applyW (B := w.heap.size) (w := w3) (ws := ws) (fun x hx => by have := hge x hx; omega)).trans (hb4.mono (by omega))))
       have hBr := (blk_applyW HB2'.out (ws := ws) (fun x hx e => by have := hge x hx; omega)).below hb4 HB2'.out.lt
       have k0 := hBr.cell 0
       have k1 := hBr.cell 1
       have fk0 := hBr.frozen 0
       have fk1 := hBr.frozen 1
       simp at k0 k1
       have HBr2 := Lib.hid hBr
       obtain rfl := hgets _ HGE3.out
       have hBh := (glyph_n HB4'.out (by omega) bs).below hb4 (by omega)
       have h0 := hBh.cell 0
       have h1 := hBh.cell 1
       have fh0 := hBh.frozen 0
       have fh1 := hBh.frozen 1
       simp at h0 h1
       have HBh2 := Lib.hid hBh
       clear hBh
       clear hge hBr hws hb4 hgets)
    | (go_at_call 70; (with_reducible refine (glyphPlaces_t _ _ _).mono ?_); rintro e w3 ⟨A3, c3, rfl, hrw, hpl, hb3⟩
       have HBel3 := Lib.hid (HB.out.trans (hb3.mono HB.out.size))
       have hB2 := HBr.out.keepB hb3
       have hB4 := HBh.out.keepB hb3
       have hB5 := HBl.out.keepB hb3
       have hs3 := hb3.size
       have HG3 := Lib.hid (get_own w3 w.heap.size A c bs A3 3 c3 (glyphPl (w.heap.size + 1 + 1) (w.heap.size + 1) true) hpl (HB0.out.keep HBel3.out) HB0.out.row (by decide) (fun a ha => by rcases glyph_tos _ _ _ a ha with ⟨e1, e2⟩ | ⟨e1, e2⟩; (· rw [e1]; exact ⟨by omega, ⟨_, _, hB4, e2⟩, by intro e; have := hrw _ e; omega⟩); (· rw [e1]; exact ⟨by omega, ⟨_, _, hB5, e2⟩, by intro e; have := hrw _ e; omega⟩)) (glyph_sk _ _ _))
       have HB2' := Lib.hid hB2
       have HB4' := Lib.hid hB4
       have HB5' := Lib.hid hB5
       clear hpl hb3 hB2 hB4 hB5 hrw k0 k1 fk0 fk1 h0 h1 fh0 fh1 l0)
    | (go_at_call 70; (with_reducible refine (glyphPlaces_f _ _ _).mono ?_); rintro e w1 ⟨q, hq, rfl, hpl, hb1⟩
       have hs1 := hb1.size
       simp only [World.size_alloc] at hq hs1 hb1
       have hB2 := (((Blk.new w 59 [.int .i64 0, .bool false]).alloc (.cells #[.int .i64 0, .bool false] 59)).alloc (.cells #[.int .i64 0] 3)).below hb1 (by omega)
       have hB4 := ((Blk.new (w.alloc (.cells #[.int .i64 0, .bool false] 59)) 59 [.int .i64 0, .bool false]).alloc (.cells #[.int .i64 0] 3)).below hb1 (by simp)
       have hB5 := (Blk.new ((w.alloc (.cells #[.int .i64 0, .bool false] 59)).alloc (.cells #[.int .i64 0, .bool false] 59)) 3 [.int .i64 0]).below hb1 (by simp)
       simp only [World.size_alloc] at hB4 hB5
       have HBel := Lib.hid ((bel_alloc (o := .cells #[.int .i64 0] 3) (bel_alloc (o := (.cells #[.int .i64 0, .bool false] 59)) (bel_alloc (o := (.cells #[.int .i64 0, .bool false] 59)) (bel_refl (a := w))))).below.trans (hb1.mono (by omega)))
       have HG := Lib.hid (get_own w1 w.heap.size A c bs (some ⟨q, 0, none⟩) 2 2 (glyphPl (w.heap.size + 1 + 1) (w.heap.size + 1) false) hpl (HB0.out.keep HBel.out) HB0.out.row (by decide) (fun a ha => by rcases glyph_tos _ _ _ a ha with ⟨e1, e2⟩ | ⟨e1, e2⟩; (· rw [e1]; exact ⟨by omega, ⟨_, _, hB4, e2⟩, by intro e; injection e with e; simp only at e; omega⟩); (· rw [e1]; exact ⟨by omega, ⟨_, _, hB5, e2⟩, by intro e; injection e with e; simp only at e; omega⟩)) (glyph_sk _ _ _))
       have HB2 := Lib.hid hB2
       have HB4 := Lib.hid hB4
       have HB5 := Lib.hid hB5
       clear hpl hb1 hB2 hB4 hB5)
    | (go_at_call 64; (with_reducible refine HG.out.mono ?_); rw [getOk_glyph, HF.out]; rintro e w2 ⟨ws, rfl, hws, hb2, hgets⟩
       have hge : ∀ x ∈ ws, x.1.1 = w.heap.size + 1 ∨ x.1.1 = w.heap.size + 1 + 1 := fun x hx => (glyph_tos _ _ _ _ (hws x hx)).imp (·.1) (·.1)
       have HB := Lib.hid (HBel.out.trans ((below_applyW (B := w.heap.size) (w := w1) (ws := ws) (fun x hx => by have := hge x hx; omega)).trans (hb2.mono (by omega))))
       have hBr := (blk_applyW HB2.out (ws := ws) (fun x hx e => by have := hge x hx; omega)).below hb2 HB2.out.lt
       have k0 := hBr.cell 0
       have k1 := hBr.cell 1
       have fk0 := hBr.frozen 0
       have fk1 := hBr.frozen 1
       simp at k0 k1
       have HBr := Lib.hid hBr
       obtain rfl := hgets _ HGE.out
       have hBh := (glyph_n HB4.out (by omega) bs).below hb2 (by omega)
       have h0 := hBh.cell 0
       have h1 := hBh.cell 1
       have fh0 := hBh.frozen 0
       have fh1 := hBh.frozen 1
       simp at h0 h1
       have HBh := Lib.hid hBh
       clear hBh
       have hBl := (glyph_v HB5.out (by omega) bs).below hb2 HB5.out.lt
       have l0 := hBl.cell 0
       simp at l0
       rw [HV.out] at l0
       have HBl := Lib.hid hBl
       clear hBl
       have hs2 : w.heap.size + 1 + 1 < w2.heap.size := HBl.out.lt
       clear hge hBr hws hb2 hgets)
    | (go_at_call 69; (with_reducible refine (mayGlyphs_any _ _ _).mono ?_); rw [HM.out]; rintro e w5 ⟨rfl, hb5⟩
       have hBr := (HBr2.out.far (p := ⟨w.heap.size + 1, 1, none⟩) (by simp only; omega) (.bool true)).keepB hb5
       have k'0 := hBr.cell 0
       have k'1 := hBr.cell 1
       have fk'0 := hBr.frozen 0
       have fk'1 := hBr.frozen 1
       simp at k'0 k'1
       have hBh := (HBh2.out.set 1 (.bool true)).keepB hb5
       have h'0 := hBh.cell 0
       have h'1 := hBh.cell 1
       have fh'0 := hBh.frozen 0
       have fh'1 := hBh.frozen 1
       simp at h'0 h'1
       clear hBh
       have HB6 := Lib.hid ((HB5b.out.setCell (p := ⟨w.heap.size + 1, 1, none⟩) (by simp only; omega) (.bool true)).trans (hb5.mono (by have := HB5b.out.size; simpa [World.setCell] using this)))
       clear hBr hb5 k0 k1 fk0 fk1 h0 h1 fh0 fh1))
  refine bodyPost_ret (v := .tuple #[.agg #[.int .i64 (wd bs 4), .bool true], .int .i64 0]) (by simp [results, Try.results30, go_sem, *]) rfl ⟨rfl, ?_⟩
  repeat (first | with_reducible exact HB6.out | (with_reducible refine Below.setCell ?_ (by simp only; omega) _))

set_option maxHeartbeats 4000000 in
theorem Glyphs_true_no (w : World) (A : Option Addr) (bs : List UInt8) (c : Nat) (h : Bs w A bs c) (hl : 6 ≤ bs.length) (hl2 : 32 ≤ bs.length) (hv : wd4 bs 0 = 65536) (hm : allF 1 65535 [wd bs 4] = false) :
    Calls Try.prog 30 #[.slice A bs.length c] w fun e w' => e = .returned (.tuple #[.agg #[.int .i64 0, .bool false], .int .i64 51]) ∧ Below w.heap.size w w' := by
  have HB0 := Lib.hid h
  have HF := Lib.hid (show decide ((if false = true then 32 else 6) ≤ bs.length) = true by simpa using hl)
  have HGE := Lib.hid (gets_glyph bs (w.heap.size + 1 + 1) (w.heap.size + 1) false (by simpa using hl))
  have HV := Lib.hid (show wd4 bs 0 = 65536 from hv)
  have HF3 : Hid (getOk bs (glyphPl (w.heap.size + 1 + 1) (w.heap.size + 1) true) = true) := Lib.hid (by rw [getOk_glyph]; simpa using hl2)
  have HGE3 := Lib.hid (gets_glyph bs (w.heap.size + 1 + 1) (w.heap.size + 1) true (by simpa using hl2))
  have HM := Lib.hid hm
  clear h hl hv hm hl2
  go_enter Try.func30, Try.ntmps30
  go_wp2_with (first
    | (go_at_call 64; (with_reducible refine HG3.out.mono ?_); rw [HF3.out]; rintro e w4 ⟨ws, rfl, hws, hb4, hgets⟩
       have hge : ∀ x ∈ ws, x.1.1 = w.heap.size + 1 ∨ x.1.1 = w.heap.size + 1 + 1 := fun x hx => (glyph_tos _ _ _ _ (hws x hx)).imp (·.1) (·.1)
       have HB5b := Lib.hid (HBel3.out.trans ((below_applyW (B := w.heap.size) (w := w3) (ws := ws) (fun x hx => by have := hge x hx; omega)).trans (hb4.mono (by omega))))
       have hBr := (blk_applyW HB2'.out (ws := ws) (fun x hx e => by have := hge x hx; omega)).below hb4 HB2'.out.lt
       have k0 := hBr.cell 0
       have k1 := hBr.cell 1
       have fk0 := hBr.frozen 0
       have fk1 := hBr.frozen 1
       simp at k0 k1
       have HBr2 := Lib.hid hBr
       obtain rfl := hgets _ HGE3.out
       have hBh := (glyph_n HB4'.out (by omega) bs).below hb4 (by omega)
       have h0 := hBh.cell 0
       have h1 := hBh.cell 1
       have fh0 := hBh.frozen 0
       have fh1 := hBh.frozen 1
       simp at h0 h1
       have HBh2 := Lib.hid hBh
       clear hBh
       clear hge hBr hws hb4 hgets)
    | (go_at_call 70; (with_reducible refine (glyphPlaces_t _ _ _).mono ?_); rintro e w3 ⟨A3, c3, rfl, hrw, hpl, hb3⟩
       have HBel3 := Lib.hid (HB.out.trans (hb3.mono HB.out.size))
       have hB2 := HBr.out.keepB hb3
       have hB4 := HBh.out.keepB hb3
       have hB5 := HBl.out.keepB hb3
       have hs3 := hb3.size
       have HG3 := Lib.hid (get_own w3 w.heap.size A c bs A3 3 c3 (glyphPl (w.heap.size + 1 + 1) (w.heap.size + 1) true) hpl (HB0.out.keep HBel3.out) HB0.out.row (by decide) (fun a ha => by rcases glyph_tos _ _ _ a ha with ⟨e1, e2⟩ | ⟨e1, e2⟩; (· rw [e1]; exact ⟨by omega, ⟨_, _, hB4, e2⟩, by intro e; have := hrw _ e; omega⟩); (· rw [e1]; exact ⟨by omega, ⟨_, _, hB5, e2⟩, by intro e; have := hrw _ e; omega⟩)) (glyph_sk _ _ _))
       have HB2' := Lib.hid hB2
       have HB4' := Lib.hid hB4
       have HB5' := Lib.hid hB5
       clear hpl hb3 hB2 hB4 hB5 hrw k0 k1 fk0 fk1 h0 h1 fh0 fh1 l0)
    | (go_at_call 70; (with_reducible refine (glyphPlaces_f _ _ _).mono ?_); rintro e w1 ⟨q, hq, rfl, hpl, hb1⟩
       have hs1 := hb1.size
       simp only [World.size_alloc] at hq hs1 hb1
       have hB2 := (((Blk.new w 59 [.int .i64 0, .bool false]).alloc (.cells #[.int .i64 0, .bool false] 59)).alloc (.cells #[.int .i64 0] 3)).below hb1 (by omega)
       have hB4 := ((Blk.new (w.alloc (.cells #[.int .i64 0, .bool false] 59)) 59 [.int .i64 0, .bool false]).alloc (.cells #[.int .i64 0] 3)).below hb1 (by simp)
       have hB5 := (Blk.new ((w.alloc (.cells #[.int .i64 0, .bool false] 59)).alloc (.cells #[.int .i64 0, .bool false] 59)) 3 [.int .i64 0]).below hb1 (by simp)
       simp only [World.size_alloc] at hB4 hB5
       have HBel := Lib.hid ((bel_alloc (o := .cells #[.int .i64 0] 3) (bel_alloc (o := (.cells #[.int .i64 0, .bool false] 59)) (bel_alloc (o := (.cells #[.int .i64 0, .bool false] 59)) (bel_refl (a := w))))).below.trans (hb1.mono (by omega)))
       have HG := Lib.hid (get_own w1 w.heap.size A c bs (some ⟨q, 0, none⟩) 2 2 (glyphPl (w.heap.size + 1 + 1) (w.heap.size + 1) false) hpl (HB0.out.keep HBel.out) HB0.out.row (by decide) (fun a ha => by rcases glyph_tos _ _ _ a ha with ⟨e1, e2⟩ | ⟨e1, e2⟩; (· rw [e1]; exact ⟨by omega, ⟨_, _, hB4, e2⟩, by intro e; injection e with e; simp only at e; omega⟩); (· rw [e1]; exact ⟨by omega, ⟨_, _, hB5, e2⟩, by intro e; injection e with e; simp only at e; omega⟩)) (glyph_sk _ _ _))
       have HB2 := Lib.hid hB2
       have HB4 := Lib.hid hB4
       have HB5 := Lib.hid hB5
       clear hpl hb1 hB2 hB4 hB5)
    | (go_at_call 64; (with_reducible refine HG.out.mono ?_); rw [getOk_glyph, HF.out]; rintro e w2 ⟨ws, rfl, hws, hb2, hgets⟩
       have hge : ∀ x ∈ ws, x.1.1 = w.heap.size + 1 ∨ x.1.1 = w.heap.size + 1 + 1 := fun x hx => (glyph_tos _ _ _ _ (hws x hx)).imp (·.1) (·.1)
       have HB := Lib.hid (HBel.out.trans ((below_applyW (B := w.heap.size) (w := w1) (ws := ws) (fun x hx => by have := hge x hx; omega)).trans (hb2.mono (by omega))))
       have hBr := (blk_applyW HB2.out (ws := ws) (fun x hx e => by have := hge x hx; omega)).below hb2 HB2.out.lt
       have k0 := hBr.cell 0
       have k1 := hBr.cell 1
       have fk0 := hBr.frozen 0
       have fk1 := hBr.frozen 1
       simp at k0 k1
       have HBr := Lib.hid hBr
       obtain rfl := hgets _ HGE.out
       have hBh := (glyph_n HB4.out (by omega) bs).below hb2 (by omega)
       have h0 := hBh.cell 0
       have h1 := hBh.cell 1
       have fh0 := hBh.frozen 0
       have fh1 := hBh.frozen 1
       simp at h0 h1
       have HBh := Lib.hid hBh
       clear hBh
       have hBl := (glyph_v HB5.out (by omega) bs).below hb2 HB5.out.lt
       have l0 := hBl.cell 0
       simp at l0
       rw [HV.out] at l0
       have HBl := Lib.hid hBl
       clear hBl
       have hs2 : w.heap.size + 1 + 1 < w2.heap.size := HBl.out.lt
       clear hge hBr hws hb2 hgets)
    | (go_at_call 69; (with_reducible refine (mayGlyphs_any _ _ _).mono ?_); rw [HM.out]; rintro e w5 ⟨rfl, hb5⟩
       have hBr := (HBr2.out.far (p := ⟨w.heap.size + 1, 1, none⟩) (by simp only; omega) (.bool true)).keepB hb5
       have k'0 := hBr.cell 0
       have k'1 := hBr.cell 1
       have fk'0 := hBr.frozen 0
       have fk'1 := hBr.frozen 1
       simp at k'0 k'1
       have HB6 := Lib.hid ((HB5b.out.setCell (p := ⟨w.heap.size + 1, 1, none⟩) (by simp only; omega) (.bool true)).trans (hb5.mono (by have := HB5b.out.size; simpa [World.setCell] using this)))
       clear hBr hb5 k0 k1 fk0 fk1 h0 h1 fh0 fh1))
  refine bodyPost_ret (v := .tuple #[.agg #[.int .i64 0, .bool false], .int .i64 51]) (by simp [results, Try.results30, go_sem, *]) rfl ⟨rfl, ?_⟩
  repeat (first | with_reducible exact HB6.out | (with_reducible refine Below.setCell ?_ (by simp only; omega) _))

end Go.Proofs.Ytbmflgcahbkdeaa
