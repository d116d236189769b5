/-
  heads: Head.
-/
import Derived.Test.YtbmflgcahbkdeaaHeadsK
namespace Go.Proofs.Ytbmflgcahbkdeaa
open Go.RowKit

def headR (bs : List UInt8) : HeadR := ⟨wd bs 18, wd bs 16, sgn16 (wd bs 36), sgn16 (wd bs 38), sgn16 (wd bs 40), sgn16 (wd bs 42), wd bs 44, wd bs 46, decide (wd bs 50 = 1)⟩
theorem head_blk {w : World} {g gl : Nat} {T : TypeId} {a b c d e f i j k : Value} (h : Blk w g T [a, b, c, d, e, f, i, j, k]) (hne : g ≠ gl) (bs : List UInt8) :
    Blk (applyW w (headWs g gl bs)) g T [.int .i64 (wd bs 18), .int .i64 (wd bs 16), .int .i64 (sgn16 (wd bs 36)), .int .i64 (sgn16 (wd bs 38)), .int .i64 (sgn16 (wd bs 40)), .int .i64 (sgn16 (wd bs 42)), .int .i64 (wd bs 44), .int .i64 (wd bs 46), k] :=
  Blk.to ((((((((((h.set 1 _).set 0 _).set 2 _).set 3 _).set 4 _).set 5 _).set 6 _).set 7 _).far hne _)) rfl
theorem long_blk {w : World} {g gl : Nat} {T : TypeId} {a : Value} (h : Blk w gl T [a]) (hne : gl ≠ g) (bs : List UInt8) : Blk (applyW w (headWs g gl bs)) gl T [.int .i64 (wd bs 50)] :=
  Blk.to (((((((((h.far hne _).far hne _).far hne _).far hne _).far hne _).far hne _).far hne _).far hne _).set 0 _) rfl
theorem head_tos (g gl : Nat) : ∀ a ∈ tos (headPl g gl), (a.1 = g ∧ a.2 < 9) ∨ (a.1 = gl ∧ a.2 < 1) := by
  intro a ha
  simp [tos, headPl] at ha
  rcases ha with rfl | rfl | rfl | rfl | rfl | rfl | rfl | rfl | rfl <;> simp
theorem head_sk (g gl : Nat) : ∀ p ∈ headPl g gl, p.skip ≤ 1000 := by
  intro p hp
  simp only [headPl, List.mem_cons, List.not_mem_nil, or_false] at hp
  rcases hp with rfl | rfl | rfl | rfl | rfl | rfl | rfl | rfl | rfl | rfl | rfl | rfl | rfl | rfl | rfl | rfl | rfl <;> simp

set_option maxHeartbeats 4000000 in
theorem Head_no (w : World) (A : Option Addr) (bs : List UInt8) (c : Nat) (h : Bs w A bs c) (hf : headOk bs = false) :
    Calls Try.prog 26 #[.slice A bs.length c] w fun e w' => e = .returned (.tuple #[.agg #[.int .i64 0, .int .i64 0, .int .i64 0, .int .i64 0, .int .i64 0, .int .i64 0, .int .i64 0, .int .i64 0, .bool false], .int .i64 50]) ∧ Below w.heap.size w w' := by
  have HB0 := Lib.hid h
  have HF := Lib.hid hf
  clear h hf
  go_enter Try.func26, Try.ntmps26
  go_wp2_with (first
    | (go_at_call 61; (with_reducible refine (headPlaces_any _ _ _).mono ?_); rintro e w1 ⟨q, hq, rfl, hpl, hb1⟩
       have hs1 := hb1.size
       simp only [World.size_alloc] at hq hs1 hb1
       have hB2 := (((Blk.new w 48 [.int .i64 0, .int .i64 0, .int .i64 0, .int .i64 0, .int .i64 0, .int .i64 0, .int .i64 0, .int .i64 0, .bool false]).alloc (.cells #[.int .i64 0, .int .i64 0, .int .i64 0, .int .i64 0, .int .i64 0, .int .i64 0, .int .i64 0, .int .i64 0, .bool false] 48)).alloc (.cells #[.int .i64 0] 3)).below hb1 (by omega)
       have hB4 := ((Blk.new (w.alloc (.cells #[.int .i64 0, .int .i64 0, .int .i64 0, .int .i64 0, .int .i64 0, .int .i64 0, .int .i64 0, .int .i64 0, .bool false] 48)) 48 [.int .i64 0, .int .i64 0, .int .i64 0, .int .i64 0, .int .i64 0, .int .i64 0, .int .i64 0, .int .i64 0, .bool false]).alloc (.cells #[.int .i64 0] 3)).below hb1 (by simp)
       rw [World.size_alloc] at hB4
       have hB5 := (Blk.new ((w.alloc (.cells #[.int .i64 0, .int .i64 0, .int .i64 0, .int .i64 0, .int .i64 0, .int .i64 0, .int .i64 0, .int .i64 0, .bool false] 48)).alloc (.cells #[.int .i64 0, .int .i64 0, .int .i64 0, .int .i64 0, .int .i64 0, .int .i64 0, .int .i64 0, .int .i64 0, .bool false] 48)) 3 [.int .i64 0]).below hb1 (by simp)
       simp only [World.size_alloc] at hB5
       have HBel := Lib.hid ((bel_alloc (o := .cells #[.int .i64 0] 3) (bel_alloc (o := (.cells #[.int .i64 0, .int .i64 0, .int .i64 0, .int .i64 0, .int .i64 0, .int .i64 0, .int .i64 0, .int .i64 0, .bool false] 48)) (bel_alloc (o := (.cells #[.int .i64 0, .int .i64 0, .int .i64 0, .int .i64 0, .int .i64 0, .int .i64 0, .int .i64 0, .int .i64 0, .bool false] 48)) (bel_refl (a := w))))).below.trans (hb1.mono (by omega)))
       have HG := Lib.hid (get_own w1 w.heap.size A c bs (some ⟨q, 0, none⟩) 17 17 (headPl (w.heap.size + 1) (w.heap.size + 1 + 1)) hpl (HB0.out.keep HBel.out) HB0.out.row (by decide) (fun a ha => by rcases head_tos _ _ a ha with ⟨e1, e2⟩ | ⟨e1, e2⟩; (· rw [e1]; exact ⟨by omega, ⟨_, _, hB4, e2⟩, by intro e; injection e with e; simp only at e; omega⟩); (· rw [e1]; exact ⟨by omega, ⟨_, _, hB5, e2⟩, by intro e; injection e with e; simp only at e; omega⟩)) (head_sk _ _))
       have HB2 := Lib.hid hB2
       have HB4 := Lib.hid hB4
       have HB5 := Lib.hid hB5
       clear hpl hb1 hB2 hB4 hB5)
    | (go_at_call 64; refine HG.out.mono ?_; rw [getOk_head, HF.out]; rintro e w2 ⟨ws, rfl, hws, hb2, hgets⟩
       have hge : ∀ x ∈ ws, x.1.1 = w.heap.size + 1 ∨ x.1.1 = w.heap.size + 1 + 1 := fun x hx => (head_tos _ _ _ (hws x hx)).imp (·.1) (·.1)
       have HB := Lib.hid (HBel.out.trans ((below_applyW (B := w.heap.size) (w := w1) (ws := ws) (fun x hx => by have := hge x hx; omega)).trans (hb2.mono (by omega))))
       have hBr := (blk_applyW HB2.out (ws := ws) (fun x hx e => by have := hge x hx; omega)).below hb2 HB2.out.lt
       have k0 := hBr.cell 0
       have k1 := hBr.cell 1
       have k2 := hBr.cell 2
       have k3 := hBr.cell 3
       have k4 := hBr.cell 4
       have k5 := hBr.cell 5
       have k6 := hBr.cell 6
       have k7 := hBr.cell 7
       have k8 := hBr.cell 8
       have fk0 := hBr.frozen 0
       have fk1 := hBr.frozen 1
       have fk2 := hBr.frozen 2
       have fk3 := hBr.frozen 3
       have fk4 := hBr.frozen 4
       have fk5 := hBr.frozen 5
       have fk6 := hBr.frozen 6
       have fk7 := hBr.frozen 7
       have fk8 := hBr.frozen 8
       simp at k0 k1 k2 k3 k4 k5 k6 k7 k8
       have HBr := Lib.hid hBr
       clear hge hBr hws hb2 hgets))
  refine bodyPost_ret (v := .tuple #[.agg #[.int .i64 0, .int .i64 0, .int .i64 0, .int .i64 0, .int .i64 0, .int .i64 0, .int .i64 0, .int .i64 0, .bool false], .int .i64 50]) (by simp [results, Try.results26, go_sem, *]) rfl ⟨rfl, ?_⟩
  repeat (first | with_reducible exact HB.out | (with_reducible refine Below.setCell ?_ (by simp only; omega) _))

set_option maxHeartbeats 4000000 in
theorem Head_long (w : World) (A : Option Addr) (bs : List UInt8) (c : Nat) (h : Bs w A bs c) (hf : headOk bs = true) (hlg : 2 ≤ wd bs 50) :
    Calls Try.prog 26 #[.slice A bs.length c] w fun e w' => e = .returned (.tuple #[.agg #[.int .i64 0, .int .i64 0, .int .i64 0, .int .i64 0, .int .i64 0, .int .i64 0, .int .i64 0, .int .i64 0, .bool false], .int .i64 50]) ∧ Below w.heap.size w w' := by
  have HB0 := Lib.hid h
  have HF := Lib.hid hf
  clear h hf
  go_enter Try.func26, Try.ntmps26
  go_wp2_with (first
    | (go_at_call 61; (with_reducible refine (headPlaces_any _ _ _).mono ?_); rintro e w1 ⟨q, hq, rfl, hpl, hb1⟩
       have hs1 := hb1.size
       simp only [World.size_alloc] at hq hs1 hb1
       have hB2 := (((Blk.new w 48 [.int .i64 0, .int .i64 0, .int .i64 0, .int .i64 0, .int .i64 0, .int .i64 0, .int .i64 0, .int .i64 0, .bool false]).alloc (.cells #[.int .i64 0, .int .i64 0, .int .i64 0, .int .i64 0, .int .i64 0, .int .i64 0, .int .i64 0, .int .i64 0, .bool false] 48)).alloc (.cells #[.int .i64 0] 3)).below hb1 (by omega)
       have hB4 := ((Blk.new (w.alloc (.cells #[.int .i64 0, .int .i64 0, .int .i64 0, .int .i64 0, .int .i64 0, .int .i64 0, .int .i64 0, .int .i64 0, .bool false] 48)) 48 [.int .i64 0, .int .i64 0, .int .i64 0, .int .i64 0, .int .i64 0, .int .i64 0, .int .i64 0, .int .i64 0, .bool false]).alloc (.cells #[.int .i64 0] 3)).below hb1 (by simp)
       rw [World.size_alloc] at hB4
       have hB5 := (Blk.new ((w.alloc (.cells #[.int .i64 0, .int .i64 0, .int .i64 0, .int .i64 0, .int .i64 0, .int .i64 0, .int .i64 0, .int .i64 0, .bool false] 48)).alloc (.cells #[.int .i64 0, .int .i64 0, .int .i64 0, .int .i64 0, .int .i64 0, .int .i64 0, .int .i64 0, .int .i64 0, .bool false] 48)) 3 [.int .i64 0]).below hb1 (by simp)
       simp only [World.size_alloc] at hB5
       have HBel := Lib.hid ((bel_alloc (o := .cells #[.int .i64 0] 3) (bel_alloc (o := (.cells #[.int .i64 0, .int .i64 0, .int .i64 0, .int .i64 0, .int .i64 0, .int .i64 0, .int .i64 0, .int .i64 0, .bool false] 48)) (bel_alloc (o := (.cells #[.int .i64 0, .int .i64 0, .int .i64 0, .int .i64 0, .int .i64 0, .int .i64 0, .int .i64 0, .int .i64 0, .bool false] 48)) (bel_refl (a := w))))).below.trans (hb1.mono (by omega)))
       have HG := Lib.hid (get_own w1 w.heap.size A c bs (some ⟨q, 0, none⟩) 17 17 (headPl (w.heap.size + 1) (w.heap.size + 1 + 1)) hpl (HB0.out.keep HBel.out) HB0.out.row (by decide) (fun a ha => by rcases head_tos _ _ a ha with ⟨e1, e2⟩ | ⟨e1, e2⟩; (· rw [e1]; exact ⟨by omega, ⟨_, _, hB4, e2⟩, by intro e; injection e with e; simp only at e; omega⟩); (· rw [e1]; exact ⟨by omega, ⟨_, _, hB5, e2⟩, by intro e; injection e with e; simp only at e; omega⟩)) (head_sk _ _))
       have HB2 := Lib.hid hB2
       have HB4 := Lib.hid hB4
       have HB5 := Lib.hid hB5
       clear hpl hb1 hB2 hB4 hB5)
    | (go_at_call 64; refine HG.out.mono ?_; rw [getOk_head, HF.out]; rintro e w2 ⟨ws, rfl, hws, hb2, hgets⟩
       have hge : ∀ x ∈ ws, x.1.1 = w.heap.size + 1 ∨ x.1.1 = w.heap.size + 1 + 1 := fun x hx => (head_tos _ _ _ (hws x hx)).imp (·.1) (·.1)
       have HB := Lib.hid (HBel.out.trans ((below_applyW (B := w.heap.size) (w := w1) (ws := ws) (fun x hx => by have := hge x hx; omega)).trans (hb2.mono (by omega))))
       have hBr := (blk_applyW HB2.out (ws := ws) (fun x hx e => by have := hge x hx; omega)).below hb2 HB2.out.lt
       have k0 := hBr.cell 0
       have k1 := hBr.cell 1
       have k2 := hBr.cell 2
       have k3 := hBr.cell 3
       have k4 := hBr.cell 4
       have k5 := hBr.cell 5
       have k6 := hBr.cell 6
       have k7 := hBr.cell 7
       have k8 := hBr.cell 8
       have fk0 := hBr.frozen 0
       have fk1 := hBr.frozen 1
       have fk2 := hBr.frozen 2
       have fk3 := hBr.frozen 3
       have fk4 := hBr.frozen 4
       have fk5 := hBr.frozen 5
       have fk6 := hBr.frozen 6
       have fk7 := hBr.frozen 7
       have fk8 := hBr.frozen 8
       simp at k0 k1 k2 k3 k4 k5 k6 k7 k8
       have HBr := Lib.hid hBr
       obtain rfl := hgets _ (gets_headOk HF.out)
       have hBh := (head_blk HB4.out (by omega) bs).below hb2 (by omega)
       have h0 := hBh.cell 0
       have h1 := hBh.cell 1
       have h2 := hBh.cell 2
       have h3 := hBh.cell 3
       have h4 := hBh.cell 4
       have h5 := hBh.cell 5
       have h6 := hBh.cell 6
       have h7 := hBh.cell 7
       have h8 := hBh.cell 8
       have fh0 := hBh.frozen 0
       have fh1 := hBh.frozen 1
       have fh2 := hBh.frozen 2
       have fh3 := hBh.frozen 3
       have fh4 := hBh.frozen 4
       have fh5 := hBh.frozen 5
       have fh6 := hBh.frozen 6
       have fh7 := hBh.frozen 7
       have fh8 := hBh.frozen 8
       simp at h0 h1 h2 h3 h4 h5 h6 h7 h8
       have HBh := Lib.hid hBh
       clear hBh
       have hBl := (long_blk HB5.out (by omega) bs).below hb2 HB5.out.lt
       have l0 := hBl.cell 0
       simp at l0
       have HBl := Lib.hid hBl
       clear hBl
       clear hge hBr hws hb2 hgets))
  refine bodyPost_ret (v := .tuple #[.agg #[.int .i64 0, .int .i64 0, .int .i64 0, .int .i64 0, .int .i64 0, .int .i64 0, .int .i64 0, .int .i64 0, .bool false], .int .i64 50]) (by simp [results, Try.results26, go_sem, *]) rfl ⟨rfl, ?_⟩
  repeat (first | with_reducible exact HB.out | (with_reducible refine Below.setCell ?_ (by simp only; omega) _))

set_option maxHeartbeats 4000000 in
theorem Head_bad (w : World) (A : Option Addr) (bs : List UInt8) (c : Nat) (h : Bs w A bs c) (hf : headOk bs = true) (hlg : wd bs 50 ≤ 1) (hm : hMay (headR bs) = false) :
    Calls Try.prog 26 #[.slice A bs.length c] w fun e w' => e = .returned (.tuple #[.agg #[.int .i64 0, .int .i64 0, .int .i64 0, .int .i64 0, .int .i64 0, .int .i64 0, .int .i64 0, .int .i64 0, .bool false], .int .i64 50]) ∧ Below w.heap.size w w' := by
  have HB0 := Lib.hid h
  have HF := Lib.hid hf
  have HM := Lib.hid (show mayHeadB (headR bs).u (headR bs).fl (headR bs).x0 (headR bs).y0 (headR bs).x1 (headR bs).y1 (headR bs).st (headR bs).le = false from hm)
  simp only [headR] at HM
  clear h hf hm
  go_enter Try.func26, Try.ntmps26
  go_wp2_with (first
    | (go_at_call 61; (with_reducible refine (headPlaces_any _ _ _).mono ?_); rintro e w1 ⟨q, hq, rfl, hpl, hb1⟩
       have hs1 := hb1.size
       simp only [World.size_alloc] at hq hs1 hb1
       have hB2 := (((Blk.new w 48 [.int .i64 0, .int .i64 0, .int .i64 0, .int .i64 0, .int .i64 0, .int .i64 0, .int .i64 0, .int .i64 0, .bool false]).alloc (.cells #[.int .i64 0, .int .i64 0, .int .i64 0, .int .i64 0, .int .i64 0, .int .i64 0, .int .i64 0, .int .i64 0, .bool false] 48)).alloc (.cells #[.int .i64 0] 3)).below hb1 (by omega)
       have hB4 := ((Blk.new (w.alloc (.cells #[.int .i64 0, .int .i64 0, .int .i64 0, .int .i64 0, .int .i64 0, .int .i64 0, .int .i64 0, .int .i64 0, .bool false] 48)) 48 [.int .i64 0, .int .i64 0, .int .i64 0, .int .i64 0, .int .i64 0, .int .i64 0, .int .i64 0, .int .i64 0, .bool false]).alloc (.cells #[.int .i64 0] 3)).below hb1 (by simp)
       rw [World.size_alloc] at hB4
       have hB5 := (Blk.new ((w.alloc (.cells #[.int .i64 0, .int .i64 0, .int .i64 0, .int .i64 0, .int .i64 0, .int .i64 0, .int .i64 0, .int .i64 0, .bool false] 48)).alloc (.cells #[.int .i64 0, .int .i64 0, .int .i64 0, .int .i64 0, .int .i64 0, .int .i64 0, .int .i64 0, .int .i64 0, .bool false] 48)) 3 [.int .i64 0]).below hb1 (by simp)
       simp only [World.size_alloc] at hB5
       have HBel := Lib.hid ((bel_alloc (o := .cells #[.int .i64 0] 3) (bel_alloc (o := (.cells #[.int .i64 0, .int .i64 0, .int .i64 0, .int .i64 0, .int .i64 0, .int .i64 0, .int .i64 0, .int .i64 0, .bool false] 48)) (bel_alloc (o := (.cells #[.int .i64 0, .int .i64 0, .int .i64 0, .int .i64 0, .int .i64 0, .int .i64 0, .int .i64 0, .int .i64 0, .bool false] 48)) (bel_refl (a := w))))).below.trans (hb1.mono (by omega)))
       have HG := Lib.hid (get_own w1 w.heap.size A c bs (some ⟨q, 0, none⟩) 17 17 (headPl (w.heap.size + 1) (w.heap.size + 1 + 1)) hpl (HB0.out.keep HBel.out) HB0.out.row (by decide) (fun a ha => by rcases head_tos _ _ a ha with ⟨e1, e2⟩ | ⟨e1, e2⟩; (· rw [e1]; exact ⟨by omega, ⟨_, _, hB4, e2⟩, by intro e; injection e with e; simp only at e; omega⟩); (· rw [e1]; exact ⟨by omega, ⟨_, _, hB5, e2⟩, by intro e; injection e with e; simp only at e; omega⟩)) (head_sk _ _))
       have HB2 := Lib.hid hB2
       have HB4 := Lib.hid hB4
       have HB5 := Lib.hid hB5
       clear hpl hb1 hB2 hB4 hB5)
    | (go_at_call 64; refine HG.out.mono ?_; rw [getOk_head, HF.out]; rintro e w2 ⟨ws, rfl, hws, hb2, hgets⟩
       have hge : ∀ x ∈ ws, x.1.1 = w.heap.size + 1 ∨ x.1.1 = w.heap.size + 1 + 1 := fun x hx => (head_tos _ _ _ (hws x hx)).imp (·.1) (·.1)
       have HB := Lib.hid (HBel.out.trans ((below_applyW (B := w.heap.size) (w := w1) (ws := ws) (fun x hx => by have := hge x hx; omega)).trans (hb2.mono (by omega))))
       have hBr := (blk_applyW HB2.out (ws := ws) (fun x hx e => by have := hge x hx; omega)).below hb2 HB2.out.lt
       have k0 := hBr.cell 0
       have k1 := hBr.cell 1
       have k2 := hBr.cell 2
       have k3 := hBr.cell 3
       have k4 := hBr.cell 4
       have k5 := hBr.cell 5
       have k6 := hBr.cell 6
       have k7 := hBr.cell 7
       have k8 := hBr.cell 8
       have fk0 := hBr.frozen 0
       have fk1 := hBr.frozen 1
       have fk2 := hBr.frozen 2
       have fk3 := hBr.frozen 3
       have fk4 := hBr.frozen 4
       have fk5 := hBr.frozen 5
       have fk6 := hBr.frozen 6
       have fk7 := hBr.frozen 7
       have fk8 := hBr.frozen 8
       simp at k0 k1 k2 k3 k4 k5 k6 k7 k8
       have HBr := Lib.hid hBr
       obtain rfl := hgets _ (gets_headOk HF.out)
       have hBh := (head_blk HB4.out (by omega) bs).below hb2 (by omega)
       have h0 := hBh.cell 0
       have h1 := hBh.cell 1
       have h2 := hBh.cell 2
       have h3 := hBh.cell 3
       have h4 := hBh.cell 4
       have h5 := hBh.cell 5
       have h6 := hBh.cell 6
       have h7 := hBh.cell 7
       have h8 := hBh.cell 8
       have fh0 := hBh.frozen 0
       have fh1 := hBh.frozen 1
       have fh2 := hBh.frozen 2
       have fh3 := hBh.frozen 3
       have fh4 := hBh.frozen 4
       have fh5 := hBh.frozen 5
       have fh6 := hBh.frozen 6
       have fh7 := hBh.frozen 7
       have fh8 := hBh.frozen 8
       simp at h0 h1 h2 h3 h4 h5 h6 h7 h8
       have HBh := Lib.hid hBh
       clear hBh
       have hBl := (long_blk HB5.out (by omega) bs).below hb2 HB5.out.lt
       have l0 := hBl.cell 0
       simp at l0
       have HBl := Lib.hid hBl
       clear hBl
       clear hge hBr hws hb2 hgets)
    | (go_at_call 59; (with_reducible refine (mayHead_any _ _ _ _ _ _ _ _ _ _).mono ?_); rw [HM.out]; rintro e w3 ⟨rfl, hb3⟩
       have hBr := HBr.out.keepB hb3
       have k'0 := hBr.cell 0
       have k'1 := hBr.cell 1
       have k'2 := hBr.cell 2
       have k'3 := hBr.cell 3
       have k'4 := hBr.cell 4
       have k'5 := hBr.cell 5
       have k'6 := hBr.cell 6
       have k'7 := hBr.cell 7
       have k'8 := hBr.cell 8
       have fk'0 := hBr.frozen 0
       have fk'1 := hBr.frozen 1
       have fk'2 := hBr.frozen 2
       have fk'3 := hBr.frozen 3
       have fk'4 := hBr.frozen 4
       have fk'5 := hBr.frozen 5
       have fk'6 := hBr.frozen 6
       have fk'7 := hBr.frozen 7
       have fk'8 := hBr.frozen 8
       simp at k'0 k'1 k'2 k'3 k'4 k'5 k'6 k'7 k'8
       have HB3 := Lib.hid (HB.out.trans (hb3.mono HB.out.size))
       clear hBr hb3 k0 fk0 h0 fh0 k1 fk1 h1 fh1 k2 fk2 h2 fh2 k3 fk3 h3 fh3 k4 fk4 h4 fh4 k5 fk5 h5 fh5 k6 fk6 h6 fh6 k7 fk7 h7 fh7 k8 fk8 h8 fh8 l0))
  refine bodyPost_ret (v := .tuple #[.agg #[.int .i64 0, .int .i64 0, .int .i64 0, .int .i64 0, .int .i64 0, .int .i64 0, .int .i64 0, .int .i64 0, .bool false], .int .i64 50]) (by simp [results, Try.results26, go_sem, *]) rfl ⟨rfl, ?_⟩
  repeat (first | with_reducible exact HB3.out | (with_reducible refine Below.setCell ?_ (by simp only; omega) _))

set_option maxHeartbeats 4000000 in
theorem Head_ok1 (w : World) (A : Option Addr) (bs : List UInt8) (c : Nat) (h : Bs w A bs c) (hf : headOk bs = true) (hlg : wd bs 50 = 1) (hm : hMay (headR bs) = true) :
    Calls Try.prog 26 #[.slice A bs.length c] w fun e w' => e = .returned (.tuple #[.agg (hCells (headR bs)).toArray, .int .i64 0]) ∧ Below w.heap.size w w' := by
  have HB0 := Lib.hid h
  have HF := Lib.hid hf
  have HM := Lib.hid (show mayHeadB (headR bs).u (headR bs).fl (headR bs).x0 (headR bs).y0 (headR bs).x1 (headR bs).y1 (headR bs).st (headR bs).le = true from hm)
  simp only [headR] at HM
  clear h hf hm
  go_enter Try.func26, Try.ntmps26
  go_wp2_with (first
    | (go_at_call 61; (with_reducible refine (headPlaces_any _ _ _).mono ?_); rintro e w1 ⟨q, hq, rfl, hpl, hb1⟩
       have hs1 := hb1.size
       simp only [World.size_alloc] at hq hs1 hb1
       have hB2 := (((Blk.new w 48 [.int .i64 0, .int .i64 0, .int .i64 0, .int .i64 0, .int .i64 0, .int .i64 0, .int .i64 0, .int .i64 0, .bool false]).alloc (.cells #[.int .i64 0, .int .i64 0, .int .i64 0, .int .i64 0, .int .i64 0, .int .i64 0, .int .i64 0, .int .i64 0, .bool false] 48)).alloc (.cells #[.int .i64 0] 3)).below hb1 (by omega)
       have hB4 := ((Blk.new (w.alloc (.cells #[.int .i64 0, .int .i64 0, .int .i64 0, .int .i64 0, .int .i64 0, .int .i64 0, .int .i64 0, .int .i64 0, .bool false] 48)) 48 [.int .i64 0, .int .i64 0, .int .i64 0, .int .i64 0, .int .i64 0, .int .i64 0, .int .i64 0, .int .i64 0, .bool false]).alloc (.cells #[.int .i64 0] 3)).below hb1 (by simp)
       rw [World.size_alloc] at hB4
       have hB5 := (Blk.new ((w.alloc (.cells #[.int .i64 0, .int .i64 0, .int .i64 0, .int .i64 0, .int .i64 0, .int .i64 0, .int .i64 0, .int .i64 0, .bool false] 48)).alloc (.cells #[.int .i64 0, .int .i64 0, .int .i64 0, .int .i64 0, .int .i64 0, .int .i64 0, .int .i64 0, .int .i64 0, .bool false] 48)) 3 [.int .i64 0]).below hb1 (by simp)
       simp only [World.size_alloc] at hB5
       have HBel := Lib.hid ((bel_alloc (o := .cells #[.int .i64 0] 3) (bel_alloc (o := (.cells #[.int .i64 0, .int .i64 0, .int .i64 0, .int .i64 0, .int .i64 0, .int .i64 0, .int .i64 0, .int .i64 0, .bool false] 48)) (bel_alloc (o := (.cells #[.int .i64 0, .int .i64 0, .int .i64 0, .int .i64 0, .int .i64 0, .int .i64 0, .int .i64 0, .int .i64 0, .bool false] 48)) (bel_refl (a := w))))).below.trans (hb1.mono (by omega)))
       have HG := Lib.hid (get_own w1 w.heap.size A c bs (some ⟨q, 0, none⟩) 17 17 (headPl (w.heap.size + 1) (w.heap.size + 1 + 1)) hpl (HB0.out.keep HBel.out) HB0.out.row (by decide) (fun a ha => by rcases head_tos _ _ a ha with ⟨e1, e2⟩ | ⟨e1, e2⟩; (· rw [e1]; exact ⟨by omega, ⟨_, _, hB4, e2⟩, by intro e; injection e with e; simp only at e; omega⟩); (· rw [e1]; exact ⟨by omega, ⟨_, _, hB5, e2⟩, by intro e; injection e with e; simp only at e; omega⟩)) (head_sk _ _))
       have HB2 := Lib.hid hB2
       have HB4 := Lib.hid hB4
       have HB5 := Lib.hid hB5
       clear hpl hb1 hB2 hB4 hB5)
    | (go_at_call 64; refine HG.out.mono ?_; rw [getOk_head, HF.out]; rintro e w2 ⟨ws, rfl, hws, hb2, hgets⟩
       have hge : ∀ x ∈ ws, x.1.1 = w.heap.size + 1 ∨ x.1.1 = w.heap.size + 1 + 1 := fun x hx => (head_tos _ _ _ (hws x hx)).imp (·.1) (·.1)
       have HB := Lib.hid (HBel.out.trans ((below_applyW (B := w.heap.size) (w := w1) (ws := ws) (fun x hx => by have := hge x hx; omega)).trans (hb2.mono (by omega))))
       have hBr := (blk_applyW HB2.out (ws := ws) (fun x hx e => by have := hge x hx; omega)).below hb2 HB2.out.lt
       have k0 := hBr.cell 0
       have k1 := hBr.cell 1
       have k2 := hBr.cell 2
       have k3 := hBr.cell 3
       have k4 := hBr.cell 4
       have k5 := hBr.cell 5
       have k6 := hBr.cell 6
       have k7 := hBr.cell 7
       have k8 := hBr.cell 8
       have fk0 := hBr.frozen 0
       have fk1 := hBr.frozen 1
       have fk2 := hBr.frozen 2
       have fk3 := hBr.frozen 3
       have fk4 := hBr.frozen 4
       have fk5 := hBr.frozen 5
       have fk6 := hBr.frozen 6
       have fk7 := hBr.frozen 7
       have fk8 := hBr.frozen 8
       simp at k0 k1 k2 k3 k4 k5 k6 k7 k8
       have HBr := Lib.hid hBr
       obtain rfl := hgets _ (gets_headOk HF.out)
       have hBh := (head_blk HB4.out (by omega) bs).below hb2 (by omega)
       have h0 := hBh.cell 0
       have h1 := hBh.cell 1
       have h2 := hBh.cell 2
       have h3 := hBh.cell 3
       have h4 := hBh.cell 4
       have h5 := hBh.cell 5
       have h6 := hBh.cell 6
       have h7 := hBh.cell 7
       have h8 := hBh.cell 8
       have fh0 := hBh.frozen 0
       have fh1 := hBh.frozen 1
       have fh2 := hBh.frozen 2
       have fh3 := hBh.frozen 3
       have fh4 := hBh.frozen 4
       have fh5 := hBh.frozen 5
       have fh6 := hBh.frozen 6
       have fh7 := hBh.frozen 7
       have fh8 := hBh.frozen 8
       simp at h0 h1 h2 h3 h4 h5 h6 h7 h8
       have HBh := Lib.hid hBh
       clear hBh
       have hBl := (long_blk HB5.out (by omega) bs).below hb2 HB5.out.lt
       have l0 := hBl.cell 0
       simp at l0
       have HBl := Lib.hid hBl
       clear hBl
       clear hge hBr hws hb2 hgets)
    | (go_at_call 59; (with_reducible refine (mayHead_any _ _ _ _ _ _ _ _ _ _).mono ?_); rw [HM.out]; rintro e w3 ⟨rfl, hb3⟩
       have hBr := HBr.out.keepB hb3
       have k'0 := hBr.cell 0
       have k'1 := hBr.cell 1
       have k'2 := hBr.cell 2
       have k'3 := hBr.cell 3
       have k'4 := hBr.cell 4
       have k'5 := hBr.cell 5
       have k'6 := hBr.cell 6
       have k'7 := hBr.cell 7
       have k'8 := hBr.cell 8
       have fk'0 := hBr.frozen 0
       have fk'1 := hBr.frozen 1
       have fk'2 := hBr.frozen 2
       have fk'3 := hBr.frozen 3
       have fk'4 := hBr.frozen 4
       have fk'5 := hBr.frozen 5
       have fk'6 := hBr.frozen 6
       have fk'7 := hBr.frozen 7
       have fk'8 := hBr.frozen 8
       simp at k'0 k'1 k'2 k'3 k'4 k'5 k'6 k'7 k'8
       have hBh := HBh.out.keepB hb3
       have h'0 := hBh.cell 0
       have h'1 := hBh.cell 1
       have h'2 := hBh.cell 2
       have h'3 := hBh.cell 3
       have h'4 := hBh.cell 4
       have h'5 := hBh.cell 5
       have h'6 := hBh.cell 6
       have h'7 := hBh.cell 7
       have h'8 := hBh.cell 8
       have fh'0 := hBh.frozen 0
       have fh'1 := hBh.frozen 1
       have fh'2 := hBh.frozen 2
       have fh'3 := hBh.frozen 3
       have fh'4 := hBh.frozen 4
       have fh'5 := hBh.frozen 5
       have fh'6 := hBh.frozen 6
       have fh'7 := hBh.frozen 7
       have fh'8 := hBh.frozen 8
       simp at h'0 h'1 h'2 h'3 h'4 h'5 h'6 h'7 h'8
       clear hBh
       have hBl := HBl.out.keepB hb3
       have l0' := hBl.cell 0
       simp at l0'
       clear hBl
       have HB3 := Lib.hid (HB.out.trans (hb3.mono HB.out.size))
       clear hBr hb3 k0 fk0 h0 fh0 k1 fk1 h1 fh1 k2 fk2 h2 fh2 k3 fk3 h3 fh3 k4 fk4 h4 fh4 k5 fk5 h5 fh5 k6 fk6 h6 fh6 k7 fk7 h7 fh7 k8 fk8 h8 fh8 l0))
  refine bodyPost_ret (v := .tuple #[.agg (hCells (headR bs)).toArray, .int .i64 0]) (by simp [results, Try.results26, go_sem, hCells, headR, *]) rfl ⟨rfl, ?_⟩
  repeat (first | with_reducible exact HB3.out | (with_reducible refine Below.setCell ?_ (by simp only; omega) _))

set_option maxHeartbeats 4000000 in
theorem Head_ok0 (w : World) (A : Option Addr) (bs : List UInt8) (c : Nat) (h : Bs w A bs c) (hf : headOk bs = true) (hlg : wd bs 50 = 0) (hm : hMay (headR bs) = true) :
    Calls Try.prog 26 #[.slice A bs.length c] w fun e w' => e = .returned (.tuple #[.agg (hCells (headR bs)).toArray, .int .i64 0]) ∧ Below w.heap.size w w' := by
  have HB0 := Lib.hid h
  have HF := Lib.hid hf
  have HM := Lib.hid (show mayHeadB (headR bs).u (headR bs).fl (headR bs).x0 (headR bs).y0 (headR bs).x1 (headR bs).y1 (headR bs).st (headR bs).le = true from hm)
  simp only [headR] at HM
  clear h hf hm
  go_enter Try.func26, Try.ntmps26
  go_wp2_with (first
    | (go_at_call 61; (with_reducible refine (headPlaces_any _ _ _).mono ?_); rintro e w1 ⟨q, hq, rfl, hpl, hb1⟩
       have hs1 := hb1.size
       simp only [World.size_alloc] at hq hs1 hb1
       have hB2 := (((Blk.new w 48 [.int .i64 0, .int .i64 0, .int .i64 0, .int .i64 0, .int .i64 0, .int .i64 0, .int .i64 0, .int .i64 0, .bool false]).alloc (.cells #[.int .i64 0, .int .i64 0, .int .i64 0, .int .i64 0, .int .i64 0, .int .i64 0, .int .i64 0, .int .i64 0, .bool false] 48)).alloc (.cells #[.int .i64 0] 3)).below hb1 (by omega)
       have hB4 := ((Blk.new (w.alloc (.cells #[.int .i64 0, .int .i64 0, .int .i64 0, .int .i64 0, .int .i64 0, .int .i64 0, .int .i64 0, .int .i64 0, .bool false] 48)) 48 [.int .i64 0, .int .i64 0, .int .i64 0, .int .i64 0, .int .i64 0, .int .i64 0, .int .i64 0, .int .i64 0, .bool false]).alloc (.cells #[.int .i64 0] 3)).below hb1 (by simp)
       rw [World.size_alloc] at hB4
       have hB5 := (Blk.new ((w.alloc (.cells #[.int .i64 0, .int .i64 0, .int .i64 0, .int .i64 0, .int .i64 0, .int .i64 0, .int .i64 0, .int .i64 0, .bool false] 48)).alloc (.cells #[.int .i64 0, .int .i64 0, .int .i64 0, .int .i64 0, .int .i64 0, .int .i64 0, .int .i64 0, .int .i64 0, .bool false] 48)) 3 [.int .i64 0]).below hb1 (by simp)
       simp only [World.size_alloc] at hB5
       have HBel := Lib.hid ((bel_alloc (o := .cells #[.int .i64 0] 3) (bel_alloc (o := (.cells #[.int .i64 0, .int .i64 0, .int .i64 0, .int .i64 0, .int .i64 0, .int .i64 0, .int .i64 0, .int .i64 0, .bool false] 48)) (bel_alloc (o := (.cells #[.int .i64 0, .int .i64 0, .int .i64 0, .int .i64 0, .int .i64 0, .int .i64 0, .int .i64 0, .int .i64 0, .bool false] 48)) (bel_refl (a := w))))).below.trans (hb1.mono (by omega)))
       have HG := Lib.hid (get_own w1 w.heap.size A c bs (some ⟨q, 0, none⟩) 17 17 (headPl (w.heap.size + 1) (w.heap.size + 1 + 1)) hpl (HB0.out.keep HBel.out) HB0.out.row (by decide) (fun a ha => by rcases head_tos _ _ a ha with ⟨e1, e2⟩ | ⟨e1, e2⟩; (· rw [e1]; exact ⟨by omega, ⟨_, _, hB4, e2⟩, by intro e; injection e with e; simp only at e; omega⟩); (· rw [e1]; exact ⟨by omega, ⟨_, _, hB5, e2⟩, by intro e; injection e with e; simp only at e; omega⟩)) (head_sk _ _))
       have HB2 := Lib.hid hB2
       have HB4 := Lib.hid hB4
       have HB5 := Lib.hid hB5
       clear hpl hb1 hB2 hB4 hB5)
    | (go_at_call 64; refine HG.out.mono ?_; rw [getOk_head, HF.out]; rintro e w2 ⟨ws, rfl, hws, hb2, hgets⟩
       have hge : ∀ x ∈ ws, x.1.1 = w.heap.size + 1 ∨ x.1.1 = w.heap.size + 1 + 1 := fun x hx => (head_tos _ _ _ (hws x hx)).imp (·.1) (·.1)
       have HB := Lib.hid (HBel.out.trans ((below_applyW (B := w.heap.size) (w := w1) (ws := ws) (fun x hx => by have := hge x hx; omega)).trans (hb2.mono (by omega))))
       have hBr := (blk_applyW HB2.out (ws := ws) (fun x hx e => by have := hge x hx; omega)).below hb2 HB2.out.lt
       have k0 := hBr.cell 0
       have k1 := hBr.cell 1
       have k2 := hBr.cell 2
       have k3 := hBr.cell 3
       have k4 := hBr.cell 4
       have k5 := hBr.cell 5
       have k6 := hBr.cell 6
       have k7 := hBr.cell 7
       have k8 := hBr.cell 8
       have fk0 := hBr.frozen 0
       have fk1 := hBr.frozen 1
       have fk2 := hBr.frozen 2
       have fk3 := hBr.frozen 3
       have fk4 := hBr.frozen 4
       have fk5 := hBr.frozen 5
       have fk6 := hBr.frozen 6
       have fk7 := hBr.frozen 7
       have fk8 := hBr.frozen 8
       simp at k0 k1 k2 k3 k4 k5 k6 k7 k8
       have HBr := Lib.hid hBr
       obtain rfl := hgets _ (gets_headOk HF.out)
       have hBh := (head_blk HB4.out (by omega) bs).below hb2 (by omega)
       have h0 := hBh.cell 0
       have h1 := hBh.cell 1
       have h2 := hBh.cell 2
       have h3 := hBh.cell 3
       have h4 := hBh.cell 4
       have h5 := hBh.cell 5
       have h6 := hBh.cell 6
       have h7 := hBh.cell 7
       have h8 := hBh.cell 8
       have fh0 := hBh.frozen 0
       have fh1 := hBh.frozen 1
       have fh2 := hBh.frozen 2
       have fh3 := hBh.frozen 3
       have fh4 := hBh.frozen 4
       have fh5 := hBh.frozen 5
       have fh6 := hBh.frozen 6
       have fh7 := hBh.frozen 7
       have fh8 := hBh.frozen 8
       simp at h0 h1 h2 h3 h4 h5 h6 h7 h8
       have HBh := Lib.hid hBh
       clear hBh
       have hBl := (long_blk HB5.out (by omega) bs).below hb2 HB5.out.lt
       have l0 := hBl.cell 0
       simp at l0
       have HBl := Lib.hid hBl
       clear hBl
       clear hge hBr hws hb2 hgets)
    | (go_at_call 59; (with_reducible refine (mayHead_any _ _ _ _ _ _ _ _ _ _).mono ?_); rw [HM.out]; rintro e w3 ⟨rfl, hb3⟩
       have hBr := HBr.out.keepB hb3
       have k'0 := hBr.cell 0
       have k'1 := hBr.cell 1
       have k'2 := hBr.cell 2
       have k'3 := hBr.cell 3
       have k'4 := hBr.cell 4
       have k'5 := hBr.cell 5
       have k'6 := hBr.cell 6
       have k'7 := hBr.cell 7
       have k'8 := hBr.cell 8
       have fk'0 := hBr.frozen 0
       have fk'1 := hBr.frozen 1
       have fk'2 := hBr.frozen 2
       have fk'3 := hBr.frozen 3
       have fk'4 := hBr.frozen 4
       have fk'5 := hBr.frozen 5
       have fk'6 := hBr.frozen 6
       have fk'7 := hBr.frozen 7
       have fk'8 := hBr.frozen 8
       simp at k'0 k'1 k'2 k'3 k'4 k'5 k'6 k'7 k'8
       have hBh := HBh.out.keepB hb3
       have h'0 := hBh.cell 0
       have h'1 := hBh.cell 1
       have h'2 := hBh.cell 2
       have h'3 := hBh.cell 3
       have h'4 := hBh.cell 4
       have h'5 := hBh.cell 5
       have h'6 := hBh.cell 6
       have h'7 := hBh.cell 7
       have h'8 := hBh.cell 8
       have fh'0 := hBh.frozen 0
       have fh'1 := hBh.frozen 1
       have fh'2 := hBh.frozen 2
       have fh'3 := hBh.frozen 3
       have fh'4 := hBh.frozen 4
       have fh'5 := hBh.frozen 5
       have fh'6 := hBh.frozen 6
       have fh'7 := hBh.frozen 7
       have fh'8 := hBh.frozen 8
       simp at h'0 h'1 h'2 h'3 h'4 h'5 h'6 h'7 h'8
       clear hBh
       have hBl := HBl.out.keepB hb3
       have l0' := hBl.cell 0
       simp at l0'
       clear hBl
       have HB3 := Lib.hid (HB.out.trans (hb3.mono HB.out.size))
       clear hBr hb3 k0 fk0 h0 fh0 k1 fk1 h1 fh1 k2 fk2 h2 fh2 k3 fk3 h3 fh3 k4 fk4 h4 fh4 k5 fk5 h5 fh5 k6 fk6 h6 fh6 k7 fk7 h7 fh7 k8 fk8 h8 fh8 l0))
  refine bodyPost_ret (v := .tuple #[.agg (hCells (headR bs)).toArray, .int .i64 0]) (by simp [results, Try.results26, go_sem, hCells, headR, *]) rfl ⟨rfl, ?_⟩
  repeat (first | with_reducible exact HB3.out | (with_reducible refine Below.setCell ?_ (by simp only; omega) _))

end Go.Proofs.Ytbmflgcahbkdeaa
