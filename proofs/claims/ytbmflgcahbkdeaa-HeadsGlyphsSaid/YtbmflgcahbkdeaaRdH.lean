/-
  The document's reader in a sequence of calls, beside a struct of one's own.
-/
import Derived.Test.YtbmflgcahbkdeaaHeadsJ
import Derived.Test.YtbmflgcahbkdeaaRefRd
namespace Go.Proofs.Ytbmflgcahbkdeaa
open Go.RowKit

structure RRd (B : Nat) (w0 w : World) (r : Nat) (bs : List UInt8) (s : Nat × Bool) (A : Option Addr) (c : Nat) : Prop where
  rd : Rx w r bs s.1 s.2 A c
  bel : Below B w0 w
  le : B ≤ r
structure RH (B : Nat) (w0 w : World) (r : Nat) (bs : List UInt8) (s : Nat × Bool) (A : Option Addr) (c : Nat) (g : Nat) (T : TypeId) (cs : List Value) : Prop where
  rd : Rx w r bs s.1 s.2 A c
  bel : Below B w0 w
  le : B ≤ r
  blk : Blk w g T cs
  ne : g ≠ r
  leg : B ≤ g
  far : 0 < bs.length → rowOf A ≠ some g
section
variable {B : Nat} {w0 w w' : World} {r : Nat} {bs : List UInt8} {s s' : Nat × Bool} {A : Option Addr} {c g : Nat} {T : TypeId} {cs : List Value}
theorem below_at {B j : Nat} {a w : World} {v : Value} (h : Below B a w) : Below B a (w.setCell ⟨B, j, none⟩ v) := h.setCell (Nat.le_refl _) _
theorem RRd.call (h : RRd B w0 w r bs s A c) (hr : Rx w' r bs s'.1 s'.2 A c) (ht : Turn w w' r none) : RRd B w0 w' r bs s' A c :=
  ⟨hr, h.bel.trans (ht.below (Nat.le_trans h.le (Nat.le_of_lt h.rd.blk.lt)) h.le (fun _ e => by cases e)), h.le⟩
theorem RH.call (h : RH B w0 w r bs s A c g T cs) (hr : Rx w' r bs s'.1 s'.2 A c) (ht : Turn w w' r none) : RH B w0 w' r bs s' A c g T cs :=
  ⟨hr, h.bel.trans (ht.below (Nat.le_trans h.le (Nat.le_of_lt h.rd.blk.lt)) h.le (fun _ e => by cases e)), h.le, ht.blk h.blk h.ne (fun e => by cases e), h.ne, h.leg, h.far⟩
theorem RH.keep (h : RH B w0 w r bs s A c g T cs) (hb : Below w.heap.size w w') : RH B w0 w' r bs s A c g T cs :=
  ⟨h.rd.keep hb, h.bel.trans (hb.mono (Nat.le_trans h.le (Nat.le_of_lt h.rd.blk.lt))), h.le, h.blk.below hb h.blk.lt, h.ne, h.leg, h.far⟩
theorem RH.store (h : RH B w0 w r bs s A c g T cs) (j : Nat) (v : Value) : RH B w0 (w.setCell ⟨g, j, none⟩ v) r bs s A c g T (cs.set j v) := by
  refine ⟨⟨h.rd.blk.far (by simp only; exact Ne.symm h.ne) _, h.rd.sl.turn0 ((Turn.refl w g none).set j v) h.far, h.rd.apart, h.rd.cap, h.rd.pos_le, h.rd.small⟩, h.bel.setCell h.leg _, h.le, h.blk.set j v, h.ne, h.leg, h.far⟩
theorem RH.farB (h : RH B w0 w r bs s A c g T cs) {b : Nat} {T' : TypeId} {zs : List Value} (hb : Blk w b T' zs) (hlt : b < B) (j : Nat) (v : Value) : Blk (w.setCell ⟨g, j, none⟩ v) b T' zs := hb.far (by have := h.leg; simp only; omega) v
theorem RH.farW (h : RH B w0 w r bs s A c g T cs) {B' : Nat} {a : World} (hb : Below B' a w) (hle : B' ≤ B) (j : Nat) (v : Value) : Below B' a (w.setCell ⟨g, j, none⟩ v) := hb.setCell (by have := h.leg; simp only; omega) v
theorem RRd.new (h : RRd B w0 w r bs s A c) (hA : 0 < bs.length → ∀ k, rowOf A = some k → k < w.heap.size) (cs : List Value) (T : TypeId) : RH B w0 (w.alloc (.cells cs.toArray T)) r bs s A c w.heap.size T cs :=
  have hb := (bel_alloc (o := .cells cs.toArray T) (bel_refl (a := w))).below
  ⟨h.rd.keep hb, (bel_alloc ⟨h.bel, Nat.le_trans h.le (Nat.le_of_lt h.rd.blk.lt)⟩).below, h.le, Blk.new w T cs, by have := h.rd.blk.lt; omega, Nat.le_trans h.le (Nat.le_of_lt h.rd.blk.lt), fun h0 e => by have := hA h0 _ e; omega⟩
theorem RRd.rowlt (h : RRd B w0 w r bs s A c) : 0 < bs.length → ∀ k, rowOf A = some k → k < w.heap.size := by
  intro h0 k hk
  obtain ⟨b, o, hA, hlt, _⟩ := h.rd.sl.2 0 h0
  subst hA
  simp only [rowOf, Option.map_some, Option.some.injEq] at hk
  omega
theorem RRd.start (w0 : World) (T : TypeId) (n : Nat) (bs : List UInt8) (A : Option Addr) (c : Nat) (hn : w0.heap.size = n) (hT : T = 89) (hs : SlAt w0 A bs.length (bs.map byteV)) (hc : bs.length ≤ c) (hm : bs.length ≤ 140737488355328) :
    RRd n w0 (w0.alloc (.cells #[.slice A bs.length c, .int .i64 0, .bool false] T)) n bs (0, false) A c := by
  subst hn hT
  have hb := (bel_alloc (o := .cells #[.slice A bs.length c, .int .i64 0, .bool false] 89) (bel_refl (a := w0))).below
  refine ⟨⟨Blk.new w0 _ [_, _, _], hs.keep hb, fun h0 e => ?_, hc, Nat.zero_le _, hm⟩, hb, Nat.le_refl _⟩
  obtain ⟨b, o, hA, hlt, _⟩ := hs.2 0 h0
  subst hA
  simp only [rowOf, Option.map_some, Option.some.injEq] at e
  omega
end

section
variable {B : Nat} {w0 w : World} {r : Nat} {bs : List UInt8} {A : Option Addr} {c g : Nat} {T : TypeId} {cs : List Value}
theorem u1_GS {s : Nat × Bool} (h : RRd B w0 w r bs s A c) : Calls Try.prog 47 #[.pointer (some ⟨r, 0, none⟩), .int .i64 1] w fun e w' => e = .returned (.int .i64 (numF bs s 1)) ∧ RRd B w0 w' r bs (advF bs s 1) A c :=
  (xU_any w r bs s A c 1 h.rd (by omega)).mono fun _ _ ⟨he, hr, ht⟩ => ⟨he, h.call hr ht⟩
theorem u2_GS {s : Nat × Bool} (h : RRd B w0 w r bs s A c) : Calls Try.prog 47 #[.pointer (some ⟨r, 0, none⟩), .int .i64 2] w fun e w' => e = .returned (.int .i64 (numF bs s 2)) ∧ RRd B w0 w' r bs (advF bs s 2) A c :=
  (xU_any w r bs s A c 2 h.rd (by omega)).mono fun _ _ ⟨he, hr, ht⟩ => ⟨he, h.call hr ht⟩
theorem u2_PS {p : Nat} (h : RRd B w0 w r bs (p, false) A c) (hp : p + 2 ≤ bs.length) : Calls Try.prog 47 #[.pointer (some ⟨r, 0, none⟩), .int .i64 2] w fun e w' => e = .returned (.int .i64 (wd bs p)) ∧ RRd B w0 w' r bs (p + 2, false) A c := by
  have := u2_GS h
  rwa [advF_ok hp, wdF hp] at this
theorem u4_GS {s : Nat × Bool} (h : RRd B w0 w r bs s A c) : Calls Try.prog 47 #[.pointer (some ⟨r, 0, none⟩), .int .i64 4] w fun e w' => e = .returned (.int .i64 (numF bs s 4)) ∧ RRd B w0 w' r bs (advF bs s 4) A c :=
  (xU_any w r bs s A c 4 h.rd (by omega)).mono fun _ _ ⟨he, hr, ht⟩ => ⟨he, h.call hr ht⟩
theorem u4_PS {p : Nat} (h : RRd B w0 w r bs (p, false) A c) (hp : p + 4 ≤ bs.length) : Calls Try.prog 47 #[.pointer (some ⟨r, 0, none⟩), .int .i64 4] w fun e w' => e = .returned (.int .i64 (wd4 bs p)) ∧ RRd B w0 w' r bs (p + 4, false) A c := by
  have := u4_GS h
  rwa [advF_ok hp, wd4F hp] at this
theorem i_GS {s : Nat × Bool} (h : RRd B w0 w r bs s A c) : Calls Try.prog 68 #[.pointer (some ⟨r, 0, none⟩)] w fun e w' => e = .returned (.int .i64 (sgn16 (numF bs s 2))) ∧ RRd B w0 w' r bs (advF bs s 2) A c :=
  (xI16_any w r bs s A c h.rd).mono fun _ _ ⟨he, hr, ht⟩ => ⟨he, h.call hr ht⟩
theorem i_PS {p : Nat} (h : RRd B w0 w r bs (p, false) A c) (hp : p + 2 ≤ bs.length) : Calls Try.prog 68 #[.pointer (some ⟨r, 0, none⟩)] w fun e w' => e = .returned (.int .i64 (sgn16 (wd bs p))) ∧ RRd B w0 w' r bs (p + 2, false) A c := by
  have := i_GS h
  rwa [advF_ok hp, wdF hp] at this
theorem t_GS {s : Nat × Bool} (n : Nat) (i : Int) (hi : (n : Int) = i) (h : RRd B w0 w r bs s A c) : Calls Try.prog 67 #[.pointer (some ⟨r, 0, none⟩), .int .i64 i] w fun e w' => ∃ A' m' c', e = .returned (.slice A' m' c') ∧ RRd B w0 w' r bs (advF bs s n) A c := by
  subst hi
  exact (xTake_any w r bs s A c n h.rd).mono fun _ _ ⟨A', c', he, _, hr, ht, _⟩ => ⟨A', _, c', he, h.call hr ht⟩
theorem t_PS {p : Nat} (n : Nat) (i : Int) (hi : (n : Int) = i) (h : RRd B w0 w r bs (p, false) A c) (hp : p + n ≤ bs.length) : Calls Try.prog 67 #[.pointer (some ⟨r, 0, none⟩), .int .i64 i] w fun e w' => ∃ A' m' c', e = .returned (.slice A' m' c') ∧ RRd B w0 w' r bs (p + n, false) A c := by
  have := t_GS n i hi h
  rwa [advF_ok hp] at this
theorem u1_GH {s : Nat × Bool} (h : RH B w0 w r bs s A c g T cs) : Calls Try.prog 47 #[.pointer (some ⟨r, 0, none⟩), .int .i64 1] w fun e w' => e = .returned (.int .i64 (numF bs s 1)) ∧ RH B w0 w' r bs (advF bs s 1) A c g T cs :=
  (xU_any w r bs s A c 1 h.rd (by omega)).mono fun _ _ ⟨he, hr, ht⟩ => ⟨he, h.call hr ht⟩
theorem u2_GH {s : Nat × Bool} (h : RH B w0 w r bs s A c g T cs) : Calls Try.prog 47 #[.pointer (some ⟨r, 0, none⟩), .int .i64 2] w fun e w' => e = .returned (.int .i64 (numF bs s 2)) ∧ RH B w0 w' r bs (advF bs s 2) A c g T cs :=
  (xU_any w r bs s A c 2 h.rd (by omega)).mono fun _ _ ⟨he, hr, ht⟩ => ⟨he, h.call hr ht⟩
theorem u2_PH {p : Nat} (h : RH B w0 w r bs (p, false) A c g T cs) (hp : p + 2 ≤ bs.length) : Calls Try.prog 47 #[.pointer (some ⟨r, 0, none⟩), .int .i64 2] w fun e w' => e = .returned (.int .i64 (wd bs p)) ∧ RH B w0 w' r bs (p + 2, false) A c g T cs := by
  have := u2_GH h
  rwa [advF_ok hp, wdF hp] at this
theorem u4_GH {s : Nat × Bool} (h : RH B w0 w r bs s A c g T cs) : Calls Try.prog 47 #[.pointer (some ⟨r, 0, none⟩), .int .i64 4] w fun e w' => e = .returned (.int .i64 (numF bs s 4)) ∧ RH B w0 w' r bs (advF bs s 4) A c g T cs :=
  (xU_any w r bs s A c 4 h.rd (by omega)).mono fun _ _ ⟨he, hr, ht⟩ => ⟨he, h.call hr ht⟩
theorem u4_PH {p : Nat} (h : RH B w0 w r bs (p, false) A c g T cs) (hp : p + 4 ≤ bs.length) : Calls Try.prog 47 #[.pointer (some ⟨r, 0, none⟩), .int .i64 4] w fun e w' => e = .returned (.int .i64 (wd4 bs p)) ∧ RH B w0 w' r bs (p + 4, false) A c g T cs := by
  have := u4_GH h
  rwa [advF_ok hp, wd4F hp] at this
theorem i_GH {s : Nat × Bool} (h : RH B w0 w r bs s A c g T cs) : Calls Try.prog 68 #[.pointer (some ⟨r, 0, none⟩)] w fun e w' => e = .returned (.int .i64 (sgn16 (numF bs s 2))) ∧ RH B w0 w' r bs (advF bs s 2) A c g T cs :=
  (xI16_any w r bs s A c h.rd).mono fun _ _ ⟨he, hr, ht⟩ => ⟨he, h.call hr ht⟩
theorem i_PH {p : Nat} (h : RH B w0 w r bs (p, false) A c g T cs) (hp : p + 2 ≤ bs.length) : Calls Try.prog 68 #[.pointer (some ⟨r, 0, none⟩)] w fun e w' => e = .returned (.int .i64 (sgn16 (wd bs p))) ∧ RH B w0 w' r bs (p + 2, false) A c g T cs := by
  have := i_GH h
  rwa [advF_ok hp, wdF hp] at this
theorem t_GH {s : Nat × Bool} (n : Nat) (i : Int) (hi : (n : Int) = i) (h : RH B w0 w r bs s A c g T cs) : Calls Try.prog 67 #[.pointer (some ⟨r, 0, none⟩), .int .i64 i] w fun e w' => ∃ A' m' c', e = .returned (.slice A' m' c') ∧ RH B w0 w' r bs (advF bs s n) A c g T cs := by
  subst hi
  exact (xTake_any w r bs s A c n h.rd).mono fun _ _ ⟨A', c', he, _, hr, ht, _⟩ => ⟨A', _, c', he, h.call hr ht⟩
theorem t_PH {p : Nat} (n : Nat) (i : Int) (hi : (n : Int) = i) (h : RH B w0 w r bs (p, false) A c g T cs) (hp : p + n ≤ bs.length) : Calls Try.prog 67 #[.pointer (some ⟨r, 0, none⟩), .int .i64 i] w fun e w' => ∃ A' m' c', e = .returned (.slice A' m' c') ∧ RH B w0 w' r bs (p + n, false) A c g T cs := by
  have := t_GH n i hi h
  rwa [advF_ok hp] at this
end

end Go.Proofs.Ytbmflgcahbkdeaa
