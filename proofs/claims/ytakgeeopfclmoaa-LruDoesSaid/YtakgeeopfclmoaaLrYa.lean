/-
  Layer 25: the document's cache in memory; how long it holds.
-/
import Derived.Test.YtakgeeopfclmoaaLrXb
import Derived.Deep.RegionHeld3
namespace Go.Proofs.Ytakgeeopfclmoaa
open Go.RowKit Go.Maps

structure Re where
  k : K4
  m : Ms
  A : Option Addr
  c : Nat
def Re.cells (r : Re) : List Value := [.int .i64 r.k.g, .int .i64 r.k.p, .int .i64 r.k.x, .int .i64 r.k.y, .int .i64 r.m.box.a, .int .i64 r.m.box.b, .int .i64 r.m.box.c, .int .i64 r.m.box.d, .slice r.A r.m.bs.length r.c]
def Re.en (r : Re) : En := (r.k, r.m)
def zRe : Re := ⟨zK4, zMs, none, 0⟩
/-- Block x is the document's cache of these entries. -/
structure Rf (B : Nat) (w : World) (x : Nat) (budget : Int) (R : List Re) (A : Option Addr) (c : Nat) : Prop where
  blk : Blk w x 56 [.int .i64 budget, .slice A R.length c]
  own : w.ownsRow B 60 9 (.slice A R.length c) R.length (R.flatMap Re.cells)
  ar : ∀ r ∈ R, Ar B w r.A r.m.bs r.c
  base : B ≤ x
def RfE (B : Nat) (w : World) (x : Nat) (budget : Int) (R : List Re) : Prop := ∃ A c, Rf B w x budget R A c
section
variable {B x : Nat} {w w' : World} {budget : Int} {R : List Re} {A : Option Addr} {c : Nat}
theorem Rf.keepB (h : Rf B w x budget R A c) (hb : Below w.heap.size w w') : Rf B w' x budget R A c :=
  ⟨h.blk.keepB hb, own_keep h.own fun k hk => hb.block k (own_lt h.own k hk).2, fun r hr => (h.ar r hr).keepB hb, h.base⟩
theorem Rf.keepT (h : Rf B w x budget R A c) (hk : KeepT B w w') : Rf B w' x budget R A c := by
  refine ⟨hk.blk h.blk (by decide), own_keep h.own fun b hb => hk.block b (.inr ?_), fun r hr => (h.ar r hr).keepT hk, h.base⟩
  obtain ⟨cs, hc⟩ := own_typed' h.own b hb
  unfold hot
  rw [hc]
  simp only [hotO]
  decide
theorem Rf.lt (h : Rf B w x budget R A c) : B ≤ w.heap.size := Nat.le_trans h.base (Nat.le_of_lt h.blk.lt)
/-- What the document's cache turns is its own block alone. -/
theorem Ar.turn {bs : List UInt8} {A' : Option Addr} {c' : Nat} (h : Ar B w A' bs c') (ht : Turn w w' x none) {cs : List Value} (hx : Blk w x 56 cs) (hB : B ≤ x) : Ar B w' A' bs c' :=
  h.stay ht.size fun b hlt hs => ht.block b hlt (fun e => by
    subst e
    rcases hs with hs | ⟨cs', f, hs⟩
    · omega
    · unfold Blk at hx
      rw [hx] at hs
      injection hs with hs
      injection hs with _ hs _
      revert hs
      decide) (by intro e; cases e)
theorem LruS.turn {g : Nat} {L : List En} (h : LruS w g B budget L) (ht : Turn w w' x none) {cs : List Value} (hx : Blk w x 56 cs) : LruS w' g B budget L := by
  obtain ⟨⟨Y, S, l, fr, h1, ok⟩, h2, h3, h4⟩ := h
  refine ⟨⟨Y, S, l, fr, h1.stay ht.size fun k o ho hh => ht.block k (Array.getElem?_eq_some_iff.1 ho).1 (fun e => ?_) (by intro e; cases e), ok⟩, h2, h3, h4⟩
  subst e
  unfold Blk at hx
  rw [hx] at ho
  injection ho with ho
  subst ho
  rcases hh with hh | ⟨cs', f, hh⟩
  · simp only [hotO] at hh
    revert hh
    decide
  · injection hh with _ hh _
    revert hh
    decide
theorem flat9 {R : List Re} {i j : Nat} {r : Re} (hr : R[i]? = some r) (hj : j < 9) : (R.flatMap Re.cells)[i * 9 + j]? = r.cells[j]? := by
  rw [List.flatMap_def]
  exact flatten_at 9 (R.map Re.cells) i j r.cells (fun q hq => by obtain ⟨s, _, rfl⟩ := List.mem_map.1 hq; rfl) (by rw [List.getElem?_map, hr]; rfl) hj
theorem Rf.slotA (h : Rf B w x budget R A c) (hn : 0 < R.length) : ∃ b, A = some ⟨b, 0, none⟩ ∧ B ≤ b ∧ b < w.heap.size ∧ b ≠ x ∧ R.length ≤ c := by
  obtain ⟨_, ⟨_, h2⟩ | ⟨sb, cap, cur, h2, h3, h4, h5, _⟩⟩ := h.own
  · omega
  · injection h2 with e1 _ e3
    refine ⟨sb, e1, h3, (Array.getElem?_eq_some_iff.1 h4).1, fun e => ?_, by omega⟩
    subst e
    have h6 := h.blk
    unfold Blk at h6
    rw [h6] at h4
    injection h4 with h4
    injection h4 with _ h4 _
    revert h4
    decide
theorem Rf.cell (h : Rf B w x budget R A c) {b : Nat} (hA : A = some ⟨b, 0, none⟩) {i j : Nat} {r : Re} {v : Value} (hr : R[i]? = some r) (hv : r.cells[j]? = some v) : w.cell? ⟨b, i * 9 + j, none⟩ = some v := by
  have hj : j < 9 := (List.getElem?_eq_some_iff.1 hv).1
  have h1 := h.own.cells (g := b) (by rw [hA]; rfl) (i * 9 + j) v ((flat9 hr hj).trans hv)
  rw [show (⟨b, 0, none⟩ : Addr).add (i * 9 + j) = ⟨b, i * 9 + j, none⟩ by unfold Addr.add; split <;> simp [*]] at h1
  exact h1
def heldR (R : List Re) : Int := heldL (R.map Re.en)
theorem heldR_take_succ {j : Nat} {r : Re} (hr : R[j]? = some r) : heldR (R.take (j + 1)) = heldR (R.take j) + (64 + (r.m.bs.length : Int)) := by
  rw [List.take_add_one, hr]
  unfold heldR
  rw [List.map_append, heldL_append]
  simp [heldL, Re.en, costM]
theorem heldR_nonneg (R : List Re) : 0 ≤ heldR R := heldL_nonneg _
theorem heldR_take_le (R : List Re) (j : Nat) : heldR (R.take j) ≤ heldR R := heldL_sub ((List.take_sublist j R).map _)
def RhR (w : World) (R : List Re) (r : Nat) (sum i : Value) (wr : World) : Prop := r ≤ R.length ∧ i = .int .i64 ((R.length - r : Nat) : Int) ∧ sum = .int .i64 (heldR (R.take (R.length - r))) ∧ Below w.heap.size w wr
set_option maxRecDepth 20000 in
set_option maxHeartbeats 2000000 in
theorem rHeld_any (h : Rf B w x budget R A c) (hbig : heldR R ≤ 4611686018427387904) (hlen : R.length ≤ 4294967296) : Calls Try.prog 38 #[.pointer (some ⟨x, 0, none⟩)] w fun e w' => e = .returned (.int .i64 (heldR R)) ∧ Below w.heap.size w w' := by
  have hst : RhR w R R.length (.int .i64 0) (.int .i64 0) w := ⟨Nat.le_refl _, by simp, by simp [heldR, heldL], Below.refl _ _⟩
  have HST := Lib.hid hst
  have H := Lib.hid h
  clear h hst
  go_enter Try.func38, Try.ntmps38
  go_wp2_with fail
  go_loopg [3, 4] R.length (fun r sum i wr => RhR w R r sum i wr)
  case atStart => exact HST.out
  case round =>
    obtain ⟨hr, rfl, rfl, hbel⟩ := hrel
    obtain ⟨j, hj⟩ : ∃ j, R.length - gk = j := ⟨_, rfl⟩
    rw [hj]
    have h' := H.out.keepB hbel
    have x1 : wr.cell? ⟨x, 1, none⟩ = some (.slice A R.length c) := h'.blk.cell 1
    have hxl := h'.blk.lt
    by_cases hin : j < R.length
    · obtain ⟨b, hA, hB, hlt, hne, hcap⟩ := h'.slotA (by omega)
      subst hA
      obtain ⟨r, hrr⟩ : ∃ r, R[j]? = some r := ⟨_, List.getElem?_eq_getElem hin⟩
      have c4 : wr.cell? ⟨b, j * 9 + 4, none⟩ = some (.int .i64 r.m.box.a) := h'.cell rfl hrr rfl
      have c5 : wr.cell? ⟨b, j * 9 + 5, none⟩ = some (.int .i64 r.m.box.b) := h'.cell rfl hrr rfl
      have c6 : wr.cell? ⟨b, j * 9 + 6, none⟩ = some (.int .i64 r.m.box.c) := h'.cell rfl hrr rfl
      have c7 : wr.cell? ⟨b, j * 9 + 7, none⟩ = some (.int .i64 r.m.box.d) := h'.cell rfl hrr rfl
      have c8 : wr.cell? ⟨b, j * 9 + 8, none⟩ = some (.slice r.A r.m.bs.length r.c) := h'.cell rfl hrr rfl
      have hsm := (h'.ar r (List.mem_of_getElem? hrr)).br.small
      have hin' : (j : Int) < R.length := by omega
      have hs1 := heldR_nonneg (R.take j)
      have hs2 := heldR_take_succ hrr
      have hs3 := heldR_take_le R (j + 1)
      obtain ⟨q, rfl⟩ : ∃ q, gk = q + 1 := ⟨gk - 1, by omega⟩
      have hfin : ∀ w', Below w.heap.size w w' → RhR w R q (.int .i64 (heldR (R.take j) + (64 + (r.m.bs.length : Int)))) (.int .i64 ((j : Int) + 1)) w' := fun w' hb => ⟨by omega, by rw [show R.length - q = j + 1 by omega]; rfl, by rw [show R.length - q = j + 1 by omega, hs2], hb⟩
      have hs4 : heldR (R.take j) + (64 + (r.m.bs.length : Int)) ≤ 4611686018427387904 := by omega
      have HF := Lib.hid hfin
      have HBL := Lib.hid hbel
      clear h' hrr hs2 hs3 hfin hbel hj hr
      generalize heldR (R.take j) = sj at *
      go_wp2_with (first | (go_at_call 13; (with_reducible refine (rcost_any r.m r.A r.c hsm _).mono ?_); rintro e w3 ⟨rfl, hb3⟩; have HB3 := Lib.hid (HBL.out.trans (hb3.mono HBL.out.size)); clear hb3))
      go_roundg q
      case rel => exact HF.out _ HB3.out
      case measure => omega
    · have hjj : j = R.length := by omega
      subst hjj
      rw [List.take_length]
      have HBL := Lib.hid hbel
      clear h' hbel hj hr
      go_wp2_with fail
      go_ret
      exact ⟨rfl, HBL.out⟩
end
end Go.Proofs.Ytakgeeopfclmoaa
