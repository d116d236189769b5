/-
  Layer 25: a cache's calls, each by one contract.
-/
import Derived.Test.YtakgeeopfclmoaaLrQ
namespace Go.Proofs.Ytakgeeopfclmoaa
open Go.RowKit Go.Maps

structure LruS (w : World) (g : Nat) (B : Bz) (budget : Int) (L : List En) : Prop where
  h : LruH w g B (heldL L) budget L
  fit : heldL L ≤ budget
  b0 : 0 ≤ budget
  b1 : budget ≤ 16777216
theorem LruS.keep {w w' : World} {g : Nat} {B : Bz} {budget : Int} {L : List En} (h : LruS w g B budget L) (hb : Below w.heap.size w w') : LruS w' g B budget L := ⟨h.h.keep hb, h.fit, h.b0, h.b1⟩
def putM (budget : Int) (k : K4) (m : Ms) (L : List En) : List En := if maskM m = 0 then putL budget k m L else L
def okP (budget : Int) (m : Ms) : Bool := decide (maskM m = 0) && !decide (budget < costM m)
theorem putL_fit {budget : Int} {k : K4} {m : Ms} {L : List En} (hb : 0 ≤ budget) (hf : heldL L ≤ budget) : heldL (putL budget k m L) ≤ budget := by
  unfold putL
  split
  · exact Int.le_trans (heldL_sub (dropL_sub k L)) hf
  · exact shrinkL_le hb _
theorem putM_fit {budget : Int} {k : K4} {m : Ms} {L : List En} (hb : 0 ≤ budget) (hf : heldL L ≤ budget) : heldL (putM budget k m L) ≤ budget := by
  unfold putM
  split
  · exact putL_fit hb hf
  · exact hf
def PutS (w : World) (g : Nat) (B : Bz) (budget : Int) (k : K4) (m : Ms) (L : List En) (e : Ending) (w' : World) : Prop :=
  e = .returned (.tuple #[.bool (okP budget m), .int .i64 (maskM m)]) ∧ LruS w' g B budget (putM budget k m L) ∧ KeepT B w w'
def gm (k : K4) (L : List En) : Ms := match findL k L with | some e => e.2 | none => zMs
def gb (k : K4) (L : List En) : Bool := (findL k L).isSome
def GetS (w : World) (g : Nat) (B : Bz) (budget : Int) (k : K4) (L : List En) (e : Ending) (w' : World) : Prop :=
  ∃ A c, e = .returned (.tuple #[.agg #[.int .i64 (gm k L).box.a, .int .i64 (gm k L).box.b, .int .i64 (gm k L).box.c, .int .i64 (gm k L).box.d, .slice A (gm k L).bs.length c], .bool (gb k L)]) ∧ Bu w' A (gm k L).bs c ∧ LruS w' g B budget (getL k L) ∧ KeepT B w w'
section
variable {B : Bz} {g : Nat} {w : World} {budget : Int} {L : List En}
theorem Put_any (h : LruS w g B budget L) (k : K4) (hk : k.wf) (m : Ms) (A : Option Addr) (c : Nat) (ha : Ar B w A m.bs c) (hF : ∀ b, B.F b → b < w.heap.size) :
    Calls Try.prog 12 #[.pointer (some ⟨g, 0, none⟩), .agg #[.int .i64 k.g, .int .i64 k.p, .int .i64 k.x, .int .i64 k.y], .agg #[.int .i64 m.box.a, .int .i64 m.box.b, .int .i64 m.box.c, .int .i64 m.box.d, .slice A m.bs.length c]] w (PutS w g B budget k m L) := by
  have key : Calls Try.prog 12 #[.pointer (some ⟨g, 0, none⟩), .agg #[.int .i64 k.g, .int .i64 k.p, .int .i64 k.x, .int .i64 k.y], .agg #[.int .i64 m.box.a, .int .i64 m.box.b, .int .i64 m.box.c, .int .i64 m.box.d, .slice A m.bs.length c]] w (PutR w g B budget k m L) := by
    have hbig : heldL L ≤ 4611686018427387904 := by have := h.fit; have := h.b1; omega
    by_cases hm : maskM m = 0
    · rcases Int.lt_or_le budget (costM m) with hc | hc
      · exact Put_big h.h hbig k hk m A c hm ha hc
      · exact Put_ok h.h k hk m A c hm ha hc h.fit h.b1 h.b0 hF
    · exact Put_bad h.h k m A c hm ha.br.small
  refine key.mono ?_
  rintro e w' ⟨h1, h2, h3⟩
  refine ⟨h1, ⟨?_, putM_fit h.b0 h.fit, h.b0, h.b1⟩, h3⟩
  unfold putM
  split
  · rename_i hm; rwa [if_pos hm] at h2
  · rename_i hm; rwa [if_neg hm] at h2
theorem getL_held (k : K4) (L : List En) : heldL (getL k L) = heldL L := by
  unfold getL
  split
  · rfl
  · rename_i en hf
    have hx : ∀ (M : List En) (e : En), findL k M = some e → heldL (e :: dropL k M) = heldL M := fun M => by
      induction M with
      | nil => intro e h; simp [findL] at h
      | cons a M ih =>
        intro e h
        by_cases ha : a.1 = k
        · have h1 : findL k (a :: M) = some a := by simp [findL, ha]
          rw [h1] at h
          injection h with h
          subst h
          simp [dropL, ha]
        · have h1 : findL k (a :: M) = findL k M := by simp [findL, ha]
          rw [h1] at h
          have h2 := ih e h
          have h3 : dropL k (a :: M) = a :: dropL k M := by simp [dropL, ha]
          rw [h3]
          simp only [heldL] at h2 ⊢
          omega
    exact hx L en hf
theorem Get_any (h : LruS w g B budget L) (k : K4) (hk : k.wf) :
    Calls Try.prog 14 #[.pointer (some ⟨g, 0, none⟩), .agg #[.int .i64 k.g, .int .i64 k.p, .int .i64 k.x, .int .i64 k.y]] w (GetS w g B budget k L) := by
  have hfit : heldL (getL k L) ≤ budget := by rw [getL_held]; exact h.fit
  by_cases hm : k ∈ L.map (·.1)
  · refine (Get_yes h.h k hm).mono ?_
    intro e w' hr
    unfold GetR at hr
    cases hf : findL k L with
    | none =>
      obtain ⟨en, he, e2⟩ := List.mem_map.1 hm
      have := List.find?_eq_none.1 hf en he
      simp [e2] at this
    | some en =>
      rw [hf] at hr
      obtain ⟨A, c, h1, h2, h3, h4⟩ := hr
      have hg : gm k L = en.2 := by unfold gm; rw [hf]
      refine ⟨A, c, ?_, by rw [hg]; exact h2, ⟨h3, hfit, h.b0, h.b1⟩, h4⟩
      rw [hg, h1]
      unfold gb
      rw [hf]
      rfl
  · refine (Get_no h.h k hk hm).mono ?_
    intro e w' hr
    have hf := findL_none hm
    unfold GetR at hr
    rw [hf] at hr
    obtain ⟨h1, h2, h3⟩ := hr
    have hg : gm k L = zMs := by unfold gm; rw [hf]
    have hgl : getL k L = L := by unfold getL; rw [hf]
    refine ⟨none, 0, ?_, by rw [hg]; exact bu_nil _, ⟨by rw [hgl]; exact h2, hfit, h.b0, h.b1⟩, h3⟩
    rw [hg, h1]
    unfold gb
    rw [hf]
    rfl
end
end Go.Proofs.Ytakgeeopfclmoaa
