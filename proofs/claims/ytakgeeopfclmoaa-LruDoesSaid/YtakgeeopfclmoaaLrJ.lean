/-
  Layer 25: slots are removed until the budget is kept.
-/
import Derived.Test.YtakgeeopfclmoaaLrI
import Derived.Deep.LoopGhost
namespace Go.Proofs.Ytakgeeopfclmoaa
open Go.RowKit Go.Maps

def ShrR (w : World) (g : Nat) (B : Bz) (budget : Int) (L : List En) (k : Nat) (wr : World) : Prop :=
  ∃ L', L'.length = k ∧ LruH wr g B (heldL L') budget L' ∧ shrinkL budget L' = shrinkL budget L ∧ heldL L' ≤ 4611686018427387904 ∧ KeepT B w wr
section
variable {B : Bz} {g : Nat} {w : World} {budget : Int} {L : List En}
theorem heldL_nonneg (L : List En) : 0 ≤ heldL L := by have := heldL_lo L; omega
theorem LruH.le {held : Int} (h : LruH w g B held budget L) : B ≤ w.heap.size := by
  obtain ⟨Y, S, l, fr, h, _⟩ := h
  exact Nat.le_trans h.base.1 (Nat.le_of_lt h.blk.lt)
theorem LruH.keep {w' : World} {held : Int} (h : LruH w g B held budget L) (hb : Below w.heap.size w w') : LruH w' g B held budget L := by
  obtain ⟨Y, S, l, fr, h, ok⟩ := h
  exact ⟨Y, S, l, fr, h.keep hb, ok⟩
set_option maxRecDepth 20000 in
set_option maxHeartbeats 2000000 in
theorem shrink_any (h : LruH w g B (heldL L) budget L) (hb : 0 ≤ budget) (hbig : heldL L ≤ 4611686018427387904) :
    Calls Try.prog 31 #[.pointer (some ⟨g, 0, none⟩)] w fun e w' => e = .returned (.tuple #[]) ∧ LruH w' g B (heldL (shrinkL budget L)) budget (shrinkL budget L) ∧ KeepT B w w' := by
  have hst : ShrR w g B budget L L.length w := ⟨L, rfl, h, rfl, hbig, KeepT.refl h.le⟩
  have HST := Lib.hid hst
  clear h hst hbig
  go_enter Try.func31, Try.ntmps31
  go_wp2_with fail
  go_loopg [] L.length (fun k wr => ShrR w g B budget L k wr)
  case atStart => exact HST.out
  case round =>
    obtain ⟨L', hk, ⟨Y, S, l, fr, h, ok⟩, hsh, hbig, hkeep⟩ := hrel
    have g5 : wr.cell? ⟨g, 5, none⟩ = some (.int .i64 (heldL L')) := by rw [h.blk.cell 5]; rfl
    have g6 : wr.cell? ⟨g, 6, none⟩ = some (.int .i64 budget) := by rw [h.blk.cell 6]; rfl
    have g3 : wr.cell? ⟨g, 3, none⟩ = some (.int .i64 S.last) := by rw [h.blk.cell 3]; rfl
    have hgl := h.blk.lt
    by_cases hd : budget < heldL L'
    · have hne : L' ≠ [] := fun e => by rw [e] at hd; simp [heldL] at hd; omega
      rcases List.eq_nil_or_concat L' with e | ⟨M, en, e⟩
      · exact absurd e hne
      rw [List.concat_eq_append] at e
      have hlen := ok.lenL
      rcases List.eq_nil_or_concat l with e2 | ⟨ls, i, e2⟩
      · rw [e, e2] at hlen; simp at hlen
      rw [List.concat_eq_append] at e2
      subst e2
      have hlast : S.last = i := by rw [ok.link.last, lst_snoc]
      obtain ⟨s, hs⟩ : ∃ s, S.ss[i]? = some s := ⟨_, List.getElem?_eq_getElem (ok.lt (by simp))⟩
      have hL2 := (ok_unlink (ys := []) ok hs).2.2
      rw [e] at hL2
      have hL3 := List.append_inj' hL2 (by simp [ents])
      have hen : en = (s.k, s.m) := by have := hL3.2; simpa [ents] using this
      have hheld : heldL L' - costM s.m = heldL M := by rw [e, heldL_append, hen]; simp only [heldL]; omega
      have hrem := fun n => remove_any (ys := []) (h.drewN n) ok hs (by have := heldL_nonneg L'; omega) hbig
      simp only [hheld, ← hL3.1, show ents S.ss ([] : List Nat) = [] from rfl, List.append_nil] at hrem
      have hnew : ∀ n w', LruH w' g B (heldL M) budget M → KeepT B (wr.drewN n) w' → ShrR w g B budget L M.length w' := fun n w' h1 h2 =>
        ⟨M, rfl, h1, by rw [← hsh, e, shrinkL_snoc (by rw [← e]; exact hd)], by rw [e, heldL_append] at hbig; have := heldL_nonneg [en]; omega, (hkeep.drewN n).trans h2⟩
      have hlt : M.length < gk := by rw [← hk, e]; simp
      have hdd : decide (budget < heldL L') = true := decide_eq_true hd
      rw [hlast] at g3
      have HR := Lib.hid hrem
      have HN := Lib.hid hnew
      clear h ok hs hL2 hL3 hen hheld hrem hnew hlast hlen e hne hd hsh hbig hkeep hk
      generalize heldL L' = hv at *
      go_wp2_with fail
      go_quiet (fail)
      go_wp2_with (go_at_call 33; (with_reducible refine (HR.out _).mono ?_); rintro e w1 ⟨rfl, h1, k1⟩; have H1 := Lib.hid h1; have K1 := Lib.hid k1; clear h1 k1)
      go_roundg M.length
      case rel => exact HN.out _ _ H1.out K1.out
      case measure => exact hlt
    · have hdd : decide (budget < heldL L') = false := decide_eq_false hd
      have hfin : LruH wr g B (heldL (shrinkL budget L)) budget (shrinkL budget L) := by
        rw [← hsh, shrinkL_fit (by omega)]
        exact ⟨Y, S, l, fr, h, ok⟩
      have HF := Lib.hid hfin
      have HK := Lib.hid hkeep
      clear h ok hfin hkeep hd hsh hbig hk
      generalize heldL L' = hv at *
      go_wp2_with fail
      go_quiet (fail)
      go_wp2_with fail
      go_end0
      exact ⟨rfl, HF.out.keep (bel_drewN bel_refl).below, HK.out.drewN _⟩
end
end Go.Proofs.Ytakgeeopfclmoaa
