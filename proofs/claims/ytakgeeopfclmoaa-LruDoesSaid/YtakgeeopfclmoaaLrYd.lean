/-
  Layer 25: the document's shrink.
-/
import Derived.Test.YtakgeeopfclmoaaLrYc
namespace Go.Proofs.Ytakgeeopfclmoaa
open Go.RowKit Go.Maps

def ShkR (B x : Nat) (budget : Int) (R : List Re) (w : World) (n : Nat) (wr : World) : Prop :=
  n ≤ R.length ∧ shrinkL budget ((R.take n).map Re.en) = shrinkL budget (R.map Re.en) ∧ RfE B wr x budget (R.take n) ∧ Turn w wr x none
def RShr (B x : Nat) (budget : Int) (R : List Re) (w : World) (e : Ending) (w' : World) : Prop :=
  e = .returned (.tuple #[]) ∧ (∃ R', R'.map Re.en = shrinkL budget (R.map Re.en) ∧ RfE B w' x budget R') ∧ Turn w w' x none
section
variable {B x : Nat} {w w' : World} {budget : Int} {R : List Re} {A : Option Addr} {c : Nat}
set_option maxRecDepth 20000 in
set_option maxHeartbeats 4000000 in
theorem rShrink_any (h : RfE B w x budget R) (hlen : R.length ≤ 4294967296) (hbig : heldR R ≤ 4611686018427387904) (hb : 0 ≤ budget) :
    Calls Try.prog 44 #[.pointer (some ⟨x, 0, none⟩)] w (RShr B x budget R w) := by
  obtain ⟨i0, hi0, hz0, hz1, hz2⟩ := info_parts entry_info
  have hst : ShkR B x budget R w R.length w := ⟨Nat.le_refl _, by rw [List.take_length], by rw [List.take_length]; exact h, Turn.refl _ _ _⟩
  have HST := Lib.hid hst
  clear h hst
  go_enter Try.func44, Try.ntmps44
  go_wp2_with fail
  go_loopg [] R.length (fun n wr => ShkR B x budget R w n wr)
  case atStart => exact HST.out
  case round =>
    obtain ⟨hn, hsh, ⟨A1, c1, h1⟩, ht⟩ := hrel
    obtain ⟨T, hT⟩ : ∃ T, R.take gk = T := ⟨_, rfl⟩
    rw [hT] at hsh h1
    have hTl : T.length = gk := by rw [← hT]; simp; omega
    have hTh : heldR T ≤ 4611686018427387904 := by rw [← hT]; exact Int.le_trans (heldR_take_le R gk) hbig
    have hheld := fun u (hu : Below wr.heap.size wr u) => rHeld_any (h1.keepB hu) hTh (by omega)
    have x0 : wr.cell? ⟨x, 0, none⟩ = some (.int .i64 budget) := h1.blk.cell 0
    have hxl := h1.blk.lt
    have HH := Lib.hid hheld
    have H1 := Lib.hid h1
    have HT := Lib.hid ht
    have HSH := Lib.hid hsh
    have HTL := Lib.hid hTl
    have HTT := Lib.hid hT
    clear h1 ht hsh hheld hTl hT
    by_cases hd : budget < heldR T
    · have hdd : decide (budget < heldR T) = true := decide_eq_true hd
      go_wp2_with fail
      go_region_held3 (fun u => u.cell? ⟨x, 0, none⟩ = some (.int .i64 budget)) (go_keep) (first
        | (go_at_call 38; (with_reducible refine (HH.out _ ?_).mono ?_); (focus (refine Bel.below ?_; (repeat (first | with_reducible exact bel_refl | with_reducible apply bel_alloc | with_reducible apply bel_drewN | with_reducible apply bel_drew | (with_reducible refine bel_set ?_ ?_; rotate_left; · first | (simp; done) | (simp; omega) | omega) | with_reducible refine bel_call (by assumption) ?_)))); rintro e w1 ⟨rfl, hb1⟩
           obtain ⟨hc1, hf1, hy1⟩ := bcell hb1; (try simp at hy1)
           have HB1 := Lib.hid ((bel_drew bel_refl).below.trans (hb1.mono (by simp)))
           clear hb1))
      go_wp2_with fail
      have h6 := H1.out.keepB HB1.out
      have hTpos : 0 < T.length := by
        rcases Nat.eq_zero_or_pos T.length with h0 | h0
        · obtain rfl := List.eq_nil_of_length_eq_zero h0
          simp [heldR, heldL] at hd
          omega
        · exact h0
      obtain ⟨b, hA, hBb, hlt, hne, hcap⟩ := h6.slotA hTpos
      subst hA
      obtain ⟨m, hm⟩ : ∃ m, T.length = m + 1 := ⟨T.length - 1, by omega⟩
      have x1 : w1.cell? ⟨x, 1, none⟩ = some (.slice (some ⟨b, 0, none⟩) (m + 1) c1) := by rw [← hm]; exact h6.blk.cell 1
      have hxl6 := h6.blk.lt
      have fx1 := h6.blk.frozen 1
      have hgm : gk = m + 1 := by rw [← HTL.out, hm]
      have H6 := Lib.hid h6
      have hmc : m ≤ c1 := by omega
      have hmc1 : m + 1 ≤ c1 := by omega
      have hmc2 : (m : Int) ≤ c1 := by omega
      have hm0 : (0 : Int) ≤ m := by omega
      have hm1 : m ≤ m + 1 := by omega
      have hwr : IntKind.i64.wrap (m : Int) = m := IntWalk.i64_in _ (by omega)
      clear h6 hc1 hf1
      go_region_law
        (first
          | (refine step_append_any _ (by rfl) (.tmp 10) (.tmp 21) _ (by rfl) w1.heap.size 60 i0 _ 9 88 Try.underlying54 hi0 hz0 hz1 hz2 rfl (by omega) _ 0 [] (by rfl) (own_empty9 w1 60 9 w1.heap.size (Nat.le_refl _)) _ _ m _ _ (by rfl) ((H6.out.keepB (bel_alloc bel_refl).below).reads 0 m (by omega) b rfl) (cells_one _) (by unfold maxLen; omega) (by omega) (by simp) ?_; intro v' w7 hown7 hgrow7 hat7
             rw [Nat.zero_add, List.nil_append] at hown7
             obtain ⟨A7, c7, rfl⟩ := own_slice hown7
             have hb7 : Below w1.heap.size w1 w7 := by
               refine Below.grown (?_ : Below w1.heap.size w1 _) hgrow7 ?_ ?_
               · refine Bel.below ?_
                 repeat (first | with_reducible exact bel_refl | with_reducible apply bel_alloc | with_reducible apply bel_drewN | with_reducible apply bel_drew | (with_reducible refine bel_set ?_ ?_; rotate_left; · first | (simp; done) | (simp; omega) | omega) | with_reducible refine bel_call (by assumption) ?_)
               · simp
               · simp [Value.ownBlock]
             have z1 : w7.cell? ⟨x, 1, none⟩ = some (.slice (some ⟨b, 0, none⟩) (m + 1) c1) := (hb7.cell (p := ⟨x, 1, none⟩) hxl6).trans x1
             have zf : w7.frozen? ⟨x, 1, none⟩ = false := (hb7.frozen (p := ⟨x, 1, none⟩) hxl6).trans fx1
             have HO7 := Lib.hid hown7
             have HB7 := Lib.hid hb7
             clear hown7 hgrow7 hat7 hb7))
      all_goals
        have hTm : (T.drop 0).take m = R.take m := by rw [List.drop_zero, ← HTT.out, List.take_take, hgm]; congr 1; omega
        have hml : (R.take m).length = m := by simp; omega
        have hown8 := HO7.out
        rw [hTm] at hown8
        have hown9 := own_mono hown8 (B := B) H6.out.lt
        have har8 : ∀ q ∈ R.take m, Ar B w7 q.A q.m.bs q.c := fun q hq => (H6.out.ar q (by
          rw [← hTm] at hq
          exact List.mem_of_mem_drop (List.mem_of_mem_take hq))).keepB HB7.out
        have hset := H6.out.setL (R' := R.take m) HB7.out (c' := c7) (A' := A7) (by rw [hml]; exact hown9) har8
        rw [hml] at hset
        obtain ⟨hset1, hset2⟩ := hset
        obtain ⟨q, hq⟩ : ∃ q, R[m]? = some q := ⟨_, List.getElem?_eq_getElem (by omega)⟩
        have hTq : T = R.take m ++ [q] := by rw [← HTT.out, hgm, List.take_add_one, hq]; rfl
        have hfin : ShkR B x budget R w m (World.setCell w7 ⟨x, 1, none⟩ (.slice A7 m c7)) := by
          refine ⟨by omega, ?_, ⟨_, _, hset1⟩, Turn.trans (turn_below HT.out HB1.out HT.out.size) hset2 (.inl rfl)⟩
          rw [← HSH.out, hTq, List.map_append, List.map_singleton, shrinkL_snoc]
          rw [← List.map_singleton, ← List.map_append, ← hTq]
          exact hd
        have HFI := Lib.hid hfin
        clear HO7 HB7 hown8 hown9 har8 hset1 hset2 hTm hml hq hTq hfin x1 fx1 z1 zf
        go_wp2_with fail
        go_roundg m
        case rel => exact HFI.out
        case measure => omega
    · have hdd : decide (budget < heldR T) = false := decide_eq_false hd
      go_wp2_with fail
      go_region_held3 (fun u => u.cell? ⟨x, 0, none⟩ = some (.int .i64 budget)) (go_keep) (first
        | (go_at_call 38; (with_reducible refine (HH.out _ ?_).mono ?_); (focus (refine Bel.below ?_; (repeat (first | with_reducible exact bel_refl | with_reducible apply bel_alloc | with_reducible apply bel_drewN | with_reducible apply bel_drew | (with_reducible refine bel_set ?_ ?_; rotate_left; · first | (simp; done) | (simp; omega) | omega) | with_reducible refine bel_call (by assumption) ?_)))); rintro e w1 ⟨rfl, hb1⟩
           obtain ⟨hc1, hf1, hy1⟩ := bcell hb1; (try simp at hy1)
           have HB1 := Lib.hid ((bel_drew bel_refl).below.trans (hb1.mono (by simp)))
           clear hb1))
      go_wp2_with fail
      refine bodyPost_ret (v := .tuple #[]) (by simp [results, Try.results44, go_sem, *]) rfl ?_
      refine ⟨rfl, ⟨T, ?_, _, _, H1.out.keepB HB1.out⟩, turn_below HT.out HB1.out HT.out.size⟩
      rw [← HSH.out, shrinkL_fit]
      unfold heldR at hd
      omega
end
end Go.Proofs.Ytakgeeopfclmoaa
