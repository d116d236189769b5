/-
  Layer 25: the cache is as the document's one.
-/
import Derived.Test.YtakgeeopfclmoaaLrYe
namespace Go.Proofs.Ytakgeeopfclmoaa
open Go.RowKit Go.Maps

theorem flat4 {L : List En} {i j : Nat} {en : En} (hr : L[i]? = some en) (hj : j < 4) : (L.flatMap fun en => kcs en.1)[i * 4 + j]? = (kcs en.1)[j]? := by
  rw [List.flatMap_def]
  exact flatten_at 4 (L.map fun en => kcs en.1) i j (kcs en.1) (fun q hq => by obtain ⟨s, _, rfl⟩ := List.mem_map.1 hq; rfl) (by rw [List.getElem?_map, hr]; rfl) hj
def QKeys (w : World) (L : List En) (e : Ending) (w' : World) : Prop :=
  ∃ A c, e = .returned (.slice A L.length c) ∧ L.length ≤ c ∧ (∀ j en, L[j]? = some en → ∃ b, A = some ⟨b, 0, none⟩ ∧ b < w'.heap.size ∧ ∀ i v, (kcs en.1)[i]? = some v → w'.cell? ⟨b, j * 4 + i, none⟩ = some v) ∧ Below w.heap.size w w'
theorem qkeys {g B : Nat} {w : World} {budget : Int} {L : List En} (h : LruS w g B budget L) : Calls Try.prog 17 #[.pointer (some ⟨g, 0, none⟩)] w (QKeys w L) := by
  refine (Keys_any h.h).mono ?_
  rintro e w' ⟨A, c, rfl, hown, hb⟩
  refine ⟨A, c, rfl, ?_, fun j en hj => ?_, hb⟩
  · obtain ⟨_, ⟨h2, h3⟩ | ⟨b, cap, cur, h2, h3, h4, h5, _⟩⟩ := hown
    · omega
    · injection h2 with _ _ e3
      omega
  · have hjl := (List.getElem?_eq_some_iff.1 hj).1
    have hown2 := hown
    obtain ⟨_, ⟨h2, h3⟩ | ⟨b, cap, cur, h2, h3, h4, h5, _⟩⟩ := hown
    · omega
    · injection h2 with e1 _ e3
      refine ⟨b, e1, (Array.getElem?_eq_some_iff.1 h4).1, fun i v hv => ?_⟩
      have hi : i < 4 := (List.getElem?_eq_some_iff.1 hv).1
      have := hown2.cells (g := b) (by rw [e1]; rfl) (j * 4 + i) v ((flat4 hj hi).trans hv)
      rw [show (⟨b, 0, none⟩ : Addr).add (j * 4 + i) = ⟨b, j * 4 + i, none⟩ by unfold Addr.add; split <;> simp [*]] at this
      exact this
def LookR (w : World) (n : Nat) (k : Nat) (i : Value) (wr : World) : Prop := k ≤ n ∧ i = .int .i64 ((n - k : Nat) : Int) ∧ Below w.heap.size w wr
section
variable {B x g : Nat} {w w' : World} {budget : Int} {R : List Re} {L : List En}
set_option maxRecDepth 20000 in
set_option maxHeartbeats 4000000 in
theorem looks_any (hS : LruS w g B budget L) (hR : RfE B w x budget R) (hL : R.map Re.en = L) :
    Calls Try.prog 22 #[.pointer (some ⟨g, 0, none⟩), .pointer (some ⟨x, 0, none⟩)] w fun e w' => e = .returned (.bool true) ∧ Below w.heap.size w w' := by
  obtain ⟨A, c, h⟩ := hR
  have hRl : R.length = L.length := by rw [← hL]; simp
  have hh : heldR R = heldL L := by unfold heldR; rw [hL]
  have hfit := hS.fit
  have hb1 := hS.b1
  have hlo := heldL_lo L
  have hdd : decide (budget < heldL L) = false := decide_eq_false (by omega)
  have hLs : L.length ≤ 262144 := by omega
  have hk := qkeys hS
  have hlen := fun u (hu : Below w.heap.size w u) => Len_any (hS.keep hu).h
  have hheld := fun u (hu : Below w.heap.size w u) => Held_any (hS.keep hu).h
  have hrh := fun u (hu : Below w.heap.size w u) => rHeld_any (h.keepB hu) (by omega) (by omega)
  rw [hh] at hrh
  have x0 : w.cell? ⟨x, 0, none⟩ = some (.int .i64 budget) := h.blk.cell 0
  have x1 : w.cell? ⟨x, 1, none⟩ = some (.slice A L.length c) := by rw [← hRl]; exact h.blk.cell 1
  have hxl := h.blk.lt
  have HK := Lib.hid hk
  have HL := Lib.hid hlen
  have HH := Lib.hid hheld
  have HR := Lib.hid hrh
  have H := Lib.hid h
  have HRL := Lib.hid hRl
  have HLL := Lib.hid hL
  clear hS h hk hlen hheld hrh hRl hL hh hlo hfit
  go_enter Try.func22, Try.ntmps22
  go_upto_region 2 with (first
    | (go_at_call 17; (with_reducible refine HK.out.mono ?_); rintro e w1 ⟨A5, c5, rfl, hc5, hcl, hb1⟩
       have y0 : w1.cell? ⟨x, 0, none⟩ = some (.int .i64 budget) := (hb1.cell (p := ⟨x, 0, none⟩) hxl).trans x0
       have y1 : w1.cell? ⟨x, 1, none⟩ = some (.slice A L.length c) := (hb1.cell (p := ⟨x, 1, none⟩) hxl).trans x1
       have hyl : x < w1.heap.size := Nat.lt_of_lt_of_le hxl hb1.size
       have HCL := Lib.hid hcl
       have HB1 := Lib.hid hb1
       have hz1 := hb1.size
       clear hb1 hcl))
  clear x0 x1
  go_region_held3 (fun u => u.cell? ⟨x, 0, none⟩ = some (.int .i64 budget) ∧ u.cell? ⟨x, 1, none⟩ = some (.slice A L.length c)) (go_keep) (first
    | (go_at_call 18; (with_reducible refine (HL.out _ ?_).mono ?_); (focus (refine HB1.out.trans (Below.mono (Bel.below ?_) HB1.out.size); (repeat (first | with_reducible exact bel_refl | with_reducible apply bel_alloc | with_reducible apply bel_drewN | with_reducible apply bel_drew | (with_reducible refine bel_set ?_ ?_; rotate_left; · first | (simp; done) | (simp; omega) | omega) | with_reducible refine bel_call (by assumption) ?_)))); rintro e w2 ⟨rfl, rfl⟩)
    | (go_at_call 19; (with_reducible refine (HH.out _ HB2.out).mono ?_); rintro e w2 ⟨rfl, rfl⟩)
    | (go_at_call 19; (with_reducible refine (HH.out _ ?_).mono ?_); (focus (refine HB1.out.trans (Below.mono (Bel.below ?_) HB1.out.size); (repeat (first | with_reducible exact bel_refl | with_reducible apply bel_alloc | with_reducible apply bel_drewN | with_reducible apply bel_drew | (with_reducible refine bel_set ?_ ?_; rotate_left; · first | (simp; done) | (simp; omega) | omega) | with_reducible refine bel_call (by assumption) ?_)))); rintro e w2 ⟨rfl, rfl⟩)
    | (go_at_call 38; (with_reducible refine (HR.out _ ?_).mono ?_); (focus (refine HB1.out.trans (Below.mono (Bel.below ?_) HB1.out.size); (repeat (first | with_reducible exact bel_refl | with_reducible apply bel_alloc | with_reducible apply bel_drewN | with_reducible apply bel_drew | (with_reducible refine bel_set ?_ ?_; rotate_left; · first | (simp; done) | (simp; omega) | omega) | with_reducible refine bel_call (by assumption) ?_)))); rintro e w2 ⟨rfl, hb2⟩
       obtain ⟨hc2, hf2, hy2⟩ := bcell hb2; (try simp at hy2)
       have HBC := Lib.hid ((bel_drew bel_refl).below.trans (hb2.mono (by simp)))
       have HB2 := Lib.hid (HB1.out.trans (((bel_drew bel_refl).below.trans (hb2.mono (by simp))).mono HB1.out.size))
       clear hb2))
  clear hc2 hf2
  have HW := Lib.hid HB1.out.size
  have hz2 : w1.heap.size ≤ w2.heap.size := by simpa using hy2
  have HC2 := Lib.hid (fun (p : Addr) (hp : p.block < w1.heap.size) => HBC.out.cell (p := p) hp)
  clear y0 y1 hdd HBC
  go_wp2_with fail
  go_loopg [6] L.length (fun k i wr => LookR w2 L.length k i wr)
  case atStart => exact ⟨Nat.le_refl _, by simp, Below.refl _ _⟩
  case round =>
    obtain ⟨hkn, rfl, hbel⟩ := hrel
    obtain ⟨j, hj⟩ : ∃ j, L.length - gk = j := ⟨_, rfl⟩
    rw [hj]
    have hbw := HB2.out.trans (hbel.mono HB2.out.size)
    by_cases hin : j < L.length
    · have h' := H.out.keepB hbw
      have hRL := HRL.out
      obtain ⟨b, hA, hBb, hlt, hne, hcap⟩ := h'.slotA (by omega)
      subst hA
      have hcap' : L.length ≤ c := by omega
      have x1 : wr.cell? ⟨x, 1, none⟩ = some (.slice (some ⟨b, 0, none⟩) L.length c) := by rw [← hRL]; exact h'.blk.cell 1
      obtain ⟨r, hrr⟩ : ∃ r, R[j]? = some r := ⟨_, List.getElem?_eq_getElem (by omega)⟩
      have hLr : L[j]? = some r.en := by rw [← HLL.out, List.getElem?_map, hrr]; rfl
      obtain ⟨b5, rfl, hb5, hc⟩ := HCL.out j _ hLr
      have hget : ∀ i v, (kcs r.k)[i]? = some v → wr.cell? ⟨b5, j * 4 + i, none⟩ = some v := fun i v hv =>
        (hbel.cell (p := ⟨b5, j * 4 + i, none⟩) (Nat.lt_of_lt_of_le hb5 hz2)).trans ((HC2.out ⟨b5, j * 4 + i, none⟩ hb5).trans (hc i v hv))
      have kk0 : wr.cell? ⟨b5, j * 4, none⟩ = some (.int .i64 r.k.g) := hget 0 _ rfl
      have kk1 : wr.cell? ⟨b5, j * 4 + 1, none⟩ = some (.int .i64 r.k.p) := hget 1 _ rfl
      have kk2 : wr.cell? ⟨b5, j * 4 + 2, none⟩ = some (.int .i64 r.k.x) := hget 2 _ rfl
      have kk3 : wr.cell? ⟨b5, j * 4 + 3, none⟩ = some (.int .i64 r.k.y) := hget 3 _ rfl
      have c0 : wr.cell? ⟨b, j * 9, none⟩ = some (.int .i64 r.k.g) := h'.cell (j := 0) rfl hrr rfl
      have c1 : wr.cell? ⟨b, j * 9 + 1, none⟩ = some (.int .i64 r.k.p) := h'.cell rfl hrr rfl
      have c2 : wr.cell? ⟨b, j * 9 + 2, none⟩ = some (.int .i64 r.k.x) := h'.cell rfl hrr rfl
      have c3 : wr.cell? ⟨b, j * 9 + 3, none⟩ = some (.int .i64 r.k.y) := h'.cell rfl hrr rfl
      have he := eq4_self r.k.g r.k.p r.k.x r.k.y
      have hin' : (j : Int) < L.length := by omega
      obtain ⟨q, rfl⟩ : ∃ q, gk = q + 1 := ⟨gk - 1, by omega⟩
      have hfin : ∀ n, LookR w2 L.length q (.int .i64 ((j : Int) + 1)) (wr.drewN n) := fun n =>
        ⟨by omega, by rw [show L.length - q = j + 1 by omega]; rfl, below_drewN hbel n⟩
      have HF := Lib.hid hfin
      clear h' hrr hLr hc hget hfin hbw hbel hj hRL
      go_wp2_with fail
      go_quiet (fail)
      go_wp2_with fail
      go_roundg q
      case rel => exact HF.out _
      case measure => omega
    · have hin' : (L.length : Int) ≤ j := by omega
      have HBW := Lib.hid hbw
      clear hbw hbel
      go_wp2_with fail
      go_ret
      exact ⟨rfl, HBW.out⟩
end
end Go.Proofs.Ytakgeeopfclmoaa
