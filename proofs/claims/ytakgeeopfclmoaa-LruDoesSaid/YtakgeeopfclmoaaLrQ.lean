/-
  Layer 25: Keys.
-/
import Derived.Test.YtakgeeopfclmoaaLrP
namespace Go.Proofs.Ytakgeeopfclmoaa
open Go.RowKit Go.Maps

theorem key_info : (Try.prog.info? 24).map (fun i => (i.zero, i.size, i.bytes)) = some (some (.agg #[.int .i64 0, .int .i64 0, .int .i64 0, .int .i64 0]), 4, 32) := by kernel_rfl
def kcs (k : K4) : List Value := [.int .i64 k.g, .int .i64 k.p, .int .i64 k.x, .int .i64 k.y]
def keyAt (S : Lk) (j : Nat) : K4 := (entAt S.ss j).1
def KyR (w : World) (S : Lk) (l : List Nat) (k : Nat) (out i : Value) (wr : World) : Prop :=
  ∃ xs ys, l = xs ++ ys ∧ ys.length = k ∧ i = .int .i64 (hd ys (-1)) ∧ wr.ownsRow w.heap.size 24 4 out xs.length (xs.flatMap fun j => kcs (keyAt S j)) ∧ Below w.heap.size w wr
/-- The slice at A is these keys. -/
def KeysR (w : World) (L : List En) (e : Ending) (w' : World) : Prop := ∃ A c, e = .returned (.slice A L.length c) ∧ w'.ownsRow w.heap.size 24 4 (.slice A L.length c) L.length (L.flatMap fun en => kcs en.1) ∧ Below w.heap.size w w'
section
variable {B : Bz} {g : Nat} {w : World} {budget held : Int} {L : List En}
theorem flatMap_ents (S : Lk) (l : List Nat) : (ents S.ss l).flatMap (fun en => kcs en.1) = l.flatMap fun j => kcs (keyAt S j) := by
  unfold ents keyAt
  rw [List.flatMap_map]
set_option maxRecDepth 20000 in
set_option maxHeartbeats 2000000 in
theorem Keys_any (h : LruH w g B held budget L) : Calls Try.prog 17 #[.pointer (some ⟨g, 0, none⟩)] w (KeysR w L) := by
  obtain ⟨Y, S, l, fr, h, ok⟩ := h
  obtain ⟨i0, hi0, hz0, hz1, hz2⟩ := info_parts key_info
  have g2 : w.cell? ⟨g, 2, none⟩ = some (.int .i64 S.first) := by rw [h.blk.cell 2]; rfl
  have hst : KyR w S l l.length (.slice none 0 0) (.int .i64 S.first) w := ⟨[], l, rfl, rfl, by rw [ok.link.first], World.ownsRow_nil _ _ _ _, Below.refl _ _⟩
  have hll : l.length ≤ 262145 := by have := ok.len; have := ok.small; omega
  have HST := Lib.hid hst
  have H := Lib.hid h
  have O := Lib.hid ok
  clear h ok hst
  go_enter Try.func17, Try.ntmps17
  go_wp2_with fail
  go_loopg [3, 4] l.length (fun k out i wr => KyR w S l k out i wr)
  case atStart => exact HST.out
  case round =>
    obtain ⟨xs, ys, hl, hk, rfl, hown, hbel⟩ := hrel
    cases ys with
    | nil =>
      have hfin : KeysR w L (.returned u3) wr := by
        have e1 : xs.length = L.length := by rw [O.out.lenL, hl]; simp
        have e2 : (xs.flatMap fun j => kcs (keyAt S j)) = L.flatMap fun en => kcs en.1 := by
          have := O.out.ents
          rw [← this, flatMap_ents, hl, List.append_nil]
        rw [e1, e2] at hown
        obtain ⟨A, c, rfl⟩ := own_slice hown
        exact ⟨A, c, rfl, hown, hbel⟩
      have HF := Lib.hid hfin
      have e3 : hd ([] : List Nat) (-1) = -1 := rfl
      clear hfin hown hbel hl hk
      rw [e3]
      clear e3
      go_wp2_with fail
      go_ret
      exact HF.out
    | cons j ys =>
      have h' := H.out.keep hbel
      have hjl : j < S.ss.length := O.out.lt (by rw [hl]; simp)
      obtain ⟨s, hs⟩ : ∃ s, S.ss[j]? = some s := ⟨_, List.getElem?_eq_getElem hjl⟩
      obtain ⟨sb, hA, hB, hlt, hne, hot, hcap⟩ := h'.slotA (by omega)
      have hnext : s.next = hd ys (-1) := by
        have hsg := O.out.link.seg
        rw [hl, seg_append] at hsg
        obtain ⟨s', hs', _, hn⟩ := hsg.2.1
        rw [hs] at hs'
        injection hs' with hs'
        rw [hs']; exact hn
      have c0 : wr.cell? ⟨sb, j * 11, none⟩ = some (.int .i64 s.k.g) := h'.cell (j := 0) hA hs rfl
      have c1 : wr.cell? ⟨sb, j * 11 + 1, none⟩ = some (.int .i64 s.k.p) := h'.cell hA hs rfl
      have c2 : wr.cell? ⟨sb, j * 11 + 2, none⟩ = some (.int .i64 s.k.x) := h'.cell hA hs rfl
      have c3 : wr.cell? ⟨sb, j * 11 + 3, none⟩ = some (.int .i64 s.k.y) := h'.cell hA hs rfl
      have c10 : wr.cell? ⟨sb, j * 11 + 10, none⟩ = some (.int .i64 (hd ys (-1))) := (h'.cell hA hs rfl).trans (by rw [hnext])
      have g0 : wr.cell? ⟨g, 0, none⟩ = some (.slice (some ⟨sb, 0, none⟩) S.ss.length Y.c) := by rw [h'.blk.cell 0, hA]; rfl
      have hgl := h'.blk.lt
      have hjl' : (j : Int) < S.ss.length := by omega
      have e1 : ((j : Int) != -1) = true := by simp
      have hxl : xs.length + 1 ≤ 262146 := by have := congrArg List.length hl; simp at this; omega
      have hkeyj : keyAt S j = s.k := by unfold keyAt; rw [entAt_some hs]
      have hnew : ∀ v w', w'.ownsRow w.heap.size 24 4 v (xs.length + 1) ((xs.flatMap fun j => kcs (keyAt S j)) ++ [.int .i64 s.k.g, .int .i64 s.k.p, .int .i64 s.k.x, .int .i64 s.k.y]) → Below w.heap.size w w' → KyR w S l ys.length v (.int .i64 (hd ys (-1))) w' := fun v w' h1 h2 =>
        ⟨xs ++ [j], ys, by rw [hl]; simp, rfl, rfl, by
          rw [List.length_append, List.flatMap_append]
          simp only [List.flatMap_cons, List.flatMap_nil, List.append_nil, hkeyj, kcs]
          exact h1, h2⟩
      have hown2 := hown.alloc (.cells #[.int .i64 s.k.g, .int .i64 s.k.p, .int .i64 s.k.x, .int .i64 s.k.y] 24)
      have hbel2 : Bel w.heap.size w (wr.alloc (.cells #[.int .i64 s.k.g, .int .i64 s.k.p, .int .i64 s.k.x, .int .i64 s.k.y] 24)) := bel_alloc ⟨hbel, hbel.size⟩
      have hrd := reads_new wr [.int .i64 s.k.g, .int .i64 s.k.p, .int .i64 s.k.x, .int .i64 s.k.y] 24 4 1 (by rfl)
      obtain ⟨A0, cc0, rfl⟩ := own_slice hown
      have hfar : ∀ k, rowOf A0 = some k → w.heap.size ≤ k := fun k hk => (own_lt hown k (by rw [ownBlock_slice]; exact hk)).1
      have hkg : ∀ w', (wr.alloc (.cells #[.int .i64 s.k.g, .int .i64 s.k.p, .int .i64 s.k.x, .int .i64 s.k.y] 24)).grownBy w' (rowOf A0) → Below w.heap.size w w' := fun w' hg => hbel2.below.grown hg hbel2.le hfar
      have HN := Lib.hid hnew
      have HO2 := Lib.hid hown2
      have HB2 := Lib.hid hbel2
      have HRD := Lib.hid hrd
      have HKG := Lib.hid hkg
      have HHK := Lib.hid (fun w' hb => H.out.keep (w' := w') hb)
      have HAA := Lib.hid hA
      have HSS := Lib.hid hs
      have HNX := Lib.hid hnext
      have hlk : ys.length < gk := by rw [← hk]; simp
      have e2 : hd (j :: ys) (-1) = (j : Int) := rfl
      rw [e2]
      clear h' hs hA hnext hown hbel hl hk hkeyj hnew hown2 hbel2 hrd hfar hkg e2 hot hB hne
      generalize hd ys (-1) = nx at *
      go_wp2_with (first
        | (at_builtin; refine wpList_append_any _ (by rfl) (.tmp 21) (.tmp 30) _ (by rfl) w.heap.size 24 i0 _ 4 32 Try.underlying47 hi0 hz0 hz1 hz2 rfl (by omega) _ xs.length _ (by rfl) HO2.out _ _ 1 _ _ (by rfl) HRD.out (by intro u hu; simp at hu; rcases hu with rfl | rfl | rfl | rfl <;> rfl) (by unfold maxLen; omega) (by omega) HB2.out.le ?_; intro v' w5 hown5 hgrow5 hat5
           rw [ownBlock_slice] at hgrow5
           have hb5 := HKG.out w5 hgrow5
           have h5 := HHK.out w5 hb5
           have d10 : w5.cell? ⟨sb, j * 11 + 10, none⟩ = some (.int .i64 nx) := (h5.cell HAA.out HSS.out rfl).trans (by rw [HNX.out])
           have d0 : w5.cell? ⟨g, 0, none⟩ = some (.slice (some ⟨sb, 0, none⟩) S.ss.length Y.c) := by rw [h5.blk.cell 0, HAA.out]; rfl
           have HW5 := Lib.hid hown5
           have HB5 := Lib.hid hb5
           clear hown5 hgrow5 hat5 hb5 h5))
      go_roundg ys.length
      case rel => exact HN.out _ _ HW5.out HB5.out
      case measure => exact hlk
theorem Keys_nil : Calls Try.prog 17 #[.pointer none] w fun e w' => e = .returned (.slice none 0 0) ∧ w = w' := by
  go_enter Try.func17, Try.ntmps17
  go_wp2_with fail
  go_ret
  exact ⟨rfl, rfl⟩
end
end Go.Proofs.Ytakgeeopfclmoaa
