/-
  Contracts of serifref03's writer: Data, Bytes, U, Pad.
-/
import Derived.Test.YtejombofjakllaaWireD
namespace Go.Proofs.Ytejombofjakllaa
open Go.RowKit

/-- A writer of the document's, of state s: a call has turned its block alone. -/
structure WrN (T : TypeId) (w0 w : World) (g : Nat) (s : List UInt8 × Bool) (room : Int) (A0 A : Option Addr) (c : Nat) : Prop where
  wr : Wr T w g s.1 room s.2 A c
  turn : Turn w0 w g none
  row : rowOf A = rowOf A0 ∨ ∀ k, rowOf A = some k → w0.heap.size ≤ k
  fit : (s.1.length : Int) ≤ room

theorem grown_below {w w' : World} {B : Nat} {row : Option Nat} (h : w.grownBy w' row) (hB : B ≤ w.heap.size) (hr : ∀ k, row = some k → B ≤ k) : Below B w w' :=
  ⟨h.os, h.tape, h.output, h.size, fun k hk => h.block k (by omega) (fun e => by have := hr k e.symm; omega)⟩

theorem ownsRow_lower {w : World} {B : Nat} {e : TypeId} {size : Nat} {v : Value} {n : Nat} {xs : List Value} (h : w.ownsRow B e size v n xs) : w.ownsRow 0 e size v n xs := by
  obtain ⟨hl, hh | ⟨g, cap, cur, hv, hg, hrest⟩⟩ := h
  · exact ⟨hl, .inl hh⟩
  · exact ⟨hl, .inr ⟨g, cap, cur, hv, Nat.zero_le _, hrest⟩⟩

set_option maxHeartbeats 1000000 in
theorem rdata_W (w : World) (g : Nat) (s : List UInt8 × Bool) (room : Int) (A : Option Addr) (c : Nat) (news : List UInt8) (A0 : Option Addr) (c0 : Nat) (h : Wr 78 w g s.1 room s.2 A c)
    (hr : 0 ≤ room) (hr2 : room ≤ 1099511627776) (hl : (s.1.length : Int) ≤ room) (hs : SlAt w A0 news.length (news.map byteV)) :
    Calls Try.prog 52 #[.pointer (some ⟨g, 0, none⟩), .slice A0 news.length c0] w fun e w' =>
      e = .returned (.tuple #[]) ∧ ∃ A' c', WrN 78 w w' g (putF room s news) room A A' c' := by
  obtain ⟨bs, full⟩ := s
  simp only at h hl
  obtain ⟨i0, hi0, hz0, hz1, hz2⟩ := info_parts u8_info
  have k0 : w.cell? ⟨g, 0, none⟩ = some (.slice A bs.length c) := by rw [h.blk.cell 0]; rfl
  have k1 : w.cell? ⟨g, 1, none⟩ = some (.int .i64 room) := by rw [h.blk.cell 1]; rfl
  have k2 : w.cell? ⟨g, 2, none⟩ = some (.bool full) := by rw [h.blk.cell 2]; rfl
  have f2 := h.blk.frozen 2
  have HS := Lib.hid hs
  have H := Lib.hid h
  clear hs h
  rcases Bool.eq_false_or_eq_true (fullF bs room full news.length) with hf | hf
  · have e : putF room (bs, full) news = (bs, true) := by simp [putF, hf]
    rw [e]
    cases full with
    | true =>
      go_enter Try.func52, Try.ntmps52
      go_wp2_with fail
      go_quiet (fail)
      go_wp2
      with_reducible refine bodyPost_ret (v := .tuple #[]) (by simp [results, Try.results52]) rfl ?_
      exact ⟨rfl, A, c, (H.out.drewN _).full_ _, ((Turn.refl _ _ _).drewN _).set _ _, .inl rfl, hl⟩
    | false =>
      have hd : decide (room - (bs.length : Int) < news.length) = true := by simpa [fullF] using hf
      go_enter Try.func52, Try.ntmps52
      go_wp2_with fail
      go_quiet (fail)
      go_wp2
      with_reducible refine bodyPost_ret (v := .tuple #[]) (by simp [results, Try.results52]) rfl ?_
      exact ⟨rfl, A, c, (H.out.drewN _).full_ _, ((Turn.refl _ _ _).drewN _).set _ _, .inl rfl, hl⟩
  · have h2 := hf
    simp only [fullF, Bool.or_eq_false_iff] at h2
    obtain ⟨rfl, hd⟩ := h2
    have e : putF room (bs, false) news = (bs ++ news, false) := by simp [putF, hf]
    rw [e]
    go_enter Try.func52, Try.ntmps52
    go_wp2_with fail
    go_quiet (fail)
    have hgl : g < w.heap.size := H.out.blk.lt
    have HL2 := Lib.hid (show ((bs ++ news).length : Int) ≤ room by simp at hd; simp; omega)
    have HR1 := Lib.hid ((H.out.sl.keep (w' := (w.drewN nq).alloc (.cells #[] 5)) (bel_alloc (bel_drewN bel_refl)).below).reads)
    have hbl : bs.length + news.length ≤ 140737488355328 := by simp at hd; omega
    go_wp2_with (first
      | (at_builtin; refine wpList_append_any _ (by rfl) (.tmp 27) (.tmp 31) _ (by rfl) w.heap.size 5 i0 _ 1 1 Try.underlying25 hi0 hz0 hz1 hz2 rfl (by omega) _ 0 [] (by rfl) (own_empty (w.drewN nq) _) _ _ _ _ _ (by rfl) HR1.out (bytes_one _) (by unfold maxLen; omega) (by omega) (by simp) ?_; intro v1 w1 hown1 hgrow1 hat1
         have hb1 : Below w.heap.size w w1 := (bel_alloc (bel_drewN bel_refl)).below.trans (grown_below hgrow1 (by simp) (by simp [Value.ownBlock]))
         have HB1 := Lib.hid hb1
         have k0 : w1.cell? ⟨g, 0, none⟩ = some (.slice A bs.length c) := by rw [hb1.cell (p := ⟨g, 0, none⟩) hgl]; exact k0
         have HR2 := Lib.hid ((HS.out.keep hb1).reads)
         have hsz1 := hb1.size
         rw [List.nil_append, Nat.zero_add] at hown1
         have HO1 := Lib.hid hown1
         clear hb1 hgrow1 hat1 hown1)
      | (at_builtin; refine wpList_append_any _ (by rfl) (.tmp 32) (.tmp 33) _ (by rfl) w.heap.size 5 i0 _ 1 1 Try.underlying25 hi0 hz0 hz1 hz2 rfl (by omega) _ bs.length _ (by rfl) HO1.out _ _ _ _ _ (by rfl) HR2.out (bytes_one _) (by unfold maxLen; omega) (by omega) (by omega) ?_; intro v2 w2 hown2 hgrow2 hat2
         rw [← List.map_append] at hown2
         obtain ⟨A2, c2, rfl, hsl2, hge2⟩ := SlAt.of_own hown2
         have hlo : ∀ k, v1.ownBlock = some k → w.heap.size ≤ k := fun k hk => (HO1.out.lt k hk).1
         have hb2 : Below w.heap.size w w2 := HB1.out.trans (grown_below hgrow2 hsz1 hlo)
         have k0 : w2.cell? ⟨g, 0, none⟩ = some (.slice A bs.length c) := by rw [hb2.cell (p := ⟨g, 0, none⟩) hgl]; exact (by rw [H.out.blk.cell 0]; rfl)
         have f0 : w2.frozen? ⟨g, 0, none⟩ = false := by rw [World.frozen?_of_block (w := w) (hb2.block g hgl)]; exact H.out.blk.frozen 0
         have HB2 := Lib.hid hb2
         have HO2 := Lib.hid hown2
         have HG2 := Lib.hid hge2
         clear hb2 hown2 hge2 hgrow2 hat2 hlo hsl2))
    with_reducible refine bodyPost_end (v := .tuple #[]) (by simp [results, Try.results52]) rfl ?_
    have hne : rowOf A2 ≠ some g := by
      intro e
      cases A2 with
      | none => cases e
      | some ad => injection e with e; have := HG2.out _ rfl; simp only at e; omega
    have hlen : (bs ++ news).length = bs.length + news.length := List.length_append
    refine ⟨rfl, A2, c2, ⟨?_, ?_, hne⟩, ((Turn.of_below HB2.out).set 0 _), .inr ?_, HL2.out⟩
    · have hb : Blk w2 g 78 [.slice A bs.length c, .int .i64 room, .bool false] := (HB2.out.block g hgl).trans H.out.blk
      rw [hlen]; exact Blk.to (hb.set 0 _) rfl
    · rw [hlen]
      exact ownsRow_lower (ownsRow_setCell_other HO2.out (by rw [ownBlock_slice]; exact hne) _)
    · intro k hk
      cases A2 with
      | none => cases hk
      | some ad => injection hk with hk; subst hk; exact HG2.out _ rfl

end Go.Proofs.Ytejombofjakllaa
