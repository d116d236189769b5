/-
  Contracts of wire's writer: Pad.
-/
import Derived.Test.YtejombofjakllaaZero
namespace Go.Proofs.Ytejombofjakllaa
open Go.RowKit

theorem wpList_append_wr0 {T : TypeId} {w : World} {g : Nat} {bs : List UInt8} {room : Int} {full : Bool} {A : Option Addr} {c : Nat} {ops : Array Oper} {rest : List Oper} {o : Oper} {a : Act} {Q : Exit → Act → World → Prop} (hgd : o.guard = none) (s x : Operand) (t tn : TypeId) (kn : IntKind)
    (ho : o.op = .call { callee := .builtin .append, args := #[s, x], argTypes := #[t, tn] }) (ht : Try.prog.underlying t = some (.slice 5)) (htn : Try.prog.underlying tn = some (.int kn))
    (h : Wr T w g bs room full A c) (hs : a.eval s = .slice A bs.length c)
    (m : Nat) (hm : 0 < m) (hx : a.eval x = .int .i64 m) (hb : bs.length + m ≤ 70368744177664)
    (hk : ∀ A' c' w', w'.ownsRow 0 5 1 (.slice A' (bs.length + (List.replicate m (0 : UInt8)).length) c') (bs.length + (List.replicate m (0 : UInt8)).length) ((bs ++ List.replicate m 0).map byteV) → w.grownBy w' (rowOf A) → (rowOf A' = rowOf A ∨ rowOf A' = some w.heap.size) →
      w'.cell? ⟨g, 0, none⟩ = some (.slice A bs.length c) → w'.frozen? ⟨g, 0, none⟩ = false → wpList Try.prog ops Q rest (a.put o.dst (.slice A' (bs.length + (List.replicate m (0 : UInt8)).length) c')) w') :
    wpList Try.prog ops Q (o :: rest) a w := by
  obtain ⟨i0, hi0, hz0, hz1, hz2⟩ := info_parts u8_info
  obtain ⟨v', w', hrun, hown, hgrow, hat⟩ := run_append_zeros (P := Try.prog) w 0 t tn o.type 5 kn i0 ht htn hi0 hz0 hz1 hz2 _ bs.length (bs.map byteV) h.own m hm hb (Nat.zero_le _)
  refine Lib.wpList_append_run w hgd s x t tn ho _ _ hs hx v' w' hrun ?_
  rw [← List.map_append] at hown
  obtain ⟨A', c', rfl, _, _⟩ := SlAt.of_own hown
  rw [ownBlock_slice, ownBlock_slice] at hat
  rw [ownBlock_slice] at hgrow
  have hb : Blk w' g T [.slice A bs.length c, .int .i64 room, .bool full] := (hgrow.block g h.blk.lt (fun e => h.apart e.symm)).trans h.blk
  have hl : (List.replicate m (0 : UInt8)).length = m := List.length_replicate
  have := hk A' c' w' (by rw [hl]; exact hown) hgrow hat (by rw [hb.cell 0]; rfl) (hb.frozen 0)
  rwa [hl] at this

def padF (room : Int) (s : List UInt8 × Bool) (n : Int) : List UInt8 × Bool :=
  if n < 1 ∨ (s.1.length : Int) % n = 0 then s else putF room s (List.replicate (n - (s.1.length : Int) % n).toNat 0)

set_option maxHeartbeats 1000000 in
theorem pad_W (w : World) (g : Nat) (s : List UInt8 × Bool) (room : Int) (A : Option Addr) (c : Nat) (n : Int) (h : Wr 74 w g s.1 room s.2 A c)
    (hr : 0 ≤ room) (hr2 : room ≤ 1099511627776) (hl : (s.1.length : Int) ≤ room) (hn1 : -9223372036854775808 ≤ n) (hn2 : n ≤ 9223372036854775807) :
    Calls Try.prog 28 #[.pointer (some ⟨g, 0, none⟩), .int .i64 n] w fun e w' =>
      e = .returned (.pointer (some ⟨g, 0, none⟩)) ∧ ∃ A' c', WrS 74 w w' g (padF room s n) room (rowOf A) A' c' := by
  obtain ⟨bs, full⟩ := s
  simp only at h hl
  have k0 : w.cell? ⟨g, 0, none⟩ = some (.slice A bs.length c) := by rw [h.blk.cell 0]; rfl
  have H := Lib.hid h
  clear h
  by_cases h1 : n < 1
  · have e : padF room (bs, full) n = (bs, full) := by simp [padF, h1]
    have hd : decide (n < 1) = true := by simpa using h1
    rw [e]
    go_enter Try.func28, Try.ntmps28
    go_wp2
    go_ret
    exact ⟨rfl, A, c, H.out, Turn.refl _ _ _, .inl rfl, hl⟩
  · have hd : decide (n < 1) = false := by simpa using h1
    have htm : (bs.length : Int).tmod n = (bs.length : Int) % n := Int.tmod_eq_emod_of_nonneg (by omega)
    by_cases h2 : (bs.length : Int) % n = 0
    · have e : padF room (bs, full) n = (bs, full) := by simp [padF, h2]
      rw [e]
      have hd2 : ((bs.length : Int).tmod n == 0) = true := by rw [htm]; simpa using h2
      go_enter Try.func28, Try.ntmps28
      go_wp2
      go_ret
      exact ⟨rfl, A, c, H.out, Turn.refl _ _ _, .inl rfl, hl⟩
    · obtain ⟨m, hm⟩ : ∃ m : Nat, (m : Int) = n - (bs.length : Int) % n := ⟨(n - (bs.length : Int) % n).toNat, by have := Int.emod_lt_of_pos (bs.length : Int) (show 0 < n by omega); omega⟩
      have hm0 : 0 < m := by have := Int.emod_lt_of_pos (bs.length : Int) (show 0 < n by omega); omega
      have hmn : (m : Int) ≤ n := by have := Int.emod_nonneg (bs.length : Int) (show n ≠ 0 by omega); omega
      have e : padF room (bs, full) n = putF room (bs, full) (List.replicate m 0) := by
        have : (n - (bs.length : Int) % n).toNat = m := by omega
        simp [padF, h1, h2, this]
      rw [e]
      have hd2 : ((bs.length : Int).tmod n == 0) = false := by rw [htm]; simpa using h2
      have hw1 : IntKind.i64.wrap (n - (bs.length : Int) % n) = m := by rw [← hm]; exact IntWalk.i64_in _ (by omega)
      have HM := Lib.hid hm
      clear hm
      rcases Bool.eq_false_or_eq_true (fullF bs room full m) with hf | hf
      · have e : putF room (bs, full) (List.replicate m 0) = (bs, true) := by simp [putF, hf]
        rw [e]
        clear e
        go_enter Try.func28, Try.ntmps28
        go_wp2_with (go_at_call 49; refine (fits_W _ _ _ _ _ _ _ _ H.out hr (by omega) (by omega)).mono ?_; rw [hf]; rintro e w1 ⟨rfl, hw1, ht1⟩)
        go_wp2
        go_ret
        exact ⟨rfl, A, c, hw1, ht1.wide, .inl rfl, hl⟩
      · have h2 := hf
        simp only [fullF, Bool.or_eq_false_iff, decide_eq_false_iff_not] at h2
        obtain ⟨rfl, h2⟩ := h2
        have e : putF room (bs, false) (List.replicate m 0) = (bs ++ List.replicate m 0, false) := by simp [putF, hf]
        rw [e]
        clear e
        have HL : bs.length + m ≤ 70368744177664 := by omega
        have HL2 := Lib.hid (show ((bs ++ List.replicate m (0 : UInt8)).length : Int) ≤ room by simp; omega)
        go_enter Try.func28, Try.ntmps28
        go_wp2_with (first | (go_at_call 49; refine (fits_W _ _ _ _ _ _ _ _ H.out hr (by omega) (by omega)).mono ?_; rw [hf]; rintro e w1 ⟨rfl, hw1, ht1⟩; have k0 : w1.cell? ⟨g, 0, none⟩ = some (.slice A bs.length c) := (by rw [hw1.blk.cell 0]; rfl); have H1 := Lib.hid hw1; have HT := Lib.hid ht1; clear hw1 ht1) | (at_builtin; refine wpList_append_wr0 (by rfl) (.tmp 39) (.tmp 40) _ _ .i64 (by rfl) Try.underlying25 Try.underlying3 H1.out (by rfl) m hm0 (by rfl) HL ?_; intro A2 c2 w2 hown hgrow hat hc2 hf2))
        obtain ⟨hW2, hT2, hR2⟩ := Wr.appendedL H1.out bs.length m rfl List.length_replicate (by simpa only [List.length_replicate] using hown) hgrow hat
        go_ret
        exact ⟨rfl, A2, c2, hW2, HT.out.wide.trans hT2 (.inl rfl), row_trans HT.out.wide (.inl rfl) hR2, HL2.out⟩

end Go.Proofs.Ytejombofjakllaa
