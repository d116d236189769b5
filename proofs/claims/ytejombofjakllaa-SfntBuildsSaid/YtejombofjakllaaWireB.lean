/-
  Contracts of wire's writer: Data.
-/
import Derived.Test.YtejombofjakllaaWireA
namespace Go.Proofs.Ytejombofjakllaa
open Go.RowKit

theorem SlAt.turn {w w' : World} {A : Option Addr} {n : Nat} {vs : List Value} {g : Nat} {row : Option Nat} (h : SlAt w A n vs) (ht : Turn w w' g row) (hg : rowOf A ≠ some g) (hr : ∀ b, rowOf A = some b → some b ≠ row) : SlAt w' A n vs :=
  ⟨h.1, fun k hk => by
    obtain ⟨b, o, rfl, hlt, hc⟩ := h.2 k hk
    refine ⟨b, o, rfl, Nat.lt_of_lt_of_le hlt ht.size, ?_⟩
    rw [World.cell?_of_block (w := w) (w' := w') (ht.block b hlt (fun e => hg (by rw [← e]; rfl)) (hr b rfl))]
    exact hc⟩

theorem SlAt.turn0 {w w' : World} {A : Option Addr} {vs : List Value} {n g : Nat} (h : SlAt w A n vs) (ht : Turn w w' g none) (hg : 0 < n → rowOf A ≠ some g) : SlAt w' A n vs := by
  rcases Nat.eq_zero_or_pos n with h0 | h0
  · subst h0
    have := List.eq_nil_of_length_eq_zero h.1
    subst this
    exact SlAt.nil _ _
  · exact h.turn ht (hg h0) (fun _ _ e => by cases e)

section
variable {T : TypeId} {w w' : World} {g : Nat} {bs news : List UInt8} {room : Int} {full : Bool} {A A' : Option Addr} {c c' : Nat}
theorem wpList_append_wr {ops : Array Oper} {rest : List Oper} {o : Oper} {a : Act} {Q : Exit → Act → World → Prop} (hgd : o.guard = none) (s x : Operand) (t : TypeId)
    (ho : o.op = .call { callee := .builtin .append, args := #[s, x], argTypes := #[t, t] }) (ht : Try.prog.underlying t = some (.slice 5))
    (h : Wr T w g bs room full A c) (L : Nat) (hL : bs.length = L) (hs : a.eval s = .slice A L c)
    (B : Nat) (Ax : Option Addr) (m cx : Nat) (hx : a.eval x = .slice Ax m cx) (vals : List Value) (hvals : vals = news.map byteV) (hr : Reads w B 1 Ax m vals) (hb : L + m ≤ 140737488355328)
    (hk : ∀ A' c' w', w'.ownsRow 0 5 1 (.slice A' (L + m) c') (L + m) ((bs ++ news).map byteV) → w.grownBy w' (rowOf A) → (rowOf A' = rowOf A ∨ rowOf A' = some w.heap.size) →
      w'.cell? ⟨g, 0, none⟩ = some (.slice A L c) → w'.frozen? ⟨g, 0, none⟩ = false → wpList Try.prog ops Q rest (a.put o.dst (.slice A' (L + m) c')) w') :
    wpList Try.prog ops Q (o :: rest) a w := by
  obtain ⟨i0, hi0, hz0, hz1, hz2⟩ := info_parts u8_info
  subst hL
  subst hvals
  refine wpList_append_any w hgd s x t ho 0 5 i0 _ 1 1 ht hi0 hz0 hz1 hz2 rfl (by omega) _ bs.length (bs.map byteV) hs h.own B Ax m cx (news.map byteV) hx hr (bytes_one _) (by unfold maxLen; omega) (by omega) (Nat.zero_le _) ?_
  intro v' w' hown hgrow hat
  rw [← List.map_append] at hown
  obtain ⟨A', c', rfl, _, _⟩ := SlAt.of_own hown
  rw [ownBlock_slice, ownBlock_slice] at hat
  rw [ownBlock_slice] at hgrow
  have hb : Blk w' g T [.slice A bs.length c, .int .i64 room, .bool full] := (hgrow.block g h.blk.lt (fun e => h.apart e.symm)).trans h.blk
  exact hk A' c' w' hown hgrow hat (by rw [hb.cell 0]; rfl) (hb.frozen 0)
end

set_option maxHeartbeats 1000000 in
theorem data_W0 (w : World) (g : Nat) (s : List UInt8 × Bool) (room : Int) (A : Option Addr) (c : Nat) (news : List UInt8) (A0 : Option Addr) (c0 : Nat) (h : Wr 74 w g s.1 room s.2 A c)
    (hr : 0 ≤ room) (hr2 : room ≤ 1099511627776) (hl : (s.1.length : Int) ≤ room) (hs : SlAt w A0 news.length (news.map byteV)) (hg : 0 < news.length → rowOf A0 ≠ some g) :
    Calls Try.prog 26 #[.pointer (some ⟨g, 0, none⟩), .slice A0 news.length c0] w fun e w' =>
      e = .returned (.pointer (some ⟨g, 0, none⟩)) ∧ ∃ A' c', WrS 74 w w' g (putF room s news) room (rowOf A) A' c' := by
  obtain ⟨bs, full⟩ := s
  simp only at h hl
  have HS := Lib.hid hs
  rcases Bool.eq_false_or_eq_true (fullF bs room full news.length) with hf | hf
  · have e : putF room (bs, full) news = (bs, true) := by simp [putF, hf]
    rw [e]
    clear hs
    go_enter Try.func26, Try.ntmps26
    go_wp2_with (go_at_call 49; refine (fits_W _ _ _ _ _ _ _ _ h hr (by omega) (by omega)).mono ?_; rw [hf]; rintro e w1 ⟨rfl, hw1, ht1⟩)
    go_wp2
    go_ret
    exact ⟨rfl, A, c, hw1, ht1.wide, .inl rfl, hl⟩
  · have h2 := hf
    simp only [fullF, Bool.or_eq_false_iff, decide_eq_false_iff_not] at h2
    obtain ⟨rfl, h2⟩ := h2
    have e : putF room (bs, false) news = (bs ++ news, false) := by simp [putF, hf]
    rw [e]
    clear hs
    go_enter Try.func26, Try.ntmps26
    have HL : bs.length + news.length ≤ 140737488355328 := by omega
    have HL2 := Lib.hid (show ((bs ++ news).length : Int) ≤ room by simp; omega)
    go_wp2_with (first | (go_at_call 49; refine (fits_W _ _ _ _ _ _ _ _ h hr (by omega) (by omega)).mono ?_; rw [hf]; rintro e w1 ⟨rfl, hw1, ht1⟩; have k0 : w1.cell? ⟨g, 0, none⟩ = some (.slice A bs.length c) := (by rw [hw1.blk.cell 0]; rfl); have HS1 := Lib.hid (HS.out.turn0 ht1 hg).reads; have H1 := Lib.hid hw1; have HT := Lib.hid ht1; clear h hw1 ht1) | (at_builtin; refine wpList_append_wr (by rfl) (.tmp 13) (.tmp 14) _ (by rfl) Try.underlying25 H1.out bs.length rfl (by rfl) _ _ _ _ (by rfl) _ rfl HS1.out HL ?_; intro A2 c2 w2 hown hgrow hat hc2 hf2))
    obtain ⟨hW2, hT2, hR2⟩ := Wr.appended H1.out hown hgrow hat
    go_wp2
    go_ret
    exact ⟨rfl, A2, c2, hW2, HT.out.wide.trans hT2 (.inl rfl), row_trans HT.out.wide (.inl rfl) hR2, HL2.out⟩

theorem data_W (w : World) (g : Nat) (s : List UInt8 × Bool) (room : Int) (A : Option Addr) (c : Nat) (news : List UInt8) (A0 : Option Addr) (c0 : Nat) (h : Wr 74 w g s.1 room s.2 A c)
    (hr : 0 ≤ room) (hr2 : room ≤ 1099511627776) (hl : (s.1.length : Int) ≤ room) (hs : SlAt w A0 news.length (news.map byteV)) (hg : rowOf A0 ≠ some g) :
    Calls Try.prog 26 #[.pointer (some ⟨g, 0, none⟩), .slice A0 news.length c0] w fun e w' =>
      e = .returned (.pointer (some ⟨g, 0, none⟩)) ∧ ∃ A' c', WrS 74 w w' g (putF room s news) room (rowOf A) A' c' :=
  data_W0 w g s room A c news A0 c0 h hr hr2 hl hs (fun _ => hg)

end Go.Proofs.Ytejombofjakllaa
