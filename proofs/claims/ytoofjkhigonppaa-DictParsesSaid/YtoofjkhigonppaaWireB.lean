/-
  Contracts of wire's writer: Data.
-/
import Derived.Test.YtoofjkhigonppaaWireA
namespace Go.Proofs.Ytoofjkhigonppaa
open Go.RowKit

theorem SlAt.turn {w w' : World} {A : Option Addr} {n : Nat} {vs : List Value} {g : Nat} {row : Option Nat} (h : SlAt w A n vs) (ht : Turn w w' g row) (hg : rowOf A ≠ some g) (hr : ∀ b, rowOf A = some b → some b ≠ row) : SlAt w' A n vs :=
  ⟨h.1, fun k hk => by
    obtain ⟨b, o, rfl, hlt, hc⟩ := h.2 k hk
    refine ⟨b, o, rfl, Nat.lt_of_lt_of_le hlt ht.size, ?_⟩
    rw [World.cell?_of_block (w := w) (w' := w') (ht.block b hlt (fun e => hg (by rw [← e]; rfl)) (hr b rfl))]
    exact hc⟩

theorem SlAt.turn0 {w w' : World} {A : Option Addr} {vs : List Value} {n g : Nat} (h : SlAt w A n vs) (ht : Turn w w' g none) (hg : 0 < n → rowOf A ≠ some g) : SlAt w' A n vs := by
  rcases Nat.eq_zero_or_pos n with h0 | h0
  · subst h0
    have := List.eq_nil_of_length_eq_zero h.1
    subst this
    exact SlAt.nil _ _
  · exact h.turn ht (hg h0) (fun _ _ e => by cases e)

section
variable {T : TypeId} {w w' : World} {g : Nat} {bs news : List UInt8} {room : Int} {full : Bool} {A A' : Option Addr} {c c' : Nat}
theorem wpList_append_wr {ops : Array Oper} {rest : List Oper} {o : Oper} {a : Act} {Q : Exit → Act → World → Prop} (hgd : o.guard = none) (s x : Operand) (t : TypeId)
    (ho : o.op = .call { callee := .builtin .append, args := #[s, x], argTypes := #[t, t] }) (ht : Try.prog.underlying t = some (.slice 5))
    (h : Wr T w g bs room full A c) (L : Nat) (hL : bs.length = L) (hs : a.eval s = .slice A L c)
    (B : Nat) (Ax : Option Addr) (m cx : Nat) (hx : a.eval x = .slice Ax m cx) (vals : List Value) (hvals : vals = news.map byteV) (hr : Reads w B 1 Ax m vals) (hb : L + m ≤ 140737488355328)
    (hk : ∀ A' c' w', w'.ownsRow 0 5 1 (.slice A' (L + m) c') (L + m) ((bs ++ news).map byteV) → w.grownBy w' (rowOf A) → (rowOf A' = rowOf A ∨ rowOf A' = some w.heap.size) →
      w'.cell? ⟨g, 0, none⟩ = some (.slice A L c) → w'.frozen? ⟨g, 0, none⟩ = false → wpList Try.prog ops Q rest (a.put o.dst (.slice A' (L + m) c')) w') :
    wpList Try.prog ops Q (o :: rest) a w := by
  obtain ⟨i0, hi0, hz0, hz1, hz2⟩ := info_parts u8_info
  subst hL
  subst hvals
  refine wpList_append_any w hgd s x t ho 0 5 i0 _ 1 1 ht hi0 hz0 hz1 hz2 rfl (by omega) _ bs.length (bs.map byteV) hs h.own B Ax m cx (news.map byteV) hx hr (bytes_one _) (by unfold maxLen; omega) (by omega) (Nat.zero_le _) ?_
  intro v' w' hown hgrow hat
  rw [← List.map_append] at hown
  obtain ⟨A', c', rfl, _, _⟩ := SlAt.of_own hown
  rw [ownBlock_slice, ownBlock_slice] at hat
  rw [ownBlock_slice] at hgrow
  have hb : Blk w' g T [.slice A bs.length c, .int .i64 room, .bool full] := (hgrow.block g h.blk.lt (fun e => h.apart e.symm)).trans h.blk
  exact hk A' c' w' hown hgrow hat (by rw [hb.cell 0]; rfl) (hb.frozen 0)
end

end Go.Proofs.Ytoofjkhigonppaa
