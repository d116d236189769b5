/-
  Contracts of wire's writer: Pad.
-/
import Derived.Test.YtlbfefdmbdjjcaaZero
namespace Go.Proofs.Ytlbfefdmbdjjcaa
open Go.RowKit

theorem wpList_append_wr0 {T : TypeId} {w : World} {g : Nat} {bs : List UInt8} {room : Int} {full : Bool} {A : Option Addr} {c : Nat} {ops : Array Oper} {rest : List Oper} {o : Oper} {a : Act} {Q : Exit → Act → World → Prop} (hgd : o.guard = none) (s x : Operand) (t tn : TypeId) (kn : IntKind)
    (ho : o.op = .call { callee := .builtin .append, args := #[s, x], argTypes := #[t, tn] }) (ht : Try.prog.underlying t = some (.slice 5)) (htn : Try.prog.underlying tn = some (.int kn))
    (h : Wr T w g bs room full A c) (hs : a.eval s = .slice A bs.length c)
    (m : Nat) (hm : 0 < m) (hx : a.eval x = .int .i64 m) (hb : bs.length + m ≤ 70368744177664)
    (hk : ∀ A' c' w', w'.ownsRow 0 5 1 (.slice A' (bs.length + (List.replicate m (0 : UInt8)).length) c') (bs.length + (List.replicate m (0 : UInt8)).length) ((bs ++ List.replicate m 0).map byteV) → w.grownBy w' (rowOf A) → (rowOf A' = rowOf A ∨ rowOf A' = some w.heap.size) →
      w'.cell? ⟨g, 0, none⟩ = some (.slice A bs.length c) → w'.frozen? ⟨g, 0, none⟩ = false → wpList Try.prog ops Q rest (a.put o.dst (.slice A' (bs.length + (List.replicate m (0 : UInt8)).length) c')) w') :
    wpList Try.prog ops Q (o :: rest) a w := by
  obtain ⟨i0, hi0, hz0, hz1, hz2⟩ := info_parts u8_info
  obtain ⟨v', w', hrun, hown, hgrow, hat⟩ := run_append_zeros (P := Try.prog) w 0 t tn o.type 5 kn i0 ht htn hi0 hz0 hz1 hz2 _ bs.length (bs.map byteV) h.own m hm hb (Nat.zero_le _)
  refine Lib.wpList_append_run w hgd s x t tn ho _ _ hs hx v' w' hrun ?_
  rw [← List.map_append] at hown
  obtain ⟨A', c', rfl, _, _⟩ := SlAt.of_own hown
  rw [ownBlock_slice, ownBlock_slice] at hat
  rw [ownBlock_slice] at hgrow
  have hb : Blk w' g T [.slice A bs.length c, .int .i64 room, .bool full] := (hgrow.block g h.blk.lt (fun e => h.apart e.symm)).trans h.blk
  have hl : (List.replicate m (0 : UInt8)).length = m := List.length_replicate
  have := hk A' c' w' (by rw [hl]; exact hown) hgrow hat (by rw [hb.cell 0]; rfl) (hb.frozen 0)
  rwa [hl] at this

def padF (room : Int) (s : List UInt8 × Bool) (n : Int) : List UInt8 × Bool :=
  if n < 1 ∨ (s.1.length : Int) % n = 0 then s else putF room s (List.replicate (n - (s.1.length : Int) % n).toNat 0)

end Go.Proofs.Ytlbfefdmbdjjcaa
