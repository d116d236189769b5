/-
  Layer 22: All: the cells in which something was left.
-/
import Derived.Test.YtbjggiihbdhmbaaCoK
import Derived.Test.YtbjggiihbdhmbaaGiv
namespace Go.Proofs.Ytbjggiihbdhmbaa
open Go.RowKit Go.Shelf

attribute [local go_sem] Oper.semAt_some
/-- A cell of the iterator: its pixel, what was left. -/
structure Cl where
  x : Int
  y : Int
  c : Int
  a : Int
def clV (c : Cl) : Array Value := #[.agg #[.int .i64 c.x, .int .i64 c.y, .int .i64 c.c, .int .i64 c.a]]
set_option maxRecDepth 20000 in
set_option maxHeartbeats 2000000 in
theorem all_nil {u : World} (n cb : Nat) (hc : Blk u cb 25 [.pointer none]) {Kp : World → World → Prop} :
    GivesB n Try.prog 41 #[.pointer (some ⟨cb, 0, none⟩)] clV Kp (fun _ _ => False) (fun xs => xs = []) (fun _ => False) u := by
  intro l J Jx W hW hJ hJx hY h0
  have hc' := hc.keepB hW
  have c0 : W.cell? ⟨cb, 0, none⟩ = some (.pointer none) := hc'.cell 0
  have cl := hc'.lt
  clear hc hJx hY hc'
  refine callsIn_of_wp Try.func41 rfl trivial ?_ rfl
  simp only [Try.ntmps41, List.size_toArray, List.length_cons, List.length_nil, Nat.reduceAdd, Nat.reduceSub, Array.replicate_succ, Array.replicate_zero, List.push_toArray, List.append_toArray, List.nil_append, List.cons_append]
  gi_wp2_with fail
  refine bodyPost_ret (v := .tuple #[]) (by simp [results, Try.results41]) rfl ⟨⟨_, rfl⟩, .inl ⟨[], rfl, h0⟩⟩
end Go.Proofs.Ytbjggiihbdhmbaa
