/-
  Whether closed lines are convex: the plain reading; a dot by its number, going round.
-/
import Derived.Test.YtnmnehgcliiofaaExY
import Derived.Test.YtnmnehgcliiofaaExH
import Derived.Test.YtnmnehgcliiofaaTail
namespace Go.Proofs.Ytnmnehgcliiofaa
open Go.RowKit

def eq2 (a b a' b' : Int) : Bool := decide (a = a' ∧ b = b')
@[go_sem] theorem eq2_self (a b : Int) : eq2 a b a b = true := by simp [eq2]
theorem eq2_true {a b a' b' : Int} : eq2 a b a' b' = true ↔ a = a' ∧ b = b' := by simp [eq2]
theorem eqIn_dot (w : World) (k : Nat) (a b a' b' : Int) : (Op.equalIn (k + 2) 72 (.agg #[.int .i64 a, .int .i64 b]) (.agg #[.int .i64 a', .int .i64 b'])).run Try.prog w = .ok (eq2 a b a' b') w := by
  unfold eq2
  by_cases h1 : a = a'
  · by_cases h2 : b = b' <;> simp [go_sem, h1, h2]
  · simp [go_sem, h1]
@[go_sem ↓] theorem eql_dot (w : World) (a b a' b' : Int) : (binOp .eql 72 (.agg #[.int .i64 a, .int .i64 b]) (.agg #[.int .i64 a', .int .i64 b'])).run Try.prog w = .ok (.bool (eq2 a b a' b')) w := by
  simp only [binOp]
  simp [Op.equal, Op.maxDepth, eqIn_dot w 9998]

abbrev T3 := Dt × Dt × Dt
def tris (c : List Dt) : List T3 := (List.range c.length).map fun i => (c.getD i (0, 0), c.getD ((i + 1) % c.length) (0, 0), c.getD ((i + 2) % c.length) (0, 0))
def turnT (t : T3) : Int := (t.2.1.1 - t.1.1) * (t.2.2.2 - t.2.1.2) - (t.2.2.1 - t.2.1.1) * (t.2.1.2 - t.1.2)
def sameT (t : T3) : Bool := eq2 t.1.1 t.1.2 t.2.1.1 t.2.1.2
def upT (l : List T3) : Bool := l.any fun t => decide (0 < turnT t)
def downT (l : List T3) : Bool := l.any fun t => decide (turnT t < 0)
def xsT (l : List T3) : List Int := l.map fun t => t.2.1.1 - t.1.1
def ysT (l : List T3) : List Int := l.map fun t => t.2.1.2 - t.1.2
/-- One closed line of at least three dots is convex. -/
def cvC (c : List Dt) : Bool := (tris c).all (fun t => !sameT t) && (upT (tris c) != downT (tris c)) && decide (chgR (xsT (tris c)) ≤ 2) && decide (chgR (ysT (tris c)) ≤ 2)
def cvB (ls : List (List Dt)) : Bool := match ls with
  | [c] => decide (3 ≤ c.length) && cvC c
  | _ => false
theorem tris_len (c : List Dt) : (tris c).length = c.length := by simp [tris]
theorem tris_at {c : List Dt} {j : Nat} {a b d : Dt} (ha : c[j]? = some a) (hb : c[(j + 1) % c.length]? = some b) (hd : c[(j + 2) % c.length]? = some d) : (tris c)[j]? = some (a, b, d) := by
  have hj := (List.getElem?_eq_some_iff.1 ha).1
  unfold tris
  rw [List.getElem?_map, List.getElem?_range hj]
  simp [ha, hb, hd]
theorem upT_snoc {l : List T3} {k : Nat} {t : T3} (h : l[k]? = some t) : upT (l.take (k + 1)) = (upT (l.take k) || decide (0 < turnT t)) := by
  rw [take_snoc h]; simp [upT]
theorem downT_snoc {l : List T3} {k : Nat} {t : T3} (h : l[k]? = some t) : downT (l.take (k + 1)) = (downT (l.take k) || decide (turnT t < 0)) := by
  rw [take_snoc h]; simp [downT]
theorem xsT_snoc {l : List T3} {k : Nat} {t : T3} (h : l[k]? = some t) : xsT (l.take (k + 1)) = xsT (l.take k) ++ [t.2.1.1 - t.1.1] := by
  rw [take_snoc h]; simp [xsT]
theorem ysT_snoc {l : List T3} {k : Nat} {t : T3} (h : l[k]? = some t) : ysT (l.take (k + 1)) = ysT (l.take k) ++ [t.2.1.2 - t.1.2] := by
  rw [take_snoc h]; simp [ysT]

set_option maxRecDepth 20000 in
set_option maxHeartbeats 1000000 in
/-- The closure 'at'. -/
theorem at_any {w : World} {A : Option Addr} {cc cb i m : Nat} {c : List Dt} {x y ii : Int} (hii : ii = (i : Int)) (h : Ds w A c) (hb : w.cell? ⟨cb, 0, none⟩ = some (.slice A c.length cc)) (hm : i % c.length = m) (hx : c[m]? = some (x, y)) :
    Calls Try.prog 71 #[.int .i64 ii, .pointer (some ⟨cb, 0, none⟩)] w fun e w' => e = .returned (.agg #[.int .i64 x, .int .i64 y]) ∧ Below w.heap.size w w' := by
  subst hii
  have hml := (List.getElem?_eq_some_iff.1 hx).1
  obtain ⟨b, o, rfl, hbl, k0, k1⟩ := h m _ hx
  dsimp only at k0 k1
  have hcb : cb < w.heap.size := World.block_lt_of_cell? w ⟨cb, 0, none⟩ hb
  have hrem : ((i : Int)).tmod (c.length : Int) = m := by rw [← Int.ofNat_tmod, hm]
  have hc0 : (c.length : Int) ≠ 0 := by omega
  clear hm hx h
  go_enter Try.func71, Try.ntmps71
  go_wp2_with fail
  refine wp_region_drew_tail 7 (by kernel_rfl) (by kernel_rfl) ?_
  simp only [List.take_succ_cons, List.take_zero, List.drop_succ_cons, List.drop_zero]
  repeat (go_big_quiet_step (fail))
  refine wpQuiet_nil ?_
  rintro _ ⟨nq, rfl⟩
  go_wp2
  refine bodyPost_ret (v := .agg #[.int .i64 x, .int .i64 y]) ?_ rfl ⟨rfl, Bel.below ?_⟩
  · simp [results, Try.results71, go_sem, *]
  · repeat (first | with_reducible exact bel_refl | with_reducible apply bel_alloc | with_reducible apply bel_drewN | with_reducible apply bel_drew | (with_reducible refine bel_set ?_ ?_; rotate_left; · first | (simp; done) | (simp; omega) | omega) | with_reducible refine bel_call (by assumption) ?_)
end Go.Proofs.Ytnmnehgcliiofaa
