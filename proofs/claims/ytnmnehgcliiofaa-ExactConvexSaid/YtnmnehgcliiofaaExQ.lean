/-
  An append of a line within a round; what the rounds of Tally hold.
-/
import Derived.Test.YtnmnehgcliiofaaExN
import Derived.Test.YtnmnehgcliiofaaExO
import Derived.Test.YtnmnehgcliiofaaExK
import Derived.Test.YtnmnehgcliiofaaExP
namespace Go.Proofs.Ytnmnehgcliiofaa
open Go.RowKit Go.Shelf

section
variable {P : Program} {n : Nat} {F : Fence}
theorem wpListIn_of_run {ops : Array Oper} {rest : List Oper} {o : Oper} {a : Act} {w w' : World} {Q : Exit → Act → World → Prop} (hF : Free F P) (hd : noDefer o = true) (hg : o.guard = none) (v : Value) (h : (execOp a.eval o).run P w = .ok (.value v) w')
    (hk : wpListIn F n P ops Q rest (a.put o.dst v) w') : wpListIn F n P ops Q (o :: rest) a w := by
  have hw : Region.wanted o (yielded ops a.tmps) = true := by simp [Region.wanted, hg]
  unfold wpListIn
  rw [if_pos hw]
  refine ⟨fun f _ => hF.1 f, ?_⟩
  rw [Oper.semAt_plain _ _ _ (noDefer_ne hd), h]
  exact hk
end
section
variable {B : Nat} {w w' : World} {A : Option Addr} {L c : Nat} {l : List Sg} {F : Fence} {n : Nat}
theorem wpListIn_append_sg {ops : Array Oper} {rest : List Oper} {o : Oper} {a : Act} {Q : Exit → Act → World → Prop} (hF : Free F Try.prog) (hgd : o.guard = none) (s x : Operand)
    (ho : o.op = .call { callee := .builtin .append, args := #[s, x], argTypes := #[96, 96] }) (hs : a.eval s = .slice A L c) (h : OwS B w A L c l)
    (A2 : Option Addr) (c2 : Nat) (hx : a.eval x = .slice A2 1 c2) (sg : Sg) (hr : Reads w w.heap.size 4 A2 1 (sgC sg)) (hb : L ≤ 1000000)
    (k : ∀ A' c' w', OwS B w' A' (L + 1) c' (l ++ [sg]) → w.grownBy w' (Value.slice A L c).ownBlock → wpListIn F n Try.prog ops Q rest (a.put o.dst (.slice A' (L + 1) c')) w') : wpListIn F n Try.prog ops Q (o :: rest) a w := by
  obtain ⟨i0, z0, hi0, hz0, hz1, hz2, hz3⟩ := sg_parts
  obtain ⟨v', w', hrun, h2, h3, h4⟩ := run_append_any (P := Try.prog) w B 96 o.type 100 i0 z0 4 32 Try.underlying96 hi0 hz0 hz1 hz2 hz3 (by omega) (.slice A L c) L (l.map sgC).flatten h.own w.heap.size A2 1 c2 (sgC sg) hr (by simpa using sgC_one [sg]) (by unfold maxLen; omega) (by omega) h.le
  obtain ⟨A', c', rfl, h'⟩ := h.appended h2 h3
  refine wpListIn_of_run hF (by unfold noDefer; rw [ho]) hgd (.slice A' (L + 1) c') (w' := w') ?_ (k A' c' w' h' h3)
  unfold execOp
  simp only [ho, resolve, invoke, builtin, Sem.run_bind, Sem.run_pure, Result.andThen_ok, List.map_toArray, List.map_cons, List.map_nil, hs, hx, hrun]
end

/-- What the rounds over the lines hold: the lines gone by, in a cell. -/
def NearI (nb N0 : Nat) (w0 : World) (ls : List (List Dt)) (pre : List Sg) (W : World) : Prop :=
  ∃ A c, CellIs nb (.slice A pre.length c) W ∧ OwS N0 W A pre.length c pre ∧ KeepX N0 nb w0 W ∧ pre <+: segs ls
theorem ows_kept {B : Nat} {W W' : World} {A : Option Addr} {L c : Nat} {l : List Sg} {row : Option Nat} (h : OwS B W A L c l) (hg : W.grownBy W' row) (hr : ∀ r, row = some r → ∃ o : Obj, W.heap[r]? = some o ∧ o.isCells = false) : OwS B W' A L c l :=
  h.stay hg.size fun k hk => hg.block k (h.row k hk).2 (fun e => by
    obtain ⟨_, ⟨h1, _⟩ | ⟨g, cap, cur, h1, _, h3, _⟩⟩ := h.own
    · injection h1 with e1 e2 e3
      rw [e1] at hk
      cases hk
    · injection h1 with e1 e2 e3
      rw [e1] at hk
      injection hk with hk
      obtain ⟨o, ho, hc⟩ := hr k e.symm
      rw [← hk] at ho
      rw [h3] at ho
      injection ho with ho
      rw [← ho] at hc
      cases hc)
theorem ows_own {B : Nat} {W : World} {A : Option Addr} {L c : Nat} {l : List Sg} (h : OwS B W A L c l) {k : Nat} (hk : (Value.slice A L c).ownBlock = some k) : B ≤ k ∧ ∃ o : Obj, W.heap[k]? = some o ∧ o.isCells = true := by
  refine ⟨(own_lt h.own k hk).1, ?_⟩
  obtain ⟨_, ⟨h1, _⟩ | ⟨g, cap, cur, h1, _, h3, _⟩⟩ := h.own
  · rw [h1] at hk
    cases hk
  · rw [h1] at hk
    simp only [Value.ownBlock, Option.some.injEq] at hk
    subst hk
    exact ⟨_, h3, rfl⟩
theorem ows_others {B : Nat} {W W' : World} {A : Option Addr} {L c : Nat} {l : List Sg} (h : OwS B W A L c l) (hg : W.grownBy W' (Value.slice A L c).ownBlock) : KeepsOthers W W' :=
  ⟨hg.size, fun k o ho hc => (hg.block k (Array.getElem?_eq_some_iff.1 ho).1 (fun e => by
    obtain ⟨_, o', ho', hc'⟩ := ows_own h e.symm
    rw [ho] at ho'
    injection ho' with ho'
    rw [ho', hc'] at hc
    cases hc)).trans ho⟩
theorem ows_keepX {B nb : Nat} {W W' : World} {A : Option Addr} {L c : Nat} {l : List Sg} (h : OwS B W A L c l) (hg : W.grownBy W' (Value.slice A L c).ownBlock) : KeepX B nb W W' :=
  ⟨hg.os, hg.tape, hg.output, hg.size, fun k hk _ => hg.block k (by have := h.le; omega) (fun e => by have := (ows_own h e.symm).1; omega)⟩
theorem ows_cell {B b : Nat} {v : Value} {W W' : World} {A : Option Addr} {L c : Nat} {l : List Sg} (hc : CellIs b v W) (h : OwS B W A L c l) (hg : W.grownBy W' (Value.slice A L c).ownBlock) (hb : b < B) : CellIs b v W' :=
  hc.keepX (ows_keepX (nb := b + 1) h hg) hb (by omega)
theorem nearI_own {nb N0 B : Nat} {w0 : World} {ls : List (List Dt)} (h1 : N0 ≤ w0.heap.size) (h2 : N0 ≤ B) : OwnFrom B (NearI nb N0 w0 ls) := by
  rintro pre W W' row ⟨A, c, hc, ho, hk, hp⟩ hg hr
  exact ⟨A, c, cellIs_own nb (fun _ : Unit => .slice A pre.length c) () W W' row hc hg (fun r e => (hr r e).2), ows_kept ho hg (fun r e => (hr r e).2), ownFrom_keepX (β := Unit) h1 h2 () W W' row hk hg hr, hp⟩


/-- What a square adds to a tally, the lines nearby being T. -/
def tyStep (L T : List Sg) (t : Ty) (p : Int × Int) : Ty :=
  if 0 < (touchL p.1 p.2 (p.1 + 4) (p.2 + 4) T).length then { t with touched := t.touched + 1 } else t.square (windN (p.1 + 2) (p.2 + 2) L)
def tyFold (L T : List Sg) (pre : List (Int × Int)) : Ty := pre.foldl (tyStep L T) ⟨0, 0, 0, 0, T.length, false⟩
theorem tyFold_snoc (L T : List Sg) (pre : List (Int × Int)) (p : Int × Int) : tyFold L T (pre ++ [p]) = tyStep L T (tyFold L T pre) p := by simp [tyFold]
theorem tyFold_bd (L T : List Sg) (pre : List (Int × Int)) : (0 ≤ (tyFold L T pre).touched ∧ (tyFold L T pre).touched ≤ pre.length) ∧ (0 ≤ (tyFold L T pre).inside ∧ (tyFold L T pre).inside ≤ pre.length) := by
  suffices h : ∀ (l : List (Int × Int)) (t : Ty) (n : Nat), (0 ≤ t.touched ∧ t.touched ≤ n) ∧ (0 ≤ t.inside ∧ t.inside ≤ n) → (0 ≤ (l.foldl (tyStep L T) t).touched ∧ (l.foldl (tyStep L T) t).touched ≤ (n + l.length : Nat)) ∧ (0 ≤ (l.foldl (tyStep L T) t).inside ∧ (l.foldl (tyStep L T) t).inside ≤ (n + l.length : Nat)) by
    have := h pre ⟨0, 0, 0, 0, T.length, false⟩ 0 (by simp)
    simpa [tyFold] using this
  intro l
  induction l with
  | nil => intro t n h; simpa using h
  | cons p l ih =>
    intro t n h
    have h2 : (0 ≤ (tyStep L T t p).touched ∧ (tyStep L T t p).touched ≤ (n + 1 : Nat)) ∧ (0 ≤ (tyStep L T t p).inside ∧ (tyStep L T t p).inside ≤ (n + 1 : Nat)) := by
      unfold tyStep Ty.square
      split
      · dsimp only; omega
      · dsimp only; split <;> omega
    have := ih _ _ h2
    rw [List.foldl_cons, List.length_cons]
    omega
theorem sqs_mem {x y : Int} {p : Int × Int} (h : p ∈ sqs x y) : (64 * x ≤ p.1 ∧ p.1 ≤ 64 * x + 60) ∧ (64 * y ≤ p.2 ∧ p.2 ≤ 64 * y + 60) := by
  obtain ⟨r, hr, hp⟩ := List.mem_flatten.1 h
  obtain ⟨j, hj, rfl⟩ := List.mem_map.1 hr
  obtain ⟨i, hi, rfl⟩ := List.mem_map.1 hp
  have := List.mem_range.1 hj
  have := List.mem_range.1 hi
  dsimp only
  omega
theorem sqs_len (x y : Int) : (sqs x y).length = 256 := by
  unfold sqs sqRows
  rw [List.length_flatten, List.map_map, show List.length ∘ sqRow x y = fun _ => 16 from by funext j; simp [sqRow]]
  rfl
/-- What the rounds over the squares hold. -/
def TyI (q N0 : Nat) (w0 : World) (x y : Int) (L T : List Sg) (pre : List (Int × Int)) (W : World) : Prop :=
  pre <+: sqs x y ∧ Blk W q 104 (tyFold L T pre).cells ∧ KeepX N0 q w0 W
theorem tyI_own {q N0 B : Nat} {w0 : World} {x y : Int} {L T : List Sg} (h1 : N0 ≤ w0.heap.size) (h2 : N0 ≤ B) : OwnFrom B (TyI q N0 w0 x y L T) :=
  OwnFrom.and (ownFrom_pure _ _) (OwnFrom.and (Own.from (blk_own q 104 (fun pre : List (Int × Int) => (tyFold L T pre).cells)) _) (ownFrom_keepX h1 h2))
theorem KeepX.of_turn {n0 nb : Nat} {A B : World} (h : Turn A B nb none) (hn : n0 ≤ A.heap.size) : KeepX n0 nb A B :=
  ⟨h.os, h.tape, h.output, h.size, fun k hk hne => h.block k (by omega) hne (fun e => by cases e)⟩
theorem turn_others {A B : World} {nb : Nat} {t : TypeId} {cs cs' : List Value} (h : Turn A B nb none) (hb : Blk A nb t cs) (_ : Blk B nb t cs') : KeepsOthers A B :=
  ⟨h.size, fun k o ho hc => by
    by_cases hk : k = nb
    · subst hk
      rw [show A.heap[k]? = _ from hb] at ho
      injection ho with ho
      rw [← ho] at hc
      cases hc
    · exact (h.block k (Array.getElem?_eq_some_iff.1 ho).1 hk (fun e => by cases e)).trans ho⟩

end Go.Proofs.Ytnmnehgcliiofaa
