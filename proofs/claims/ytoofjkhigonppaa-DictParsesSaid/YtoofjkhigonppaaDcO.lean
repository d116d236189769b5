/-
  Layer 15: the last entry with an operator: the walk backwards.
-/
import Derived.Test.YtoofjkhigonppaaDcN
import Derived.Test.YtoofjkhigonppaaKeepX
namespace Go.Proofs.Ytoofjkhigonppaa
open Go.RowKit Go.Shelf

set_option maxRecDepth 20000 in
@[go_sem] theorem eqlI_nil (A : Option Addr) (l c : Nat) (w : World) : (binOp .eql 37 (.slice A l c) (.slice none 0 0)).run Try.prog w = .ok (.bool A.isNone) w := Lib.run_eql_slice_nil w _ _ A l c 0 0 Try.underlying37

theorem own_empty_i (w : World) : (w.alloc (.cells #[] 3)).ownsRow w.heap.size 3 1 (.slice (some ⟨w.heap.size, 0, none⟩) 0 0) 0 [] :=
  World.ownsRow_made w #[] 0 (Nat.le_refl _) (by unfold maxLen; omega) rfl
theorem clone_ints {w : World} {A : Option Addr} {c : Nat} {xs : List Int} (h : SlAt w A xs.length (xs.map (Value.int .i64))) (hn : xs.length ≤ 17592186044416) :
    Calls Try.prog 37 #[.slice A xs.length c] w fun e w' => ∃ A' c', e = .returned (.slice A' xs.length c') ∧ SlAt w' A' xs.length (xs.map (Value.int .i64)) ∧ Below w.heap.size w w' ∧ (∀ k, rowOf A' = some k → w.heap.size ≤ k) := by
  cases A with
  | none =>
    have hx : xs = [] := by
      cases xs with
      | nil => rfl
      | cons x xs => obtain ⟨b, o, h, _⟩ := h.2 0 (by simp); cases h
    subst hx
    clear h
    go_enter Try.func37, Try.ntmps37
    go_wp2_with fail
    go_ret
    exact ⟨_, _, rfl, SlAt.nil _ _, Below.refl _ _, fun _ e => by cases e⟩
  | some a =>
    obtain ⟨i0, hi0, hz0, hz1, hz2⟩ := info_parts int_info
    have HR := Lib.hid ((h.keep (w' := w.alloc (.cells #[] 3)) (bel_alloc bel_refl).below).reads)
    clear h
    go_enter Try.func37, Try.ntmps37
    go_wp2_with (first
      | (at_builtin; refine wpList_append_any _ (by rfl) (.tmp 5) (.tmp 6) _ (by rfl) w.heap.size 3 i0 _ 1 8 Try.underlying37 hi0 hz0 hz1 hz2 rfl (by omega) _ 0 [] (by rfl) (own_empty_i w) _ _ _ _ _ (by rfl) HR.out (ints_one _) (by unfold maxLen; omega) (by omega) (by simp) ?_; intro v' w' hown hgrow hat)
      | fail)
    obtain ⟨A', c', rfl, hs, hge, hcap⟩ := of_ownC hown
    go_ret
    rw [Nat.zero_add, List.nil_append] at *
    refine ⟨A', c', rfl, hs, ?_, fun k hk => by cases A' with | none => cases hk | some ad => simp only [rowOf, Option.map_some, Option.some.injEq] at hk; have := hge ad rfl; omega⟩
    exact (bel_alloc bel_refl).below.trans ⟨hgrow.os, hgrow.tape, hgrow.output, hgrow.size, fun k hk => hgrow.block k (by simp; omega) (by simp [Value.ownBlock]; omega)⟩

def backV (d : Nat × En) : Array Value := #[.int .i64 d.1, .agg #[.int .i64 d.2.op, .slice d.2.A d.2.xs.length d.2.c]]
theorem backward_any (w : World) (A : Option Addr) (n c : Nat) : Calls Try.prog 36 #[.slice A n c] w fun e w' => e = .returned (.func (.func 51) #[] #[.pointer (some ⟨w.heap.size, 0, none⟩)]) ∧ w.alloc (.cells #[.slice A n c] 24) = w' := by
  go_enter Try.func36, Try.ntmps36
  go_wp2
  go_ret
  exact ⟨rfl, rfl⟩
theorem AbidesFrom.below {β : Type} {B : Nat} {J : β → World → Prop} (h : AbidesFrom B J) {s : β} {W W' : World} (hs : J s W) (hb : Below W.heap.size W W') : J s W' :=
  h s W W' none hs ⟨hb.os, hb.tape, hb.output, hb.size, fun k hk _ => hb.block k hk⟩ (fun r e => by cases e)
theorem drop_last {α : Type} {l : List α} {k : Nat} {x : α} (h : l[k]? = some x) : (l.drop k).reverse = (l.drop (k + 1)).reverse ++ [x] := by
  obtain ⟨h1, h2⟩ := List.getElem?_eq_some_iff.1 h
  rw [List.drop_eq_getElem_cons h1, h2, List.reverse_cons]

attribute [local go_sem] Oper.semAt_some

set_option maxRecDepth 20000 in
set_option maxHeartbeats 2000000 in
theorem back_gives {w : World} {A : Option Addr} {c m : Nat} {es : List En} (n b : Nat) (hd : EnL w A m es) (hn : m ≤ 4398046511104) (hb : b < w.heap.size) (hc : w.cell? ⟨b, 0, none⟩ = some (.slice A m c)) :
    Gives n Try.prog 51 #[.pointer (some ⟨b, 0, none⟩)] backV (Below w.heap.size) (fun pre x _ => ∃ k, es[k]? = some x.2 ∧ pre.map Prod.snd = (es.drop (k + 1)).reverse) (fun xs => xs.map Prod.snd = es.reverse) (fun _ => True) w := by
  intro l J Jx W hW hJ hJx hY h0
  have hc' : W.cell? ⟨b, 0, none⟩ = some (.slice A m c) := (hW.cell (p := ⟨b, 0, none⟩) hb).trans hc
  have HJ : Hid (∀ pre A B, J pre A → Below A.heap.size A B → J pre B) := Lib.hid fun pre A B h hb => (AbidesFrom.below hJ h hb)
  have hlen : es.length = m := by have := hd.rows.len; simpa using this
  have HD := Lib.hid hd
  have HW := Lib.hid hW
  have HY := Lib.hid hY
  have H0 := Lib.hid h0
  have HC := Lib.hid hc
  clear hd hc hJ hJx hW hY h0
  refine callsIn_of_wp Try.func51 rfl trivial ?_ rfl
  simp only [Try.ntmps51, List.size_toArray, List.length_cons, List.length_nil, Nat.reduceAdd, Nat.reduceSub, Array.replicate_succ, Array.replicate_zero, List.push_toArray, List.append_toArray, List.nil_append, List.cons_append]
  gi_wp2
  clear hc'
  gi_loopw [3] (fun i wr => ∃ (k : Nat) (pre : List (Nat × En)), k ≤ m ∧ i = .int .i64 ((k : Int) - 1) ∧ Hid (pre.map Prod.snd = (es.drop k).reverse) ∧ Hid (J pre wr) ∧ Hid (Below w.heap.size w wr)) (fun i _ => (intOf i + 1).toNat)
  case atStart => exact ⟨m, [], Nat.le_refl _, by go_num, Lib.hid (by rw [← hlen, List.drop_length]; rfl), H0, HW⟩
  case round =>
    obtain ⟨k, pre, hk, rfl, HP, HJ1, HB⟩ := hrel
    have hcr : wr.cell? ⟨b, 0, none⟩ = some (.slice A m c) := (HB.out.cell (p := ⟨b, 0, none⟩) hb).trans HC.out
    rcases Nat.eq_zero_or_pos k with rfl | h0
    · have hxs := HP.out
      rw [List.drop_zero] at hxs
      have HX := Lib.hid hxs
      clear hxs
      rw [show ((0 : Nat) : Int) - 1 = -1 by omega]
      gi_wp2
      with_reducible refine bodyPost_end (v := .tuple #[]) (by simp [results, Try.results51]) rfl ?_
      exact ⟨⟨_, rfl⟩, .inl ⟨_, HX.out, HJ1.out⟩⟩
    · obtain ⟨k, rfl⟩ : ∃ k', k = k' + 1 := ⟨k - 1, by omega⟩
      rw [show ((k + 1 : Nat) : Int) - 1 = (k : Int) by omega]
      obtain ⟨v, hv⟩ := get_some' (l := es) (k := k) (by omega)
      obtain ⟨b1, o1, rfl, hb1, q0, q1⟩ := (HD.out.keep HB.out).at_ hv
      obtain ⟨fn, tmps, assign, body, hy, hR⟩ := HY.out pre (k, v) wr HJ1.out ⟨k, hv, HP.out⟩
      have HR := Lib.hid hR
      have HV := Lib.hid hv
      dsimp only [backV] at hy
      clear hv hR
      gi_wp2
      refine ⟨fun he => (by cases he), HR.out.mono ?_⟩
      rintro e W4 (⟨rfl, hJ4, hk4⟩ | ⟨rfl, hJx4⟩)
      · have HJ4 := Lib.hid hJ4
        have HB4 := Lib.hid (HB.out.trans hk4)
        clear hJ4 hk4
        gi_wp2
        go_roundw
        case rel => exact ⟨k, pre ++ [(k, v)], by omega, by go_num, Lib.hid (by rw [List.map_append, HP.out, drop_last HV.out]; rfl), HJ4, HB4⟩
        case measure => simp [intOf]
      · have HJ4 := Lib.hid hJx4
        clear hJx4
        gi_wp2
        refine bodyPost_ret (results_none rfl _ _ _) rfl ?_
        exact ⟨⟨_, rfl⟩, .inr ⟨_, trivial, HJ4.out⟩⟩
end Go.Proofs.Ytoofjkhigonppaa
