/-
  Layer 25: keys and masks compared; what is got is what was put last: the plain law.
-/
import Derived.Test.YtakgeeopfclmoaaLrW
import Derived.Test.YtakgeeopfclmoaaStr
import Derived.Test.YtakgeeopfclmoaaEqB
namespace Go.Proofs.Ytakgeeopfclmoaa
open Go.RowKit Go.Maps

set_option maxHeartbeats 1000000 in
theorem eqIn_key (w : World) (k : Nat) (a b c d a' b' c' d' : Int) : (Op.equalIn (k + 2) 24 (.agg #[.int .i64 a, .int .i64 b, .int .i64 c, .int .i64 d]) (.agg #[.int .i64 a', .int .i64 b', .int .i64 c', .int .i64 d'])).run Try.prog w = .ok (eq4 a b c d a' b' c' d') w := by
  unfold eq4
  by_cases h1 : a = a'
  · by_cases h2 : b = b'
    · by_cases h3 : c = c'
      · by_cases h4 : d = d' <;> simp [go_sem, h1, h2, h3, h4]
      · simp [go_sem, h1, h2, h3]
    · simp [go_sem, h1, h2]
  · simp [go_sem, h1]
@[go_sem ↓] theorem eql_key (w : World) (a b c d a' b' c' d' : Int) : (binOp .eql 24 (.agg #[.int .i64 a, .int .i64 b, .int .i64 c, .int .i64 d]) (.agg #[.int .i64 a', .int .i64 b', .int .i64 c', .int .i64 d'])).run Try.prog w = .ok (.bool (eq4 a b c d a' b' c' d')) w := by
  simp only [binOp]
  simp [Op.equal, Op.maxDepth, eqIn_key w 9998]
@[go_sem ↓] theorem neq_key (w : World) (a b c d a' b' c' d' : Int) : (binOp .neq 24 (.agg #[.int .i64 a, .int .i64 b, .int .i64 c, .int .i64 d]) (.agg #[.int .i64 a', .int .i64 b', .int .i64 c', .int .i64 d'])).run Try.prog w = .ok (.bool (!eq4 a b c d a' b' c' d')) w := by
  simp only [binOp]
  simp [Op.equal, Op.maxDepth, eqIn_key w 9998]
def keyEq (a b : K4) : Bool := eq4 a.g a.p a.x a.y b.g b.p b.x b.y
theorem keyEq_true {a b : K4} : keyEq a b = true ↔ a = b := by
  unfold keyEq
  rw [eq4_true]
  cases a; cases b
  simp
theorem keyEq_false {a b : K4} (h : a ≠ b) : keyEq a b = false := by
  rcases Bool.eq_false_or_eq_true (keyEq a b) with h1 | h1
  · exact absurd (keyEq_true.1 h1) h
  · exact h1
def boxEq (a b : Bq) : Bool := eq4 a.a a.b a.c a.d b.a b.b b.c b.d
theorem boxEq_true {a b : Bq} : boxEq a b = true ↔ a = b := by
  unfold boxEq
  rw [eq4_true]
  cases a; cases b
  simp
set_option maxRecDepth 20000 in
set_option maxHeartbeats 2000000 in
theorem same_any (w : World) (a b : Ms) (A A' : Option Addr) (c c' : Nat) (ha : Bw w A a.bs c) (hb : Bw w A' b.bs c') :
    Calls Try.prog 15 #[.agg #[.int .i64 a.box.a, .int .i64 a.box.b, .int .i64 a.box.c, .int .i64 a.box.d, .slice A a.bs.length c], .agg #[.int .i64 b.box.a, .int .i64 b.box.b, .int .i64 b.box.c, .int .i64 b.box.d, .slice A' b.bs.length c']] w
      fun e w' => e = .returned (.bool (decide (a = b))) ∧ Below w.heap.size w w' := by
  have hW : Below w.heap.size w ((w.alloc (.cells #[.int .i64 a.box.a, .int .i64 a.box.b, .int .i64 a.box.c, .int .i64 a.box.d, .slice A a.bs.length c] 35)).alloc (.cells #[.int .i64 b.box.a, .int .i64 b.box.b, .int .i64 b.box.c, .int .i64 b.box.d, .slice A' b.bs.length c'] 35)) := (bel_alloc (bel_alloc bel_refl)).below
  have k1 := run_str (P := Try.prog) (ha.sl.keep hW) Try.underlying33 Try.underlying5 Try.underlying9 c
  have k2 := run_str (P := Try.prog) (hb.sl.keep hW) Try.underlying33 Try.underlying5 Try.underlying9 c'
  have hbox : eq4 a.box.a a.box.b a.box.c a.box.d b.box.a b.box.b b.box.c b.box.d = decide (a.box = b.box) := by
    show boxEq a.box b.box = _
    rw [Bool.eq_iff_iff, boxEq_true, decide_eq_true_eq]
  have hab : (a = b) ↔ a.box = b.box ∧ a.bs = b.bs := by cases a; cases b; simp
  clear hW ha hb
  by_cases h1 : a.box = b.box
  · rw [decide_eq_true h1] at hbox
    by_cases h2 : a.bs = b.bs
    · have HA := Lib.hid (show a = b from hab.2 ⟨h1, h2⟩)
      clear hab h1
      have h3 : strB a.bs = strB b.bs := by rw [h2]
      have H2 := Lib.hid h2
      clear h2
      go_enter Try.func15, Try.ntmps15
      go_wp2_with fail
      go_ret
      refine ⟨by rw [decide_eq_true HA.out]; rfl, Bel.below ?_⟩
      repeat (first | with_reducible exact bel_refl | with_reducible apply bel_alloc | with_reducible apply bel_drewN | with_reducible apply bel_drew | (with_reducible refine bel_set ?_ ?_; rotate_left; · first | (simp; done) | (simp; omega) | omega) | with_reducible refine bel_call (by assumption) ?_)
    · have HA := Lib.hid (show ¬ a = b from fun e => h2 (hab.1 e).2)
      have h3 : strB a.bs ≠ strB b.bs := fun e => h2 (strB_inj e)
      have H2 := Lib.hid h2
      clear hab h1 h2
      go_enter Try.func15, Try.ntmps15
      go_wp2_with fail
      go_ret
      refine ⟨by rw [decide_eq_false HA.out]; first | rfl | (simp; exact H2.out), Bel.below ?_⟩
      repeat (first | with_reducible exact bel_refl | with_reducible apply bel_alloc | with_reducible apply bel_drewN | with_reducible apply bel_drew | (with_reducible refine bel_set ?_ ?_; rotate_left; · first | (simp; done) | (simp; omega) | omega) | with_reducible refine bel_call (by assumption) ?_)
  · rw [decide_eq_false h1] at hbox
    have HA := Lib.hid (show ¬ a = b from fun e => h1 (hab.1 e).1)
    clear hab h1
    go_enter Try.func15, Try.ntmps15
    go_wp2_with fail
    go_ret
    refine ⟨by rw [decide_eq_false HA.out]; rfl, Bel.below ?_⟩
    repeat (first | with_reducible exact bel_refl | with_reducible apply bel_alloc | with_reducible apply bel_drewN | with_reducible apply bel_drew | (with_reducible refine bel_set ?_ ?_; rotate_left; · first | (simp; done) | (simp; omega) | omega) | with_reducible refine bel_call (by assumption) ?_)

/-! ### What is found behind a call -/
theorem LruS.nodup {w : World} {g : Nat} {B : Bz} {budget : Int} {L : List En} (h : LruS w g B budget L) : (L.map (·.1)).Nodup := by
  obtain ⟨_, _, _, _, _, ok⟩ := h.h
  exact ok.keys
theorem shrinkL_pre (budget : Int) (L : List En) : ∃ M, L = shrinkL budget L ++ M := by
  induction L using snoc_ind with
  | h0 => exact ⟨[], by rw [shrinkL]; simp⟩
  | h1 L e ih =>
    rcases Int.lt_or_le budget (heldL (L ++ [e])) with h | h
    · rw [shrinkL_snoc h]
      obtain ⟨M, hM⟩ := ih
      exact ⟨M ++ [e], by rw [← List.append_assoc, ← hM]⟩
    · rw [shrinkL_fit h]
      exact ⟨[], by simp⟩
theorem findL_cons (k : K4) (e : En) (L : List En) : findL k (e :: L) = if e.1 = k then some e else findL k L := by
  unfold findL
  rw [List.find?_cons]
  by_cases h : e.1 = k <;> simp [h]
theorem findL_pre {k : K4} {L M : List En} {e : En} (h : findL k L = some e) : findL k (L ++ M) = some e := by
  unfold findL at *
  rw [List.find?_append, h]; rfl
theorem findL_shrink {budget : Int} {k : K4} {L : List En} {e : En} (h : findL k (shrinkL budget L) = some e) : findL k L = some e := by
  obtain ⟨M, hM⟩ := shrinkL_pre budget L
  rw [hM]
  exact findL_pre h
theorem findL_drop_ne {k k' : K4} (hne : k' ≠ k) : ∀ (L : List En), findL k (dropL k' L) = findL k L
  | [] => by simp [dropL]
  | e :: L => by
    by_cases h : e.1 = k'
    · have h1 : dropL k' (e :: L) = L := by simp [dropL, h]
      rw [h1, findL_cons, if_neg (by rw [h]; exact hne)]
    · have h1 : dropL k' (e :: L) = e :: dropL k' L := by simp [dropL, h]
      rw [h1, findL_cons, findL_cons, findL_drop_ne hne L]
theorem findL_drop_eq {k : K4} {L : List En} (hnd : (L.map (·.1)).Nodup) : findL k (dropL k L) = none := by
  induction L with
  | nil => simp [dropL, findL]
  | cons e L ih =>
    obtain ⟨h1, h2⟩ := List.nodup_cons.1 hnd
    by_cases h : e.1 = k
    · have h3 : dropL k (e :: L) = L := by simp [dropL, h]
      rw [h3]
      exact findL_none (by rw [← h]; exact h1)
    · have h3 : dropL k (e :: L) = e :: dropL k L := by simp [dropL, h]
      rw [h3, findL_cons, if_neg h, ih h2]
theorem findL_get (k k' : K4) (L : List En) : findL k (getL k' L) = findL k L := by
  unfold getL
  cases hf : findL k' L with
  | none => rfl
  | some e =>
    have he : e.1 = k' := by
      have := List.find?_some hf
      simpa using this
    show findL k (e :: dropL k' L) = findL k L
    rw [findL_cons]
    by_cases h : e.1 = k
    · rw [if_pos h, ← hf, ← he, h]
    · rw [if_neg h, findL_drop_ne (by rw [← he]; exact h)]
/-- If key k is found, it was put, and what is found is what was put last. -/
def LastI (k : K4) (L : List En) (put : Bool) (m : Ms) : Prop := ∀ e, findL k L = some e → put = true ∧ e.2 = m
theorem last_get {k k' : K4} {L : List En} {put : Bool} {m : Ms} (h : LastI k L put m) : LastI k (getL k' L) put m := fun e he => h e (by rwa [findL_get] at he)
theorem last_put_ne {k k' : K4} {L : List En} {put : Bool} {m m' : Ms} {budget : Int} (h : LastI k L put m) (hne : k' ≠ k) : LastI k (putM budget k' m' L) put m := fun e he => by
  refine h e ?_
  unfold putM putL at he
  split at he
  · split at he
    · rwa [findL_drop_ne hne] at he
    · have := findL_shrink he
      rwa [findL_cons, if_neg hne, findL_drop_ne hne] at this
  · exact he
theorem last_put_eq {k : K4} {L : List En} {m' : Ms} {budget : Int} (hnd : (L.map (·.1)).Nodup) (hm : maskM m' = 0) : LastI k (putM budget k m' L) (okP budget m') m' := fun e he => by
  unfold putM putL at he
  rw [if_pos hm] at he
  unfold okP
  rw [decide_eq_true hm]
  split at he
  · rw [findL_drop_eq hnd] at he
    cases he
  · rename_i hc
    have := findL_shrink he
    rw [findL_cons, if_pos rfl] at this
    injection this with this
    subst this
    exact ⟨by simp [hc], rfl⟩
end Go.Proofs.Ytakgeeopfclmoaa
