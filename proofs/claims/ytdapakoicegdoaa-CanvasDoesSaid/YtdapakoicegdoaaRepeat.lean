/-
  slices.Repeat of one byte; a slice of bytes that is made.
-/
import Derived.Test.YtdapakoicegdoaaMul64
import Derived.Test.YtdapakoicegdoaaBs
import Derived.Test.YtdapakoicegdoaaSliceAt
import Derived.Deep.OwnRows
import Derived.Laws.CopyOwn
namespace Go.Proofs.Ytdapakoicegdoaa
open Go.RowKit

theorem mk_bytes (n : Nat) (h : n ≤ 140737488355328) (w : World) : (Instr.makeSlice 24 (.int .i64 n) (.int .i64 n)).run Try.prog w =
    .ok (.slice (some ⟨w.heap.size, 0, none⟩) n n) (w.alloc (.cells (List.replicate n (Value.int .u8 0)).toArray 5)) := by
  rw [run_make_row' 24 5 (.int .u8 0) 1 Try.underlying24 u8_info rfl .i64 .i64 n (by omega) (by omega) w]
  congr 3
  apply Array.ext
  · simp [madeCells]
  · intro i h1 h2
    simp [madeCells, Nat.mod_one]

/-- A guard: the operation that writes slot n. -/
theorem mark_op {P : Program} {ops : Array Oper} {rest : List Oper} {Q : Exit → Act → World → Prop} {a : Act} {w : World} {op : Op} {t : TypeId} {p : String} {af : Array Edge} {g : Option (Nat × Bool)} (n : Nat) (h : wpList P ops Q (⟨some n, op, t, p, af, g⟩ :: rest) a w) :
    wpList P ops Q (⟨some n, op, t, p, af, g⟩ :: rest) a w := h

theorem mark_step {P : Program} {ops : Array Oper} {K : Act → World → Prop} {Q : Exit → Act → World → Prop} {E : Prop} {a : Act} {w : World} {op : Op} {t : TypeId} {p : String} {af : Array Edge} {g : Option (Nat × Bool)} (n : Nat)
    (h : if Region.wanted ⟨some n, op, t, p, af, g⟩ (yielded ops a.tmps) = true then Oper.wp P ⟨some n, op, t, p, af, g⟩ a w K Q else E) : if Region.wanted ⟨some n, op, t, p, af, g⟩ (yielded ops a.tmps) = true then Oper.wp P ⟨some n, op, t, p, af, g⟩ a w K Q else E := h

/-! ### copy, into a block that is known whole -/
theorem goInt_nat (n : Nat) : goInt n = .int .i64 n := rfl
section
variable {w : World} {ops : Array Oper} {o : Oper} {a : Act} {Q : Exit → Act → World → Prop} {A As : Option Addr} {dl dc sl sc g off : Nat} {cur : List Value}
theorem turn_setRow (w : World) (g : Nat) (cs : Array Value) : Turn w (w.setRow g cs) g none := ⟨rfl, rfl, rfl, by simp [World.setRow], fun k _ hk _ => setRow_other w g k cs hk⟩
theorem run_copy_blk (ty : TypeId) (hB : Blk w g 5 cur) (off : Nat) (cs : List Value) (hn : cs.length = min sl dl) (hA : 0 < cs.length → A = some ⟨g, off, none⟩)
    (hsrc : ∀ j, j < cs.length → ∃ b o, As = some ⟨b, o, none⟩ ∧ w.cell? ⟨b, o + j, none⟩ = cs[j]?) (hfit : off + cs.length ≤ cur.length) (h1 : ∀ v ∈ cs, v.oneCell' = true) :
    ∃ w', (Builtin.copy_ #[24, 24] ty #[.slice A dl dc, .slice As sl sc]).run Try.prog w = .ok (.int .i64 cs.length) w' ∧ Blk w' g 5 (splice cur off cs) ∧ Turn w w' g none := by
  by_cases h0 : cs.length = 0
  · obtain rfl : cs = [] := List.eq_nil_of_length_eq_zero h0
    exact ⟨w, run_copy_none (P := Try.prog) w 24 24 ty 5 A As dl dc sl sc Try.underlying24 (by kernel_rfl) hn.symm, by simpa [splice] using hB, Turn.refl _ _ _⟩
  · obtain rfl := hA (by omega)
    obtain ⟨b, o', rfl, _⟩ := hsrc 0 (by omega)
    refine ⟨_, run_copy_row (P := Try.prog) w 24 24 ty 5 g off dl dc ⟨b, o', none⟩ sl sc cur.toArray 5 cs Try.underlying24 (by kernel_rfl) hB hn ?_ (by simpa using hfit) h1, ?_, turn_setRow _ _ _⟩
    rotate_left
    · exact (setRow_heap w g _ _ _ _ hB).trans (by simp [splice])
    intro j v hj
    obtain ⟨b', o'', he, hc⟩ := hsrc j (List.getElem?_eq_some_iff.1 hj).1
    injection he with he
    injection he with e1 e2
    subst e1 e2
    rw [← hj, ← hc, Addr.add_lit]
theorem wpList_copy_blk {rest : List Oper} (hgd : o.guard = none) (d s : Operand) (ho : o.op = .call { callee := .builtin .copy, args := #[d, s], argTypes := #[24, 24] })
    (hd : a.eval d = .slice A dl dc) (hs : a.eval s = .slice As sl sc) (hB : Blk w g 5 cur) (off : Nat) (cs : List Value) (hn : cs.length = min sl dl) (hA : 0 < cs.length → A = some ⟨g, off, none⟩)
    (hsrc : ∀ j, j < cs.length → ∃ b o, As = some ⟨b, o, none⟩ ∧ w.cell? ⟨b, o + j, none⟩ = cs[j]?) (hfit : off + cs.length ≤ cur.length) (h1 : ∀ v ∈ cs, v.oneCell' = true)
    (k : ∀ w', Blk w' g 5 (splice cur off cs) → Turn w w' g none → wpList Try.prog ops Q rest (a.put o.dst (.int .i64 cs.length)) w') : wpList Try.prog ops Q (o :: rest) a w := by
  obtain ⟨w', hrun, hb, ht⟩ := run_copy_blk o.type hB off cs hn hA hsrc hfit h1 (dc := dc) (sc := sc)
  refine wpList_plain hgd fun K hK => ?_
  unfold Oper.wp
  simp [execOp, ho, resolve, invoke, builtin, hd, hs, hrun, Result.andThen]
  exact hK _ _ (k w' hb ht)
theorem step_copy_blk {K : Act → World → Prop} {E : Prop} (hgd : o.guard = none) (d s : Operand) (ho : o.op = .call { callee := .builtin .copy, args := #[d, s], argTypes := #[24, 24] })
    (hd : a.eval d = .slice A dl dc) (hs : a.eval s = .slice As sl sc) (hB : Blk w g 5 cur) (off : Nat) (cs : List Value) (hn : cs.length = min sl dl) (hA : 0 < cs.length → A = some ⟨g, off, none⟩)
    (hsrc : ∀ j, j < cs.length → ∃ b o, As = some ⟨b, o, none⟩ ∧ w.cell? ⟨b, o + j, none⟩ = cs[j]?) (hfit : off + cs.length ≤ cur.length) (h1 : ∀ v ∈ cs, v.oneCell' = true)
    (k : ∀ w', Blk w' g 5 (splice cur off cs) → Turn w w' g none → K (a.put o.dst (.int .i64 cs.length)) w') : if Region.wanted o (yielded ops a.tmps) = true then Oper.wp Try.prog o a w K Q else E := by
  obtain ⟨w', hrun, hb, ht⟩ := run_copy_blk o.type hB off cs hn hA hsrc hfit h1 (dc := dc) (sc := sc)
  rw [if_pos (by simp [Region.wanted, hgd])]
  unfold Oper.wp
  simp [execOp, ho, resolve, invoke, builtin, hd, hs, hrun, Result.andThen]
  exact k w' hb ht
end

def rep (V : Value) (k n : Nat) : List Value := List.replicate k V ++ List.replicate (n - k) (Value.int .u8 0)
theorem rep_length (V : Value) (k n : Nat) (h : k ≤ n) : (rep V k n).length = n := by simp [rep]; omega
theorem rep_splice (V : Value) (k m n : Nat) : splice (rep V k n) k (List.replicate m V) = rep V (k + m) n := by
  unfold splice rep
  rw [List.length_replicate, List.take_left' (by simp), ← List.replicate_append_replicate, List.append_assoc]
  congr 2
  rw [List.drop_append, List.drop_of_length_le (by simp)]
  simp
  omega
theorem rep_get (V : Value) (k n j : Nat) (h : j < k) : (rep V k n)[j]? = some V := by
  unfold rep
  rw [List.getElem?_append_left (by simpa using h)]
  simp [h]

set_option maxRecDepth 20000 in
set_option maxHeartbeats 2000000 in
theorem repeat_any (w : World) (b c0 n : Nat) (v : Int) (h1 : 1 ≤ n) (hn : n ≤ 16777216) (hc : w.cell? ⟨b, 0, none⟩ = some (.int .u8 v)) :
    Calls Try.prog 56 #[.slice (some ⟨b, 0, none⟩) 1 c0, .int .i64 n] w fun e w' => ∃ g, e = .returned (.slice (some ⟨g, 0, none⟩) n n) ∧ w.heap.size ≤ g ∧ Blk w' g 5 (List.replicate n (.int .u8 v)) ∧ Below w.heap.size w w' := by
  have KM : ∀ w, Calls Try.prog 92 #[.int .u64 1, .int .u64 n] w fun e w' => e = .returned (.tuple #[.int .u64 0, .int .u64 n]) ∧ w = w' := fun w => by
    have := bmul_any 1 n (by omega) (by omega) w
    rw [Nat.one_mul, Nat.div_eq_of_lt (by omega), Nat.mod_eq_of_lt (by omega)] at this
    exact this
  have hmk := mk_bytes n (by omega) w
  have hB0 : Blk (w.alloc (.cells (List.replicate n (Value.int .u8 0)).toArray 5)) w.heap.size 5 (rep (.int .u8 v) 0 n) := Blk.new w _ _
  have hb0 : Below w.heap.size w (w.alloc (.cells (List.replicate n (Value.int .u8 0)).toArray 5)) := (bel_alloc bel_refl).below
  generalize w.alloc (.cells (List.replicate n (Value.int .u8 0)).toArray 5) = W at hmk hB0 hb0
  have hcW : W.cell? ⟨b, 0, none⟩ = some (.int .u8 v) := by
    have hlt : b < w.heap.size := by
      rcases Nat.lt_or_ge b w.heap.size with h | h
      · exact h
      · simp [World.cell?, Array.getElem?_eq_none h] at hc
    exact (hb0.cell (p := ⟨b, 0, none⟩) hlt).trans hc
  obtain ⟨g, hg⟩ : ∃ g, w.heap.size = g := ⟨_, rfl⟩
  rw [hg] at hmk hB0 hb0 ⊢
  have HB0 := Lib.hid hB0
  have Hb0 := Lib.hid hb0
  have HC := Lib.hid hcW
  have KMH := Lib.hid KM
  have hn' : (n : Int) ≤ 16777216 := by omega
  have h1' : (1 : Int) ≤ n := by omega
  have HN := Lib.hid hn
  clear hB0 hb0 hc hg hcW KM hn h1
  go_enter Try.func56, Try.ntmps56
  go_wp2_with (first
    | (go_at_call 92; (with_reducible refine (KMH.out _).mono ?_); rintro e w1 ⟨rfl, rfl⟩)
    | ((with_reducible refine mark_op 33 ?_); refine wpList_copy_blk rfl (.tmp 31) (.tmp 32) rfl rfl rfl HB0.out 0 [.int .u8 v] ?_ ?_ ?_ ?_ ?_ ?_; (· first | omega | (simp; done) | (simp; omega)); (· intro _; rfl); (· intro j hj; simp at hj; subst hj; exact ⟨b, 0, rfl, HC.out⟩); (· rw [rep_length _ _ _ (Nat.zero_le _)]; first | omega | (simp; done) | (simp; omega)); (· intro x hx; simp at hx; subst hx; rfl); intro w2 hb2 ht2
       have HB2 := Lib.hid (rep_splice (.int .u8 v) 0 1 n ▸ hb2)
       have HT2 := Lib.hid (Hb0.out.trans (ht2.below (Nat.le_of_lt HB0.out.lt) (Nat.le_refl _) (by intro k e; cases e)))
       clear hb2 ht2))
  go_loopw [8] (fun i wr => ∃ k : Nat, 1 ≤ k ∧ k ≤ n ∧ i = .int .i64 k ∧ Hid (Blk wr g 5 (rep (.int .u8 v) k n)) ∧ Hid (Below g w wr)) (fun i _ => n - (intOf i).toNat)
  case atStart => exact ⟨1, Nat.le_refl _, by omega, rfl, HB2, HT2⟩
  case round =>
    obtain ⟨k, hk0, hk, rfl, HB, HT⟩ := hrel
    by_cases hlt : k < n
    · obtain ⟨m, hm⟩ : ∃ m, min k (n - k) = m := ⟨_, rfl⟩
      have hm1 : 1 ≤ m := by omega
      have hm2 : k + m ≤ n := by omega
      have hwm : IntKind.i64.wrap ((k : Int) + m) = (k : Int) + m := IntWalk.i64_in _ (by omega)
      have HM := Lib.hid hm
      clear hm
      have hs41 : ∀ u : World, (Instr.slice 24 (.slice (some ⟨g, 0, none⟩) n n) (some (.int .i64 (k : Int))) none none).run Try.prog u = .ok (.slice (some ⟨g, k, none⟩) (n - k) (n - k)) u := fun u => by
        rw [run_sl_lo u g 0 n n k _ rfl hk hlt, Nat.zero_add]
      have hs44 : ∀ u : World, (Instr.slice 24 (.slice (some ⟨g, 0, none⟩) n n) none (some (.int .i64 (k : Int))) none).run Try.prog u = .ok (.slice (some ⟨g, 0, none⟩) k n) u := fun u => run_sl_hi u g 0 n n k _ rfl hk
      go_wp2_with fail
      go_region_law ((with_reducible refine mark_step 45 ?_); refine step_copy_blk (A := some ⟨g, k, none⟩) (dl := n - k) (dc := n - k) (As := some ⟨g, 0, none⟩) (sl := k) (sc := n) ?_ (.tmp 41) (.tmp 44) ?_ ?_ ?_ HB.out.drew k (List.replicate m (.int .u8 v)) ?_ ?_ ?_ ?_ ?_ ?_; (· rfl); (· rfl); (· kernel_rfl); (· kernel_rfl); (· rw [List.length_replicate, HM.out]); (· intro _; rfl); (· intro j hj; rw [List.length_replicate] at hj; refine ⟨g, 0, rfl, ?_⟩; rw [Nat.zero_add, HB.out.drew.cell, rep_get _ _ _ _ (by have := HM.out; omega)]; simp [hj]); (· rw [rep_length _ _ _ hk, List.length_replicate]; omega); (· intro x hx; rw [List.mem_replicate] at hx; rw [hx.2]; rfl); intro w3 hb3 ht3; rw [List.length_replicate]; have HB3 := Lib.hid (rep_splice (.int .u8 v) k m n ▸ hb3); have HT3 := Lib.hid (HT.out.trans ((((Turn.refl wr g none).drewN 1).trans ht3 (.inl rfl)).below (Nat.le_of_lt HB.out.lt) (Nat.le_refl _) (by intro k e; cases e))); clear hb3 ht3)
      all_goals
        go_frame
        go_roundw
        case rel =>
          repeat apply Exists.intro
          exact ⟨⟨k + m, by omega, hm2, by go_num, HB3, HT3⟩, rfl⟩
        case measure => simp [intOf]; omega
    · obtain rfl : k = n := by omega
      go_wp2
      go_ret
      exact ⟨g, rfl, Nat.le_refl _, by have h := HB.out; simpa [rep] using h, HT.out⟩

end Go.Proofs.Ytdapakoicegdoaa
