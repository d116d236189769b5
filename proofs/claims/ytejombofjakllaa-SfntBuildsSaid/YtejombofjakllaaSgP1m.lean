/-
  For every number and every list of tables SfntBuilds answers true and leaves its arguments as they were. No conditions.
  Layer 04: the law SfntBuilds, walked.
  Layer 04: the document's Build.
  Layer 04: the document lays tables out.
  Layer 04: the document's writer.
  Layer 04: own slices of blobs.
-/
import Derived.Test.YtejombofjakllaaSfGm
import Derived.Test.YtejombofjakllaaWireG
import Derived.Deep.QuietTactic
import Derived.BigQuiet
import Derived.Deep.RegionHeld3
import Derived.Test.YtejombofjakllaaBs
namespace Go.Proofs.Ytejombofjakllaa
open Go.RowKit Go.Shelf

/-- Blobs that a call made and appends to. -/
structure OwM (B : Nat) (w : World) (A : Option Addr) (L c : Nat) (l : List Bm) : Prop where
  len : l.length = L
  own : w.ownsRow B 36 2 (.slice A L c) L (l.map bmC).flatten
  le : B ≤ w.heap.size
section
variable {B : Nat} {w w' : World} {A : Option Addr} {L c : Nat} {l : List Bm}
theorem OwM.row (h : OwM B w A L c l) : ∀ k, rowOf A = some k → B ≤ k ∧ k < w.heap.size := fun k hk => own_lt h.own k (by rw [ownBlock_slice]; exact hk)
theorem OwM.stay (h : OwM B w A L c l) (hs : w.heap.size ≤ w'.heap.size) (hk : ∀ k, rowOf A = some k → w'.heap[k]? = w.heap[k]?) : OwM B w' A L c l :=
  ⟨h.len, own_keep h.own fun k e => hk k (by rw [← ownBlock_slice]; exact e), Nat.le_trans h.le hs⟩
theorem OwM.keep (h : OwM B w A L c l) (hb : Below w.heap.size w w') : OwM B w' A L c l := h.stay hb.size fun k hk => hb.block k (h.row k hk).2
theorem OwM.nil (h : B ≤ w.heap.size) : OwM B w none 0 0 [] := ⟨rfl, World.ownsRow_nil _ _ _ _, h⟩
theorem OwM.rows (h : OwM B w A L c l) : RowsAt w A L 2 (l.map bmC) := by
  obtain ⟨A', c', e, h1, _⟩ := RowsAt.of_own h.own rfl (bmC_lens l) (by omega)
  injection e with e1 e2 e3
  subst e1
  exact h1
theorem OwM.bl (h : OwM B w A L c l) (hd : ∀ v ∈ l, SlAt w v.A v.d.length (v.d.map byteV)) (hc : ∀ v ∈ l, v.d.length ≤ v.c) (hs : ∀ v ∈ l, v.d.length ≤ 140737488355328 ∧ v.t.length ≤ 140737488355328) : BlL w A L l := ⟨h.rows, hd, hc, hs⟩
theorem OwM.appended (h : OwM B w A L c l) {v' : Value} {s : Bm} (hown : w'.ownsRow B 36 2 v' (L + 1) ((l.map bmC).flatten ++ bmC s)) (hgrow : w.grownBy w' (Value.slice A L c).ownBlock) :
    ∃ A' c', v' = .slice A' (L + 1) c' ∧ OwM B w' A' (L + 1) c' (l ++ [s]) := by
  obtain ⟨A', c', rfl, _⟩ := RowsAt.of_own (rows := (l ++ [s]).map bmC) hown (by simp) (bmC_lens _) (by omega)
  exact ⟨A', c', rfl, by simp [h.len], by simpa using hown, Nat.le_trans h.le hgrow.size⟩
/-- What an append leaves: the slice, and all blocks but its old one. -/
def ApM (B : Nat) (A : Option Addr) (L : Nat) (l : List Bm) (s : Bm) (w : World) (A' : Option Addr) (c' : Nat) (w' : World) : Prop := OwM B w' A' (L + 1) c' (l ++ [s]) ∧ w.grownBy w' (rowOf A) ∧ (rowOf A' = rowOf A ∨ rowOf A' = some w.heap.size)
theorem wpList_append_bm {ops : Array Oper} {rest : List Oper} {o : Oper} {a : Act} {Q : Exit → Act → World → Prop} (hgd : o.guard = none) (s x : Operand)
    (ho : o.op = .call { callee := .builtin .append, args := #[s, x], argTypes := #[22, 22] }) (hs : a.eval s = .slice A L c) (h : OwM B w A L c l)
    (A2 : Option Addr) (c2 : Nat) (hx : a.eval x = .slice A2 1 c2) (sg : Bm) (hr : Reads w w.heap.size 2 A2 1 (bmC sg)) (hb : L ≤ 1000000)
    (k : ∀ A' c' w', ApM B A L l sg w A' c' w' → wpList Try.prog ops Q rest (a.put o.dst (.slice A' (L + 1) c')) w') : wpList Try.prog ops Q (o :: rest) a w := by
  obtain ⟨i0, z0, hi0, hz0, hz1, hz2, hz3⟩ := bm_parts
  refine wpList_append_any w hgd s x _ ho B 36 i0 _ 2 40 Try.underlying22 hi0 hz0 hz1 hz2 hz3 (by omega) _ L (l.map bmC).flatten hs h.own w.heap.size A2 1 c2 (bmC sg) hx hr (bmC_one sg) (by unfold maxLen; omega) (by omega) h.le ?_
  intro v' w' hown hgrow hat
  obtain ⟨A', c', rfl, h'⟩ := h.appended hown hgrow
  rw [ownBlock_slice] at hat hgrow
  rw [ownBlock_slice] at hat
  exact k A' c' w' ⟨h', hgrow, hat⟩
theorem step_append_bm {ops : Array Oper} {o : Oper} {a : Act} {K : Act → World → Prop} {Q : Exit → Act → World → Prop} {E : Prop} (hgd : o.guard = none) (s x : Operand)
    (ho : o.op = .call { callee := .builtin .append, args := #[s, x], argTypes := #[22, 22] }) (hs : a.eval s = .slice A L c) (h : OwM B w A L c l)
    (A2 : Option Addr) (c2 : Nat) (hx : a.eval x = .slice A2 1 c2) (sg : Bm) (hr : Reads w w.heap.size 2 A2 1 (bmC sg)) (hb : L ≤ 1000000)
    (k : ∀ A' c' w', ApM B A L l sg w A' c' w' → K (a.put o.dst (.slice A' (L + 1) c')) w') :
    if Region.wanted o (yielded ops a.tmps) = true then Oper.wp Try.prog o a w K Q else E := by
  obtain ⟨i0, z0, hi0, hz0, hz1, hz2, hz3⟩ := bm_parts
  refine step_append_any w hgd s x _ ho B 36 i0 _ 2 40 Try.underlying22 hi0 hz0 hz1 hz2 hz3 (by omega) _ L (l.map bmC).flatten hs h.own w.heap.size A2 1 c2 (bmC sg) hx hr (bmC_one sg) (by unfold maxLen; omega) (by omega) h.le ?_
  intro v' w' hown hgrow hat
  obtain ⟨A', c', rfl, h'⟩ := h.appended hown hgrow
  rw [ownBlock_slice] at hat hgrow
  rw [ownBlock_slice] at hat
  exact k A' c' w' ⟨h', hgrow, hat⟩
theorem reads_bm (W : World) (sg : Bm) : Reads (W.alloc (.cells #[.string (strB sg.t), .slice sg.A sg.d.length sg.c] 36)) (W.alloc (.cells #[.string (strB sg.t), .slice sg.A sg.d.length sg.c] 36)).heap.size 2 (some ⟨W.heap.size, 0, none⟩) 1 (bmC sg) := by
  rw [World.size_alloc]
  exact reads_new W (bmC sg) _ 2 1 rfl
theorem ApM.below {s : Bm} {A' : Option Addr} {c' : Nat} (h : ApM B A L l s w A' c' w') (h0 : OwM B w A L c l) : Below B w w' :=
  grown_belowF h.2.1 h0.le fun k hk => (h0.row k hk).1
/-- Another own slice stays. -/
theorem ApM.other {s : Bm} {A' : Option Addr} {c' B2 : Nat} {A2 : Option Addr} {L2 c2 : Nat} {l2 : List Bm} (h : ApM B A L l s w A' c' w') (h2 : OwM B2 w A2 L2 c2 l2) (hne : ∀ k, rowOf A = some k → rowOf A2 ≠ some k) :
    OwM B2 w' A2 L2 c2 l2 ∧ ∀ k, rowOf A' = some k → rowOf A2 ≠ some k := by
  refine ⟨h2.stay h.2.1.size fun k hk => h.2.1.block k (h2.row k hk).2 (fun e => hne k e.symm hk), fun k hk e => ?_⟩
  rcases h.2.2 with he | he
  · exact hne k (by rw [← he]; exact hk) e
  · rw [he] at hk
    injection hk with hk
    have := (h2.row k e).2
    omega
end
/-! ### Orders of a list -/
def onL (l : List Bm) (k : Nat) : List Bm := l.drop (k % l.length) ++ l.take (k % l.length)
theorem onL_len (l : List Bm) (k : Nat) (h : 0 < l.length) : (onL l k).length = l.length := by
  have := Nat.mod_lt k h
  unfold onL
  rw [List.length_append, List.length_drop, List.length_take]
  omega
theorem onL_perm (l : List Bm) (k : Nat) : (onL l k).Perm l := by
  unfold onL
  exact List.perm_append_comm.trans (by rw [List.take_append_drop])
theorem onL_at (l : List Bm) (k i : Nat) (h : i < l.length) : (onL l k)[i]? = l[(i + k) % l.length]? := by
  obtain ⟨m, hm⟩ : ∃ m, k % l.length = m := ⟨_, rfl⟩
  have hml : m < l.length := by rw [← hm]; exact Nat.mod_lt k (by omega)
  have he : (i + k) % l.length = if i + m < l.length then i + m else i + m - l.length := by
    rw [Nat.add_mod, hm, Nat.mod_eq_of_lt h]
    split
    · rename_i h1
      exact Nat.mod_eq_of_lt h1
    · rename_i h1
      rw [Nat.mod_eq_sub_mod (by omega), Nat.mod_eq_of_lt (by omega)]
  rw [he]
  unfold onL
  rw [hm]
  split
  · rw [List.getElem?_append_left (by rw [List.length_drop]; omega), List.getElem?_drop, Nat.add_comm]
  · rw [List.getElem?_append_right (by rw [List.length_drop]; omega), List.length_drop, List.getElem?_take, if_pos (by omega)]
    congr 1
    omega
theorem rev_at (l : List Bm) (i : Nat) (h : i < l.length) : l.reverse[i]? = l[l.length - 1 - i]? := List.getElem?_reverse h
end Go.Proofs.Ytejombofjakllaa

namespace Go.Proofs.Ytejombofjakllaa
open Go.RowKit Go.Shelf

/-- The document's writer, made by the call; it is never full. -/
def RW (W w : World) (g : Nat) (N : List UInt8) : Prop := ∃ A c, Wr 78 w g N 1048576 false A c ∧ Below W.heap.size W w ∧ W.heap.size ≤ g ∧ (∀ k, rowOf A = some k → W.heap.size ≤ k) ∧ (N.length : Int) ≤ 1048576
section
variable {W w w' : World} {g : Nat} {N : List UInt8}
theorem RW.below (h : RW W w g N) : Below W.heap.size W w := by obtain ⟨_, _, _, h, _⟩ := h; exact h
theorem RW.aft (h : RW W w g N) : Aft W w := h.below
theorem RW.lt (h : RW W w g N) : g < w.heap.size := by obtain ⟨_, _, h, _⟩ := h; exact h.blk.lt
theorem RW.keep (h : RW W w g N) (hb : Below w.heap.size w w') : RW W w' g N := by
  have hz := h.below.size
  obtain ⟨A, c, h1, h2, h3, h4, h5⟩ := h
  exact ⟨A, c, h1.keep hb, h2.trans (hb.mono hz), h3, h4, h5⟩
theorem RW.new (W : World) : RW W (W.alloc (.cells #[.slice none 0 0, .int .i64 1048576, .bool false] 78)) W.heap.size [] :=
  ⟨none, 0, ⟨heap_alloc_new W _, World.ownsRow_nil _ _ _ _, by intro e; cases e⟩, (bel_alloc bel_refl).below, Nat.le_refl _, fun k e => (by cases e), by decide⟩
theorem RW.next {M : List UInt8} {A A' : Option Addr} {c' : Nat} (h3 : Below W.heap.size W w) (h4 : W.heap.size ≤ g) (h5 : ∀ k, rowOf A = some k → W.heap.size ≤ k) (_hg : g < w.heap.size) (hx : WrN 78 w w' g (putF 1048576 (N, false) M) 1048576 A A' c') (hf : ((N ++ M).length : Int) ≤ 1048576) : RW W w' g (N ++ M) := by
  rw [List.length_append] at hf
  have hz := h3.size
  rw [putF_fit (by omega)] at hx
  refine ⟨A', c', hx.wr, h3.trans (hx.turn.below hz h4 (fun k e => (by cases e))), h4, fun k hk => ?_, by rw [List.length_append]; exact hf⟩
  rcases hx.row with e | e
  · exact h5 k (e ▸ hk)
  · exact Nat.le_trans hz (e k hk)
theorem rw_u (h : RW W w g N) (n : Nat) (x : Int) (hn : 0 < n) (hn8 : n ≤ 8) (hf : (N.length : Int) + n ≤ 1048576) {y : Int} (hy : y = n) :
    Calls Try.prog 51 #[.pointer (some ⟨g, 0, none⟩), .int .i64 y, .int .i64 x] w fun e w' => e = .returned (.tuple #[]) ∧ RW W w' g (N ++ beB n x) := by
  subst hy
  have hg := h.lt
  obtain ⟨A, c, h1, h2, h3, h4, h5⟩ := h
  exact (u_W w g (N, false) 1048576 A c n x h1 (by decide) (by decide) h5 hn hn8).mono fun _ _ ⟨he, A', c', hx⟩ => ⟨he, RW.next h2 h3 h4 hg hx (by rw [List.length_append, beB_length]; omega)⟩
theorem rw_data (h : RW W w g N) {bs : List UInt8} {A0 : Option Addr} {n c0 : Nat} (hn : bs.length = n) (hs : SlAt w A0 n (bs.map byteV)) (hf : (N.length : Int) + n ≤ 1048576) :
    Calls Try.prog 52 #[.pointer (some ⟨g, 0, none⟩), .slice A0 n c0] w fun e w' => e = .returned (.tuple #[]) ∧ RW W w' g (N ++ bs) := by
  subst hn
  have hg := h.lt
  obtain ⟨A, c, h1, h2, h3, h4, h5⟩ := h
  exact (rdata_W w g (N, false) 1048576 A c bs A0 c0 h1 (by decide) (by decide) h5 hs).mono fun _ _ ⟨he, A', c', hx⟩ => ⟨he, RW.next h2 h3 h4 hg hx (by rw [List.length_append]; omega)⟩
/-- The writer's bytes. -/
theorem RW.bytes (h : RW W w g N) : ∃ A c, w.cell? ⟨g, 0, none⟩ = some (.slice A N.length c) ∧ SlAt w A N.length (N.map byteV) := by
  obtain ⟨A, c, h1, _⟩ := h
  exact ⟨A, c, by rw [h1.blk.cell 0]; rfl, h1.sl⟩
theorem rw_pad (h : RW W w g N) (hf : (upN N.length : Int) ≤ 1048576) :
    Calls Try.prog 54 #[.pointer (some ⟨g, 0, none⟩), .int .i64 4] w fun e w' => e = .returned (.tuple #[]) ∧ RW W w' g (N ++ List.replicate (upN N.length - N.length) 0) := by
  have hg := h.lt
  have hu := upN_ge N.length
  obtain ⟨A, c, h1, h2, h3, h4, h5⟩ := h
  refine (rpad_W w g (N, false) 1048576 A c 4 h1 (by decide) (by decide) h5 (by decide) (by decide)).mono fun _ _ ⟨he, A', c', hx⟩ => ⟨he, ?_⟩
  have hp : padF 1048576 (N, false) 4 = putF 1048576 (N, false) (List.replicate (upN N.length - N.length) 0) := by
    unfold padF
    by_cases h0 : (N.length : Int) % 4 = 0
    · rw [if_pos (.inr h0), show upN N.length - N.length = 0 by unfold upN; omega, List.replicate_zero, putF_fit (by simpa using h5), List.append_nil]
    · rw [if_neg (by intro hh; rcases hh with hh | hh; omega; exact h0 hh)]
      congr 2
      simp only
      unfold upN
      omega
  rw [hp] at hx
  exact RW.next h2 h3 h4 hg hx (by rw [List.length_append, List.length_replicate]; omega)
end
theorem aft_on {W u u' : World} (h : Aft W u) (hb : Below u.heap.size u u') : Aft W u' := Below.trans h (hb.mono (Below.size h))
theorem RW.mine {W w : World} {g : Nat} {N : List UInt8} (h : RW W w g N) (h0 : 0 < N.length) : ∃ gB c, w.cell? ⟨g, 0, none⟩ = some (.slice (some ⟨gB, 0, none⟩) N.length c) ∧ N.length ≤ c ∧ W.heap.size ≤ gB ∧ Byt w gB N := by
  obtain ⟨A, c, h1, h2, h3, h4, h5⟩ := h
  have hA : A ≠ none := fun e => by
    obtain ⟨_, h⟩ := h1.sl
    obtain ⟨b, o, hA, _⟩ := h 0 h0
    rw [e] at hA
    cases hA
  obtain ⟨gB, rfl, -, hB, hc, -⟩ := byt_own h1.own hA
  exact ⟨gB, c, by rw [h1.blk.cell 0]; rfl, hc, h4 gB rfl, hB⟩
/-- Bytes put into others, the first k of them. -/
def putK (raw : List UInt8) (a : Nat) (bs : List UInt8) (k : Nat) : List UInt8 := raw.take a ++ bs.take k ++ raw.drop (a + k)
theorem putK_zero (raw : List UInt8) (a : Nat) (bs : List UInt8) : putK raw a bs 0 = raw := by unfold putK; simp
theorem putK_len {raw : List UInt8} {a : Nat} {bs : List UInt8} {k : Nat} (h : a + bs.length ≤ raw.length) (hk : k ≤ bs.length) : (putK raw a bs k).length = raw.length := by
  unfold putK
  simp
  omega
theorem putK_next {raw : List UInt8} {a : Nat} {bs : List UInt8} {k : Nat} {u : UInt8} (h : a + bs.length ≤ raw.length) (hu : bs[k]? = some u) : (putK raw a bs k).set (a + k) u = putK raw a bs (k + 1) := by
  have hk := (List.getElem?_eq_some_iff.1 hu).1
  unfold putK
  rw [take_snoc' hu, List.set_append_right _ _ (by simp; omega), List.drop_eq_getElem_cons (show a + k < raw.length by omega)]
  have h1 : a + k - (raw.take a ++ bs.take k).length = 0 := by simp; omega
  rw [h1, List.set_cons_zero]
  simp [Nat.add_assoc]
theorem putK_all {raw : List UInt8} {a k : Nat} {bs : List UInt8} (h : bs.length = k) : putK raw a bs k = raw.take a ++ bs ++ raw.drop (a + k) := by
  unfold putK
  rw [List.take_of_length_le (l := bs) (by omega)]
end Go.Proofs.Ytejombofjakllaa

namespace Go.Proofs.Ytejombofjakllaa
open Go.RowKit Go.Shelf

theorem fix_putK {raw Q : List UInt8} {h : Nat} {sm : Int} (hs : sumS raw = sm) (hQ : beB 4 ((2981146554 - sm + 4294967296) % 4294967296) = Q) : fixS raw h = putK raw (h + 8) Q 4 := by
  subst hs hQ
  rw [putK_all (beB_length 4 _)]
  rfl
set_option maxRecDepth 100000 in
set_option maxHeartbeats 4000000 in
theorem rlay_any {W : World} {A : Option Addr} {n c : Nat} {es : List Bm} {l : List Bl} (v : Int) (h : BlL W A n es) (hll : es.map bmS = l) (n1 : 1 ≤ n) (n2 : n ≤ 64) (hsz : sizeS4 l ≤ 1048576) (hlen : ∀ t ∈ l, t.1.length = 4) :
    Calls Try.prog 33 #[.int .i64 v, .slice A n c] W fun e w' => ∃ A' m c', e = .returned (.slice A' m c') ∧ (layS v l).length = m ∧ SlAt w' A' m ((layS v l).map byteV) ∧ Below W.heap.size W w' := by
  have hl := h.len
  have hln : l.length = n := by rw [← hll, List.length_map]; exact hl
  have H := Lib.hid h
  have HLN := Lib.hid hln
  have HLL := Lib.hid hll
  have HT4 := Lib.hid hlen
  have hsz2 : 12 + 16 * n + totS l ≤ 1048576 := by unfold sizeS4 at hsz; omega
  have HSZ := Lib.hid hsz2
  have HI0 := Lib.hid (RW.new W)
  clear h hl hln hll hsz hsz2 hlen
  go_enter Try.func33, Try.ntmps33
  go_wp2_with fail

  go_loopw [5, 6] (fun s7 s8 wr => ∃ p q : Nat, s7 = .int .i64 p ∧ s8 = .int .i64 q ∧ 1 ≤ p ∧ p ≤ n ∧ q ≤ p ∧ Hid (2 ^ q = p) ∧ W = wr) (fun s7 _ _ => n + 1 - (intOf s7).toNat)
  case atStart => exact ⟨1, 0, rfl, rfl, Nat.le_refl _, n1, by omega, Lib.hid rfl, rfl⟩
  case round =>
    obtain ⟨p, q, rfl, rfl, hp1, hpn, hqp, HQ, rfl⟩ := hrel
    by_cases hlt : p * 2 ≤ n
    · have d1 : decide (2 * (p : Int) ≤ n) = true := by simp; omega
      go_wp2_with fail
      go_roundw
      case rel => exact ⟨2 * p, q + 1, by go_num, by go_num, by omega, by omega, by omega, Lib.hid (by rw [Nat.pow_succ, HQ.out]; omega), trivial⟩
      case measure => simp [intOf]; omega
    · have d1 : decide (2 * (p : Int) ≤ n) = false := by simp; omega
      obtain ⟨hq1, hq2⟩ := pw_is n1 (by rw [HQ.out]; exact hpn) (by rw [HQ.out]; exact hlt)
      rw [HQ.out] at hq2
      have HHD : Hid ([] ++ beB 4 v ++ beB 2 (n : Int) ++ beB 2 (16 * (p : Int)) ++ beB 2 (q : Int) ++ beB 2 (16 * (n : Int) - 16 * (p : Int)) = hdrS v n) := Lib.hid (by
        unfold hdrS
        rw [← hq1, ← hq2]
        simp)
      clear hq1 hq2 HQ
      have f4 : (4 : Int) = ((4 : Nat) : Int) := rfl
      have f2 : (2 : Int) = ((2 : Nat) : Int) := rfl
      have F4 := Lib.hid f4
      have F2 := Lib.hid f2
      clear f4 f2
      go_wp2_with (first
        | (go_at_call 51; (with_reducible refine (rw_u HI0.out 4 v (by omega) (by omega) (by simp) F4.out).mono ?_); rintro e w1 ⟨rfl, hI⟩; have HI1 := Lib.hid hI; clear hI HI0)
        | (go_at_call 51; (with_reducible refine (rw_u HI1.out 2 _ (by omega) (by omega) (by simp [beB_length]) F2.out).mono ?_); rintro e w2 ⟨rfl, hI⟩; have HI2 := Lib.hid hI; clear hI HI1)
        | (go_at_call 51; (with_reducible refine (rw_u HI2.out 2 _ (by omega) (by omega) (by simp [beB_length]) F2.out).mono ?_); rintro e w3 ⟨rfl, hI⟩; have HI3 := Lib.hid hI; clear hI HI2)
        | (go_at_call 51; (with_reducible refine (rw_u HI3.out 2 _ (by omega) (by omega) (by simp [beB_length]) F2.out).mono ?_); rintro e w4 ⟨rfl, hI⟩; have HI4 := Lib.hid hI; clear hI HI3)
        | (go_at_call 51; (with_reducible refine (rw_u HI4.out 2 _ (by omega) (by omega) (by simp [beB_length]) F2.out).mono ?_); rintro e w5 ⟨rfl, hI⟩; have HI5 := Lib.hid hI; clear hI HI4)
        | fail)
      have hI5 := HI5.out
      rw [HHD.out] at hI5
      obtain ⟨gW, hgW⟩ : ∃ gW, W.heap.size = gW := ⟨_, rfl⟩
      rw [hgW] at hI5 ⊢
      have HJ := Lib.hid hI5
      clear HI5 hI5 HHD d1
      go_loopw [8, 9, 10] (fun s9 s10 s46 wr => ∃ k : Nat, k ≤ n ∧ s9 = .int .i64 (12 + 16 * (n : Int) + (totS (l.take k) : Nat)) ∧ s10 = .int .i64 (hdI (hdA (12 + 16 * n) (l.take k))) ∧ s46 = .int .i64 k ∧ Hid (RW W wr gW (hdrS v n ++ dirS (12 + 16 * n) (l.take k)))) (fun _ _ i _ => n - (intOf i).toNat)
      case atStart => exact ⟨0, Nat.zero_le _, by simp [totS], rfl, rfl, Lib.hid (by rw [List.take_zero]; show RW _ _ _ (hdrS v n ++ []); rw [List.append_nil]; exact HJ.out)⟩
      case round =>
        obtain ⟨k, hk, rfl, rfl, rfl, HK⟩ := hrel
        by_cases hkn : k < n
        · have d1 : decide ((k : Int) < n) = true := by simp; omega
          obtain ⟨⟨vt, vA, vc, vd⟩, hv⟩ := get_some' (l := es) (k := k) (by rw [H.out.len]; exact hkn)
          obtain ⟨b, o, rfl, hb, hc0, hc1⟩ := H.out.at_ hv
          have hmem := List.mem_of_getElem? hv
          have hdat := H.out.data _ hmem
          obtain ⟨hs1, hs2⟩ := H.out.small _ hmem
          dsimp only at hc0 hc1 hdat hs1 hs2
          have hlk : l[k]? = some (vt, vd) := by rw [← HLL.out, List.getElem?_map, hv]; rfl
          have ht4 : vt.length = 4 := HT4.out _ (List.mem_of_getElem? hlk)
          have htk := take_snoc' hlk
          have hd1 : dirS (12 + 16 * n) (l.take (k + 1)) = dirS (12 + 16 * n) (l.take k) ++ entS (12 + 16 * n + totS (l.take k)) (vt, vd) := by
            rw [htk, dirS_append]
            show _ ++ (entS _ _ ++ []) = _
            rw [List.append_nil]
          have hh1 : hdA (12 + 16 * n) (l.take (k + 1)) = if vt = headT ∧ 12 ≤ vd.length then some (12 + 16 * n + totS (l.take k)) else hdA (12 + 16 * n) (l.take k) := by rw [htk, hdA_snoc]
          have ht1 : totS (l.take (k + 1)) = totS (l.take k) + upN vd.length := by rw [htk, totS_append]; simp [totS]
          have htl : totS (l.take (k + 1)) ≤ totS l := by
            have h9 := totS_append (l.take (k + 1)) (l.drop (k + 1))
            rw [List.take_append_drop] at h9
            omega
          have hszz := HSZ.out
          have hnl : (hdrS v n ++ dirS (12 + 16 * n) (l.take k)).length = 12 + 16 * k := by
            rw [List.length_append, hdrS_len, dirS_len _ (fun t ht => HT4.out t (List.mem_of_mem_take ht)), List.length_take, HLN.out, Nat.min_eq_left hk]
          obtain ⟨N, hN⟩ : ∃ N, hdrS v n ++ dirS (12 + 16 * n) (l.take k) = N := ⟨_, rfl⟩
          rw [hN] at HK hnl
          obtain ⟨T, hT⟩ : ∃ T, totS (l.take k) = T := ⟨_, rfl⟩
          rw [hT] at hd1 hh1 ht1 ⊢
          obtain ⟨Hd, hHd⟩ : ∃ Hd, hdA (12 + 16 * n) (l.take k) = Hd := ⟨_, rfl⟩
          rw [hHd] at hh1 ⊢
          have hTb : 12 + 16 * n + T + upN vd.length ≤ 1048576 := by omega
          have hun := upN_ge vd.length
          have HD1 := Lib.hid hd1
          have HH1 := Lib.hid hh1
          have HT1 := Lib.hid ht1
          have hcs : ∀ u, Aft W u → u.cell? ⟨b, o + k * 2, none⟩ = some (.string (strB vt)) := fun u hu => (hu.cell (p := ⟨b, o + k * 2, none⟩) hb).trans hc0
          have hct : ∀ u, Aft W u → u.cell? ⟨b, o + k * 2 + 1, none⟩ = some (.slice vA vd.length vc) := fun u hu => (hu.cell (p := ⟨b, o + k * 2 + 1, none⟩) hb).trans hc1
          have hcu : ∀ u, Aft W u → b < u.heap.size := fun u hu => Nat.lt_of_lt_of_le hb hu.size
          have HCS := Lib.hid hcs
          have HCT := Lib.hid hct
          have HCU := Lib.hid hcu
          have r0 := hcs _ HK.out.aft
          have r1 := hct _ HK.out.aft
          have r2 := hcu _ HK.out.aft
          have HDT := Lib.hid fun (u : World) (hu : Below W.heap.size W u) => slat_keptB hdat hu
          have HNN := Lib.hid hN
          clear hc0 hc1 hv hmem htk hd1 hh1 ht1 htl hszz hT hHd hlk hdat hcs hct hcu hN
          have hcv : (convert 9 25 (.string (strB vt))).run Try.prog wr = .ok (.slice (some ⟨wr.heap.size, 0, none⟩) (strB vt).size (grownCap wr (strB vt).size 0 5)) (Lib.bytesWorld wr 5 (strB vt)) := Lib.run_convert_string_bytes wr _ _ _ (strB vt) Try.underlying9 Try.underlying25 Try.underlying5
          have hsz4 : (strB vt).size = 4 := by rw [strB_size]; exact ht4
          rw [hsz4] at hcv
          have HSC : Hid (SlAt (Lib.bytesWorld wr 5 (strB vt)) (some ⟨wr.heap.size, 0, none⟩) 4 (vt.map byteV)) := Lib.hid (by
            have := bytesW_sl wr 5 vt
            rwa [ht4] at this)
          have HIC := Lib.hid (HK.out.keep (bytesW_below wr 5 (strB vt)))
          have l1 : (N.length : Int) + ((4 : Nat) : Int) ≤ 1048576 := by omega
          go_upto_region 15 with (first
            | (go_at_call 52; (with_reducible refine (rw_data HIC.out ht4 HSC.out l1).mono ?_); rintro e w5 ⟨rfl, hI⟩; have HI1 := Lib.hid hI; clear hI)
            | fail)
          have HCS0 := HCS.out
          have HCT0 := HCT.out
          have HCU0 := HCU.out
          have HD5 : Hid (Aft W w5.drew) := Lib.hid (aft_on HI1.out.aft (bel_drew bel_refl).below)
          have HI2 : Hid (RW W w5.drew gW (N ++ vt)) := Lib.hid (HI1.out.keep (bel_drew bel_refl).below)
          have l2 : ((N ++ vt).length : Int) + ((4 : Nat) : Int) ≤ 1048576 := by rw [List.length_append]; omega
          have l3 : ((N ++ vt ++ beB 4 (sumS (plainS (vt, vd)))).length : Int) + ((4 : Nat) : Int) ≤ 1048576 := by rw [List.length_append, List.length_append, beB_length]; omega
          have l4 : ((N ++ vt ++ beB 4 (sumS (plainS (vt, vd))) ++ beB 4 (12 + 16 * (n : Int) + T)).length : Int) + ((4 : Nat) : Int) ≤ 1048576 := by rw [List.length_append, List.length_append, List.length_append, beB_length, beB_length]; omega
          have hpl := plain_len (vt, vd)
          dsimp only at hpl
          clear r0 r1 r2 hcv HSC HIC HI1 HK
          go_region_held (fun u => Aft W u) (first | (with_reducible exact HD5.out) | (with_reducible exact HD6.out) | (with_reducible exact HD7.out) | (with_reducible exact HD8.out)) (first
            | (go_at_call 53; (with_reducible refine (rplain_any vt (HDT.out _ HI2.out.below) rfl hs1).mono ?_); rintro e w6 ⟨A6, c6, rfl, hc6, _, _, hs6, hb6⟩; have HI3 := Lib.hid (HI2.out.keep hb6); have HD6 := Lib.hid (aft_on HD5.out hb6); have HS6 := Lib.hid hs6; clear hb6 hs6)
            | (go_at_call 16; (with_reducible refine (rSum_any HS6.out hpl hs1).mono ?_); rintro e w7 ⟨rfl, hb7⟩; have HI4 := Lib.hid (HI3.out.keep hb7); have HD7 := Lib.hid (aft_on HD6.out hb7); clear hb7)
            | (go_at_call 51; (with_reducible refine (rw_u HI4.out 4 _ (by omega) (by omega) l2 F4.out).mono ?_); rintro e w8 ⟨rfl, hI⟩; have HI6 := Lib.hid hI; have HD8 := Lib.hid hI.aft; clear hI))
          all_goals
            have y1 := HCT.out _ HD8.out
            have y2 := HCU.out _ HD8.out
            clear HD5 HD6 HD7 HI2 HI3 HI4 HS6 HDT HCS0 HCT0 HCU0
            go_upto_region 18 with (first
              | (go_at_call 51; (with_reducible refine (rw_u HI6.out 4 _ (by omega) (by omega) l3 F4.out).mono ?_); rintro e w9 ⟨rfl, hI⟩; have HI7 := Lib.hid hI; have z1 := HCT.out _ hI.aft; have z2 := HCU.out _ hI.aft; clear hI)
              | (go_at_call 51; (with_reducible refine (rw_u HI7.out 4 _ (by omega) (by omega) l4 F4.out).mono ?_); rintro e w10 ⟨rfl, hI⟩; have HI8 := Lib.hid hI; have x0 := HCS.out _ hI.aft; have x1 := HCT.out _ hI.aft; have x2 := HCU.out _ hI.aft; clear hI HI6 HI7 y1 y2 z1 z2)
              | fail)
            have hen : ((((N ++ vt) ++ beB 4 (sumS (plainS (vt, vd)))) ++ beB 4 (12 + 16 * (n : Int) + (T : Int))) ++ beB 4 (vd.length : Int)) = hdrS v n ++ dirS (12 + 16 * n) (l.take (k + 1)) := by
              rw [HD1.out, ← HNN.out]
              unfold entS
              have hc : ((12 + 16 * n + T : Nat) : Int) = 12 + 16 * (n : Int) + (T : Int) := by omega
              rw [hc]
              simp
            have hI8 := HI8.out
            rw [hen] at hI8
            have HIF := Lib.hid hI8
            clear hI8 hen HI8 HD1 HNN HCS HCT HCU l2 l3 l4 l1
            by_cases hhd : vt = headT ∧ 12 ≤ vd.length
            · rw [hhd.1, show strB headT = ⟨#[104, 101, 97, 100]⟩ from rfl] at x0
              have e2 : decide ((12 : Int) ≤ vd.length) = true := by have := hhd.2; simp; omega
              have hh2 := HH1.out
              rw [if_pos hhd] at hh2
              have HH2 := Lib.hid hh2
              clear hh2 hhd
              go_wp2_with (first
                | (go_at_call 32; (with_reducible refine (rup_any vd.length hs1 _).mono ?_); rintro e w11 ⟨rfl, rfl⟩)
                | fail)
              go_roundw
              case rel => exact ⟨k + 1, by omega, by rw [HT1.out]; go_num, by rw [HH2.out]; simp [hdI], by go_num, HIF⟩
              case measure => simp [intOf]; omega
            · have hcs : (vt == [104, 101, 97, 100]) = false ∨ ((vt == [104, 101, 97, 100]) = true ∧ decide ((12 : Int) ≤ vd.length) = false) := by
                by_cases h1 : vt = headT
                · right
                  have h2 : ¬ 12 ≤ vd.length := fun h2 => hhd ⟨h1, h2⟩
                  exact ⟨by rw [h1]; rfl, by simp; omega⟩
                · left
                  exact beq_eq_false_iff_ne.2 h1
              have hh2 := HH1.out
              rw [if_neg hhd] at hh2
              have HH2 := Lib.hid hh2
              clear hh2 hhd
              rcases hcs with e1 | ⟨e1, e2⟩
              all_goals
                go_wp2_with (first
                  | (go_at_call 32; (with_reducible refine (rup_any vd.length hs1 _).mono ?_); rintro e w11 ⟨rfl, rfl⟩)
                  | fail)
                go_roundw
                case rel => exact ⟨k + 1, by omega, by rw [HT1.out]; go_num, by rw [HH2.out], by go_num, HIF⟩
                case measure => simp [intOf]; omega
        · obtain rfl : k = n := by omega
          have hK := HK.out
          have ht : l.take k = l := List.take_of_length_le (by rw [HLN.out]; exact Nat.le_refl _)
          rw [ht] at hK ⊢
          have HKF := Lib.hid hK
          clear hK HK
          go_upto_region 9 with fail
          obtain ⟨M, hM⟩ : ∃ M, hdrS v k ++ dirS (12 + 16 * k) l = M := ⟨_, rfl⟩
          have hMl : M.length = 12 + 16 * k := by rw [← hM, List.length_append, hdrS_len, dirS_len _ HT4.out, HLN.out]
          rw [hM] at HKF
          have HM := Lib.hid hM
          obtain ⟨oh, hoh⟩ : ∃ oh, hdA (12 + 16 * k) l = oh := ⟨_, rfl⟩
          rw [hoh]
          have HOH := Lib.hid hoh
          obtain ⟨at_, hat⟩ : ∃ x : Int, 12 + 16 * (k : Int) + (totS l : Nat) = x := ⟨_, rfl⟩
          rw [hat]
          clear hM hoh hat ht HJ
          go_loopw [11] (fun i wr => ∃ j : Nat, j ≤ k ∧ i = .int .i64 j ∧ Hid (RW W wr gW (M ++ datS (l.take j)))) (fun i _ => k - (intOf i).toNat)
          case atStart => exact ⟨0, Nat.zero_le _, rfl, Lib.hid (by rw [List.take_zero]; show RW _ _ _ (M ++ []); rw [List.append_nil]; exact HKF.out)⟩
          case round =>
            obtain ⟨j, hj, rfl, HK⟩ := hrel
            by_cases hjk : j < k
            · have d1 : decide ((j : Int) < k) = true := by simp; omega
              obtain ⟨⟨vt, vA, vc, vd⟩, hv⟩ := get_some' (l := es) (k := j) (by rw [H.out.len]; exact hjk)
              obtain ⟨b, o, rfl, hb, hc0, hc1⟩ := H.out.at_ hv
              have hmem := List.mem_of_getElem? hv
              have hdat := H.out.data _ hmem
              obtain ⟨hs1, hs2⟩ := H.out.small _ hmem
              dsimp only at hc0 hc1 hdat hs1 hs2
              have hlk : l[j]? = some (vt, vd) := by rw [← HLL.out, List.getElem?_map, hv]; rfl
              have htk := take_snoc' hlk
              have hpl := plain_len (vt, vd)
              dsimp only at hpl
              have hds := datS_snoc hlk
              have hun := upN_ge vd.length
              have ht1 : totS (l.take (j + 1)) = totS (l.take j) + upN vd.length := by rw [htk, totS_append]; simp [totS]
              have htl : totS (l.take (j + 1)) ≤ totS l := by
                have h9 := totS_append (l.take (j + 1)) (l.drop (j + 1))
                rw [List.take_append_drop] at h9
                omega
              have htm := totS_mod (l.take j)
              have hnl : (M ++ datS (l.take j)).length = 12 + 16 * k + totS (l.take j) := by rw [List.length_append, hMl, datS_len]
              have hszz := HSZ.out
              have hup : upN (M ++ datS (l.take j) ++ plainS (vt, vd)).length = 12 + 16 * k + totS (l.take j) + upN vd.length := by
                rw [List.length_append, hnl, hpl]
                unfold upN
                omega
              have hfin : (M ++ datS (l.take j) ++ plainS (vt, vd)) ++ List.replicate (upN (M ++ datS (l.take j) ++ plainS (vt, vd)).length - (M ++ datS (l.take j) ++ plainS (vt, vd)).length) 0 = M ++ datS (l.take (j + 1)) := by
                have h1 : (M ++ datS (l.take j)).length % 4 = 0 := by rw [hnl]; omega
                rw [hds, List.length_append (bs := plainS (vt, vd)), upN_add h1]
                simp
              have l1 : ((M ++ datS (l.take j)).length : Int) + (vd.length : Int) ≤ 1048576 := by rw [hnl]; omega
              have l2 : (upN (M ++ datS (l.take j) ++ plainS (vt, vd)).length : Int) ≤ 1048576 := by rw [hup]; omega
              have HFN := Lib.hid hfin
              have L1 := Lib.hid l1
              have L2 := Lib.hid l2
              have hcs : ∀ u, Aft W u → u.cell? ⟨b, o + j * 2, none⟩ = some (.string (strB vt)) := fun u hu => (hu.cell (p := ⟨b, o + j * 2, none⟩) hb).trans hc0
              have hct : ∀ u, Aft W u → u.cell? ⟨b, o + j * 2 + 1, none⟩ = some (.slice vA vd.length vc) := fun u hu => (hu.cell (p := ⟨b, o + j * 2 + 1, none⟩) hb).trans hc1
              have hcu : ∀ u, Aft W u → b < u.heap.size := fun u hu => Nat.lt_of_lt_of_le hb hu.size
              have HDT := Lib.hid fun (u : World) (hu : Below W.heap.size W u) => slat_keptB hdat hu
              have HD5 : Hid (Aft W wr.drew) := Lib.hid (aft_on HK.out.aft (bel_drew bel_refl).below)
              have HI2 : Hid (RW W wr.drew gW (M ++ datS (l.take j))) := Lib.hid (HK.out.keep (bel_drew bel_refl).below)
              have r0 := hcs _ HK.out.aft
              have r1 := hct _ HK.out.aft
              have r2 := hcu _ HK.out.aft
              clear hc0 hc1 hv hmem htk ht1 htl htm hszz hup hfin hds l1 l2 hlk hdat hnl
              go_upto_region 24 with fail
              clear r0 r1 r2
              go_region_held (fun u => Aft W u) (first | (with_reducible exact HD5.out) | (with_reducible exact HD6.out) | (with_reducible exact HD7.out)) (first
                | (go_at_call 53; (with_reducible refine (rplain_any vt (HDT.out _ HI2.out.below) rfl hs1).mono ?_); rintro e w6 ⟨A6, c6, rfl, hc6, _, _, hs6, hb6⟩; have HI3 := Lib.hid (HI2.out.keep hb6); have HD6 := Lib.hid (aft_on HD5.out hb6); have HS6 := Lib.hid hs6; clear hb6 hs6)
                | (go_at_call 52; (with_reducible refine (rw_data HI3.out hpl HS6.out L1.out).mono ?_); rintro e w7 ⟨rfl, hI⟩; have HI4 := Lib.hid hI; have HD7 := Lib.hid hI.aft; clear hI))
              all_goals
                clear HD5 HD6 HD7 HI2 HI3 HS6 HDT hcs hct hcu
                go_wp2_with (first
                  | (go_at_call 54; (with_reducible refine (rw_pad HI4.out L2.out).mono ?_); rintro e w8 ⟨rfl, hI⟩; rw [HFN.out] at hI; have HI5 := Lib.hid hI; clear hI)
                  | fail)
                go_roundw
                case rel => exact ⟨j + 1, by omega, by go_num, HI5⟩
                case measure => simp [intOf]; omega
            · obtain rfl : j = k := by omega
              have hraw : M ++ datS (l.take j) = rawS v l := by
                rw [List.take_of_length_le (by rw [HLN.out]; exact Nat.le_refl _), ← HM.out]
                unfold rawS
                rw [HLN.out]
              have hrl : (rawS v l).length = 12 + 16 * j + totS l := by rw [rawS_len HT4.out]; unfold sizeS4; rw [HLN.out]
              have hlay := lay_is (v := v) HLN.out HOH.out
              rw [hraw] at HK
              have hfit : ∀ hh, oh = some hh → hh + 12 ≤ 12 + 16 * j + totS l ∧ hh % 4 = 0 ∧ 12 ≤ hh := fun hh he => by
                have := hdA_fit (v := v) HT4.out (h := hh) (by rw [HLN.out, HOH.out]; exact he)
                rwa [hrl] at this
              have hszz := HSZ.out
              obtain ⟨m, hm⟩ : ∃ m, 12 + 16 * j + totS l = m := ⟨_, rfl⟩
              rw [hm] at hszz hrl hfit
              obtain ⟨raw, hrw⟩ : ∃ raw, rawS v l = raw := ⟨_, rfl⟩
              rw [hrw] at HK hrl hlay
              obtain ⟨gB, cB, hcell, hcap, hgB, hB⟩ := HK.out.mine (by rw [hrl]; omega)
              rw [hrl] at hcell hcap
              have hbel := HK.out.below
              have hgl := HK.out.lt
              have HB := Lib.hid hB
              have HRL := Lib.hid hrl
              have HBL := Lib.hid hbel
              have HLAY := Lib.hid hlay
              clear hlay hraw hrw hm hB hrl hbel HK HKF HM HOH HLN HLL HT4 HSZ H
              cases oh with
              | none =>
                go_wp2_with fail
                go_ret
                refine ⟨_, _, _, rfl, ?_, ?_, HBL.out⟩
                · rw [HLAY.out]
                  exact HRL.out
                · rw [HLAY.out]
                  have := HB.out.sl
                  rwa [HRL.out] at this
              | some hh =>
                obtain ⟨h1, h2, h3⟩ := hfit hh rfl
                have HS : Hid (SlAt wr (some ⟨gB, 0, none⟩) m (raw.map byteV)) := Lib.hid (by have := HB.out.sl; rwa [HRL.out] at this)
                have hsb := sumS_bd raw
                obtain ⟨sm, hsm⟩ : ∃ sm, sumS raw = sm := ⟨_, rfl⟩
                rw [hsm] at hsb
                have HSM := Lib.hid hsm
                have hQ : (2981146554 - sm) % 4294967296 = (2981146554 - sm + 4294967296) % 4294967296 := by omega
                obtain ⟨Q, hQQ⟩ : ∃ Q, beB 4 ((2981146554 - sm + 4294967296) % 4294967296) = Q := ⟨_, rfl⟩
                have hQl : Q.length = 4 := by rw [← hQQ, beB_length]
                have HBY : Hid (∀ V, Calls Try.prog 55 #[.int .i64 4, .int .i64 ((2981146554 - sm) % 4294967296)] V fun e w' => ∃ g, V.heap.size ≤ g ∧ e = .returned (.slice (some ⟨g, 0, none⟩) 4 4) ∧ Blk w' g 5 (Q.map byteV) ∧ Below V.heap.size V w') := Lib.hid fun V => by
                  have := bytes_O V 4 ((2981146554 - sm) % 4294967296) (by omega) (by omega)
                  rw [hQ, hQQ, ← hQ] at this
                  exact this
                have HQQ := Lib.hid hQQ
                have HQL := Lib.hid hQl
                clear hfit hsm hQ hQQ hQl
                unfold hdI
                dsimp only
                go_wp2_with (first
                  | (go_at_call 16; (with_reducible refine (rSum_any HS.out HRL.out (by omega)).mono ?_); rintro e w6 ⟨rfl, hb6⟩; rw [HSM.out]; have HB6 := Lib.hid (HB.out.keepB hb6); have HL6 := Lib.hid (HBL.out.trans (hb6.mono HBL.out.size)); clear hb6)
                  | (go_at_call 55; (with_reducible refine (HBY.out _).mono ?_); rintro e w7 ⟨gx, hgx, rfl, hbx, hb7⟩; have HX7 := Lib.hid hbx; have HB7 := Lib.hid (HB6.out.keepB hb7); have HL7 := Lib.hid (HL6.out.trans (hb7.mono HL6.out.size)); have hgne : gB < gx := (by have := HB6.out.lt; omega); clear hb7 hbx)
                  | fail)
                have HSM2 := HSM
                clear HBY HSM HB6 HL6 HS hsb hcell hcap
                have hP0 : Byt w7 gB (putK raw (hh + 8) Q 0) := by rw [putK_zero]; exact HB7.out
                have HP0 := Lib.hid hP0
                clear hP0 HB7 HB
                go_loopw [14] (fun i wr => ∃ y : Nat, y ≤ 4 ∧ i = .int .i64 y ∧ Hid (Byt wr gB (putK raw (hh + 8) Q y)) ∧ Hid (Blk wr gx 5 (Q.map byteV)) ∧ Hid (Below W.heap.size W wr)) (fun i _ => 4 - (intOf i).toNat)
                case atStart => exact ⟨0, by omega, rfl, HP0, HX7, HL7⟩
                case round =>
                  obtain ⟨y, hy, rfl, HP, HX, HW⟩ := hrel
                  by_cases hlt : y < 4
                  · have d1 : decide ((y : Int) < 4) = true := by simp; omega
                    obtain ⟨u, hu⟩ := get_some' (l := Q) (k := y) (by rw [HQL.out]; exact hlt)
                    have c0 : wr.cell? ⟨gx, y, none⟩ = some (.int .u8 (u.toNat : Nat)) := by
                      have := HX.out.cell y
                      rw [List.getElem?_map, hu] at this
                      exact this
                    have hfitQ : hh + 8 + Q.length ≤ raw.length := by rw [HQL.out, HRL.out]; omega
                    have hlP := putK_len hfitQ (show y ≤ Q.length by rw [HQL.out]; exact hy)
                    have c1 := HP.out.cell (hh + 8 + y) (by rw [hlP, HRL.out]; omega)
                    have f1 := HP.out.frozen (hh + 8 + y)
                    have l1 := HP.out.lt
                    have l2 := HX.out.lt
                    have hst := HP.out.set (hh + 8 + y) u (by rw [hlP, HRL.out]; omega)
                    rw [putK_next hfitQ hu] at hst
                    have HST : Hid (Byt (wr.setCell ⟨gB, hh + 8 + y, none⟩ (.int .u8 (u.toNat : Nat))) gB (putK raw (hh + 8) Q (y + 1))) := Lib.hid hst
                    have HXT : Hid (Blk (wr.setCell ⟨gB, hh + 8 + y, none⟩ (.int .u8 (u.toNat : Nat))) gx 5 (Q.map byteV)) := Lib.hid (HX.out.far (by simp only; omega) _)
                    have HWT : Hid (Below W.heap.size W (wr.setCell ⟨gB, hh + 8 + y, none⟩ (.int .u8 (u.toNat : Nat)))) := Lib.hid (HW.out.setCell (p := ⟨gB, hh + 8 + y, none⟩) hgB _)
                    have d2 : decide ((hh : Int) + 8 + y < m) = true := by simp; omega
                    clear hst hlP hfitQ hu HP HX HW
                    go_wp2_with fail
                    exact ⟨⟨y + 1, by omega, by go_num, HST, HXT, HWT⟩, by simp [intOf]; omega⟩
                  · obtain rfl : y = 4 := by omega
                    go_wp2_with fail
                    go_ret
                    refine ⟨_, _, _, rfl, ?_, ?_, HW.out⟩
                    · rw [HLAY.out]
                      show (fixS raw hh).length = m
                      rw [fix_putK HSM2.out HQQ.out]
                      rw [putK_len (by rw [HQL.out, HRL.out]; omega) (by rw [HQL.out]; exact Nat.le_refl _)]
                      exact HRL.out
                    · rw [HLAY.out]
                      show SlAt _ _ _ ((fixS raw hh).map byteV)
                      rw [fix_putK HSM2.out HQQ.out]
                      have := HP.out.sl
                      rwa [putK_len (by rw [HQL.out, HRL.out]; omega) (by rw [HQL.out]; exact Nat.le_refl _), HRL.out] at this
end Go.Proofs.Ytejombofjakllaa

namespace Go.Proofs.Ytejombofjakllaa
open Go.RowKit Go.Shelf

/-- What was inserted stands in order. -/
theorem ins_up {a b : List Bl} {t : Bl} (h : TagUp (a ++ b)) (ha : ∀ x ∈ a, x.1 < t.1) (hb : ∀ x ∈ b, t.1 < x.1) : TagUp (a ++ [t] ++ b) := by
  unfold TagUp at h ⊢
  rw [List.pairwise_append] at h
  obtain ⟨h1, h2, h3⟩ := h
  rw [List.pairwise_append, List.pairwise_append]
  refine ⟨⟨h1, List.pairwise_singleton .., fun x hx y hy => ?_⟩, h2, fun x hx y hy => ?_⟩
  · rw [List.mem_singleton] at hy
    subst hy
    exact ha x hx
  · rcases List.mem_append.1 hx with hx | hx
    · exact h3 x hx y hy
    · rw [List.mem_singleton] at hx
      subst hx
      exact hb y hy
section
variable {B : Nat} {w w' : World} {A : Option Addr} {L c : Nat} {l : List Bm}
theorem OwM.appends (h : OwM B w A L c l) {v' : Value} {l2 : List Bm} {m : Nat} (hm : l2.length = m) (hown : w'.ownsRow B 36 2 v' (L + m) ((l.map bmC).flatten ++ (l2.map bmC).flatten)) (hgrow : w.grownBy w' (Value.slice A L c).ownBlock) :
    ∃ A' c', v' = .slice A' (L + m) c' ∧ OwM B w' A' (L + m) c' (l ++ l2) := by
  obtain ⟨A', c', rfl, _⟩ := RowsAt.of_own (rows := (l ++ l2).map bmC) hown (by simp) (bmC_lens _) (by omega)
  exact ⟨A', c', rfl, by simp [h.len, hm], by simpa using hown, Nat.le_trans h.le hgrow.size⟩
theorem OwM.cap (h : OwM B w A L c l) : L ≤ c := by
  obtain ⟨hl, ⟨hv, h0⟩ | ⟨g, cap, cur, hv, hg, hh, hn, _⟩⟩ := h.own
  · injection hv with e1 e2 e3
    omega
  · injection hv with e1 e2 e3
    omega
theorem OwM.place (h : OwM B w A L c l) : (A = none ∧ L = 0 ∧ c = 0) ∨ ∃ g, A = some ⟨g, 0, none⟩ := by
  obtain ⟨hl, ⟨hv, h0⟩ | ⟨g, cap, cur, hv, _⟩⟩ := h.own
  · injection hv with e1 e2 e3
    exact .inl ⟨e1, h0, e3⟩
  · injection hv with e1 e2 e3
    exact .inr ⟨g, e1⟩
theorem addr_zero (g k : Nat) : (⟨g, 0, none⟩ : Addr).add k = ⟨g, k, none⟩ := by
  unfold Addr.add
  split <;> simp [*]
/-- What an append of several leaves. -/
def ApL (B : Nat) (A : Option Addr) (L : Nat) (l l2 : List Bm) (w : World) (A' : Option Addr) (c' : Nat) (w' : World) : Prop := OwM B w' A' (L + l2.length) c' (l ++ l2) ∧ w.grownBy w' (rowOf A) ∧ (rowOf A' = rowOf A ∨ rowOf A' = some w.heap.size)
theorem step_append_bms {ops : Array Oper} {o : Oper} {a : Act} {K : Act → World → Prop} {Q : Exit → Act → World → Prop} {E : Prop} (hgd : o.guard = none) (s x : Operand)
    (ho : o.op = .call { callee := .builtin .append, args := #[s, x], argTypes := #[22, 22] }) (hs : a.eval s = .slice A L c) (h : OwM B w A L c l)
    (A2 : Option Addr) (m c2 : Nat) (hx : a.eval x = .slice A2 m c2) (l2 : List Bm) (hm : l2.length = m) (hr : Reads w w.heap.size 2 A2 m (l2.map bmC).flatten) (N : Nat) (hN : L + m = N) (hb : L + m ≤ 1000000)
    (k : ∀ A' c' w', ApL B A L l l2 w A' c' w' → K (a.put o.dst (.slice A' N c')) w') :
    if Region.wanted o (yielded ops a.tmps) = true then Oper.wp Try.prog o a w K Q else E := by
  subst hm
  subst hN
  obtain ⟨i0, z0, hi0, hz0, hz1, hz2, hz3⟩ := bm_parts
  refine step_append_any w hgd s x _ ho B 36 i0 _ 2 40 Try.underlying22 hi0 hz0 hz1 hz2 hz3 (by omega) _ L (l.map bmC).flatten hs h.own w.heap.size A2 l2.length c2 (l2.map bmC).flatten hx hr (bmC_ones l2) (by unfold maxLen; omega) (by omega) h.le ?_
  intro v' w' hown hgrow hat
  obtain ⟨A', c', rfl, h'⟩ := h.appends rfl hown hgrow
  rw [ownBlock_slice] at hat hgrow
  rw [ownBlock_slice] at hat
  exact k A' c' w' ⟨h', hgrow, hat⟩
theorem ApL.below {l2 : List Bm} {A' : Option Addr} {c' : Nat} (h : ApL B A L l l2 w A' c' w') (h0 : OwM B w A L c l) : Below B w w' :=
  grown_belowF h.2.1 h0.le fun k hk => (h0.row k hk).1
theorem ApL.other {l2 : List Bm} {A' : Option Addr} {c' B2 : Nat} {A2 : Option Addr} {L2 c2 : Nat} {l3 : List Bm} (h : ApL B A L l l2 w A' c' w') (h2 : OwM B2 w A2 L2 c2 l3) (hne : ∀ k, rowOf A = some k → rowOf A2 ≠ some k) :
    OwM B2 w' A2 L2 c2 l3 ∧ ∀ k, rowOf A' = some k → rowOf A2 ≠ some k := by
  refine ⟨h2.stay h.2.1.size fun k hk => h.2.1.block k (h2.row k hk).2 (fun e => hne k e.symm hk), fun k hk e => ?_⟩
  rcases h.2.2 with he | he
  · exact hne k (by rw [← he]; exact hk) e
  · rw [he] at hk
    injection hk with hk
    have := (h2.row k e).2
    omega
theorem om_empty {w : World} {B : Nat} (h : B ≤ w.heap.size) : OwM B (w.alloc (.cells #[] 36)).drew (some ⟨w.heap.size, 0, none⟩) 0 0 [] := by
  refine ⟨rfl, ?_, by simp; omega⟩
  have := own_empty2 w 36 2
  obtain ⟨h1, h2 | ⟨g, cap, cur, h2, h3, h4⟩⟩ := this
  · exact ⟨h1, .inl h2⟩
  · exact ⟨h1, .inr ⟨g, cap, cur, h2, Nat.le_trans h h3, h4⟩⟩
theorem RowsAt.pre {k n p : Nat} {rows : List (List Value)} (h : RowsAt w A n k rows) (hp : p ≤ n) : RowsAt w A p k (rows.take p) :=
  ⟨by rw [List.length_take, h.len]; omega, fun i r hr => by
    rw [List.getElem?_take] at hr
    split at hr
    · exact h.cell i r hr
    · cases hr⟩
theorem RowsAt.suf {k n p : Nat} {rows : List (List Value)} (h : RowsAt w A n k rows) (_hp : p ≤ n) : RowsAt w (Option.map (fun x => x.add (p * k)) A) (n - p) k (rows.drop p) :=
  ⟨by rw [List.length_drop, h.len], fun i r hr => by
    rw [List.getElem?_drop] at hr
    obtain ⟨h1, b, o, rfl, hb, hc⟩ := h.cell (p + i) r hr
    refine ⟨h1, b, o + p * k, by simp [Addr.add], hb, fun j v hv => ?_⟩
    have := hc j v hv
    rwa [Nat.add_mul, ← Nat.add_assoc] at this⟩
end
/-- Two own slices that lie apart, behind a world. -/
structure InsS (w V : World) (A1 : Option Addr) (L c1 : Nat) (l : List Bm) (Ao : Option Addr) (j co : Nat) (ds : List Bm) : Prop where
  one : OwM w.heap.size V A1 L c1 l
  two : OwM w.heap.size V Ao j co ds
  ne : ∀ k, rowOf A1 = some k → rowOf Ao ≠ some k
  aft : Aft w V
/-- .. and a box. -/
structure InsX (w V : World) (A1 : Option Addr) (L c1 : Nat) (l : List Bm) (Ao : Option Addr) (j co : Nat) (ds : List Bm) (g : Nat) (x : Bm) : Prop where
  s : InsS w V A1 L c1 l Ao j co ds
  blk : Blk V g 36 (bmC x)
  ne1 : rowOf A1 ≠ some g
  ne2 : rowOf Ao ≠ some g
section
variable {w V V' : World} {A1 A1' Ao : Option Addr} {L c1 c1' j co g : Nat} {l l2 ds : List Bm} {x : Bm}
theorem InsS.keep (h : InsS w V A1 L c1 l Ao j co ds) (hb : Below V.heap.size V V') : InsS w V' A1 L c1 l Ao j co ds := ⟨h.one.keep hb, h.two.keep hb, h.ne, aft_on h.aft hb⟩
theorem InsX.keep (h : InsX w V A1 L c1 l Ao j co ds g x) (hb : Below V.heap.size V V') : InsX w V' A1 L c1 l Ao j co ds g x := ⟨h.s.keep hb, h.blk.keepB hb, h.ne1, h.ne2⟩
theorem InsS.box (h : InsS w V A1 L c1 l Ao j co ds) (x : Bm) : InsX w (V.alloc (.cells #[.string (strB x.t), .slice x.A x.d.length x.c] 36)) A1 L c1 l Ao j co ds V.heap.size x :=
  ⟨h.keep (bel_alloc bel_refl).below, Blk.new V 36 (bmC x), fun e => by have := (h.one.row _ e).2; omega, fun e => by have := (h.two.row _ e).2; omega⟩
theorem InsS.app (h : InsS w V A1 L c1 l Ao j co ds) (ha : ApL w.heap.size A1 L l l2 V A1' c1' V') : InsS w V' A1' (L + l2.length) c1' (l ++ l2) Ao j co ds :=
  ⟨ha.1, (ha.other h.two h.ne).1, (ha.other h.two h.ne).2, h.aft.trans (ha.below h.one)⟩
theorem InsX.app (h : InsX w V A1 L c1 l Ao j co ds g x) (ha : ApL w.heap.size A1 L l l2 V A1' c1' V') : InsX w V' A1' (L + l2.length) c1' (l ++ l2) Ao j co ds g x := by
  refine ⟨h.s.app ha, (ha.2.1.block g h.blk.lt (fun e => h.ne1 e.symm)).trans h.blk, fun e => ?_, h.ne2⟩
  rcases ha.2.2 with he | he
  · exact h.ne1 (by rw [← he]; exact e)
  · rw [he] at e
    injection e with e
    have := h.blk.lt
    omega
theorem InsX.reads (h : InsX w V A1 L c1 l Ao j co ds g x) : Reads V V.heap.size 2 (some ⟨g, 0, none⟩) 1 (([x] : List Bm).map bmC).flatten := by
  have := RowsAt.of_blk (rows := [bmC x]) (k := 2) (by simpa using h.blk) (by simp [bmC])
  simpa using this.reads
end
theorem ins_a {w wx : World} {Ao : Option Addr} {j co : Nat} {ds : List Bm} (h : OwM w.heap.size wx Ao j co ds) (hb : Below w.heap.size w wx) : InsS w (wx.alloc (.cells #[] 36)) (some ⟨wx.heap.size, 0, none⟩) 0 0 [] Ao j co ds := by
  refine ⟨?_, h.keep (bel_alloc bel_refl).below, fun k hk e => ?_, aft_on hb (bel_alloc bel_refl).below⟩
  · refine ⟨rfl, ?_, by have := hb.size; simp; omega⟩
    obtain ⟨h1, h2 | ⟨g, cap, cur, h2, h3, h4⟩⟩ := own_empty2 wx 36 2
    · exact ⟨h1, .inl h2⟩
    · exact ⟨h1, .inr ⟨g, cap, cur, h2, Nat.le_trans hb.size h3, h4⟩⟩
  · have := (h.row k e).2
    simp [rowOf] at hk
    omega
theorem ins_c {w wx : World} {Ao : Option Addr} {j co : Nat} {ds : List Bm} (h : OwM w.heap.size wx Ao j co ds) (hb : Below w.heap.size w wx) (x : Bm) : InsX w ((wx.alloc (.cells #[.string (strB x.t), .slice x.A x.d.length x.c] 36)).alloc (.cells #[] 36)) (some ⟨wx.heap.size + 1, 0, none⟩) 0 0 [] Ao j co ds wx.heap.size x := by
  have h1 := ins_a (h.keep (bel_alloc (o := .cells #[.string (strB x.t), .slice x.A x.d.length x.c] 36) (bel_refl (a := wx))).below) (aft_on hb (bel_alloc bel_refl).below)
  rw [World.size_alloc] at h1
  refine ⟨h1, (Blk.new wx 36 (bmC x)).keepB (bel_alloc bel_refl).below, fun e => ?_, fun e => ?_⟩
  · simp [rowOf] at e
  · have := (h.row _ e).2
    omega
theorem ins_done {w V : World} {A3 Ao : Option Addr} {c3 co p j : Nat} {ds es : List Bm} {x : Bm} (h : InsS w V A3 (p + ([x] : List Bm).length + (ds.drop p).length) c3 ([] ++ ds.take p ++ [x] ++ ds.drop p) Ao j co ds) (hp : p ≤ j) (hP : ds.Perm (es.take j)) (hU : TagUp (ds.map bmS)) (hx : es[j]? = some x) (hLO : ∀ y ∈ ds.take p, y.t < x.t) (hD : ∀ y ∈ ds.drop p, x.t < y.t) :
    OwM w.heap.size V A3 (j + 1) c3 (ds.take p ++ [x] ++ ds.drop p) ∧ (ds.take p ++ [x] ++ ds.drop p).Perm (es.take (j + 1)) ∧ TagUp ((ds.take p ++ [x] ++ ds.drop p).map bmS) ∧ j + 1 ≤ c3 ∧ Below w.heap.size w V := by
  have h1 := h.one
  have hl := h.two.len
  have e1 : p + ([x] : List Bm).length + (ds.drop p).length = j + 1 := by rw [List.length_drop, hl]; simp; omega
  rw [e1, List.nil_append] at h1
  refine ⟨h1, ?_, ?_, h1.cap, h.aft⟩
  · rw [take_snoc' hx]
    have h2 : (ds.take p ++ [x] ++ ds.drop p).Perm (ds ++ [x]) := by
      have : (ds.take p ++ [x] ++ ds.drop p).Perm (ds.take p ++ ds.drop p ++ [x]) := by
        rw [List.append_assoc, List.append_assoc]
        exact (List.perm_append_comm).append_left _
      rwa [List.take_append_drop] at this
    exact h2.trans (hP.append_right _)
  · rw [List.map_append, List.map_append]
    refine ins_up (a := (ds.take p).map bmS) (b := (ds.drop p).map bmS) (t := bmS x) ?_ ?_ ?_
    · rwa [← List.map_append, List.take_append_drop]
    · intro y hy
      obtain ⟨z, hz, rfl⟩ := List.mem_map.1 hy
      exact hLO z hz
    · intro y hy
      obtain ⟨z, hz, rfl⟩ := List.mem_map.1 hy
      exact hD z hz
/-- What is wrong with tables, by parts. -/
theorem chk_first {v : Int} {l : List Bl} (h : verB v = false ∨ l.length < 1 ∨ 64 < l.length) : chkS v l = 1 := by unfold chkS; rw [if_pos h]
theorem chk_tag {v : Int} {l : List Bl} {t : Bl} (ht : t ∈ l) (h : isTagB t.1 = false) : chkS v l = 1 := by
  unfold chkS
  split
  · rfl
  · rw [if_pos]
    cases hh : l.all fun t => isTagB t.1
    · rfl
    · rw [List.all_eq_true] at hh
      rw [hh t ht] at h
      cases h
theorem chk_rest {v : Int} {l : List Bl} (hv : verB v = true) (h1 : 1 ≤ l.length) (h2 : l.length ≤ 64) (ht : ∀ t ∈ l, isTagB t.1 = true) : chkS v l = if ¬ (l.map Prod.fst).Nodup then 5 else if 1048576 < sizeS4 l then 3 else 0 := by
  unfold chkS
  rw [if_neg (by rintro (h | h | h); rw [hv] at h; cases h; omega; omega), if_neg]
  rw [Bool.not_eq_false, List.all_eq_true]
  exact ht
theorem dup_of {es ds : List Bm} {j : Nat} {x y : Bm} (hp : ds.Perm (es.take j)) (hx : es[j]? = some x) (hy : y ∈ ds) (h : y.t = x.t) : ¬ ((es.map bmS).map Prod.fst).Nodup := by
  intro hn
  have hj := (List.getElem?_eq_some_iff.1 hx).1
  rw [← List.take_append_drop j es, List.map_append, List.map_append, List.nodup_append] at hn
  refine hn.2.2 y.t (List.mem_map.2 ⟨bmS y, List.mem_map_of_mem (hp.mem_iff.1 hy), rfl⟩) x.t (List.mem_map.2 ⟨bmS x, List.mem_map_of_mem ?_, rfl⟩) h
  rw [List.drop_eq_getElem_cons hj]
  obtain ⟨_, rfl⟩ := List.getElem?_eq_some_iff.1 hx
  exact List.mem_cons_self ..
theorem below_up {ds : List Bm} {p : Nat} {y x : Bm} {vt : List UInt8} (hu : TagUp (ds.map bmS)) (hy : ds[p - 1]? = some y) (_hp : 0 < p) (h : y.t < vt) (hx : x ∈ ds.take p) : x.t < vt := by
  obtain ⟨i, hi⟩ := List.getElem?_of_mem hx
  rw [List.getElem?_take] at hi
  split at hi
  · rename_i hip
    rcases Nat.lt_or_ge i (p - 1) with h1 | h1
    · unfold TagUp at hu
      rw [List.pairwise_map, List.pairwise_iff_getElem] at hu
      obtain ⟨g1, rfl⟩ := List.getElem?_eq_some_iff.1 hi
      obtain ⟨g2, rfl⟩ := List.getElem?_eq_some_iff.1 hy
      exact lt_tr (hu i (p - 1) g1 g2 h1) h
    · obtain rfl : i = p - 1 := by omega
      rw [hy] at hi
      injection hi with hi
      rw [← hi]
      exact h
  · cases hi
theorem drop_back {ds : List Bm} {p : Nat} {y : Bm} {vt : List UInt8} (hy : ds[p - 1]? = some y) (hp : 0 < p) (h : vt < y.t) (hd : ∀ x ∈ ds.drop p, vt < x.t) : ∀ x ∈ ds.drop (p - 1), vt < x.t := by
  intro x hx
  obtain ⟨g2, rfl⟩ := List.getElem?_eq_some_iff.1 hy
  rw [List.drop_eq_getElem_cons g2, show p - 1 + 1 = p by omega] at hx
  rcases List.mem_cons.1 hx with rfl | hx
  · exact h
  · exact hd x hx
/-- What the document's Build hands back. -/
def RbR (N : List UInt8) (x : Int) (w : World) (e : Ending) (w' : World) : Prop := ∃ A' c', e = .returned (.tuple #[.slice A' N.length c', .int .i64 x]) ∧ SlAt w' A' N.length (N.map byteV) ∧ Below w.heap.size w w'
theorem rb_bad {v : Int} {l : List Bl} {x : Int} {w w' : World} (h : chkS v l = x) (hx : x ≠ 0) (hb : Below w.heap.size w w') : RbR (buildS v l) (chkS v l) w (.returned (.tuple #[.slice none 0 0, .int .i64 x])) w' := by
  have hn : buildS v l = [] := by unfold buildS; rw [if_neg (by rw [h]; exact hx)]
  rw [hn, h]
  exact ⟨none, 0, rfl, ⟨rfl, fun k hk => absurd hk (by simp)⟩, hb⟩
theorem rb_ok {v : Int} {l : List Bl} {w w' : World} {A : Option Addr} {m c : Nat} (h : chkS v l = 0) (hm : (layS v (srtT l)).length = m) (hs : SlAt w' A m ((layS v (srtT l)).map byteV)) (hb : Below w.heap.size w w') : RbR (buildS v l) (chkS v l) w (.returned (.tuple #[.slice A m c, .int .i64 0])) w' := by
  have hn : buildS v l = layS v (srtT l) := by unfold buildS; exact if_pos h
  rw [hn, h]
  subst hm
  exact ⟨A, c, rfl, hs, hb⟩
theorem tot_mem {l : List Bl} {t : Bl} (h : t ∈ l) : upN t.2.length ≤ totS l := by
  obtain ⟨a, b, rfl⟩ := List.append_of_mem h
  rw [totS_append, totS_cons]
  omega
set_option maxRecDepth 100000 in
set_option maxHeartbeats 4000000 in
theorem rBuild_any {w : World} {A : Option Addr} {n c : Nat} {es : List Bm} (v : Int) (h : BlL w A n es) (hm : n ≤ 140737488355328) :
    Calls Try.prog 11 #[.int .i64 v, .slice A n c] w (RbR (buildS v (es.map bmS)) (chkS v (es.map bmS)) w) := by
  have hl := h.len
  obtain ⟨l, hll⟩ : ∃ l, es.map bmS = l := ⟨_, rfl⟩
  have hln : l.length = n := by rw [← hll, List.length_map]; exact hl
  rw [hll]
  have H := Lib.hid h
  have HLL := Lib.hid hll
  have HLN := Lib.hid hln
  have HSL := Lib.hid hl
  have HBAD := Lib.hid fun (x : Int) (w' : World) (h : chkS v l = x) (hx : x ≠ 0) (hb : Below w.heap.size w w') => rb_bad h hx hb
  have HOK := Lib.hid fun (w' : World) (A : Option Addr) (m c : Nat) (h : chkS v l = 0) (hm : (layS v (srtT l)).length = m) (hs : SlAt w' A m ((layS v (srtT l)).map byteV)) (hb : Below w.heap.size w w') => rb_ok (c := c) h hm hs hb
  have HV := Lib.hid (rVersion_any v)
  have HF := Lib.hid (fun h => chk_first (v := v) (l := l) h)
  have HT := Lib.hid (fun t ht h => chk_tag (v := v) (l := l) (t := t) ht h)
  have HR := Lib.hid (fun h1 h2 h3 h4 => chk_rest (v := v) (l := l) h1 h2 h3 h4)
  clear h hl hll hln
  rw [HLN.out] at HF HR
  generalize RbR (buildS v l) (chkS v l) w = R at *
  by_cases hbad : verB v = false ∨ n < 1 ∨ 64 < n
  · have hc := HF.out hbad
    have HC := Lib.hid hc
    clear HR HT HF hc
    have hcs : verB v = false ∨ (verB v = true ∧ decide ((n : Int) < 1) = true) ∨ (verB v = true ∧ decide ((n : Int) < 1) = false ∧ decide ((64 : Int) < n) = true) := by
      cases hv : verB v
      · exact .inl rfl
      · right
        rcases Nat.lt_or_ge n 1 with h1 | h1
        · exact .inl ⟨rfl, by simp; omega⟩
        · refine .inr ⟨rfl, by simp; omega, ?_⟩
          rcases hbad with h | h | h
          · rw [hv] at h; cases h
          · omega
          · simp; omega
    clear hbad
    rcases hcs with hv | ⟨hv, d1⟩ | ⟨hv, d1, d2⟩
    all_goals
      rw [hv] at HV
      clear hv
      go_enter Try.func11, Try.ntmps11
      go_wp2_with (first
        | (go_at_call 31; (with_reducible refine (HV.out _).mono ?_); rintro e w1 ⟨rfl, rfl⟩)
        | fail)
      exact HBAD.out 1 _ HC.out (by decide) (Below.refl _ _)
  obtain ⟨hv, n1, n2⟩ : verB v = true ∧ 1 ≤ n ∧ n ≤ 64 := by
    refine ⟨?_, by omega, by omega⟩
    cases hv : verB v
    · exact absurd (Or.inl hv) hbad
    · rfl
  have HRR := Lib.hid (HR.out hv n1 n2)
  rw [hv] at HV
  clear HR HF hbad hv
  have d1 : decide ((n : Int) < 1) = false := by simp; omega
  have d2 : decide ((64 : Int) < n) = false := by simp; omega
  go_enter Try.func11, Try.ntmps11
  go_wp2_with (first
    | (go_at_call 31; (with_reducible refine (HV.out _).mono ?_); rintro e w1 ⟨rfl, rfl⟩)
    | fail)
  go_loopw [7] (fun i wr => ∃ j : Nat, j ≤ n ∧ i = .int .i64 j ∧ Hid (∀ t ∈ l.take j, isTagB t.1 = true) ∧ Hid (Below w.heap.size w wr)) (fun i _ => n - (intOf i).toNat)
  case atStart => exact ⟨0, Nat.zero_le _, rfl, Lib.hid (fun t ht => by simp at ht), Lib.hid (Below.refl _ _)⟩
  case round =>
    obtain ⟨j, hj, rfl, HA, HB⟩ := hrel
    by_cases hlt : j < n
    · have d3 : decide ((j : Int) < n) = true := by simp; omega
      obtain ⟨⟨vt, vA, vc, vd⟩, hv⟩ := get_some' (l := es) (k := j) (by rw [HSL.out]; exact hlt)
      obtain ⟨b, o, rfl, hb, hc0, hc1⟩ := H.out.at_ hv
      have hlk : l[j]? = some (vt, vd) := by rw [← HLL.out, List.getElem?_map, hv]; rfl
      have hs2 := (H.out.small _ (List.mem_of_getElem? hv)).2
      dsimp only at hc0 hc1 hs2
      have r0 := (HB.out.cell (p := ⟨b, _, none⟩) hb).trans hc0
      have hbl := Nat.lt_of_lt_of_le hb HB.out.size
      have HTG := Lib.hid fun W => rIsTag_any vt hs2 W
      have HLK := Lib.hid hlk
      clear hc0 hc1 hv hlk
      rcases Bool.eq_false_or_eq_true (isTagB vt) with hg | hg
      · rw [hg] at HTG
        go_wp2_with (first
          | (go_at_call 18; (with_reducible refine (HTG.out _).mono ?_); rintro e w2 ⟨rfl, hb2⟩; have HB2 := Lib.hid (HB.out.trans (hb2.mono HB.out.size)); clear hb2)
          | fail)
        go_roundw
        case rel =>
          refine ⟨j + 1, by omega, by go_num, Lib.hid ?_, HB2⟩
          intro t ht
          rw [take_snoc' HLK.out] at ht
          rcases List.mem_append.1 ht with ht | ht
          · exact HA.out t ht
          · rw [List.mem_singleton] at ht
            rw [ht]
            exact hg
        case measure => simp [intOf]; omega
      · have HC := Lib.hid (HT.out _ (List.mem_of_getElem? HLK.out) hg)
        rw [hg] at HTG
        clear HT HRR HA
        go_wp2_with (first
          | (go_at_call 18; (with_reducible refine (HTG.out _).mono ?_); rintro e w2 ⟨rfl, hb2⟩; have HB2 := Lib.hid (HB.out.trans (hb2.mono HB.out.size)); clear hb2)
          | fail)
        exact HBAD.out 1 _ HC.out (by decide) HB2.out
    · have hjn : j = n := by omega
      have hA := HA.out
      rw [List.take_of_length_le (by rw [HLN.out, hjn]; exact Nat.le_refl _)] at hA
      have d3 : decide ((j : Int) < n) = false := by simp; omega
      clear hjn
      have HCH := Lib.hid (HRR.out hA)
      have HTAG := Lib.hid hA
      clear HRR HA HT hA
      go_upto_region 11 with fail
      go_loopw [8, 9] (fun so i wr => ∃ (j : Nat) (Ao : Option Addr) (co : Nat) (ds : List Bm), j ≤ n ∧ i = .int .i64 j ∧ so = .slice Ao j co ∧ Hid (OwM w.heap.size wr Ao j co ds) ∧ Hid (ds.Perm (es.take j)) ∧ Hid (TagUp (ds.map bmS)) ∧ j ≤ co ∧ Hid (Below w.heap.size w wr)) (fun _ i _ => n - (intOf i).toNat)
      case atStart => exact ⟨0, none, 0, [], Nat.zero_le _, rfl, rfl, Lib.hid (OwM.nil HB.out.size), Lib.hid (by rw [List.take_zero]), Lib.hid List.Pairwise.nil, Nat.le_refl _, HB⟩
      case round =>
        clear HB
        obtain ⟨j, Ao, co, ds, hj, rfl, rfl, HO, HP, HU, hjc, HB⟩ := hrel
        by_cases hlt : j < n
        · have d3 : decide ((j : Int) < n) = true := by simp; omega
          obtain ⟨⟨vt, vA, vc, vd⟩, hv⟩ := get_some' (l := es) (k := j) (by rw [HSL.out]; exact hlt)
          obtain ⟨b, o, rfl, hb, hc0, hc1⟩ := H.out.at_ hv
          dsimp only at hc0 hc1
          have r0 := (HB.out.cell (p := ⟨b, _, none⟩) hb).trans hc0
          have r1 := (HB.out.cell (p := ⟨b, _, none⟩) hb).trans hc1
          have hbl := Nat.lt_of_lt_of_le hb HB.out.size
          have HX := Lib.hid hv
          have HC0 := Lib.hid hc0
          have HC1 := Lib.hid hc1
          clear hc0 hc1 hv
          obtain ⟨w0, hw0⟩ : ∃ x, wr = x := ⟨_, rfl⟩
          have HW0 := Lib.hid hw0
          clear hw0
          go_upto_region 14 with fail
          go_loopw [10] (fun a wr2 => ∃ p : Nat, p ≤ j ∧ a = .int .i64 p ∧ Hid (∀ x ∈ ds.drop p, vt < x.t) ∧ Hid (Below wr.heap.size wr wr2)) (fun a _ => (intOf a).toNat)
          case atStart => exact ⟨j, Nat.le_refl _, rfl, Lib.hid (fun x hx => by rw [List.drop_of_length_le (by rw [HO.out.len]; exact Nat.le_refl _)] at hx; cases hx), Lib.hid (Below.refl _ _)⟩
          case round =>
            obtain ⟨p, hp, rfl, HD, HK⟩ := hrel
            have s0 := (HK.out.cell (p := ⟨b, _, none⟩) hbl).trans r0
            have s1 := (HK.out.cell (p := ⟨b, _, none⟩) hbl).trans r1
            have hbs := Nat.lt_of_lt_of_le hbl HK.out.size
            have HKD : Hid (∀ q, Below w.heap.size w (wr.drewN q)) := Lib.hid fun q => HB.out.trans ((HK.out.trans ((bel_drewN (bel_refl (a := wr)) (n := q)).below.mono HK.out.size)).mono HB.out.size)
            have HOD : Hid (∀ q, OwM w.heap.size (wr.drewN q) Ao j co ds) := Lib.hid fun q => HO.out.keep (HK.out.trans ((bel_drewN (bel_refl (a := wr)) (n := q)).below.mono HK.out.size))
            have HKE : Hid (∀ q, Below w0.heap.size w0 (wr.drewN q)) := Lib.hid fun q => HW0.out ▸ (HK.out.trans ((bel_drewN (bel_refl (a := wr)) (n := q)).below.mono HK.out.size))
            rcases Nat.eq_zero_or_pos p with hp0 | hp0
            · have d4 : decide ((0 : Int) < p) = false := by simp; omega
              have d4' : decide (0 < p) = false := by simp; omega
              have HLO : Hid (∀ x ∈ ds.take p, x.t < vt) := Lib.hid (by rw [hp0]; intro x hx; simp at hx)
              clear hp0
              go_wp2_with fail
              go_quiet (fail)
              go_wp2_with fail
              generalize hwx : World.drewN wr _ = wx
              have HOX : Hid (OwM w.heap.size wx Ao j co ds) := Lib.hid (by rw [← hwx]; exact HOD.out _)
              have HBX : Hid (Below w.heap.size w wx) := Lib.hid (by rw [← hwx]; exact HKD.out _)
              clear HK HOD HKD HKE s0 s1 hbs hwx
              have hcs : ∀ u, Aft w u → u.cell? ⟨b, o + j * 2, none⟩ = some (.string (strB vt)) := fun u hu => (hu.cell (p := ⟨b, _, none⟩) hb).trans HC0.out
              have hct : ∀ u, Aft w u → u.cell? ⟨b, o + j * 2 + 1, none⟩ = some (.slice vA vd.length vc) := fun u hu => (hu.cell (p := ⟨b, _, none⟩) hb).trans HC1.out
              have hcu : ∀ u, Aft w u → b < u.heap.size := fun u hu => Nat.lt_of_lt_of_le hb hu.size
              have hSa := ins_a HOX.out HBX.out
              have hSb := hSa.box ⟨vt, vA, vc, vd⟩
              have hSc := ins_c HOX.out HBX.out ⟨vt, vA, vc, vd⟩
              have HD0 : Hid (Aft w wx.drew) := Lib.hid (aft_on HBX.out (bel_drew bel_refl).below)
              have HSa : Hid (InsS w (wx.alloc (.cells #[] 36)).drew (some ⟨wx.heap.size, 0, none⟩) 0 0 [] Ao j co ds) := Lib.hid (hSa.keep (bel_drew bel_refl).below)
              have HSb : Hid (InsX w ((wx.alloc (.cells #[] 36)).alloc (.cells #[.string (strB vt), .slice vA vd.length vc] 36)).drew (some ⟨wx.heap.size, 0, none⟩) 0 0 [] Ao j co ds (wx.heap.size + 1) ⟨vt, vA, vc, vd⟩) := Lib.hid (by have := hSb.keep (bel_drew (bel_refl (a := _))).below; rwa [World.size_alloc] at this)
              have HSc : Hid (InsX w ((wx.alloc (.cells #[.string (strB vt), .slice vA vd.length vc] 36)).alloc (.cells #[] 36)).drew (some ⟨wx.heap.size + 1, 0, none⟩) 0 0 [] Ao j co ds wx.heap.size ⟨vt, vA, vc, vd⟩) := Lib.hid (hSc.keep (bel_drew bel_refl).below)
              have HDa : Hid (Aft w (wx.alloc (.cells #[.string (strB vt), .slice vA vd.length vc] 36)).drew) := Lib.hid (aft_on HBX.out (bel_drew (bel_alloc bel_refl)).below)
              clear hSa hSb hSc
              have hpl : (ds.take p).length = p := by rw [List.length_take, HOX.out.len]; omega
              have hql : (ds.drop p).length = j - p := by rw [List.length_drop, HOX.out.len]
              have HRP : Hid (∀ V : World, OwM w.heap.size V Ao j co ds → Reads V V.heap.size 2 Ao p ((ds.take p).map bmC).flatten) := Lib.hid fun V h => by have := (h.rows.pre hp).reads; rwa [← List.map_take] at this
              have q2 : (p : Int) ≤ co := by omega
              have q3 : (p : Int) ≤ j := by omega
              have hp6 : 0 + p ≤ 1000000 := by omega
              have hp7 : p + 1 ≤ 1000000 := by omega
              have hp8 : p + 1 + (j - p) ≤ 1000000 := by omega
              by_cases hcp : p = co
              · have hjp : j = p := by omega
                subst hcp
                subst hjp
                have hd0 : ds.drop j = [] := List.drop_of_length_le (by rw [HOX.out.len]; omega)
                have hql0 : (ds.drop j).length = 0 := by rw [hd0]; rfl
                have HRQ : Hid (∀ V : World, Reads V V.heap.size 2 Ao 0 ((ds.drop j).map bmC).flatten) := Lib.hid fun V => by rw [hd0]; exact ⟨rfl, fun h => absurd h (by omega)⟩
                have hp9 : j + 1 + 0 ≤ 1000000 := by omega
                clear hd0 hql
                go_region_held3 (fun u => Aft w u) (first | (with_reducible exact HD0.out) | (with_reducible exact HSa.out.aft) | (with_reducible exact HSb.out.s.aft) | (with_reducible exact HSc.out.s.aft) | (with_reducible exact HDa.out) | (with_reducible exact HS2.out.aft) | (with_reducible exact HX2.out.s.aft) | (with_reducible exact HS3.out.aft) | (with_reducible exact HS4.out.aft)) (first
                  | ((refine step_append_bms ?_ (.tmp 80) (.tmp 83) ?_ ?_ HSa.out.one Ao j j ?_ (ds.take j) hpl (HRP.out _ HSa.out.two) j (Nat.zero_add j) hp6 ?_); (· rfl); (· rfl); (· kernel_rfl); (· kernel_rfl); intro A1 c1 w1 hap; have hs2 := HSa.out.app hap; rw [hpl, Nat.zero_add] at hs2; have HS2 := Lib.hid hs2; have HX2 := Lib.hid (hs2.box ⟨vt, vA, vc, vd⟩); clear hap hs2)
                  | ((refine step_append_bms ?_ (.tmp 80) (.tmp 83) ?_ ?_ HSb.out.s.one Ao j j ?_ (ds.take j) hpl (HRP.out _ HSb.out.s.two) j (Nat.zero_add j) hp6 ?_); (· rfl); (· rfl); (· kernel_rfl); (· kernel_rfl); intro A1 c1 w1 hap; have hs2 := HSb.out.app hap; rw [hpl, Nat.zero_add] at hs2; have HX2 := Lib.hid hs2; clear hap hs2)
                  | ((refine step_append_bms ?_ (.tmp 80) (.tmp 83) ?_ ?_ HSc.out.s.one Ao j j ?_ (ds.take j) hpl (HRP.out _ HSc.out.s.two) j (Nat.zero_add j) hp6 ?_); (· rfl); (· rfl); (· kernel_rfl); (· kernel_rfl); intro A1 c1 w1 hap; have hs2 := HSc.out.app hap; rw [hpl, Nat.zero_add] at hs2; have HX2 := Lib.hid hs2; clear hap hs2)
                  | ((refine step_append_bms ?_ (.tmp 84) (.tmp 89) ?_ ?_ HX2.out.s.one _ 1 1 ?_ [⟨vt, vA, vc, vd⟩] rfl HX2.out.reads (j + 1) rfl hp7 ?_); (· rfl); (· rfl); (· kernel_rfl); (· kernel_rfl); intro A2 c2 w2 hap; have HS3 := Lib.hid (HX2.out.s.app hap); clear hap)
                  | ((refine step_append_bms ?_ (.tmp 90) (.tmp 93) ?_ ?_ HS3.out.one Ao 0 0 ?_ (ds.drop j) hql0 (HRQ.out _) (j + 1) rfl hp9 ?_); (· rfl); (· rfl); (· kernel_rfl); (· kernel_rfl); intro A3 c3 w3 hap; have HS4 := Lib.hid (HS3.out.app hap); clear hap)
                  | fail)
                all_goals
                  obtain ⟨g1, g2, g3, g4, g5⟩ := ins_done HS4.out hp HP.out HU.out HX.out HLO.out HD.out
                  have G1 := Lib.hid g1
                  have G2 := Lib.hid g2
                  have G3 := Lib.hid g3
                  have G5 := Lib.hid g5
                  clear g1 g2 g3 g5 HS4 HS3 HX2 HSa HSb HSc HOX HBX HDa HD0 HRP HRQ hcs hct hcu HP HU HX HLO HD HCH q2 q3
                  go_wp2_with fail
                  exact ⟨⟨j + 1, A3, c3, _, by omega, by go_num, rfl, G1, G2, G3, g4, G5⟩, by simp [intOf]; omega⟩
              · obtain ⟨gO, rfl⟩ : ∃ g, Ao = some ⟨g, 0, none⟩ := by
                  rcases HOX.out.place with ⟨_, h1, h2⟩ | h
                  · omega
                  · exact h
                have hga := addr_zero gO (p * 2)
                have HRQ : Hid (∀ V : World, OwM w.heap.size V (some ⟨gO, 0, none⟩) j co ds → Reads V V.heap.size 2 (some ⟨gO, p * 2, none⟩) (j - p) ((ds.drop p).map bmC).flatten) := Lib.hid fun V h => by have := (h.rows.suf hp).reads; rwa [← List.map_drop, Option.map_some, hga] at this
                clear hga
                have e9 : p + 1 + (j - p) = j + 1 := by omega
                have hcp2 : ¬ co = p := fun e => hcp e.symm
                go_region_held3 (fun u => Aft w u) (first | (with_reducible exact HD0.out) | (with_reducible exact HSa.out.aft) | (with_reducible exact HSb.out.s.aft) | (with_reducible exact HSc.out.s.aft) | (with_reducible exact HDa.out) | (with_reducible exact HS2.out.aft) | (with_reducible exact HX2.out.s.aft) | (with_reducible exact HS3.out.aft) | (with_reducible exact HS4.out.aft)) (first
                  | ((refine step_append_bms ?_ (.tmp 80) (.tmp 83) ?_ ?_ HSa.out.one (some ⟨gO, 0, none⟩) p co ?_ (ds.take p) hpl (HRP.out _ HSa.out.two) p (Nat.zero_add p) hp6 ?_); (· rfl); (· rfl); (· kernel_rfl); (· kernel_rfl); intro A1 c1 w1 hap; have hs2 := HSa.out.app hap; rw [hpl, Nat.zero_add] at hs2; have HS2 := Lib.hid hs2; have HX2 := Lib.hid (hs2.box ⟨vt, vA, vc, vd⟩); clear hap hs2)
                  | ((refine step_append_bms ?_ (.tmp 80) (.tmp 83) ?_ ?_ HSb.out.s.one (some ⟨gO, 0, none⟩) p co ?_ (ds.take p) hpl (HRP.out _ HSb.out.s.two) p (Nat.zero_add p) hp6 ?_); (· rfl); (· rfl); (· kernel_rfl); (· kernel_rfl); intro A1 c1 w1 hap; have hs2 := HSb.out.app hap; rw [hpl, Nat.zero_add] at hs2; have HX2 := Lib.hid hs2; clear hap hs2)
                  | ((refine step_append_bms ?_ (.tmp 80) (.tmp 83) ?_ ?_ HSc.out.s.one (some ⟨gO, 0, none⟩) p co ?_ (ds.take p) hpl (HRP.out _ HSc.out.s.two) p (Nat.zero_add p) hp6 ?_); (· rfl); (· rfl); (· kernel_rfl); (· kernel_rfl); intro A1 c1 w1 hap; have hs2 := HSc.out.app hap; rw [hpl, Nat.zero_add] at hs2; have HX2 := Lib.hid hs2; clear hap hs2)
                  | ((refine step_append_bms ?_ (.tmp 84) (.tmp 89) ?_ ?_ HX2.out.s.one _ 1 1 ?_ [⟨vt, vA, vc, vd⟩] rfl HX2.out.reads (p + 1) rfl hp7 ?_); (· rfl); (· rfl); (· kernel_rfl); (· kernel_rfl); intro A2 c2 w2 hap; have HS3 := Lib.hid (HX2.out.s.app hap); clear hap)
                  | ((refine step_append_bms ?_ (.tmp 90) (.tmp 93) ?_ ?_ HS3.out.one (some ⟨gO, p * 2, none⟩) (j - p) (co - p) ?_ (ds.drop p) hql (HRQ.out _ HS3.out.two) (j + 1) e9 hp8 ?_); (· rfl); (· rfl); (· kernel_rfl); (· kernel_rfl); intro A3 c3 w3 hap; have HS4 := Lib.hid (HS3.out.app hap); clear hap)
                  | fail)
                all_goals
                  obtain ⟨g1, g2, g3, g4, g5⟩ := ins_done HS4.out hp HP.out HU.out HX.out HLO.out HD.out
                  have G1 := Lib.hid g1
                  have G2 := Lib.hid g2
                  have G3 := Lib.hid g3
                  have G5 := Lib.hid g5
                  clear g1 g2 g3 g5 HS4 HS3 HX2 HSa HSb HSc HOX HBX HDa HD0 HRP HRQ hcs hct hcu HP HU HX HLO HD HCH q2 q3
                  go_wp2_with fail
                  exact ⟨⟨j + 1, A3, c3, _, by omega, by go_num, rfl, G1, G2, G3, g4, G5⟩, by simp [intOf]; omega⟩
            · obtain ⟨⟨yt, yA, yc, yd⟩, hy⟩ := get_some' (l := ds) (k := p - 1) (by rw [HO.out.len]; omega)
              obtain ⟨b2, o2, hAo, hb2, hcc⟩ := HO.out.rows.at_ (i := p - 1) (r := bmC ⟨yt, yA, yc, yd⟩) (by rw [List.getElem?_map, hy]; rfl)
              have t0 : wr.cell? ⟨b2, o2 + (p - 1) * 2, none⟩ = some (.string (strB yt)) := (HK.out.cell (p := ⟨b2, _, none⟩) hb2).trans (hcc 0 _ rfl)
              have hb2s := Nat.lt_of_lt_of_le hb2 HK.out.size
              have d4 : decide ((0 : Int) < p) = true := by simp; omega
              have d4' : decide (0 < p) = true := by simp; omega
              have d5 : (p : Int) - 1 < j := by omega
              have d8 : (p : Int) ≤ j := by omega
              have d9 : (1 : Int) ≤ p := by omega
              have d10 : 1 ≤ p := hp0
              have d11 : (0 : Int) < p := by omega
              have d7 : IntKind.i64.wrap ((p : Int) - 1) = (p : Int) - 1 := IntWalk.i64_in _ (by omega)
              have d6 : (0 : Int) ≤ (p : Int) - 1 := by omega
              have hpn : ((p : Int) - 1).toNat = p - 1 := by omega
              have HY := Lib.hid hy
              have HAO := Lib.hid hAo
              rw [hAo]
              clear hcc hy hAo
              rcases lt_tri yt vt with hlt2 | heq | hgt
              · have e1 : Op.bytesLess yt vt = true := by rw [bytesLess_eq]; simpa using hlt2
                have HLO : Hid (∀ x ∈ ds.take p, x.t < vt) := Lib.hid fun x hx => below_up HU.out HY.out hp0 hlt2 hx
                clear hlt2
                go_wp2_with fail
                go_quiet (fail)
                go_wp2_with fail
                rw [← HAO.out]
                generalize hwx : World.drewN wr _ = wx
                have HOX : Hid (OwM w.heap.size wx Ao j co ds) := Lib.hid (by rw [← hwx]; exact HOD.out _)
                have HBX : Hid (Below w.heap.size w wx) := Lib.hid (by rw [← hwx]; exact HKD.out _)
                clear HK HOD HKD HKE s0 s1 hbs hwx
                have hcs : ∀ u, Aft w u → u.cell? ⟨b, o + j * 2, none⟩ = some (.string (strB vt)) := fun u hu => (hu.cell (p := ⟨b, _, none⟩) hb).trans HC0.out
                have hct : ∀ u, Aft w u → u.cell? ⟨b, o + j * 2 + 1, none⟩ = some (.slice vA vd.length vc) := fun u hu => (hu.cell (p := ⟨b, _, none⟩) hb).trans HC1.out
                have hcu : ∀ u, Aft w u → b < u.heap.size := fun u hu => Nat.lt_of_lt_of_le hb hu.size
                have hSa := ins_a HOX.out HBX.out
                have hSb := hSa.box ⟨vt, vA, vc, vd⟩
                have hSc := ins_c HOX.out HBX.out ⟨vt, vA, vc, vd⟩
                have HD0 : Hid (Aft w wx.drew) := Lib.hid (aft_on HBX.out (bel_drew bel_refl).below)
                have HSa : Hid (InsS w (wx.alloc (.cells #[] 36)).drew (some ⟨wx.heap.size, 0, none⟩) 0 0 [] Ao j co ds) := Lib.hid (hSa.keep (bel_drew bel_refl).below)
                have HSb : Hid (InsX w ((wx.alloc (.cells #[] 36)).alloc (.cells #[.string (strB vt), .slice vA vd.length vc] 36)).drew (some ⟨wx.heap.size, 0, none⟩) 0 0 [] Ao j co ds (wx.heap.size + 1) ⟨vt, vA, vc, vd⟩) := Lib.hid (by have := hSb.keep (bel_drew (bel_refl (a := _))).below; rwa [World.size_alloc] at this)
                have HSc : Hid (InsX w ((wx.alloc (.cells #[.string (strB vt), .slice vA vd.length vc] 36)).alloc (.cells #[] 36)).drew (some ⟨wx.heap.size + 1, 0, none⟩) 0 0 [] Ao j co ds wx.heap.size ⟨vt, vA, vc, vd⟩) := Lib.hid (hSc.keep (bel_drew bel_refl).below)
                have HDa : Hid (Aft w (wx.alloc (.cells #[.string (strB vt), .slice vA vd.length vc] 36)).drew) := Lib.hid (aft_on HBX.out (bel_drew (bel_alloc bel_refl)).below)
                clear hSa hSb hSc
                have hpl : (ds.take p).length = p := by rw [List.length_take, HOX.out.len]; omega
                have hql : (ds.drop p).length = j - p := by rw [List.length_drop, HOX.out.len]
                have HRP : Hid (∀ V : World, OwM w.heap.size V Ao j co ds → Reads V V.heap.size 2 Ao p ((ds.take p).map bmC).flatten) := Lib.hid fun V h => by have := (h.rows.pre hp).reads; rwa [← List.map_take] at this
                have q2 : (p : Int) ≤ co := by omega
                have q3 : (p : Int) ≤ j := by omega
                have hp6 : 0 + p ≤ 1000000 := by omega
                have hp7 : p + 1 ≤ 1000000 := by omega
                have hp8 : p + 1 + (j - p) ≤ 1000000 := by omega
                by_cases hcp : p = co
                · have hjp : j = p := by omega
                  subst hcp
                  subst hjp
                  have hd0 : ds.drop j = [] := List.drop_of_length_le (by rw [HOX.out.len]; omega)
                  have hql0 : (ds.drop j).length = 0 := by rw [hd0]; rfl
                  have HRQ : Hid (∀ V : World, Reads V V.heap.size 2 Ao 0 ((ds.drop j).map bmC).flatten) := Lib.hid fun V => by rw [hd0]; exact ⟨rfl, fun h => absurd h (by omega)⟩
                  have hp9 : j + 1 + 0 ≤ 1000000 := by omega
                  clear hd0 hql
                  go_region_held3 (fun u => Aft w u) (first | (with_reducible exact HD0.out) | (with_reducible exact HSa.out.aft) | (with_reducible exact HSb.out.s.aft) | (with_reducible exact HSc.out.s.aft) | (with_reducible exact HDa.out) | (with_reducible exact HS2.out.aft) | (with_reducible exact HX2.out.s.aft) | (with_reducible exact HS3.out.aft) | (with_reducible exact HS4.out.aft)) (first
                    | ((refine step_append_bms ?_ (.tmp 80) (.tmp 83) ?_ ?_ HSa.out.one Ao j j ?_ (ds.take j) hpl (HRP.out _ HSa.out.two) j (Nat.zero_add j) hp6 ?_); (· rfl); (· rfl); (· kernel_rfl); (· kernel_rfl); intro A1 c1 w1 hap; have hs2 := HSa.out.app hap; rw [hpl, Nat.zero_add] at hs2; have HS2 := Lib.hid hs2; have HX2 := Lib.hid (hs2.box ⟨vt, vA, vc, vd⟩); clear hap hs2)
                    | ((refine step_append_bms ?_ (.tmp 80) (.tmp 83) ?_ ?_ HSb.out.s.one Ao j j ?_ (ds.take j) hpl (HRP.out _ HSb.out.s.two) j (Nat.zero_add j) hp6 ?_); (· rfl); (· rfl); (· kernel_rfl); (· kernel_rfl); intro A1 c1 w1 hap; have hs2 := HSb.out.app hap; rw [hpl, Nat.zero_add] at hs2; have HX2 := Lib.hid hs2; clear hap hs2)
                    | ((refine step_append_bms ?_ (.tmp 80) (.tmp 83) ?_ ?_ HSc.out.s.one Ao j j ?_ (ds.take j) hpl (HRP.out _ HSc.out.s.two) j (Nat.zero_add j) hp6 ?_); (· rfl); (· rfl); (· kernel_rfl); (· kernel_rfl); intro A1 c1 w1 hap; have hs2 := HSc.out.app hap; rw [hpl, Nat.zero_add] at hs2; have HX2 := Lib.hid hs2; clear hap hs2)
                    | ((refine step_append_bms ?_ (.tmp 84) (.tmp 89) ?_ ?_ HX2.out.s.one _ 1 1 ?_ [⟨vt, vA, vc, vd⟩] rfl HX2.out.reads (j + 1) rfl hp7 ?_); (· rfl); (· rfl); (· kernel_rfl); (· kernel_rfl); intro A2 c2 w2 hap; have HS3 := Lib.hid (HX2.out.s.app hap); clear hap)
                    | ((refine step_append_bms ?_ (.tmp 90) (.tmp 93) ?_ ?_ HS3.out.one Ao 0 0 ?_ (ds.drop j) hql0 (HRQ.out _) (j + 1) rfl hp9 ?_); (· rfl); (· rfl); (· kernel_rfl); (· kernel_rfl); intro A3 c3 w3 hap; have HS4 := Lib.hid (HS3.out.app hap); clear hap)
                    | fail)
                  all_goals
                    obtain ⟨g1, g2, g3, g4, g5⟩ := ins_done HS4.out hp HP.out HU.out HX.out HLO.out HD.out
                    have G1 := Lib.hid g1
                    have G2 := Lib.hid g2
                    have G3 := Lib.hid g3
                    have G5 := Lib.hid g5
                    clear g1 g2 g3 g5 HS4 HS3 HX2 HSa HSb HSc HOX HBX HDa HD0 HRP HRQ hcs hct hcu HP HU HX HLO HD HCH q2 q3
                    go_wp2_with fail
                    exact ⟨⟨j + 1, A3, c3, _, by omega, by go_num, rfl, G1, G2, G3, g4, G5⟩, by simp [intOf]; omega⟩
                · obtain ⟨gO, rfl⟩ : ∃ g, Ao = some ⟨g, 0, none⟩ := by
                    rcases HOX.out.place with ⟨_, h1, h2⟩ | h
                    · omega
                    · exact h
                  have hga := addr_zero gO (p * 2)
                  have HRQ : Hid (∀ V : World, OwM w.heap.size V (some ⟨gO, 0, none⟩) j co ds → Reads V V.heap.size 2 (some ⟨gO, p * 2, none⟩) (j - p) ((ds.drop p).map bmC).flatten) := Lib.hid fun V h => by have := (h.rows.suf hp).reads; rwa [← List.map_drop, Option.map_some, hga] at this
                  clear hga
                  have e9 : p + 1 + (j - p) = j + 1 := by omega
                  have hcp2 : ¬ co = p := fun e => hcp e.symm
                  go_region_held3 (fun u => Aft w u) (first | (with_reducible exact HD0.out) | (with_reducible exact HSa.out.aft) | (with_reducible exact HSb.out.s.aft) | (with_reducible exact HSc.out.s.aft) | (with_reducible exact HDa.out) | (with_reducible exact HS2.out.aft) | (with_reducible exact HX2.out.s.aft) | (with_reducible exact HS3.out.aft) | (with_reducible exact HS4.out.aft)) (first
                    | ((refine step_append_bms ?_ (.tmp 80) (.tmp 83) ?_ ?_ HSa.out.one (some ⟨gO, 0, none⟩) p co ?_ (ds.take p) hpl (HRP.out _ HSa.out.two) p (Nat.zero_add p) hp6 ?_); (· rfl); (· rfl); (· kernel_rfl); (· kernel_rfl); intro A1 c1 w1 hap; have hs2 := HSa.out.app hap; rw [hpl, Nat.zero_add] at hs2; have HS2 := Lib.hid hs2; have HX2 := Lib.hid (hs2.box ⟨vt, vA, vc, vd⟩); clear hap hs2)
                    | ((refine step_append_bms ?_ (.tmp 80) (.tmp 83) ?_ ?_ HSb.out.s.one (some ⟨gO, 0, none⟩) p co ?_ (ds.take p) hpl (HRP.out _ HSb.out.s.two) p (Nat.zero_add p) hp6 ?_); (· rfl); (· rfl); (· kernel_rfl); (· kernel_rfl); intro A1 c1 w1 hap; have hs2 := HSb.out.app hap; rw [hpl, Nat.zero_add] at hs2; have HX2 := Lib.hid hs2; clear hap hs2)
                    | ((refine step_append_bms ?_ (.tmp 80) (.tmp 83) ?_ ?_ HSc.out.s.one (some ⟨gO, 0, none⟩) p co ?_ (ds.take p) hpl (HRP.out _ HSc.out.s.two) p (Nat.zero_add p) hp6 ?_); (· rfl); (· rfl); (· kernel_rfl); (· kernel_rfl); intro A1 c1 w1 hap; have hs2 := HSc.out.app hap; rw [hpl, Nat.zero_add] at hs2; have HX2 := Lib.hid hs2; clear hap hs2)
                    | ((refine step_append_bms ?_ (.tmp 84) (.tmp 89) ?_ ?_ HX2.out.s.one _ 1 1 ?_ [⟨vt, vA, vc, vd⟩] rfl HX2.out.reads (p + 1) rfl hp7 ?_); (· rfl); (· rfl); (· kernel_rfl); (· kernel_rfl); intro A2 c2 w2 hap; have HS3 := Lib.hid (HX2.out.s.app hap); clear hap)
                    | ((refine step_append_bms ?_ (.tmp 90) (.tmp 93) ?_ ?_ HS3.out.one (some ⟨gO, p * 2, none⟩) (j - p) (co - p) ?_ (ds.drop p) hql (HRQ.out _ HS3.out.two) (j + 1) e9 hp8 ?_); (· rfl); (· rfl); (· kernel_rfl); (· kernel_rfl); intro A3 c3 w3 hap; have HS4 := Lib.hid (HS3.out.app hap); clear hap)
                    | fail)
                  all_goals
                    obtain ⟨g1, g2, g3, g4, g5⟩ := ins_done HS4.out hp HP.out HU.out HX.out HLO.out HD.out
                    have G1 := Lib.hid g1
                    have G2 := Lib.hid g2
                    have G3 := Lib.hid g3
                    have G5 := Lib.hid g5
                    clear g1 g2 g3 g5 HS4 HS3 HX2 HSa HSb HSc HOX HBX HDa HD0 HRP HRQ hcs hct hcu HP HU HX HLO HD HCH q2 q3
                    go_wp2_with fail
                    exact ⟨⟨j + 1, A3, c3, _, by omega, by go_num, rfl, G1, G2, G3, g4, G5⟩, by simp [intOf]; omega⟩
              · subst heq
                have e1 : Op.bytesLess yt yt = false := by rw [bytesLess_eq]; simp
                have hnd := dup_of HP.out HX.out (List.mem_of_getElem? HY.out) rfl
                rw [HLL.out] at hnd
                have hc5 := HCH.out
                rw [if_pos hnd] at hc5
                have HC5 := Lib.hid hc5
                clear hnd hc5 HCH
                go_wp2_with fail
                go_quiet (fail)
                go_wp2_with fail
                go_quiet (fail)
                go_wp2_with fail
                exact HBAD.out 5 _ HC5.out (by decide) (HB.out.trans ((HK.out.trans ((bel_drewN (bel_drewN (bel_refl (a := wr)))).below.mono HK.out.size)).mono HB.out.size))
              · have e1 : Op.bytesLess yt vt = false := by rw [bytesLess_eq]; simpa using lt_as hgt
                have e2 : (yt == vt) = false := by
                  rw [beq_eq_false_iff_ne]
                  intro e
                  rw [e] at hgt
                  exact lt_irr _ hgt
                have HD2 := Lib.hid (drop_back HY.out hp0 hgt HD.out)
                clear hgt
                go_wp2_with fail
                go_quiet (fail)
                go_wp2_with fail
                go_quiet (fail)
                go_wp2_with fail
                exact ⟨⟨p - 1, by omega, by rw [show ((p - 1 : Nat) : Int) = (p : Int) - 1 by omega], HD2, Lib.hid (HK.out.trans ((bel_drewN (bel_refl (a := wr))).below.mono HK.out.size))⟩, by simp [intOf]; omega⟩
        · obtain rfl : j = n := by omega
          have ht : es.take j = es := List.take_of_length_le (by rw [HSL.out]; exact Nat.le_refl _)
          have hpe := HP.out
          rw [ht] at hpe
          have hds : ds.map bmS = srtT l := by
            have h1 : (ds.map bmS).Perm l := by rw [← HLL.out]; exact hpe.map bmS
            exact srt_is ((nd_perm h1).1 (up_nd HU.out)) h1 HU.out
          have hnd : (l.map Prod.fst).Nodup := by
            have h1 : (ds.map bmS).Perm l := by rw [← HLL.out]; exact hpe.map bmS
            exact (nd_perm h1).1 (up_nd HU.out)
          have hch := HCH.out
          rw [if_neg (fun h => h hnd)] at hch
          have HC := Lib.hid hch
          have HDS := Lib.hid hds
          have HPE := Lib.hid hpe
          clear hch hds hnd hpe ht HCH HP HU
          go_upto_region 20 with fail
          go_loopw [6, 11] (fun z i wr2 => ∃ k : Nat, k ≤ j ∧ i = .int .i64 k ∧ z = .int .i64 (12 + 16 * (j : Int) + (totS (l.take k) : Nat)) ∧ 12 + 16 * j + totS (l.take k) ≤ 2097160 ∧ wr = wr2) (fun _ i _ => j - (intOf i).toNat)
          case atStart => exact ⟨0, Nat.zero_le _, rfl, by simp [totS], by simp [totS]; omega, rfl⟩
          case round =>
            obtain ⟨k, hk, rfl, rfl, hT, rfl⟩ := hrel
            obtain ⟨T, hTT⟩ : ∃ T, totS (l.take k) = T := ⟨_, rfl⟩
            rw [hTT] at hT ⊢
            have HTT := Lib.hid hTT
            clear hTT
            by_cases hkn : k < j
            · have d3 : decide ((k : Int) < j) = true := by simp; omega
              obtain ⟨⟨vt, vA, vc, vd⟩, hv⟩ := get_some' (l := es) (k := k) (by rw [HSL.out]; exact hkn)
              obtain ⟨b, o, rfl, hb, hc0, hc1⟩ := H.out.at_ hv
              have hlk : l[k]? = some (vt, vd) := by rw [← HLL.out, List.getElem?_map, hv]; rfl
              have hs1 := (H.out.small _ (List.mem_of_getElem? hv)).1
              dsimp only at hc0 hc1 hs1
              have r1 := (HB.out.cell (p := ⟨b, _, none⟩) hb).trans hc1
              have hbl := Nat.lt_of_lt_of_le hb HB.out.size
              have hmem := tot_mem (List.mem_of_getElem? hlk)
              have htk : totS (l.take (k + 1)) = T + upN vd.length := by rw [take_snoc' hlk, totS_append, HTT.out]; simp [totS]
              have htl : totS (l.take k) ≤ totS l := by
                have h9 := totS_append (l.take k) (l.drop k)
                rw [List.take_append_drop] at h9
                omega
              rw [HTT.out] at htl
              dsimp only at hmem
              have hup := upN_ge vd.length
              have hsz : sizeS4 l = 12 + 16 * j + totS l := by unfold sizeS4; rw [HLN.out]
              clear hc0 hc1 hv hlk
              by_cases hlong : 1048576 < vd.length ∨ 1048576 < 12 + 16 * j + T
              · have hc3 := HC.out
                rw [if_pos (by rw [hsz]; omega)] at hc3
                have HC3 := Lib.hid hc3
                have hcs : decide ((1048576 : Int) < vd.length) = true ∨ (decide ((1048576 : Int) < vd.length) = false ∧ decide ((1048576 : Int) < 12 + 16 * j + T) = true) := by
                  rcases Nat.lt_or_ge 1048576 vd.length with h1 | h1
                  · exact .inl (by simp; omega)
                  · exact .inr ⟨by simp; omega, by simp; omega⟩
                clear hlong hc3 HC hsz hup htl htk hmem HDS HPE
                rcases hcs with d4 | ⟨d4, d5⟩
                all_goals
                  go_wp2_with fail
                  exact HBAD.out 3 _ HC3.out (by decide) HB.out
              · have d4 : decide ((1048576 : Int) < vd.length) = false := by simp; omega
                have d5 : decide ((1048576 : Int) < 12 + 16 * j + T) = false := by simp; omega
                have HTK := Lib.hid htk
                clear hsz htl htk hmem
                go_wp2_with (first
                  | (go_at_call 32; (with_reducible refine (rup_any vd.length hs1 _).mono ?_); rintro e w11 ⟨rfl, rfl⟩)
                  | fail)
                exact ⟨⟨k + 1, by omega, by go_num, by rw [HTK.out]; congr 1; omega, by rw [HTK.out]; omega, trivial⟩, by simp [intOf]; omega⟩
            · have hTl : T = totS l := by
                have := HTT.out
                rw [List.take_of_length_le (by rw [HLN.out]; omega)] at this
                exact this.symm
              have hsz : sizeS4 l = 12 + 16 * j + T := by unfold sizeS4; rw [HLN.out, hTl]
              have d3 : decide ((k : Int) < j) = false := by simp; omega
              obtain rfl : k = j := by omega
              clear hTl HTT
              by_cases hbig : 1048576 < 12 + 16 * k + T
              · have hc3 := HC.out
                rw [if_pos (by rw [hsz]; omega)] at hc3
                have HC3 := Lib.hid hc3
                have d5 : decide ((1048576 : Int) < 12 + 16 * k + T) = true := by simp; omega
                clear hsz hc3 HC HDS HPE
                go_wp2_with fail
                exact HBAD.out 3 _ HC3.out (by decide) HB.out
              · have hc0 := HC.out
                rw [if_neg (by rw [hsz]; omega)] at hc0
                have HC0 := Lib.hid hc0
                have d5 : decide ((1048576 : Int) < 12 + 16 * k + T) = false := by simp; omega
                have hp := srtT_perm l
                have hbl : BlL wr Ao k ds := HO.out.bl (fun v hv => (H.out.data v (HPE.out.mem_iff.1 hv)).keep HB.out) (fun v hv => H.out.cap v (HPE.out.mem_iff.1 hv)) (fun v hv => H.out.small v (HPE.out.mem_iff.1 hv))
                have HLY := Lib.hid (rlay_any (c := co) v hbl HDS.out n1 n2 (by rw [sizeS4_perm hp, hsz]; omega) (fun t ht => tag_len (HTAG.out t (hp.mem_iff.1 ht))))
                clear hsz hc0 HC HDS HPE hp hbl HO
                go_wp2_with (first
                  | (go_at_call 33; (with_reducible refine HLY.out.mono ?_); rintro e w12 ⟨A9, m9, c9, rfl, hm9, hs9, hb9⟩; have HM9 := Lib.hid hm9; have HS9 := Lib.hid hs9; have HB9 := Lib.hid (HB.out.trans (hb9.mono HB.out.size)); clear hm9 hs9 hb9)
                  | fail)
                exact HOK.out _ _ _ _ HC0.out HM9.out HS9.out HB9.out
end Go.Proofs.Ytejombofjakllaa

namespace Go.Proofs.Ytejombofjakllaa
open Go.RowKit Go.Shelf

set_option maxRecDepth 20000 in
set_option maxHeartbeats 2000000 in
theorem builds_law {w : World} {A : Option Addr} {n c : Nat} {es : List Bm} (v : Int) (h : BlL w A n es) (hm : n ≤ 140737488355328) :
    Calls Try.prog 3 #[.int .i64 v, .slice A n c] w fun e w' => e = .returned (.bool true) ∧ Below w.heap.size w w' := by
  have HL := Lib.hid (large_any (c := c) h)
  rcases Bool.eq_false_or_eq_true (largeB (es.map bmS)) with hL | hL
  · rw [hL] at HL
    clear hL h
    go_enter Try.func3, Try.ntmps3
    go_wp2_with (first
      | (go_at_call 8; (with_reducible refine HL.out.mono ?_); rintro e w1 ⟨rfl, rfl⟩)
      | (go_at_call 9; (with_reducible refine (lives_any _).mono ?_); rintro e w3 ⟨rfl, hb⟩; have HB := Lib.hid hb; clear hb)
      | fail)
    go_ret
    exact ⟨rfl, HB.out⟩
  rw [hL] at HL
  have hb1 := fun W (h : BlL W A n es) => Build_any (c := c) v h hm
  have hb2 := fun W (h : BlL W A n es) => rBuild_any (c := c) v h hm
  generalize buildS v (es.map bmS) = N at hb1 hb2
  generalize chkS v (es.map bmS) = x at hb1 hb2
  have HB1 := Lib.hid hb1
  have HB2 := Lib.hid hb2
  have H := Lib.hid h
  clear hL h hb1 hb2
  go_enter Try.func3, Try.ntmps3
  go_wp2_with (first
    | (go_at_call 8; (with_reducible refine HL.out.mono ?_); rintro e w1 ⟨rfl, rfl⟩)
    | (go_at_call 10; (with_reducible refine (HB1.out _ H.out).mono ?_); rintro e w1 ⟨A1, c1, rfl, hs, _, hb⟩; have HS1 := Lib.hid hs.sl; have H2 := Lib.hid (H.out.keep hb); have HBA := Lib.hid hb; clear hs hb)
    | (go_at_call 11; (with_reducible refine (HB2.out _ H2.out).mono ?_); rintro e w2 ⟨A2, c2, rfl, hs, hb⟩; have HS2 := Lib.hid hs; have HT1 := Lib.hid (HS1.out.keep hb); have HBB := Lib.hid (HBA.out.trans (hb.mono HBA.out.size)); clear hs hb HS1)
    | (go_at_call 9; (with_reducible refine (lives_any _).mono ?_); rintro e w4 ⟨rfl, hb⟩; have q1 : ∀ c, (convert 25 9 (.slice A1 N.length c)).run Try.prog w4 = .ok (.string (strB N)) w4 := (fun c => run_str (P := Try.prog) (HT1.out.keep hb) Try.underlying25 Try.underlying5 Try.underlying9 c); have q2 : ∀ c, (convert 25 9 (.slice A2 N.length c)).run Try.prog w4 = .ok (.string (strB N)) w4 := (fun c => run_str (P := Try.prog) (HS2.out.keep hb) Try.underlying25 Try.underlying5 Try.underlying9 c); have HBD := Lib.hid (HBB.out.trans (hb.mono HBB.out.size)); clear hb HT1 HS2)
    | fail)
  go_ret
  exact ⟨rfl, HBD.out⟩
end Go.Proofs.Ytejombofjakllaa

namespace Go.Proofs.Ytejombofjakllaa
open Go.ChangeShapes Go.WideShapes Go.ChangeAt Go.RowKit

set_option maxRecDepth 100000 in
theorem sfntBuilds_lifted (os : Os) (started : os.Started) (H : Type) (enc : TypeId × Value → H) :
    ReturnsInHanded {} Try.checked os 3 .any (Rows.sfntBuildsSpec.pre6 enc Try.prog Try.f3 Rows.sfntBuildsRow.domain false) (Rows.sfntBuildsSpec.post enc Try.prog Try.f3 false true false false) := by
  refine returnsInHanded_of_change_sized (C := Try.checked) own_none started (by kernel_rfl) Try.func3
    (ChangeSpec.witness6 (enc := enc) (C := Try.checked) false ⟨#[], #[.int .i64 0, .slice none 0 0], []⟩ 8 (by kernel_rfl) (by kernel_rfl) (by kernel_rfl) (by kernel_rfl)) ?_
  intro W base args ds gs before hval0 hW _ hwt _
  have hval : ∀ (j : Nat) t v, Try.f3.params[j]? = some t → args[j]? = some v → Value.okWide Try.prog W .any base t v := hval0
  have hW' := hW
  obtain ⟨p, q, hA0, _, _, _, _⟩ := hW
  have hA : DataW.TrodAll enc Try.prog W 0 (fun _ => true) true Try.f3.params.toList args.toList ds p := hA0
  rw [Try.params3] at hA hval
  obtain ⟨v0, v1, d0, d1, p0, p1, rfl, rfl, rfl, h0, h1⟩ := trodAll_two hA
  obtain ⟨v, rfl, wv⟩ := open_num Try.underlying3 (hval 0 _ _ rfl rfl) h0
  have bv := bounds_i64 wv
  obtain ⟨A, n, c, rfl, k1, m1, r1, s1⟩ := open_sl (eb := 40) (ks := [.str, .sl 1 [.int .u8]]) Try.underlying22 (by kernel_rfl) (hval 1 _ _ rfl rfl) h1 (reach_all (ts := [3, 22]) (by kernel_rfl) hwt (j := 1) rfl rfl)
  clear hA0 hval0
  obtain ⟨es, hB⟩ := blobs_of s1
  refine (builds_law v hB (by omega)).mono fun e W' ⟨he, hb⟩ => ?_
  subst he
  exact ⟨_, rfl, law_post_any laid_out Try.underlying4 hW' (by kernel_rfl) rfl rfl rfl hb⟩

theorem sfntBuilds_holds : Rows.SfntBuildsSaid :=
  OpenClaim.holds_of_wide 3 Try.f3 rfl rfl rfl rfl rfl rfl rfl ⟨rfl, rfl, rfl, rfl, rfl⟩ rfl rfl rfl rfl rfl (by kernel_rfl) Try.func3 (by kernel_rfl)
    (of_decide_eq_true (by kernel_rfl)) (by unfold Func.isWrapper; first | (rw [if_pos (by decide +kernel)]; kernel_rfl) | (rw [if_neg (by decide +kernel)]; exact ⟨rfl, rfl⟩))
    (fun os started H enc _ => sfntBuilds_lifted os started H enc)

end Go.Proofs.Ytejombofjakllaa
