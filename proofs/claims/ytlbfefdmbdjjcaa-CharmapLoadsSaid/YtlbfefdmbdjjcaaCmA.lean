/-
  Layer 08: Seek; numbers of two bytes, one behind the other.
-/
import Derived.Test.YtlbfefdmbdjjcaaRdU
import Derived.Test.YtlbfefdmbdjjcaaOwI
import Derived.Test.YtlbfefdmbdjjcaaRowsAt
import Derived.Test.YtlbfefdmbdjjcaaTn
import Derived.Test.YtlbfefdmbdjjcaaTail
import Derived.Deep.LoopGhost
import Derived.Deep.DeepCutAuto
namespace Go.Proofs.Ytlbfefdmbdjjcaa
open Go.RowKit

theorem wpList_append_oi2 {B : Nat} {w : World} {A : Option Addr} {L c : Nat} {xs : List Int} {ops : Array Oper} {rest : List Oper} {o : Oper} {a : Act} {Q : Exit → Act → World → Prop} (hgd : o.guard = none) (s x : Operand)
    (ho : o.op = .call { callee := .builtin .append, args := #[s, x], argTypes := #[63, 63] }) (hs : a.eval s = .slice A L c) (h : OwI B w A L c xs)
    (A2 : Option Addr) (m c2 : Nat) (hx : a.eval x = .slice A2 m c2) (news : List Int) (hr : SlAt w A2 m (news.map (Value.int .i64))) (hb : L + m ≤ 17592186044416)
    (k : ∀ A' c' w', OwI B w' A' (L + m) c' (xs ++ news) → w.grownBy w' (rowOf A) → (rowOf A' = rowOf A ∨ rowOf A' = some w.heap.size) → wpList Try.prog ops Q rest (a.put o.dst (.slice A' (L + m) c')) w') : wpList Try.prog ops Q (o :: rest) a w := by
  obtain ⟨i0, hi0, hz0, hz1, hz2⟩ := info_parts int_info
  refine wpList_append_any w hgd s x _ ho B 3 i0 _ 1 8 Try.underlying63 hi0 hz0 hz1 hz2 rfl (by omega) _ L (xs.map (Value.int .i64)) hs h.own w.heap.size A2 m c2 (news.map (Value.int .i64)) hx hr.reads (ints_one _) (by unfold maxLen; omega) (by omega) h.le ?_
  intro v' w' hown hgrow hrow
  obtain ⟨A', c', rfl, _, _, _⟩ := of_ownC hown
  rw [ownBlock_slice] at hgrow
  rw [ownBlock_slice, ownBlock_slice] at hrow
  exact k A' c' w' ⟨by rw [List.length_append, h.len]; have := hr.1; simp at this; omega, by rw [List.map_append]; exact hown, Nat.le_trans h.le hgrow.size⟩ hgrow hrow
theorem Tn.turn1 {w w' : World} {r : Nat} (h : Turn w w' r none) : Tn (fun i => i = r) w w' := ⟨h.os, h.tape, h.output, h.size, fun i hi hn => h.block i hi hn (fun e => by cases e)⟩
theorem Tn.grown1 {S : Nat → Prop} {A B C : World} {row : Option Nat} (h : Tn S A B) (hg : B.grownBy C row) (hr : ∀ k, row = some k → S k ∨ A.heap.size ≤ k) : Tn S A C :=
  ⟨hg.os.trans h.os, hg.tape.trans h.tape, hg.output.trans h.output, Nat.le_trans h.size hg.size, fun i hi hn => (hg.block i (Nat.lt_of_lt_of_le hi h.size) (fun e => (hr i e.symm).elim hn (fun h => absurd h (by omega)))).trans (h.block i hi hn)⟩
theorem get_some' {α : Type} {l : List α} {k : Nat} (h : k < l.length) : ∃ x, l[k]? = some x := ⟨l[k], List.getElem?_eq_getElem h⟩
theorem take_snoc' {α : Type} {l : List α} {k : Nat} {x : α} (h : l[k]? = some x) : l.take (k + 1) = l.take k ++ [x] := by rw [List.take_add_one, h]; rfl
theorem slat_get {w : World} {A : Option Addr} {n : Nat} {l : List Int} {i : Nat} {x : Int} (h : SlAt w A n (l.map (Value.int .i64))) (hx : l[i]? = some x) : ∃ b o, A = some ⟨b, o, none⟩ ∧ b < w.heap.size ∧ w.cell? ⟨b, o + i, none⟩ = some (.int .i64 x) := by
  have hl := (List.getElem?_eq_some_iff.1 hx).1
  have hn := h.1
  rw [List.length_map] at hn
  obtain ⟨b, o, hA, hb, hc⟩ := h.2 i (by omega)
  rw [List.getElem?_map, hx] at hc
  exact ⟨b, o, hA, hb, hc⟩
theorem sl_byte {w : World} {A : Option Addr} {n : Nat} {bs : List UInt8} {i : Nat} {u : UInt8} (h : SlAt w A n (bs.map byteV)) (hx : bs[i]? = some u) : ∃ b o, A = some ⟨b, o, none⟩ ∧ b < w.heap.size ∧ w.cell? ⟨b, o + i, none⟩ = some (.int .u8 u.toNat) := by
  have hl := (List.getElem?_eq_some_iff.1 hx).1
  have hn := h.1
  rw [List.length_map] at hn
  obtain ⟨b, o, hA, hb, hc⟩ := h.2 i (by omega)
  rw [List.getElem?_map, hx] at hc
  exact ⟨b, o, hA, hb, hc⟩
/-- The reader's state behind Seek. -/
def skF (bs : List UInt8) (s : Nat × Bool) (k : Nat) : Nat × Bool := if s.2 || decide (bs.length < k) then (s.1, true) else (k, false)
def SkR (bs : List UInt8) (s : Nat × Bool) (k r : Nat) (A : Option Addr) (c : Nat) (w : World) (e : Ending) (w' : World) : Prop :=
  (∃ v, e = .returned v) ∧ Rd w' r bs (skF bs s k).1 (skF bs s k).2 A c ∧ Turn w w' r none
theorem sk_bad {bs : List UInt8} {s : Nat × Bool} {k r : Nat} {A : Option Addr} {c : Nat} {w w' : World} {v : Value} (h : s.2 = true ∨ bs.length < k) (hr : Rd w' r bs s.1 true A c) (ht : Turn w w' r none) : SkR bs s k r A c w (.returned v) w' := by
  refine ⟨⟨_, rfl⟩, ?_, ht⟩
  have : skF bs s k = (s.1, true) := by unfold skF; rw [if_pos (by simpa using h)]
  rw [this]
  exact hr
set_option maxRecDepth 20000 in
set_option maxHeartbeats 2000000 in
theorem rSeek_any {w : World} {r : Nat} {bs : List UInt8} {s : Nat × Bool} {A : Option Addr} {c : Nat} (k : Nat) (h : Rd w r bs s.1 s.2 A c) :
    Calls Try.prog 48 #[.pointer (some ⟨r, 0, none⟩), .int .i64 k] w (SkR bs s k r A c w) := by
  obtain ⟨p, bad⟩ := s
  dsimp only at h
  have k0 : w.cell? ⟨r, 0, none⟩ = some (.slice A bs.length c) := by rw [h.blk.cell 0]; rfl
  have k2 : w.cell? ⟨r, 2, none⟩ = some (.bool bad) := by rw [h.blk.cell 2]; rfl
  have hg := h.blk.lt
  have hsm := h.small
  have HSP := Lib.hid (spoil_W w r bs p bad A c h)
  have HW := Lib.hid (wrong_W w r bad k2)
  have H := Lib.hid h
  clear h
  cases bad with
  | true =>
    go_enter Try.func48, Try.ntmps48
    go_wp2_with (first
      | (go_at_call 46; (with_reducible refine (HW.out).mono ?_); rintro e w1 ⟨rfl, rfl⟩)
      | (go_at_call 76; (with_reducible refine HSP.out.mono ?_); rintro e w1 ⟨rfl, hr1, ht1⟩; have HR1 := Lib.hid hr1; have HT1 := Lib.hid ht1; clear hr1 ht1)
      | fail)
    go_ret
    exact sk_bad (.inl rfl) HR1.out HT1.out
  | false =>
    by_cases hk : bs.length < k
    · have hk' : (bs.length : Int) < k := by omega
      go_enter Try.func48, Try.ntmps48
      go_wp2_with (first
        | (go_at_call 46; (with_reducible refine (HW.out).mono ?_); rintro e w1 ⟨rfl, rfl⟩)
        | (go_at_call 76; (with_reducible refine HSP.out.mono ?_); rintro e w1 ⟨rfl, hr1, ht1⟩; have HR1 := Lib.hid hr1; have HT1 := Lib.hid ht1; clear hr1 ht1)
        | fail)
      go_ret
      exact sk_bad (.inr hk) HR1.out HT1.out
    · have hk' : ¬ (bs.length : Int) < k := by omega
      have f1 := H.out.blk.frozen 1
      have k1 : w.cell? ⟨r, 1, none⟩ = some (.int .i64 p) := by rw [H.out.blk.cell 1]; rfl
      have ht : Turn w (w.setCell ⟨r, 1, none⟩ (.int .i64 k)) r none := (Turn.refl _ _ _).set _ _
      have hr : Rd (w.setCell ⟨r, 1, none⟩ (.int .i64 k)) r bs k false A c := ⟨Blk.to (H.out.blk.set 1 _) rfl, H.out.sl.turn ht H.out.apart (fun _ _ e => by cases e), H.out.apart, H.out.cap, by omega, H.out.small⟩
      have hfin : SkR bs (p, false) k r A c w (.returned (.bool true)) (w.setCell ⟨r, 1, none⟩ (.int .i64 k)) := by
        refine ⟨⟨_, rfl⟩, ?_, ht⟩
        have : skF bs (p, false) k = (k, false) := by unfold skF; rw [if_neg (by simp; omega)]
        rw [this]
        exact hr
      have HF := Lib.hid hfin
      clear ht hr hfin hk
      go_enter Try.func48, Try.ntmps48
      go_wp2_with (first | (go_at_call 46; (with_reducible refine (HW.out).mono ?_); rintro e w1 ⟨rfl, rfl⟩) | fail)
      go_ret
      exact HF.out
/-- n numbers of two bytes. -/
def wS (bs : List UInt8) (s : Nat × Bool) : Nat → Nat × Bool
  | 0 => s
  | n + 1 => advF bs (wS bs s n) 2
def wL (bs : List UInt8) (s : Nat × Bool) : Nat → List Int
  | 0 => []
  | n + 1 => wL bs s n ++ [(numF bs (wS bs s n) 2 : Int)]
theorem wL_len (bs : List UInt8) (s : Nat × Bool) : ∀ n, (wL bs s n).length = n
  | 0 => rfl
  | n + 1 => by unfold wL; rw [List.length_append, wL_len bs s n]; rfl
theorem wL_bd (bs : List UInt8) (s : Nat × Bool) : ∀ n, ∀ x ∈ wL bs s n, 0 ≤ x ∧ x ≤ 65535
  | 0, x, hx => by simp [wL] at hx
  | n + 1, x, hx => by
    unfold wL at hx
    rcases List.mem_append.1 hx with hx | hx
    · exact wL_bd bs s n x hx
    · rw [List.mem_singleton] at hx
      have := numF_lt bs (wS bs s n) 2
      omega
/-- In range, the numbers one by one. -/
def be16 (bs : List UInt8) (p : Nat) : Int := (numB ((bs.drop p).take 2) : Nat)
theorem wS_ok {bs : List UInt8} {p : Nat} : ∀ {n : Nat}, p + 2 * n ≤ bs.length → wS bs (p, false) n = (p + 2 * n, false)
  | 0, _ => rfl
  | n + 1, h => by
    unfold wS
    rw [wS_ok (n := n) (by omega), advF_ok (by omega)]
    simp only [Prod.mk.injEq, and_true]
    omega
theorem wL_at {bs : List UInt8} {p : Nat} : ∀ {n i : Nat}, p + 2 * n ≤ bs.length → i < n → (wL bs (p, false) n)[i]? = some (be16 bs (p + 2 * i))
  | 0, _, _, h => by omega
  | n + 1, i, h, hi => by
    unfold wL
    by_cases h1 : i < n
    · rw [List.getElem?_append_left (by rw [wL_len]; exact h1)]
      exact wL_at (by omega) h1
    · obtain rfl : i = n := by omega
      rw [List.getElem?_append_right (by rw [wL_len]; omega), wL_len, Nat.sub_self, wS_ok (by omega), numF_ok (by omega)]
      rfl
def WordsR (bs : List UInt8) (s : Nat × Bool) (n r : Nat) (A : Option Addr) (c : Nat) (w : World) (e : Ending) (w' : World) : Prop :=
  ∃ A' c', e = .returned (.slice A' n c') ∧ OwI w.heap.size w' A' n c' (wL bs s n) ∧ Rd w' r bs (wS bs s n).1 (wS bs s n).2 A c ∧ Tn (fun i => i = r) w w'
theorem Rd.tnk {w w' : World} {r : Nat} {bs : List UInt8} {pos : Nat} {bad : Bool} {A : Option Addr} {c : Nat} (h : Rd w r bs pos bad A c) (_hr : r < w'.heap.size) (hs : ∀ k, k < w.heap.size → w'.heap[k]? = w.heap[k]?) (hw : w.heap.size ≤ w'.heap.size) : Rd w' r bs pos bad A c := by
  have hrl := h.blk.lt
  refine ⟨(hs r hrl).trans h.blk, ⟨h.sl.1, fun k hk => ?_⟩, h.apart, h.cap, h.pos_le, h.small⟩
  obtain ⟨b, o, rfl, hlt, hc⟩ := h.sl.2 k hk
  exact ⟨b, o, rfl, Nat.lt_of_lt_of_le hlt hw, (World.cell?_of_block (hs b hlt)).trans hc⟩
theorem Rd.grownB {w w' : World} {r B : Nat} {bs : List UInt8} {pos : Nat} {bad : Bool} {A : Option Addr} {c : Nat} {row : Option Nat} (h : Rd w r bs pos bad A c) (hg : w.grownBy w' row) (hr : r < B) (hA : ∀ k, rowOf A = some k → k < B) (hrow : ∀ k, row = some k → B ≤ k) : Rd w' r bs pos bad A c := by
  have hb : ∀ k, k < B → k < w.heap.size → w'.heap[k]? = w.heap[k]? := fun k h1 h2 => hg.block k h2 (fun e => by have := hrow k e.symm; omega)
  have hrl := h.blk.lt
  refine ⟨(hb r hr hrl).trans h.blk, ⟨h.sl.1, fun k hk => ?_⟩, h.apart, h.cap, h.pos_le, h.small⟩
  obtain ⟨b, o, rfl, hlt, hc⟩ := h.sl.2 k hk
  exact ⟨b, o, rfl, Nat.lt_of_lt_of_le hlt hg.size, (World.cell?_of_block (hb b (hA b rfl) hlt)).trans hc⟩
set_option maxRecDepth 20000 in
set_option maxHeartbeats 4000000 in
theorem words_any {w : World} {r : Nat} {bs : List UInt8} {s : Nat × Bool} {A : Option Addr} {c : Nat} (n : Nat) (h : Rd w r bs s.1 s.2 A c) (hA : ∀ k, rowOf A = some k → k < w.heap.size) (hn : n ≤ 1114112) :
    Calls Try.prog 78 #[.pointer (some ⟨r, 0, none⟩), .int .i64 n] w (WordsR bs s n r A c w) := by
  have H := Lib.hid h
  have HA := Lib.hid hA
  have hrl := h.blk.lt
  clear h hA
  go_enter Try.func78, Try.ntmps78
  go_wp2_with fail
  go_loopw [5, 7] (fun out i wr => ∃ (k : Nat) (A1 : Option Addr) (c1 : Nat), k ≤ n ∧ i = .int .i64 k ∧ out = .slice A1 k c1 ∧ Hid (OwI w.heap.size wr A1 k c1 (wL bs s k)) ∧ Hid (Rd wr r bs (wS bs s k).1 (wS bs s k).2 A c) ∧ Hid (Tn (fun i => i = r) w wr)) (fun _ i _ => n - (intOf i).toNat)
  case atStart => exact ⟨0, none, 0, Nat.zero_le _, rfl, rfl, Lib.hid (OwI.nil w), H, Lib.hid (Tn.refl w)⟩
  case round =>
    obtain ⟨k, A1, c1, hk, rfl, rfl, HO, HR, HT⟩ := hrel
    have hsz := HT.out.size
    by_cases hlt : k < n
    · have HU := Lib.hid (rU16_any wr r bs (wS bs s k) A c HR.out)
      obtain ⟨x, hx⟩ : ∃ x : Int, (numF bs (wS bs s k) 2 : Int) = x := ⟨_, rfl⟩
      have hnl : wL bs s (k + 1) = wL bs s k ++ [x] := by rw [← hx]; rfl
      have hns : wS bs s (k + 1) = advF bs (wS bs s k) 2 := rfl
      rw [hx] at HU
      have HNL := Lib.hid hnl
      have HNS := Lib.hid hns
      clear hnl hns hx
      go_wp2_with (first
        | (go_at_call 22; (with_reducible refine HU.out.mono ?_); rintro e w1 ⟨rfl, hr1, ht1⟩
           have HR1 := Lib.hid hr1
           have HT1 := Lib.hid ht1
           have HOA := Lib.hid ((HO.out.turn ht1 hrl).keep (w' := w1.alloc (.cells #[.int .i64 x] 3)) (bel_alloc bel_refl).below)
           have HT2 := Lib.hid ((HT.out.trans (Tn.turn1 ht1)).alloc (.cells #[.int .i64 x] 3))
           have HR2 := Lib.hid (hr1.keep (w' := w1.alloc (.cells #[.int .i64 x] 3)) (bel_alloc bel_refl).below)
           clear hr1 ht1)
        | (at_builtin; refine wpList_append_oi2 (by rfl) (.tmp 9) (.tmp 12) (by rfl) (by rfl) HOA.out (some ⟨w1.heap.size, 0, none⟩) 1 1 (by rfl) [x] (slat_int w1 x) (by omega) ?_; intro A3 c3 w5 ho5 hg5 hr5; have HO5 := Lib.hid ho5; have HG5 := Lib.hid hg5; clear ho5 hg5 hr5)
        | fail)
      have HR5 := Lib.hid (HR2.out.grownB HG5.out hrl HA.out (fun j hj => (HOA.out.row j hj).1))
      have HT5 := Lib.hid (HT2.out.grown1 HG5.out (fun j hj => .inr (HOA.out.row j hj).1))
      go_roundw
      case rel => exact ⟨k + 1, A3, c3, by omega, by go_num, by go_num, by rw [HNL.out]; exact HO5, by rw [HNS.out]; exact HR5, HT5⟩
      case measure => simp [intOf]; omega
    · obtain rfl : k = n := by omega
      go_wp2_with fail
      go_ret
      exact ⟨_, _, rfl, HO.out, HR.out, HT.out⟩
end Go.Proofs.Ytlbfefdmbdjjcaa
