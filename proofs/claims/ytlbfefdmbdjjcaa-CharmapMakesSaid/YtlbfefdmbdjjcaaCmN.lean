/-
  Layer 08: runs of pairs.
-/
import Derived.Test.YtlbfefdmbdjjcaaCmM
namespace Go.Proofs.Ytlbfefdmbdjjcaa
open Go.RowKit

/-- Does a run end with pair i? -/
def brk (l : List Pr) (i : Nat) : Bool := decide (i + 1 = l.length ∨ (l.getD (i + 1) (0, 0)).1 ≠ (l.getD i (0, 0)).1 + 1 ∨ (l.getD (i + 1) (0, 0)).2 ≠ (l.getD i (0, 0)).2 + 1)
def runN (l : List Pr) : Nat → List (List Pr) × Nat
  | 0 => ([], 0)
  | i + 1 => if brk l i = true then ((runN l i).1 ++ [(l.drop (runN l i).2).take (i + 1 - (runN l i).2)], i + 1) else runN l i
def runL (l : List Pr) : List (List Pr) := (runN l l.length).1
theorem runN_le (l : List Pr) : ∀ i, (runN l i).2 ≤ i
  | 0 => Nat.le_refl _
  | i + 1 => by
    unfold runN
    split
    · exact Nat.le_refl _
    · exact Nat.le_succ_of_le (runN_le l i)
theorem runN_len (l : List Pr) : ∀ i, (runN l i).1.length ≤ i
  | 0 => Nat.le_refl _
  | i + 1 => by
    unfold runN
    split
    · have := runN_len l i
      rw [List.length_append]
      simp
      exact this
    · exact Nat.le_succ_of_le (runN_len l i)
/-- Slices of pairs, one by one; they lie below block B. -/
structure Zp (B : Nat) (w : World) (vs : List Value) (pl : List (List Pr)) : Prop where
  len : vs.length = pl.length
  at_ : ∀ (i : Nat) (v : Value) (ps : List Pr), vs[i]? = some v → pl[i]? = some ps → ∃ Ai ci, v = .slice Ai ps.length ci ∧ RowsAt w Ai ps.length 2 (ps.map prC) ∧ ∀ q, rowOf Ai = some q → q < B
theorem Zp.nil (B : Nat) (w : World) : Zp B w [] [] := ⟨rfl, fun i v ps h => by simp at h⟩
theorem Zp.keep {B : Nat} {w w' : World} {vs : List Value} {pl : List (List Pr)} (h : Zp B w vs pl) (hb : Below B w w') : Zp B w' vs pl :=
  ⟨h.len, fun i v ps h1 h2 => by obtain ⟨Ai, ci, e, hr, hq⟩ := h.at_ i v ps h1 h2; exact ⟨Ai, ci, e, hr.keepB hb (fun _ => hq), hq⟩⟩
theorem Zp.mono {B B' : Nat} {w : World} {vs : List Value} {pl : List (List Pr)} (h : Zp B w vs pl) (hb : B ≤ B') : Zp B' w vs pl :=
  ⟨h.len, fun i v ps h1 h2 => by obtain ⟨Ai, ci, e, hr, hq⟩ := h.at_ i v ps h1 h2; exact ⟨Ai, ci, e, hr, fun q hh => Nat.lt_of_lt_of_le (hq q hh) hb⟩⟩
theorem Zp.snoc {B : Nat} {w : World} {vs : List Value} {pl : List (List Pr)} (h : Zp B w vs pl) {A : Option Addr} {c : Nat} {ps : List Pr} {m : Nat} (hm : ps.length = m) (hr : RowsAt w A m 2 (ps.map prC)) (hq : ∀ q, rowOf A = some q → q < B) : Zp B w (vs ++ [.slice A m c]) (pl ++ [ps]) := by
  refine ⟨by simp [h.len], fun i v qs h1 h2 => ?_⟩
  subst hm
  by_cases hi : i < vs.length
  · rw [List.getElem?_append_left hi] at h1
    rw [List.getElem?_append_left (by rw [← h.len]; exact hi)] at h2
    exact h.at_ i v qs h1 h2
  · rw [List.getElem?_append_right (by omega)] at h1
    rw [List.getElem?_append_right (by rw [← h.len]; omega), ← h.len] at h2
    obtain ⟨k, hk⟩ : ∃ k, i - vs.length = k := ⟨_, rfl⟩
    rw [hk] at h1 h2
    cases k with
    | zero =>
      simp only [List.getElem?_cons_zero, Option.some.injEq] at h1 h2
      subst h1 h2
      exact ⟨A, c, rfl, hr, hq⟩
    | succ k => simp at h1
theorem Zp.one {B : Nat} {w : World} {vs : List Value} {pl : List (List Pr)} (h : Zp B w vs pl) : ∀ u ∈ vs, u.oneCell' = true := fun u hu => by
  obtain ⟨i, hi⟩ := List.getElem?_of_mem hu
  obtain ⟨ps, hps⟩ := get_some' (l := pl) (k := i) (by have := (List.getElem?_eq_some_iff.1 hi).1; have := h.len; omega)
  obtain ⟨Ai, ci, rfl, _⟩ := h.at_ i u ps hi hps
  rfl
/-- Pairs that may be made. -/
def PB (l : List Pr) : Prop := ∀ p ∈ l, (0 ≤ p.1 ∧ p.1 ≤ 1114111) ∧ (0 ≤ p.2 ∧ p.2 ≤ 65536)
theorem PB.at_ {l : List Pr} (h : PB l) {i : Nat} {p : Pr} (hp : l[i]? = some p) : (0 ≤ p.1 ∧ p.1 ≤ 1114111) ∧ (0 ≤ p.2 ∧ p.2 ≤ 65536) := h p (List.mem_of_getElem? hp)
theorem pl_info : (Try.prog.info? 34).map (fun i => (i.zero.map (fun z => z.cells.size), i.size, i.bytes)) = some (some 1, 1, 24) := by kernel_rfl
theorem pl_parts : ∃ i z, Try.prog.info? 34 = some i ∧ i.zero = some z ∧ i.size = 1 ∧ i.bytes = 24 ∧ z.cells.size = 1 := by
  have h := pl_info
  cases hi : Try.prog.info? 34 with
  | none => rw [hi] at h; cases h
  | some i =>
    rw [hi] at h
    simp only [Option.map_some, Option.some.injEq, Prod.mk.injEq] at h
    obtain ⟨h1, h2, h3⟩ := h
    cases hz : i.zero with
    | none => rw [hz] at h1; cases h1
    | some z =>
      rw [hz] at h1
      exact ⟨i, z, rfl, hz, h2, h3, by simpa using h1⟩
theorem RowsAt.sub {w : World} {A : Option Addr} {n k c : Nat} {rows : List (List Value)} (h : RowsAt w A n k rows) (hc : n ≤ c) (pos m : Nat) (hm : pos + m ≤ n) : RowsAt w (if c = pos then A else Option.map (fun x => x.add (pos * k)) A) m k ((rows.drop pos).take m) := by
  have hl := h.len
  refine ⟨by rw [List.length_take, List.length_drop]; omega, fun i r hr => ?_⟩
  have hi : i < m := by
    have := (List.getElem?_eq_some_iff.1 hr).1
    rw [List.length_take] at this
    omega
  rw [List.getElem?_take, if_pos hi, List.getElem?_drop] at hr
  obtain ⟨h1, b, o, rfl, hlt, h2⟩ := h.cell _ r hr
  refine ⟨h1, b, o + pos * k, ?_, hlt, fun j v hv => ?_⟩
  · rw [if_neg (by omega)]
    show some ((⟨b, o, none⟩ : Addr).add (pos * k)) = _
    rw [show (⟨b, o, none⟩ : Addr).add (pos * k) = ⟨b, o + pos * k, none⟩ by unfold Addr.add; split <;> simp [*]]
  · have := h2 j v hv
    rw [Nat.add_mul] at this
    rw [show o + pos * k + i * k + j = o + (pos * k + i * k) + j by omega]
    exact this
theorem add2 (b o k : Nat) : Option.map (fun x => x.add k) (some (⟨b, o, none⟩ : Addr)) = some ⟨b, o + k, none⟩ := by
  show some ((⟨b, o, none⟩ : Addr).add k) = _
  rw [show (⟨b, o, none⟩ : Addr).add k = ⟨b, o + k, none⟩ by unfold Addr.add; split <;> simp [*]]
theorem of_own1 {w : World} {base n : Nat} {e : TypeId} {v : Value} {xs : List Value} (h : w.ownsRow base e 1 v n xs) : ∃ A c, v = .slice A n c ∧ SlAt w A n xs ∧ ∀ ad, A = some ad → base ≤ ad.block := SlAt.of_own h
def RunR (pl : List (List Pr)) (w : World) (e : Ending) (w' : World) : Prop :=
  ∃ (Ap : Option Addr) (cp m : Nat) (vs : List Value), vs.length = m ∧ e = .returned (.slice Ap m cp) ∧ w'.ownsRow w.heap.size 34 1 (.slice Ap m cp) m vs ∧ Zp w.heap.size w' vs pl ∧ Below w.heap.size w w'
set_option maxRecDepth 20000 in
set_option maxHeartbeats 4000000 in
theorem runs_any {w : World} {A : Option Addr} {n c : Nat} {l : List Pr} (h : RowsAt w A n 2 (l.map prC)) (hn : n ≤ 1000000) (hc : n ≤ c) (hb : PB l) :
    Calls Try.prog 64 #[.slice A n c] w (RunR (runL l) w) := by
  have hl := h.len
  rw [List.length_map] at hl
  subst hl
  have H := Lib.hid h
  have HP := Lib.hid hb
  clear h hb
  go_enter Try.func64, Try.ntmps64
  go_wp2_with fail
  go_loopw [3, 4, 9] (fun out fr i wr => ∃ (k a : Nat) (Ap : Option Addr) (cp m : Nat) (vs : List Value), k ≤ l.length ∧ a ≤ k ∧ m ≤ k ∧ i = .int .i64 k ∧ fr = .int .i64 a ∧ out = .slice Ap m cp ∧ Hid (vs.length = m ∧ (runN l k).2 = a) ∧ Hid (wr.ownsRow w.heap.size 34 1 (.slice Ap m cp) m vs) ∧ Hid (Zp w.heap.size wr vs (runN l k).1) ∧ Hid (Below w.heap.size w wr)) (fun _ _ i _ => l.length - (intOf i).toNat)
  case atStart => exact ⟨0, 0, none, 0, 0, [], Nat.zero_le _, Nat.le_refl _, Nat.le_refl _, rfl, rfl, rfl, Lib.hid ⟨rfl, rfl⟩, Lib.hid (World.ownsRow_nil _ _ _ _), Lib.hid (Zp.nil _ _), Lib.hid (Below.refl _ _)⟩
  case round =>
    obtain ⟨k, a, Ap, cp, m, vs, hk, hak, hmk, rfl, rfl, rfl, HE, HO, HZ, HB⟩ := hrel
    by_cases hlt : k < l.length
    · have hkl : (k : Int) < l.length := by omega
      obtain ⟨⟨p1, p2⟩, hp⟩ := get_some' hlt
      have hpb := HP.out.at_ hp
      obtain ⟨⟨pb0, pb1⟩, pb2, pb3⟩ := hpb
      dsimp only at pb0 pb1 pb2 pb3
      obtain ⟨b, o, rfl, hbl, hcl⟩ := H.out.at_ (i := k) (r := prC (p1, p2)) (by rw [List.getElem?_map, hp]; rfl)
      have r0 : wr.cell? ⟨b, o + k * 2, none⟩ = some (.int .i64 p1) := (HB.out.cell (p := ⟨b, _, none⟩) hbl).trans (hcl 0 _ rfl)
      have r1 : wr.cell? ⟨b, o + k * 2 + 1, none⟩ = some (.int .i64 p2) := (HB.out.cell (p := ⟨b, _, none⟩) hbl).trans (hcl 1 _ rfl)
      have hbz := HB.out.size
      obtain ⟨nx, hnx⟩ : ∃ nx : Nat, (k : Int) + 1 = nx := ⟨k + 1, by omega⟩
      have hnx2 : nx = k + 1 := by omega
      have HNX := Lib.hid hnx2
      have hrn : runN l (k + 1) = if brk l k = true then ((runN l k).1 ++ [(l.drop a).take (nx - a)], k + 1) else runN l k := by
        rw [← HE.out.2, hnx2]; rfl
      have HRN := Lib.hid hrn
      clear hrn hcl hnx2
      by_cases hbk : brk l k = true
      · have hrn2 := HRN.out.trans (if_pos hbk)
        have HR2 := Lib.hid hrn2
        have hcs : ((nx : Int) == l.length) = true ∨ (((nx : Int) == l.length) = false ∧ ∃ q1 q2, l[k + 1]? = some (q1, q2) ∧ ((q1 != p1 + 1) = true ∨ ((q1 != p1 + 1) = false ∧ (q2 != p2 + 1) = true))) := by
          unfold brk at hbk
          rw [decide_eq_true_eq, List.getD_eq_getElem?_getD, List.getD_eq_getElem?_getD, hp] at hbk
          by_cases h1 : k + 1 = l.length
          · left; simp; omega
          · right
            refine ⟨by simp; omega, ?_⟩
            obtain ⟨⟨q1, q2⟩, hq⟩ := get_some' (l := l) (k := k + 1) (by omega)
            rw [hq] at hbk
            refine ⟨q1, q2, hq, ?_⟩
            simp only [Option.getD_some] at hbk
            by_cases h2 : q1 = p1 + 1
            · exact .inr ⟨by simpa using h2, by simp; omega⟩
            · exact .inl (by simpa using h2)
        clear HRN hrn2 hbk
        have hn1 : a ≤ nx := by omega
        have hn2 : nx ≤ c := by omega
        have hn3 : nx ≤ l.length := by omega
        have hca : ¬ c = a := by omega
        rcases hcs with e1 | ⟨e1, q1, q2, hq, e2⟩
        · clear hp
          go_upto_region 7 with fail
          go_region
          go_upto_region 8 with fail
          clear e1
          obtain ⟨wd, hwd⟩ : ∃ wd, wr.drew = wd := ⟨_, rfl⟩
          have hbd : Below wr.heap.size wr wd := by rw [← hwd]; exact (bel_drew bel_refl).below
          have hz3 := hbd.size
          obtain ⟨m2, hm2⟩ : ∃ m2 : Nat, nx - a = m2 := ⟨_, rfl⟩
          obtain ⟨c2, hc2⟩ : ∃ c2 : Nat, c - a = c2 := ⟨_, rfl⟩
          have hba := (bel_alloc (o := .cells #[.slice (some ⟨b, o + a * 2, none⟩) m2 c2] 34) (bel_refl (a := wd))).below
          have hbx := hbd.trans (hba.mono hz3)
          have HBW := Lib.hid (HB.out.trans (hbx.mono hbz))
          have hrw := (H.out.sub hc a m2 (by omega)).keepB HBW.out (fun _ q hq => by
            rw [if_neg hca] at hq
            rw [add2] at hq
            have hq2 : b = q := Option.some.inj hq
            omega)
          rw [if_neg hca, ← List.map_drop, ← List.map_take, add2] at hrw
          have HRW := Lib.hid hrw
          have HOW : Hid ((wd.alloc (.cells #[.slice (some ⟨b, o + a * 2, none⟩) m2 c2] 34)).ownsRow w.heap.size 34 1 (.slice Ap m cp) m vs) := Lib.hid (own_keep HO.out fun q hq => hbx.block q (own_lt HO.out q hq).2)
          have HZW := Lib.hid (HZ.out.keep (hbx.mono hbz))
          have HRD : Hid (Reads (wd.alloc (.cells #[.slice (some ⟨b, o + a * 2, none⟩) m2 c2] 34)) (wd.alloc (.cells #[.slice (some ⟨b, o + a * 2, none⟩) m2 c2] 34)).heap.size 1 (some ⟨wd.heap.size, 0, none⟩) 1 [.slice (some ⟨b, o + a * 2, none⟩) m2 c2]) := Lib.hid (by rw [World.size_alloc]; exact reads_new wd [_] _ 1 1 rfl)
          obtain ⟨i0, zz, hi0, hzz0, hzz1, hzz2, hzz3⟩ := pl_parts
          have hvl := HE.out.1
          try rw [hwd]
          clear hrw hba hbd hwd r0 r1
          go_wp2_with (first
            | (at_builtin; refine wpList_append_any _ (by rfl) (.tmp 46) (.tmp 51) _ (by rfl) w.heap.size 34 i0 zz 1 24 Try.underlying90 hi0 hzz0 hzz1 hzz2 hzz3 (by omega) _ m _ (by rfl) HOW.out _ _ 1 _ _ (by rfl) HRD.out (by simp [Value.oneCell']) (by unfold maxLen; omega) (by omega) HBW.out.size ?_; intro v' w9 ho9 hg9 hr9; obtain ⟨A9, c9, rfl, _, _⟩ := of_own1 ho9; have HO9 := Lib.hid ho9; have HB9 := Lib.hid (grown_below' hg9 HBW.out.size (fun q hq => (own_lt HOW.out q hq).1)); clear ho9 hg9 hr9)
            | fail)
          go_roundw
          case rel => exact ⟨nx, nx, A9, c9, m + 1, vs ++ [.slice (some ⟨b, o + a * 2, none⟩) m2 c2], by omega, Nat.le_refl _, by omega, by go_num, by go_num, rfl, Lib.hid ⟨by simp [hvl], by rw [HNX.out, HR2.out]⟩, HO9, Lib.hid (by rw [HNX.out, HR2.out, hm2]; exact (HZW.out.snoc (by rw [List.length_take, List.length_drop]; omega) HRW.out (fun q hq => by have hq2 : b = q := Option.some.inj hq; omega)).keep HB9.out), Lib.hid (HBW.out.trans HB9.out)⟩
          case measure => simp [intOf]; omega
        · obtain ⟨pq0, pq1⟩ := HP.out.at_ hq
          obtain ⟨b', o', hA', hbl', hcl'⟩ := H.out.at_ (i := k + 1) (r := prC (q1, q2)) (by rw [List.getElem?_map, hq]; rfl)
          injection hA' with hA'
          injection hA' with hA1 hA2
          subst hA1 hA2
          have r2 : wr.cell? ⟨b, o + nx * 2, none⟩ = some (.int .i64 q1) := by rw [HNX.out]; exact (HB.out.cell (p := ⟨b, _, none⟩) hbl').trans (hcl' 0 _ rfl)
          have r3 : wr.cell? ⟨b, o + nx * 2 + 1, none⟩ = some (.int .i64 q2) := by rw [HNX.out]; exact (HB.out.cell (p := ⟨b, _, none⟩) hbl').trans (hcl' 1 _ rfl)
          have hnl : (nx : Int) < l.length := by simp at e1; omega
          dsimp only at pq0 pq1
          obtain ⟨pq2, pq3⟩ := pq0
          obtain ⟨pq4, pq5⟩ := pq1
          clear hp hq hcl' hbl'
          rcases e2 with e2 | ⟨e2, e3⟩
          all_goals
            go_upto_region 7 with fail
            go_region
            go_upto_region 8 with fail
            clear r2 r3
            obtain ⟨wd, hwd⟩ : ∃ wd, wr.drew = wd := ⟨_, rfl⟩
            have hbd : Below wr.heap.size wr wd := by rw [← hwd]; exact (bel_drew bel_refl).below
            have hz3 := hbd.size
            obtain ⟨m2, hm2⟩ : ∃ m2 : Nat, nx - a = m2 := ⟨_, rfl⟩
            obtain ⟨c2, hc2⟩ : ∃ c2 : Nat, c - a = c2 := ⟨_, rfl⟩
            have hba := (bel_alloc (o := .cells #[.slice (some ⟨b, o + a * 2, none⟩) m2 c2] 34) (bel_refl (a := wd))).below
            have hbx := hbd.trans (hba.mono hz3)
            have HBW := Lib.hid (HB.out.trans (hbx.mono hbz))
            have hrw := (H.out.sub hc a m2 (by omega)).keepB HBW.out (fun _ q hq => by
              rw [if_neg hca] at hq
              rw [add2] at hq
              have hq2 : b = q := Option.some.inj hq
              omega)
            rw [if_neg hca, ← List.map_drop, ← List.map_take, add2] at hrw
            have HRW := Lib.hid hrw
            have HOW : Hid ((wd.alloc (.cells #[.slice (some ⟨b, o + a * 2, none⟩) m2 c2] 34)).ownsRow w.heap.size 34 1 (.slice Ap m cp) m vs) := Lib.hid (own_keep HO.out fun q hq => hbx.block q (own_lt HO.out q hq).2)
            have HZW := Lib.hid (HZ.out.keep (hbx.mono hbz))
            have HRD : Hid (Reads (wd.alloc (.cells #[.slice (some ⟨b, o + a * 2, none⟩) m2 c2] 34)) (wd.alloc (.cells #[.slice (some ⟨b, o + a * 2, none⟩) m2 c2] 34)).heap.size 1 (some ⟨wd.heap.size, 0, none⟩) 1 [.slice (some ⟨b, o + a * 2, none⟩) m2 c2]) := Lib.hid (by rw [World.size_alloc]; exact reads_new wd [_] _ 1 1 rfl)
            obtain ⟨i0, zz, hi0, hzz0, hzz1, hzz2, hzz3⟩ := pl_parts
            have hvl := HE.out.1
            try rw [hwd]
            clear hrw hba hbd hwd r0 r1 e1 e2
            go_wp2_with (first
              | (at_builtin; refine wpList_append_any _ (by rfl) (.tmp 46) (.tmp 51) _ (by rfl) w.heap.size 34 i0 zz 1 24 Try.underlying90 hi0 hzz0 hzz1 hzz2 hzz3 (by omega) _ m _ (by rfl) HOW.out _ _ 1 _ _ (by rfl) HRD.out (by simp [Value.oneCell']) (by unfold maxLen; omega) (by omega) HBW.out.size ?_; intro v' w9 ho9 hg9 hr9; obtain ⟨A9, c9, rfl, _, _⟩ := of_own1 ho9; have HO9 := Lib.hid ho9; have HB9 := Lib.hid (grown_below' hg9 HBW.out.size (fun q hq => (own_lt HOW.out q hq).1)); clear ho9 hg9 hr9)
              | fail)
            go_roundw
            case rel => exact ⟨nx, nx, A9, c9, m + 1, vs ++ [.slice (some ⟨b, o + a * 2, none⟩) m2 c2], by omega, Nat.le_refl _, by omega, by go_num, by go_num, rfl, Lib.hid ⟨by simp [hvl], by rw [HNX.out, HR2.out]⟩, HO9, Lib.hid (by rw [HNX.out, HR2.out, hm2]; exact (HZW.out.snoc (by rw [List.length_take, List.length_drop]; omega) HRW.out (fun q hq => by have hq2 : b = q := Option.some.inj hq; omega)).keep HB9.out), Lib.hid (HBW.out.trans HB9.out)⟩
            case measure => simp [intOf]; omega
      · have hrn2 := HRN.out.trans (if_neg hbk)
        have HR2 := Lib.hid hrn2
        have hcs : ((nx : Int) == l.length) = false ∧ l[k + 1]? = some (p1 + 1, p2 + 1) := by
          unfold brk at hbk
          rw [decide_eq_true_eq, List.getD_eq_getElem?_getD, List.getD_eq_getElem?_getD, hp] at hbk
          have h1 : ¬ k + 1 = l.length := fun h => hbk (.inl h)
          obtain ⟨⟨q1, q2⟩, hq⟩ := get_some' (l := l) (k := k + 1) (by omega)
          rw [hq] at hbk ⊢
          simp only [Option.getD_some] at hbk
          have h2 : q1 = p1 + 1 := Classical.byContradiction fun h => hbk (.inr (.inl h))
          have h3 : q2 = p2 + 1 := Classical.byContradiction fun h => hbk (.inr (.inr h))
          subst h2 h3
          exact ⟨by simp; omega, rfl⟩
        obtain ⟨e1, hq⟩ := hcs
        obtain ⟨b', o', hA', hbl', hcl'⟩ := H.out.at_ (i := k + 1) (r := prC (p1 + 1, p2 + 1)) (by rw [List.getElem?_map, hq]; rfl)
        injection hA' with hA'
        injection hA' with hA1 hA2
        subst hA1 hA2
        have r2 : wr.cell? ⟨b, o + nx * 2, none⟩ = some (.int .i64 (p1 + 1)) := by rw [HNX.out]; exact (HB.out.cell (p := ⟨b, _, none⟩) hbl').trans (hcl' 0 _ rfl)
        have r3 : wr.cell? ⟨b, o + nx * 2 + 1, none⟩ = some (.int .i64 (p2 + 1)) := by rw [HNX.out]; exact (HB.out.cell (p := ⟨b, _, none⟩) hbl').trans (hcl' 1 _ rfl)
        have hnl : (nx : Int) < l.length := by simp at e1; omega
        clear hp hq hcl' hbl' HRN hrn2 hbk
        go_upto_region 7 with fail
        go_region
        go_wp2_with fail
        go_roundw
        case rel => exact ⟨nx, a, Ap, cp, m, vs, by omega, by omega, by omega, by go_num, rfl, rfl, Lib.hid ⟨HE.out.1, by rw [HNX.out, HR2.out]; exact HE.out.2⟩, Lib.hid (own_keep HO.out fun q hq => ((bel_drew bel_refl).below (a := wr)).block q (own_lt HO.out q hq).2), Lib.hid (by rw [HNX.out, HR2.out]; exact HZ.out.keep ((bel_drew bel_refl).below.mono hbz)), Lib.hid (HB.out.trans ((bel_drew bel_refl).below.mono hbz))⟩
        case measure => simp [intOf]; omega
    · obtain rfl : k = l.length := by omega
      go_wp2_with fail
      go_ret
      exact ⟨_, _, _, _, HE.out.1, rfl, HO.out, HZ.out, HB.out⟩
end Go.Proofs.Ytlbfefdmbdjjcaa
