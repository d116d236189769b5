/-
  Layer 08: format 6 is made.
-/
import Derived.Test.YtlbfefdmbdjjcaaCmO
namespace Go.Proofs.Ytlbfefdmbdjjcaa
open Go.RowKit

/-- Pairs that rise, from code point f on, up to f + k. -/
def InP (l : List Pr) (f : Int) (k : Nat) : Prop := ∀ p ∈ l, f ≤ p.1 ∧ p.1 - f < k ∧ 0 ≤ p.2 ∧ p.2 ≤ 65535
def setP (f : Int) (g : List Int) (p : Pr) : List Int := g.set (p.1 - f).toNat p.2
def glP (l : List Pr) (f : Int) (k : Nat) : List Int := l.foldl (setP f) (List.replicate k 0)
theorem setP_len (f : Int) : ∀ (l : List Pr) (g : List Int), (l.foldl (setP f) g).length = g.length
  | [], _ => rfl
  | p :: l, g => by
    show (l.foldl (setP f) (setP f g p)).length = _
    rw [setP_len f l]
    unfold setP
    rw [List.length_set]
theorem setP_bd (f : Int) : ∀ (l : List Pr) (g : List Int), (∀ p ∈ l, 0 ≤ p.2 ∧ p.2 ≤ 65535) → (∀ x ∈ g, 0 ≤ x ∧ x ≤ 65535) → ∀ x ∈ l.foldl (setP f) g, 0 ≤ x ∧ x ≤ 65535
  | [], _, _, hg, x, hx => hg x hx
  | p :: l, g, hl, hg, x, hx => setP_bd f l (setP f g p) (fun q hq => hl q (List.mem_cons_of_mem _ hq)) (fun y hy => by
      rcases List.mem_or_eq_of_mem_set hy with h | h
      · exact hg y h
      · rw [h]; exact hl p List.mem_cons_self) x hx
def f6 (l : List Pr) : Int := if l = [] then 0 else (hdP l).1
def n6 (l : List Pr) : Nat := if l = [] then 0 else ((ltP l).1 - (hdP l).1 + 1).toNat
def m6 (l : List Pr) : List UInt8 := beB 2 6 ++ beB 2 (10 + 2 * (n6 l : Int)) ++ beB 2 0 ++ beB 2 (f6 l) ++ beB 2 (n6 l : Int) ++ (glP l (f6 l) (n6 l)).flatMap (beB 2)
theorem m6_len (l : List Pr) : (m6 l).length = 10 + 2 * n6 l := by
  unfold m6
  rw [List.length_append, flat_len (beB_length 2)]
  unfold glP
  rw [setP_len]
  simp [beB_length]
  omega
set_option maxRecDepth 20000 in
theorem make_ints (n : Nat) (h : n ≤ 16777216) (w : World) : (Instr.makeSlice 63 (.int .i64 n) (.int .i64 n)).run Try.prog w =
    .ok (.slice (some ⟨w.heap.size, 0, none⟩) n n) (w.alloc (.cells (Array.replicate n (.int .i64 0)) 3)) := by
  obtain ⟨i, hi, hz, hs, hb⟩ := info_parts int_info
  rw [run_make w 63 3 i _ Try.underlying63 hi hz .i64 .i64 n n (by omega) (Int.le_refl _) (by rw [hb]; omega) (by omega)]
  simp only [Int.toNat_natCast, hs, Nat.mul_one]
  congr 3
  apply Array.ext
  · simp [madeCells]
  · intro i h1 h2
    simp [madeCells, Value.cells, Nat.mod_one]
def Mk6R (k : Nat) (N : List UInt8) (w : World) (e : Ending) (w' : World) : Prop :=
  (8192 < k ∧ e = .returned (.tuple #[.slice none 0 0, .int .i64 3]) ∧ Below w.heap.size w w') ∨ (k ≤ 8192 ∧ MkR N w e w')
set_option maxRecDepth 20000 in
set_option maxHeartbeats 4000000 in
theorem made6_any {w : World} {A : Option Addr} {n c : Nat} {l : List Pr} (h : RowsAt w A n 2 (l.map prC)) (hn : n ≤ 8192) (hi : InP l (f6 l) (n6 l)) (hb : PB l) (hf : 0 ≤ f6 l ∧ f6 l ≤ 65535) (hk : (n6 l : Int) ≤ 65536) :
    Calls Try.prog 37 #[.slice A n c] w (Mk6R (n6 l) (m6 l) w) := by
  have hl := h.len
  rw [List.length_map] at hl
  subst hl
  have hml := m6_len l
  have hmn : m6 l = beB 2 6 ++ beB 2 (10 + 2 * (n6 l : Int)) ++ beB 2 0 ++ beB 2 (f6 l) ++ beB 2 (n6 l : Int) ++ (glP l (f6 l) (n6 l)).flatMap (beB 2) := rfl
  have hcs : (l = [] ∧ f6 l = 0 ∧ n6 l = 0) ∨ (0 < l.length ∧ (hdP l).1 = f6 l ∧ (ltP l).1 - f6 l + 1 = n6 l) := by
    by_cases h0 : l = []
    · exact .inl ⟨h0, if_pos h0, if_pos h0⟩
    · have h1 : 0 < l.length := List.length_pos_iff.2 h0
      have h2 : f6 l = (hdP l).1 := if_neg h0
      have h3 : n6 l = ((ltP l).1 - (hdP l).1 + 1).toNat := if_neg h0
      have h4 := hi _ (List.mem_of_getElem? (lt_at h1))
      rw [h2] at h4
      exact .inr ⟨h1, h2.symm, by rw [h3, h2]; omega⟩
  generalize f6 l = f at hi hmn hcs hf
  generalize n6 l = k at hi hmn hcs hk hml ⊢
  generalize m6 l = N at hml hmn ⊢
  have HCS := Lib.hid hcs
  have HI := Lib.hid hi
  have H := Lib.hid h
  have HMN := Lib.hid hmn
  have HML := Lib.hid hml
  have HPB := Lib.hid hb
  obtain ⟨hf0, hf1⟩ := hf
  clear hcs hi h hmn hml hb
  go_enter Try.func37, Try.ntmps37
  go_upto_region 2 with fail
  go_cut [14] (fun s14 wx => s14 = .bool (decide ((0 : Int) < l.length)) ∧ w = wx)
  case first =>
    go_wp2_with fail
    go_meet
    exact ⟨by simp, rfl⟩
  case rest =>
  obtain ⟨rfl, rfl⟩ := hcut
  rename_i hK
  refine hK _ _ ?_
  go_cut [4, 5] (fun s4 s5 wx => s4 = .int .i64 f ∧ s5 = .int .i64 k ∧ w = wx)
  case first =>
    rcases HCS.out with ⟨e1, e2, e3⟩ | ⟨e1, e2, e3⟩
    · subst e1 e2 e3
      go_wp2_with fail
      go_meet
      exact ⟨rfl, rfl, rfl⟩
    · obtain ⟨q, hq⟩ : ∃ q, l.length - 1 = q := ⟨_, rfl⟩
      obtain ⟨b, o, rfl, hb, hc0⟩ := H.out.at_ (i := 0) (r := prC (hdP l)) (by rw [List.getElem?_map, hd_at e1]; rfl)
      obtain ⟨b', o', e', hb', hc1⟩ := H.out.at_ (i := q) (r := prC (ltP l)) (by rw [← hq, List.getElem?_map, lt_at e1]; rfl)
      injection e' with e'
      injection e' with e4 e5
      subst e4 e5
      have hm0 := HPB.out _ (List.mem_of_getElem? (hd_at e1))
      have hm1 := HPB.out _ (List.mem_of_getElem? (lt_at e1))
      generalize hdP l = hp at hc0 e2 hm0
      generalize ltP l = lp at hc1 e3 hm1
      obtain ⟨a0, a1⟩ := hp
      obtain ⟨d0, d1⟩ := lp
      dsimp only at e2 e3 hm0 hm1
      have s0 : w.cell? ⟨b, o, none⟩ = some (.int .i64 a0) := by simpa using hc0 0 _ rfl
      have s1 : w.cell? ⟨b, o + q * 2, none⟩ = some (.int .i64 d0) := by simpa using hc1 0 _ rfl
      have hlq : (l.length : Int) - 1 = q := by omega
      have hql : (q : Int) < l.length := by omega
      have hll : (0 : Int) < l.length := by omega
      subst e2
      obtain ⟨x, hx⟩ : ∃ x, d0 - a0 = x := ⟨_, rfl⟩
      have hx1 : x + 1 = k := by omega
      clear e3 hc0 hc1 hq
      go_wp2_with fail
      go_meet
      exact ⟨rfl, rfl, rfl⟩
  case rest =>
    obtain ⟨rfl, rfl, rfl⟩ := hcut
    by_cases hbig : 8192 < k
    · have hbi : ¬ (k : Int) ≤ 8192 := by omega
      go_wp2_with fail
      go_ret2
      exact .inl ⟨hbig, rfl, Below.refl _ _⟩
    have hki : (k : Int) ≤ 8192 := by omega
    have hmk := make_ints k (by omega) w
    have HB0 : Hid (Blk (w.alloc (.cells (Array.replicate k (.int .i64 0)) 3)) w.heap.size 3 ((List.replicate k (0 : Int)).map (Value.int .i64))) := Lib.hid (by simpa using Blk.new w 3 ((List.replicate k (0 : Int)).map (Value.int .i64)))
    have HBW0 : Hid (Below w.heap.size w (w.alloc (.cells (Array.replicate k (.int .i64 0)) 3))) := Lib.hid (bel_alloc bel_refl).below
    go_wp2_with fail
    clear hmk
    go_loopw [35] (fun i wr => ∃ j : Nat, j ≤ l.length ∧ i = .int .i64 j ∧ Hid (Blk wr w.heap.size 3 (((l.take j).foldl (setP f) (List.replicate k 0)).map (Value.int .i64))) ∧ Hid (Below w.heap.size w wr)) (fun i _ => l.length - (intOf i).toNat)
    case atStart => exact ⟨0, Nat.zero_le _, rfl, HB0, HBW0⟩
    case round =>
      obtain ⟨j, hj, rfl, HG, HB⟩ := hrel
      by_cases hlt : j < l.length
      · obtain ⟨⟨p1, p2⟩, hp⟩ := get_some' hlt
        have hin := HI.out _ (List.mem_of_getElem? hp)
        obtain ⟨i1, i2, i3, i4⟩ := hin
        dsimp only at i1 i2 i3 i4
        obtain ⟨x, hx⟩ : ∃ x : Nat, p1 - f = x := ⟨(p1 - f).toNat, by omega⟩
        have hxk : x < k := by omega
        have hxi : (x : Int) < k := by omega
        obtain ⟨b, o, rfl, hb, hc⟩ := H.out.at_ (i := j) (r := prC (p1, p2)) (by rw [List.getElem?_map, hp]; rfl)
        have r0 : wr.cell? ⟨b, o + j * 2, none⟩ = some (.int .i64 p1) := (HB.out.cell (p := ⟨b, _, none⟩) hb).trans (hc 0 _ rfl)
        have r1 : wr.cell? ⟨b, o + j * 2 + 1, none⟩ = some (.int .i64 p2) := (HB.out.cell (p := ⟨b, _, none⟩) hb).trans (hc 1 _ rfl)
        have hgl : ((l.take j).foldl (setP f) (List.replicate k 0)).length = k := by rw [setP_len, List.length_replicate]
        have hfo : (l.take (j + 1)).foldl (setP f) (List.replicate k 0) = ((l.take j).foldl (setP f) (List.replicate k 0)).set x p2 := by
          rw [take_snoc' hp, List.foldl_append]
          show setP f _ (p1, p2) = _
          unfold setP
          rw [show ((p1, p2).1 - f).toNat = x by show (p1 - f).toNat = x; omega]
        generalize (l.take j).foldl (setP f) (List.replicate k 0) = gs at HG hgl hfo
        obtain ⟨y, hy⟩ := get_some' (l := gs) (k := x) (by omega)
        have r2 : wr.cell? ⟨w.heap.size, x, none⟩ = some (.int .i64 y) := by rw [HG.out.cell, List.getElem?_map, hy]; rfl
        have f2 := HG.out.frozen x
        have hgl2 := HG.out.lt
        have hjl : (j : Int) < l.length := by omega
        have HFO := Lib.hid hfo
        have hbs := HB.out.setCell (p := ⟨w.heap.size, x, none⟩) (Nat.le_refl _) (.int .i64 p2)
        have HBS := Lib.hid hbs
        have hsz := hbs.size
        clear hc hp hgl hfo hy hbs
        go_wp2_with fail
        go_roundw
        case rel => exact ⟨j + 1, by omega, by go_num, Lib.hid (by rw [HFO.out, List.map_set]; exact (HG.out.set x _).alloc _), Lib.hid (HBS.out.trans ((bel_alloc bel_refl).below.mono hsz))⟩
        case measure => simp [intOf]; omega
      · obtain rfl : j = l.length := by omega
        have hg := HG.out
        rw [List.take_length] at hg
        have hgd : l.foldl (setP f) (List.replicate k 0) = glP l f k := rfl
        rw [hgd] at hg
        have hgl : (glP l f k).length = k := by unfold glP; rw [setP_len, List.length_replicate]
        have hbd := setP_bd f l (List.replicate k 0) (fun p hp => ⟨(HI.out p hp).2.2.1, (HI.out p hp).2.2.2⟩) (fun x hx => by rw [List.mem_replicate] at hx; omega)
        rw [hgd] at hbd
        generalize glP l f k = gs at hg hgl hbd HMN
        have HG2 := Lib.hid hg
        have HGL := Lib.hid hgl
        have hroom : (0 : Int) ≤ 10 + 2 * (k : Int) := by omega
        have hroom2 : 10 + 2 * (k : Int) ≤ 1099511627776 := by omega
        clear hg hgl hgd HG hbd
        go_wp2_with (first
          | (go_at_call 60; (with_reducible refine (to_I wr wr _ hroom aft_refl [] (by simp)).mono ?_); rintro e w2 ⟨g, rfl, hI⟩; have HI2 := Lib.hid hI; clear hI)
          | (go_at_call 61; (with_reducible refine (u16_I HI2.out hroom hroom2 _).mono ?_); rintro e w3 ⟨rfl, hI⟩; replace HI2 := Lib.hid hI; clear hI)
          | fail)
        obtain ⟨hds, hhd⟩ : ∃ x, beB 2 6 ++ beB 2 (10 + 2 * (k : Int)) ++ beB 2 0 ++ beB 2 f ++ beB 2 (k : Int) = x := ⟨_, rfl⟩
        have HI0 : Hid (IW wr.heap.size wr w3 g hds (10 + 2 * (k : Int)) []) := Lib.hid (by have := HI2.out; rw [List.nil_append, hhd] at this; exact this)
        rw [hhd] at HMN
        obtain ⟨W, hW⟩ : ∃ W : World, W = wr := ⟨_, rfl⟩
        rw [← hW] at HI0 HG2 HB
        have hgW := HG2.out.lt
        clear hhd HI2 hW
        go_loopw [64] (fun i wq => ∃ j : Nat, j ≤ k ∧ i = .int .i64 j ∧ Hid (IW W.heap.size W wq g (hds ++ (gs.take j).flatMap (beB 2)) (10 + 2 * (k : Int)) [])) (fun i _ => k - (intOf i).toNat)
        case atStart => exact ⟨0, Nat.zero_le _, rfl, Lib.hid (by simpa using HI0.out)⟩
        case round =>
          obtain ⟨j, hj, rfl, HIJ⟩ := hrel
          by_cases hlt : j < k
          · have hjk : (j : Int) < k := by omega
            obtain ⟨y, hy⟩ := get_some' (l := gs) (k := j) (by have := HGL.out; omega)
            have r0 : wr.cell? ⟨w.heap.size, j, none⟩ = some (.int .i64 y) := (HIJ.out.below.cell (p := ⟨w.heap.size, _, none⟩) hgW).trans (by rw [HG2.out.cell, List.getElem?_map, hy]; rfl)
            have hfl : (gs.take (j + 1)).flatMap (beB 2) = (gs.take j).flatMap (beB 2) ++ beB 2 y := by rw [take_snoc' hy, List.flatMap_append]; simp
            have HFL := Lib.hid hfl
            have hsq : w.heap.size < wr.heap.size := Nat.lt_of_lt_of_le hgW HIJ.out.below.size
            clear hfl hy
            go_wp2_with (first
              | (go_at_call 61; (with_reducible refine (u16_I HIJ.out hroom hroom2 _).mono ?_); rintro e w5 ⟨rfl, hI⟩; rw [List.append_assoc, ← HFL.out] at hI; have HI5 := Lib.hid hI; clear hI)
              | fail)
            go_roundw
            case rel => exact ⟨j + 1, by omega, by go_num, HI5⟩
            case measure => simp [intOf]; omega
          · obtain rfl : j = k := by omega
            have hI := HIJ.out
            rw [List.take_of_length_le (by rw [HGL.out]; exact Nat.le_refl _), ← HMN.out] at hI
            have hnl := HML.out
            have HIN := Lib.hid hI
            have hnl2 : N.length ≤ 140737488355328 := by omega
            have hfit : (N.length : Int) ≤ 10 + 2 * (j : Int) := by omega
            have HBW := Lib.hid (HB.out.trans (hI.below.mono HB.out.size))
            clear hI hnl
            go_wp2_with (first
              | (go_at_call 63; (with_reducible refine (done_I HIN.out hfit hnl2).mono ?_); rintro e w8 ⟨A8, c8, rfl, hs8, hb8, hq8, hc8⟩; have HS8 := Lib.hid hs8; have HB8 := Lib.hid hb8; have HR8 : Hid (0 < N.length → ∀ q, rowOf A8 = some q → q < w8.heap.size) := Lib.hid (done_lt hs8); clear hs8 hb8)
              | fail)
            go_ret2
            exact .inr ⟨by omega, _, _, rfl, ⟨HS8.out, hc8, hnl2, HR8.out (by have := HML.out; omega)⟩, HBW.out.trans (HB8.out.mono HBW.out.size)⟩
end Go.Proofs.Ytlbfefdmbdjjcaa
