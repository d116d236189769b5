/-
  Layer 08: format 0 is made.
-/
import Derived.Test.YtlbfefdmbdjjcaaCmP
namespace Go.Proofs.Ytlbfefdmbdjjcaa
open Go.RowKit

def m0 (l : List Pr) : List UInt8 := beB 2 0 ++ beB 2 262 ++ beB 2 0 ++ (glP l 0 256).flatMap (beB 1)
set_option maxRecDepth 20000 in
theorem m0_len (l : List Pr) : (m0 l).length = 262 := by
  unfold m0
  rw [List.length_append, flat_len (beB_length 1)]
  unfold glP
  rw [setP_len, List.length_append, List.length_append, beB_length, beB_length, List.length_replicate]
def byG (g : List Int) : List UInt8 := g.flatMap (beB 1)
theorem byG_map (g : List Int) : byG g = g.map (byteAt 1 0) := by
  unfold byG
  induction g with
  | nil => rfl
  | cons x g ih => rw [List.flatMap_cons, ih, beB_1]; rfl
theorem byV_at (x : Int) (h0 : 0 ≤ x) (h1 : x ≤ 255) : byteV (byteAt 1 0 x) = .int .u8 x := by
  have := byteV_of x
  rw [show x % 256 = x by omega] at this
  rw [this]
  unfold byteAt byteV
  simp [show x % 256 = x by omega]
theorem setP_b8 (f : Int) : ∀ (l : List Pr) (g : List Int), (∀ p ∈ l, 0 ≤ p.2 ∧ p.2 ≤ 255) → (∀ x ∈ g, 0 ≤ x ∧ x ≤ 255) → ∀ x ∈ l.foldl (setP f) g, 0 ≤ x ∧ x ≤ 255
  | [], _, _, hg, x, hx => hg x hx
  | p :: l, g, hl, hg, x, hx => setP_b8 f l (setP f g p) (fun q hq => hl q (List.mem_cons_of_mem _ hq)) (fun y hy => by
      rcases List.mem_or_eq_of_mem_set hy with h | h
      · exact hg y h
      · rw [h]; exact hl p List.mem_cons_self) x hx
set_option maxRecDepth 20000 in
set_option maxHeartbeats 4000000 in
theorem made0_any {w : World} {A : Option Addr} {n c : Nat} {l : List Pr} (h : RowsAt w A n 2 (l.map prC)) (hn : n ≤ 8192) (hi : ∀ p ∈ l, 0 ≤ p.1 ∧ p.1 ≤ 255 ∧ 0 ≤ p.2 ∧ p.2 ≤ 255) :
    Calls Try.prog 35 #[.slice A n c] w (MkR (m0 l) w) := by
  have hl := h.len
  rw [List.length_map] at hl
  subst hl
  have hml := m0_len l
  have hmn : m0 l = beB 2 0 ++ beB 2 262 ++ beB 2 0 ++ byG (glP l 0 256) := rfl
  generalize m0 l = N at hml hmn ⊢
  have HI := Lib.hid hi
  have H := Lib.hid h
  have HMN := Lib.hid hmn
  have HML := Lib.hid hml
  clear hi h hmn hml
  have hzc : Blk (w.alloc (.cells Try.zeroCells85 85)) w.heap.size 85 ((List.replicate 256 (0 : Int)).map (Value.int .u8)) := by
    rw [show Try.zeroCells85 = ((List.replicate 256 (0 : Int)).map (Value.int .u8)).toArray by kernel_rfl]
    exact Blk.new w _ _
  have HB0 := Lib.hid hzc
  have HBW0 : Hid (Below w.heap.size w (w.alloc (.cells Try.zeroCells85 85))) := Lib.hid (bel_alloc bel_refl).below
  clear hzc
  go_enter Try.func35, Try.ntmps35
  go_wp2_with fail
  go_loopw [9] (fun i wr => ∃ (j : Nat) (gs : List Int), j ≤ l.length ∧ i = .int .i64 j ∧ Hid ((l.take j).foldl (setP 0) (List.replicate 256 0) = gs) ∧ Hid (Blk wr w.heap.size 85 (gs.map (Value.int .u8))) ∧ Hid (Below w.heap.size w wr)) (fun i _ => l.length - (intOf i).toNat)
  case atStart => exact ⟨0, _, Nat.zero_le _, rfl, Lib.hid rfl, HB0, HBW0⟩
  case round =>
    obtain ⟨j, gs, hj, rfl, HGS, HG, HB⟩ := hrel
    have hgl : gs.length = 256 := by rw [← HGS.out, setP_len, List.length_replicate]
    by_cases hlt : j < l.length
    · obtain ⟨⟨p1, p2⟩, hp⟩ := get_some' hlt
      have hin := HI.out _ (List.mem_of_getElem? hp)
      obtain ⟨i1, i2, i3, i4⟩ := hin
      dsimp only at i1 i2 i3 i4
      obtain ⟨x, rfl⟩ : ∃ x : Nat, p1 = x := ⟨p1.toNat, by omega⟩
      have hxk : x < 256 := by omega
      have hxi : (x : Int) < 256 := by omega
      obtain ⟨b, o, rfl, hb, hc⟩ := H.out.at_ (i := j) (r := prC (x, p2)) (by rw [List.getElem?_map, hp]; rfl)
      have r0 : wr.cell? ⟨b, o + j * 2, none⟩ = some (.int .i64 x) := (HB.out.cell (p := ⟨b, _, none⟩) hb).trans (hc 0 _ rfl)
      have r1 : wr.cell? ⟨b, o + j * 2 + 1, none⟩ = some (.int .i64 p2) := (HB.out.cell (p := ⟨b, _, none⟩) hb).trans (hc 1 _ rfl)
      have hfo : (l.take (j + 1)).foldl (setP 0) (List.replicate 256 0) = gs.set x p2 := by
        rw [take_snoc' hp, List.foldl_append, HGS.out]
        show setP 0 _ ((x : Int), p2) = _
        unfold setP
        rw [show ((((x : Int), p2).1 - 0).toNat) = x by show ((x : Int) - 0).toNat = x; omega]
      obtain ⟨y, hy⟩ := get_some' (l := gs) (k := x) (by omega)
      have r2 : wr.cell? ⟨w.heap.size, x, none⟩ = some (.int .u8 y) := by rw [HG.out.cell, List.getElem?_map, hy]; rfl
      have f2 := HG.out.frozen x
      have hgl2 := HG.out.lt
      have hjl : (j : Int) < l.length := by omega
      have HFO := Lib.hid hfo
      have hbs := HB.out.setCell (p := ⟨w.heap.size, x, none⟩) (Nat.le_refl _) (.int .u8 p2)
      have HBS := Lib.hid hbs
      have hsz := hbs.size
      have hm8 : p2 % 256 = p2 := by omega
      clear hc hp hgl hfo hy hbs
      go_wp2_with fail
      go_roundw
      case rel => exact ⟨j + 1, gs.set x p2, by omega, by go_num, HFO, Lib.hid (by rw [List.map_set]; exact (HG.out.set x _).alloc _), Lib.hid (HBS.out.trans ((bel_alloc bel_refl).below.mono hsz))⟩
      case measure => simp [intOf]; omega
    · obtain rfl : j = l.length := by omega
      have hg := HGS.out
      rw [List.take_length] at hg
      have hbd := setP_bd 0 l (List.replicate 256 0) (fun p hp => by have := HI.out p hp; omega) (fun x hx => by rw [List.mem_replicate] at hx; omega)
      have hbd2 := setP_b8 0 l (List.replicate 256 0) (fun p hp => ⟨(HI.out p hp).2.2.1, (HI.out p hp).2.2.2⟩) (fun x hx => by rw [List.mem_replicate] at hx; omega)
      have HMN2 : Hid (N = beB 2 0 ++ beB 2 262 ++ beB 2 0 ++ byG gs) := Lib.hid (by rw [HMN.out, ← hg]; rfl)
      rw [hg] at hbd2
      have hsl : SlAt wr (some ⟨w.heap.size, 0, none⟩) 256 ((byG gs).map byteV) := slat_blk (Blk.to HG.out (by
        rw [byG_map, List.map_map]
        refine List.map_congr_left fun x hx => ?_
        exact (byV_at x (hbd2 x hx).1 (hbd2 x hx).2).symm)) (by rw [byG_map]; simp [hgl])
      have HSL := Lib.hid hsl
      have hgw := HG.out.lt
      have hgy : (byG gs).length = 256 := by rw [byG_map, List.length_map, hgl]
      have HGY := Lib.hid hgy
      have hro : (0 : Int) ≤ 262 := by decide
      have hro2 : (262 : Int) ≤ 1099511627776 := by decide
      clear hbd hbd2 hg hsl HG HGS hgl hgy
      go_upto_region 7 with fail
      have HAD := Lib.hid (aft_drew (W := wr))
      have HKS : Hid (∀ u, Aft wr u → SlAt u (some ⟨w.heap.size, 0, none⟩) 256 ((byG gs).map byteV)) := Lib.hid fun u hu => HSL.out.keep hu
      have HRQ : Hid (0 < 256 → ∀ q, rowOf (some (⟨w.heap.size, 0, none⟩ : Addr)) = some q → q < wr.heap.size) := Lib.hid fun _ q hq => by have : w.heap.size = q := Option.some.inj hq; omega
      have HNF : Hid ([] ++ beB 2 0 ++ beB 2 262 ++ beB 2 0 ++ byG gs = N) := Lib.hid (by rw [HMN2.out]; simp)
      have hfit : (N.length : Int) ≤ 262 := by rw [HML.out]; decide
      have hsmall : N.length ≤ 140737488355328 := by rw [HML.out]; omega
      have hnpos : 0 < N.length := by rw [HML.out]; omega
      go_region_held (fun u => Aft wr u) (first | (with_reducible exact HAD.out) | (with_reducible exact HA1.out) | (with_reducible exact HA2.out) | (with_reducible exact HA3.out) | (with_reducible exact HA4.out) | (with_reducible exact HA5.out) | (with_reducible exact HA6.out)) (first
        | (go_at_call 60; (with_reducible refine (to_I wr wr.drew _ hro HAD.out [] (by simp)).mono ?_); rintro e w2 ⟨g, rfl, hI⟩; have HI1 := Lib.hid hI; have HA1 := Lib.hid hI.aft; clear hI)
        | (go_at_call 61; (with_reducible refine (u16_I HI1.out hro hro2 _).mono ?_); rintro e w3 ⟨rfl, hI⟩; have HI2 := Lib.hid hI; have HA2 := Lib.hid hI.aft; clear hI HI1)
        | (go_at_call 61; (with_reducible refine (u16_I HI2.out hro hro2 _).mono ?_); rintro e w4 ⟨rfl, hI⟩; have HI3 := Lib.hid hI; have HA3 := Lib.hid hI.aft; clear hI HI2)
        | (go_at_call 61; (with_reducible refine (u16_I HI3.out hro hro2 _).mono ?_); rintro e w5 ⟨rfl, hI⟩; have HI4 := Lib.hid hI; have HA4 := Lib.hid hI.aft; clear hI HI3)
        | (go_at_call 62; (with_reducible refine (data_I HI4.out hro hro2 (some ⟨w.heap.size, 0, none⟩) 256 256 (byG gs) HGY.out (HKS.out _ HA4.out) HRQ.out).mono ?_); rintro e w6 ⟨rfl, hI⟩; rw [HNF.out] at hI; have HI5 := Lib.hid hI; have HA5 := Lib.hid hI.aft; clear hI HI4)
        | (go_at_call 63; (with_reducible refine (done_I HI5.out hfit hsmall).mono ?_); rintro e w8 ⟨A8, c8, rfl, hs8, hb8, hq8, hc8⟩; have HS8 := Lib.hid hs8; have HB8 := Lib.hid hb8; have HA6 := Lib.hid (HA5.out.call hb8); have HR8 : Hid (0 < N.length → ∀ q, rowOf A8 = some q → q < w8.heap.size) := Lib.hid (done_lt hs8); clear hs8 hb8))
      go_wp2_with fail
      go_ret2
      exact ⟨_, _, rfl, ⟨HS8.out, hc8, hsmall, HR8.out hnpos⟩, HB.out.trans (Below.mono HA6.out HB.out.size)⟩
end Go.Proofs.Ytlbfefdmbdjjcaa
