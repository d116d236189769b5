/-
  Layer 08: format 12 is made.
-/
import Derived.Test.YtlbfefdmbdjjcaaCmN
import Derived.Deep.RegionHeld3
namespace Go.Proofs.Ytlbfefdmbdjjcaa
open Go.RowKit

theorem runN_mem (l : List Pr) : ∀ i, i ≤ l.length → ∀ ps ∈ (runN l i).1, 0 < ps.length ∧ ps.length ≤ l.length ∧ ∀ p ∈ ps, p ∈ l
  | 0, _, ps, h => (List.not_mem_nil h).elim
  | i + 1, hi, ps, h => by
    unfold runN at h
    split at h
    · rcases List.mem_append.1 h with h | h
      · exact runN_mem l i (by omega) ps h
      · rw [List.mem_singleton] at h
        subst h
        have := runN_le l i
        refine ⟨by rw [List.length_take, List.length_drop]; omega, by rw [List.length_take, List.length_drop]; omega, fun p hp => List.mem_of_mem_drop (List.mem_of_mem_take hp)⟩
    · exact runN_mem l i (by omega) ps h
/-- A run's first pair, and its last one. -/
def hdP (ps : List Pr) : Pr := ps.getD 0 (0, 0)
def ltP (ps : List Pr) : Pr := ps.getD (ps.length - 1) (0, 0)
theorem hd_at {ps : List Pr} (h : 0 < ps.length) : ps[0]? = some (hdP ps) := by
  obtain ⟨p, hp⟩ := get_some' (l := ps) (k := 0) h
  unfold hdP
  rw [List.getD_eq_getElem?_getD, hp]
  rfl
theorem lt_at {ps : List Pr} (h : 0 < ps.length) : ps[ps.length - 1]? = some (ltP ps) := by
  obtain ⟨p, hp⟩ := get_some' (l := ps) (k := ps.length - 1) (by omega)
  unfold ltP
  rw [List.getD_eq_getElem?_getD, hp]
  rfl
def g12 (ps : List Pr) : List UInt8 := beB 4 (hdP ps).1 ++ beB 4 (ltP ps).1 ++ beB 4 (hdP ps).2
def m12 (pl : List (List Pr)) : List UInt8 := beB 2 12 ++ beB 2 0 ++ beB 4 (16 + 12 * (pl.length : Int)) ++ beB 4 0 ++ beB 4 (pl.length : Int) ++ pl.flatMap g12
theorem g12_len (ps : List Pr) : (g12 ps).length = 12 := by unfold g12; simp [beB_length]
theorem flat_len {α : Type} {f : α → List UInt8} {k : Nat} (hf : ∀ a, (f a).length = k) : ∀ l : List α, (l.flatMap f).length = l.length * k
  | [] => by simp
  | a :: l => by rw [List.flatMap_cons, List.length_append, hf, flat_len hf l, List.length_cons, Nat.add_mul]; omega
theorem m12_len (pl : List (List Pr)) : (m12 pl).length = 16 + 12 * pl.length := by
  unfold m12
  rw [List.length_append, flat_len g12_len]
  simp [beB_length]
  omega
theorem done_lt {w : World} {A : Option Addr} {n : Nat} {vs : List Value} (h : SlAt w A n vs) (h0 : 0 < n) : ∀ q, rowOf A = some q → q < w.heap.size := fun q hq => by
  obtain ⟨b, o, rfl, hb, _⟩ := h.2 0 h0
  have : b = q := Option.some.inj hq
  omega
/-- What a maker answers. -/
def MkR (N : List UInt8) (w : World) (e : Ending) (w' : World) : Prop := ∃ A c, e = .returned (.tuple #[.slice A N.length c, .int .i64 0]) ∧ Bs w' A N c ∧ Below w.heap.size w w'
set_option maxRecDepth 20000 in
set_option maxHeartbeats 4000000 in
theorem made12_any {w : World} {A : Option Addr} {n c : Nat} {l : List Pr} (h : RowsAt w A n 2 (l.map prC)) (hn : n ≤ 8192) (hc : n ≤ c) (hb : PB l) :
    Calls Try.prog 38 #[.slice A n c] w (MkR (m12 (runL l)) w) := by
  have hl := h.len
  rw [List.length_map] at hl
  have hr := runs_any h (by omega) hc hb
  have hmem := runN_mem l l.length (Nat.le_refl _)
  have hrl := runN_len l l.length
  change (runL l).length ≤ l.length at hrl
  change ∀ ps ∈ runL l, _ at hmem
  have hpb : ∀ ps ∈ runL l, PB ps := fun ps hps p hp => hb p ((hmem ps hps).2.2 p hp)
  generalize runL l = pl at hmem hrl hpb hr
  have HR := Lib.hid hr
  have HM := Lib.hid hmem
  have HPB := Lib.hid hpb
  clear h hmem hpb hr
  obtain ⟨pn, hpn⟩ : ∃ pn, pl.length = pn := ⟨_, rfl⟩
  have hpn1 : pn ≤ 8192 := by omega
  have HPN := Lib.hid hpn
  obtain ⟨N, hN⟩ : ∃ N, m12 pl = N := ⟨_, rfl⟩
  rw [hN]
  have hNl : N.length = 16 + 12 * pn := by rw [← hN, m12_len, hpn]
  have HN : Hid (N = beB 2 12 ++ beB 2 0 ++ beB 4 (16 + 12 * (pn : Int)) ++ beB 4 0 ++ beB 4 (pn : Int) ++ pl.flatMap g12) := Lib.hid (by rw [← hN]; unfold m12; rw [hpn])
  have HNL := Lib.hid hNl
  clear hpn hN hNl
  go_enter Try.func38, Try.ntmps38
  go_upto_region 3 with (first
    | (go_at_call 64; (with_reducible refine HR.out.mono ?_); rintro e w1 ⟨Ap, cp, m, vs, hvm, rfl, hown, hz, hbl⟩; obtain rfl : m = pn := (hvm.symm.trans hz.len).trans HPN.out; have HOW := Lib.hid hown; have HZ := Lib.hid hz; have HB1 := Lib.hid hbl; have HVM := Lib.hid hvm; clear hown hz hbl hvm)
    | fail)
  have HW0 := Lib.hid (aft_refl (W := w1))
  have HSL : Hid (SlAt w1 Ap m vs) := Lib.hid (by obtain ⟨A', c', e', hsl, -⟩ := of_own1 HOW.out; injection e' with e1 e2 e3; rw [e1]; exact hsl)
  have hroom : (0 : Int) ≤ 16 + 12 * (m : Int) := by omega
  have hroom2 : 16 + 12 * (m : Int) ≤ 1099511627776 := by omega
  go_wp2_with (first
    | (go_at_call 60; (with_reducible refine (to_I w1 w1 _ hroom aft_refl [] (by simp)).mono ?_); rintro e w2 ⟨g, rfl, hI⟩; have HI := Lib.hid hI; clear hI)
    | (go_at_call 61; (with_reducible refine (u16_I HI.out hroom hroom2 _).mono ?_); rintro e w3 ⟨rfl, hI⟩; replace HI := Lib.hid hI; clear hI)
    | (go_at_call 70; (with_reducible refine (u32_I HI.out hroom hroom2 _).mono ?_); rintro e w4 ⟨rfl, hI⟩; replace HI := Lib.hid hI; clear hI)
    | fail)
  have hpl : vs.length = m := HVM.out
  obtain ⟨hds, hhd⟩ : ∃ x, beB 2 12 ++ beB 2 0 ++ beB 4 (16 + 12 * (m : Int)) ++ beB 4 0 ++ beB 4 (m : Int) = x := ⟨_, rfl⟩
  have HI0 : Hid (IW w1.heap.size w1 w4 g hds (16 + 12 * (m : Int)) []) := Lib.hid (by have := HI.out; rw [List.nil_append, hhd] at this; exact this)
  rw [hhd] at HN
  clear hhd HI
  go_loopw [27] (fun i wr => ∃ k : Nat, k ≤ m ∧ i = .int .i64 k ∧ Hid (IW w1.heap.size w1 wr g (hds ++ (pl.take k).flatMap g12) (16 + 12 * (m : Int)) [])) (fun i _ => m - (intOf i).toNat)
  case atStart => exact ⟨0, Nat.zero_le _, rfl, Lib.hid (by simpa using HI0.out)⟩
  case round =>
    obtain ⟨k, hk, rfl, HI⟩ := hrel
    by_cases hlt : k < m
    · have hkm : (k : Int) < m := by omega
      obtain ⟨ps, hps⟩ := get_some' (l := pl) (k := k) (by have := HPN.out; omega)
      obtain ⟨v, hv⟩ := get_some' (l := vs) (k := k) (by omega)
      obtain ⟨Ai, ci, rfl, hrw, hrq⟩ := HZ.out.at_ k _ _ hv hps
      obtain ⟨b, o, rfl, hb1, hc1⟩ := HSL.out.2 k hlt
      rw [hv] at hc1
      have hbr := HI.out.aft
      have r0 : wr.cell? ⟨b, o + k, none⟩ = some (.slice Ai ps.length ci) := (hbr.cell (p := ⟨b, _, none⟩) hb1).trans hc1
      obtain ⟨h0, hlen, hmm⟩ := HM.out ps (List.mem_of_getElem? hps)
      have hhd := hd_at h0
      have hlt2 := lt_at h0
      obtain ⟨z, hz⟩ : ∃ z, ps.length = z := ⟨_, rfl⟩
      obtain ⟨q, hq⟩ : ∃ q, z - 1 = q := ⟨_, rfl⟩
      have hqi : (z : Int) - 1 = q := by omega
      have hqz : (q : Int) < z := by omega
      have hz0 : (0 : Int) < z := by omega
      have hwq : IntKind.i64.wrap ((z : Int) - 1) = q := by rw [IntWalk.i64_in _ (by omega)]; exact hqi
      have hwq2 : IntKind.i64.wrap (q : Int) = q := IntWalk.i64_in _ (by omega)
      obtain ⟨bi, oi, rfl, hbi, hci⟩ := hrw.at_ (i := 0) (r := prC (hdP ps)) (by rw [List.getElem?_map, hhd]; rfl)
      obtain ⟨bi', oi', e', hbi', hci'⟩ := hrw.at_ (i := ps.length - 1) (r := prC (ltP ps)) (by rw [List.getElem?_map, hlt2]; rfl)
      injection e' with e'
      injection e' with e1 e2
      subst e1 e2
      rw [hz, hq] at hci'
      rw [hz] at r0
      have hg : g12 ps = beB 4 (hdP ps).1 ++ beB 4 (ltP ps).1 ++ beB 4 (hdP ps).2 := rfl
      have hfl : (pl.take (k + 1)).flatMap g12 = (pl.take k).flatMap g12 ++ g12 ps := by rw [take_snoc' hps, List.flatMap_append]; simp
      generalize hdP ps = hp at hci hg
      generalize ltP ps = lp at hci' hg
      obtain ⟨a0, a1⟩ := hp
      obtain ⟨d0, d1⟩ := lp
      have s0 : ∀ u, Aft w1 u → u.cell? ⟨bi, oi, none⟩ = some (.int .i64 a0) := fun u hu => (hu.cell (p := ⟨bi, _, none⟩) hbi).trans (by simpa using hci 0 _ rfl)
      have s1 : ∀ u, Aft w1 u → u.cell? ⟨bi, oi + 1, none⟩ = some (.int .i64 a1) := fun u hu => (hu.cell (p := ⟨bi, _, none⟩) hbi).trans (by simpa using hci 1 _ rfl)
      have s2 : ∀ u, Aft w1 u → u.cell? ⟨bi, oi + q * 2, none⟩ = some (.int .i64 d0) := fun u hu => (hu.cell (p := ⟨bi, _, none⟩) hbi).trans (by simpa using hci' 0 _ rfl)
      have HG : Hid (((hds ++ (pl.take k).flatMap g12) ++ beB 4 a0) ++ beB 4 d0 ++ beB 4 a1 = hds ++ (pl.take (k + 1)).flatMap g12) := Lib.hid (by rw [hfl, hg]; simp)
      have HBR := Lib.hid hbr
      clear hps hv hrw hrq hc1 hhd hlt2 hci hci' hg hfl hmm hbr hlen h0 hz hq
      go_upto_region 7 with fail
      have HAD := Lib.hid HBR.out.drew
      go_region_held (fun u => Aft w1 u) (first | (with_reducible exact HAD.out) | (with_reducible exact HA1.out) | (with_reducible exact HA2.out) | (with_reducible exact HA3.out)) (first
        | (go_at_call 70; (with_reducible refine (u32_I (HI.out.keep (w' := wr.drew) (bel_drew bel_refl).below) hroom hroom2 _).mono ?_); rintro e w5 ⟨rfl, hI⟩; have HI1 := Lib.hid hI; have HA1 := Lib.hid hI.aft; clear hI)
        | (go_at_call 70; (with_reducible refine (u32_I HI1.out hroom hroom2 _).mono ?_); rintro e w6 ⟨rfl, hI⟩; have HI2 := Lib.hid hI; have HA2 := Lib.hid hI.aft; clear hI)
        | (go_at_call 70; (with_reducible refine (u32_I HI2.out hroom hroom2 _).mono ?_); rintro e w7 ⟨rfl, hI⟩; have HI3 := Lib.hid hI; have HA3 := Lib.hid hI.aft; clear hI))
      all_goals
        have hI3 := HI3.out
        rw [HG.out] at hI3
        have HIF := Lib.hid hI3
        clear hI3 s0 s1 s2 r0
        go_wp2_with fail
        go_roundw
        case rel => exact ⟨k + 1, by omega, by go_num, HIF⟩
        case measure => simp [intOf]; omega
    · obtain rfl : k = m := by omega
      have hI := HI.out
      rw [List.take_of_length_le (by rw [HPN.out]; exact Nat.le_refl _), ← HN.out] at hI
      have hnl := HNL.out
      have HIN := Lib.hid hI
      have hnl2 : N.length ≤ 140737488355328 := by omega
      have hfit : (N.length : Int) ≤ 16 + 12 * (k : Int) := by omega
      have hbw := HB1.out.trans (hI.aft.mono HB1.out.size)
      have HBW := Lib.hid hbw
      clear hI hbw hnl
      go_wp2_with (first
        | (go_at_call 63; (with_reducible refine (done_I HIN.out hfit hnl2).mono ?_); rintro e w8 ⟨A8, c8, rfl, hs8, hb8, hq8, hc8⟩; have HS8 := Lib.hid hs8; have HB8 := Lib.hid hb8; have HR8 : Hid (0 < N.length → ∀ q, rowOf A8 = some q → q < w8.heap.size) := Lib.hid (done_lt hs8); clear hs8 hb8)
        | fail)
      go_ret2
      refine ⟨_, _, rfl, ⟨HS8.out, hc8, hnl2, HR8.out (by have := HNL.out; omega)⟩, HBW.out.trans (HB8.out.mono HBW.out.size)⟩
end Go.Proofs.Ytlbfefdmbdjjcaa
