/-
  For every number and every list of tables SfntBack answers true and leaves its arguments as they were. No conditions.
  Layer 04: the law SfntBack, walked.
-/
import Derived.Test.YtejombofjakllaaSfGm
import Derived.Test.YtejombofjakllaaBs
namespace Go.Proofs.Ytejombofjakllaa
open Go.RowKit Go.Shelf

theorem pat_at {q : Int} {t : Bl} {k : Nat} (h : ¬ (t.1 = headT ∧ 8 ≤ k ∧ k < 12)) : (patS q t)[k]? = t.2[k]? := by
  unfold patS
  split
  · rename_i h1
    rcases Nat.lt_or_ge k 8 with h2 | h2
    · rw [List.getElem?_append_left (by simp [beB_length]; omega), List.getElem?_append_left (by simp; omega), List.getElem?_take, if_pos h2]
    · have h3 : 12 ≤ k := by
        rcases Nat.lt_or_ge k 12 with h3 | h3
        · exact absurd ⟨h1.1, h2, h3⟩ h
        · exact h3
      have hl : (t.2.take 8 ++ beB 4 q).length = 12 := by simp [beB_length]; omega
      rw [List.getElem?_append_right (by omega), hl, List.getElem?_drop]
      congr 1
      omega
  · rfl
/-- Each table of a built font is found. -/
theorem find_back {v : Int} {l : List Bl} (h0 : chkS v l = 0) : ∃ q, ∀ t ∈ l, ∀ (W : World) (A : Option Addr) (n c : Nat), (buildS v l).length = n → SlAt W A n ((buildS v l).map byteV) → n ≤ c → (∀ k, rowOf A = some k → k < W.heap.size) →
    Calls Try.prog 14 #[.slice A n c, .string (strB t.1)] W (FiR (patS q t) W) := by
  obtain ⟨h1, h2, h3, h4, h5, h6⟩ := chk_ok h0
  have hp := srtT_perm l
  have hb : buildS v l = layS v (srtT l) := by unfold buildS; rw [if_pos h0]
  obtain ⟨q, hq⟩ := data_lay (v := v) (fun t ht => h4 t (hp.mem_iff.1 ht)) (srtT_up h5)
  refine ⟨q, fun t ht W A n c hn hs hc hA => ?_⟩
  obtain ⟨a, b, hS⟩ := List.append_of_mem (hp.mem_iff.2 ht)
  have := Find_any hn hs hc hA (good_build h0).1 (tbS_of hS) (tag := t.1) rfl
  rw [← hp.length_eq] at this
  rwa [hb, hq a t b _ hS] at this
set_option maxRecDepth 20000 in
set_option maxHeartbeats 2000000 in
theorem back_law {w : World} {A : Option Addr} {n c : Nat} {es : List Bm} (v : Int) (h : BlL w A n es) (hm : n ≤ 140737488355328) :
    Calls Try.prog 4 #[.int .i64 v, .slice A n c] w fun e w' => e = .returned (.bool true) ∧ Below w.heap.size w w' := by
  have HL := Lib.hid (large_any (c := c) h)
  rcases Bool.eq_false_or_eq_true (largeB (es.map bmS)) with hL | hL
  · rw [hL] at HL
    clear hL h
    go_enter Try.func4, Try.ntmps4
    go_wp2_with (first
      | (go_at_call 8; (with_reducible refine HL.out.mono ?_); rintro e w1 ⟨rfl, rfl⟩)
      | (go_at_call 9; (with_reducible refine (lives_any _).mono ?_); rintro e w3 ⟨rfl, hb⟩; have HB := Lib.hid hb; clear hb)
      | fail)
    go_ret
    exact ⟨rfl, HB.out⟩
  rw [hL] at HL
  have hbd := Build_any (c := c) v h hm
  obtain ⟨l, hll⟩ : ∃ l, es.map bmS = l := ⟨_, rfl⟩
  have hln : l.length = n := by rw [← hll, List.length_map]; exact h.len
  rw [hll] at hbd
  clear hL
  by_cases h0 : chkS v l = 0
  case neg =>
    obtain ⟨x, hx⟩ : ∃ x, chkS v l = x := ⟨_, rfl⟩
    have hx0 : (x != 0) = true := by simp; rw [← hx]; exact h0
    have hx1 : (x == 0) = false := by simp; rw [← hx]; exact h0
    have hN : buildS v l = [] := by unfold buildS; rw [if_neg h0]
    rw [hN, hx] at hbd
    have HBD : Hid (Calls Try.prog 10 #[.int .i64 v, .slice A n c] w fun e w' => ∃ A' c', e = .returned (.tuple #[.slice A' 0 c', .int .i64 x]) ∧ Below w.heap.size w w') := Lib.hid (hbd.mono fun e w' ⟨A', c', he, _, _, hb⟩ => ⟨A', c', he, hb⟩)
    clear hbd hN hx h0 h hll hln
    go_enter Try.func4, Try.ntmps4
    go_wp2_with (first
      | (go_at_call 8; (with_reducible refine HL.out.mono ?_); rintro e w1 ⟨rfl, rfl⟩)
      | (go_at_call 10; (with_reducible refine HBD.out.mono ?_); rintro e w2 ⟨A', c', rfl, hb⟩; have HB2 := Lib.hid hb; clear hb)
      | (go_at_call 9; (with_reducible refine (lives_any w2).mono ?_); rintro e w3 ⟨rfl, hb⟩; have HB3 := Lib.hid (HB2.out.trans (hb.mono HB2.out.size)); clear hb)
      | fail)
    go_ret
    exact ⟨rfl, HB3.out⟩
  case pos =>
    obtain ⟨q, hFB⟩ := find_back h0
    have hGB := good_build h0
    obtain ⟨N, hN⟩ : ∃ N, buildS v l = N := ⟨_, rfl⟩
    rw [hN] at hFB hbd hGB
    rw [h0] at hbd
    obtain ⟨m, hml⟩ : ∃ m, N.length = m := ⟨_, rfl⟩
    have hmb : m ≤ 1048576 := by
      rw [← hml]
      exact hGB.1.big
    obtain ⟨ts, hts⟩ : ∃ ts, tbS (12 + 16 * l.length) (srtT l) = ts := ⟨_, rfl⟩
    have htl : ts.length = n := by rw [← hts, tbS_len, srtT_len]; exact hln
    rw [hts] at hGB
    have HPA : Hid (∀ (W : World) (A : Option Addr) (c : Nat), SlAt W A m (N.map byteV) → m ≤ c → (∀ k, rowOf A = some k → k < W.heap.size) → Calls Try.prog 12 #[.slice A m c] W fun e w' => ∃ g c', e = .returned (.tuple #[.int .i64 v, .slice (some ⟨g, 0, none⟩) n c', .int .i64 0]) ∧ Below W.heap.size W w') := Lib.hid fun W A c h1 h2 h3 =>
      (Parse_any hml h1 h2 h3 hGB.1).mono fun e w' ⟨g, c', he, _, _, hb⟩ => ⟨g, c', by rw [he, htl], hb⟩
    have HCK : Hid (∀ (W : World) (A : Option Addr) (c : Nat), SlAt W A m (N.map byteV) → m ≤ c → (∀ k, rowOf A = some k → k < W.heap.size) → Calls Try.prog 13 #[.slice A m c] W fun e w' => e = .returned (.int .i64 0) ∧ Below W.heap.size W w') := Lib.hid fun W A c h1 h2 h3 => Check_any hml h1 h2 h3 hGB.1 hGB.2
    have HBD : Hid (Calls Try.prog 10 #[.int .i64 v, .slice A n c] w fun e w' => ∃ A' c', e = .returned (.tuple #[.slice A' m c', .int .i64 0]) ∧ Bs w' A' N c' ∧ Below w.heap.size w w') := Lib.hid (hbd.mono fun e w' ⟨A', c', he, hs, _, hb⟩ => by
      rw [hml] at he
      exact ⟨A', c', he, hs, hb⟩)
    have HFB : Hid (∀ (i : Nat) (x : Bm), es[i]? = some x → ∀ (W : World) (A : Option Addr) (c : Nat), Bs W A N c → Calls Try.prog 14 #[.slice A m c, .string (strB x.t)] W fun e w' => ∃ A' c', e = .returned (.tuple #[.slice A' x.d.length c', .int .i64 0]) ∧ SlAt w' A' x.d.length ((patS q (x.t, x.d)).map byteV) ∧ Below W.heap.size W w') := Lib.hid fun i x hx W A c hb => by
      have hs := hb.sl
      have hc := hb.cap
      rw [hml] at hs hc
      refine (hFB (bmS x) (by rw [← hll]; exact List.mem_map_of_mem (List.mem_of_getElem? hx)) W A m c hml hs hc hb.row).mono fun e w' ⟨A', c', he, _, _, h4, h5⟩ => ?_
      have hpl := pat_len q (bmS x)
      rw [hpl] at he h4
      exact ⟨A', c', he, h4, h5⟩
    have H := Lib.hid h
    have HN := Lib.hid h.len
    have HML := Lib.hid hml
    clear hbd hN h0 hFB hGB hts htl hll hln h hml
    go_enter Try.func4, Try.ntmps4
    go_wp2_with (first
      | (go_at_call 8; (with_reducible refine HL.out.mono ?_); rintro e w1 ⟨rfl, rfl⟩)
      | (go_at_call 10; (with_reducible refine HBD.out.mono ?_); rintro e w2 ⟨A', c', rfl, hs, hb⟩; have HS2 := Lib.hid hs; have HB2 := Lib.hid hb; clear hs hb)
      | (go_at_call 9; (with_reducible refine (lives_any _).mono ?_); rintro e w3 ⟨rfl, hb⟩; have HB3 := Lib.hid (HB2.out.trans (hb.mono HB2.out.size)); have HS3 := Lib.hid (HS2.out.keep hb); have hz3 : SlAt w3 A' m (N.map byteV) := (by have := HS3.out.sl; rwa [HML.out] at this); have hz4 : m ≤ c' := (by have := HS3.out.cap; rwa [HML.out] at this); have HZ3 := Lib.hid hz3; clear hb HS2 hz3)
      | (go_at_call 12; (with_reducible refine (HPA.out _ _ _ HZ3.out hz4 HS3.out.row).mono ?_); rintro e w4 ⟨g, c4, rfl, hb⟩; have HB4 := Lib.hid (HB3.out.trans (hb.mono HB3.out.size)); have HS4 := Lib.hid (HS3.out.keep hb); have HZ4 := Lib.hid (HZ3.out.keep hb); clear hb HS3 HZ3)
      | (go_at_call 13; (with_reducible refine (HCK.out _ _ _ HZ4.out hz4 HS4.out.row).mono ?_); rintro e w5 ⟨rfl, hb⟩; have HB5 := Lib.hid (HB4.out.trans (hb.mono HB4.out.size)); have HS5 := Lib.hid (HS4.out.keep hb); clear hb HS4 HZ4)
      | fail)
    clear HL HBD HPA HCK HB2 HB3 HB4
    go_loopw [10] (fun i wr => ∃ j : Nat, j ≤ n ∧ i = .int .i64 j ∧ Hid (Bs wr A' N c') ∧ Hid (Below w.heap.size w wr)) (fun i _ => n - (intOf i).toNat)
    case atStart => exact ⟨0, Nat.zero_le _, rfl, HS5, HB5⟩
    case round =>
      obtain ⟨j, hj, rfl, HS, HB⟩ := hrel
      by_cases hlt : j < n
      · have d3 : decide ((j : Int) < n) = true := by simp; omega
        obtain ⟨⟨vt, vA, vc, vd⟩, hx⟩ := get_some' (l := es) (k := j) (by rw [HN.out]; omega)
        obtain ⟨b, o, rfl, hb, hx0, hx1⟩ := H.out.at_ hx
        have hmem := List.mem_of_getElem? hx
        have hdat := H.out.data _ hmem
        have hsm := H.out.small _ hmem
        have HF := HFB.out _ _ hx wr A' c' HS.out
        have hpl := pat_len q (vt, vd)
        have hpa := fun k => pat_at (q := q) (t := (vt, vd)) (k := k)
        obtain ⟨pd, hpd⟩ : ∃ pd, patS q (vt, vd) = pd := ⟨_, rfl⟩
        dsimp only at hx0 hx1 hdat hsm HF hpl hpa
        rw [hpd] at HF hpl hpa
        obtain ⟨z, hz⟩ : ∃ z, vd.length = z := ⟨_, rfl⟩
        rw [hz] at hx1 hdat hsm HF hpl
        have r0 := (HB.out.cell (p := ⟨b, _, none⟩) hb).trans hx0
        have r1 := (HB.out.cell (p := ⟨b, _, none⟩) hb).trans hx1
        have hbl := Nat.lt_of_lt_of_le hb HB.out.size
        have HF := Lib.hid HF
        have HPL := Lib.hid hpl
        have HPA := Lib.hid hpa
        have HDT := Lib.hid hdat
        have HX0 := Lib.hid hx0
        have HX1 := Lib.hid hx1
        have HZ := Lib.hid hz
        clear hx0 hx1 hmem hdat hpl hpa hpd hz hx
        go_wp2_with (first
          | (go_at_call 14; (with_reducible refine HF.out.mono ?_); rintro e w6 ⟨A6, c6, rfl, hs, hb6⟩; have HS6 := Lib.hid hs; have HB6 := Lib.hid (HB.out.trans (hb6.mono HB.out.size)); have HSN := Lib.hid (HS.out.keep hb6); have r2 := (HB6.out.cell (p := ⟨b, _, none⟩) hb).trans HX0.out; have r3 := (HB6.out.cell (p := ⟨b, _, none⟩) hb).trans HX1.out; have hbl6 := Nat.lt_of_lt_of_le hb HB6.out.size; clear hs hb6 HS HB HF)
          | fail)
        clear HFB HX0 HX1
        go_loopw [13] (fun t wr => ∃ y : Nat, y ≤ z ∧ t = .int .i64 y ∧ Hid (Below w6.heap.size w6 wr)) (fun t _ => z - (intOf t).toNat)
        case atStart => exact ⟨0, Nat.zero_le _, rfl, Lib.hid (Below.refl _ _)⟩
        case round =>
          obtain ⟨y, hy, rfl, HK⟩ := hrel
          have s2 := (HK.out.cell (p := ⟨b, _, none⟩) hbl6).trans r2
          have s3 := (HK.out.cell (p := ⟨b, _, none⟩) hbl6).trans r3
          have hblr := Nat.lt_of_lt_of_le hbl6 HK.out.size
          by_cases hyz : y < z
          · have d4 : decide ((y : Int) < z) = true := by simp; omega
            obtain ⟨u1, hu1⟩ := get_some' (l := pd) (k := y) (by rw [HPL.out]; exact hyz)
            obtain ⟨u2, hu2⟩ := get_some' (l := vd) (k := y) (by rw [HZ.out]; exact hyz)
            obtain ⟨p1, o1, rfl, hp1, c1⟩ := HS6.out.2 y hyz
            rw [List.getElem?_map, hu1] at c1
            obtain ⟨p2, o2, rfl, hp2, c2⟩ := HDT.out.2 y hyz
            rw [List.getElem?_map, hu2] at c2
            have c3 := (HK.out.cell (p := ⟨p2, _, none⟩) (Nat.lt_of_lt_of_le hp2 HB6.out.size)).trans ((HB6.out.cell (p := ⟨p2, _, none⟩) hp2).trans c2)
            have hp3 := Nat.lt_of_lt_of_le (Nat.lt_of_lt_of_le hp2 HB6.out.size) HK.out.size
            have hp4 := Nat.lt_of_lt_of_le hp1 HK.out.size
            have c1' : wr.cell? ⟨p1, o1 + y, none⟩ = some (.int .u8 (u1.toNat : Nat)) := (HK.out.cell (p := ⟨p1, _, none⟩) hp1).trans c1
            have c3' : wr.cell? ⟨p2, o2 + y, none⟩ = some (.int .u8 (u2.toNat : Nat)) := c3
            have hcs : u1 = u2 ∨ (((u1.toNat : Nat) : Int) != ((u2.toNat : Nat) : Int)) = true ∧ vt = headT ∧ 8 ≤ y ∧ y < 12 := by
              by_cases he : u1 = u2
              · exact .inl he
              · right
                refine ⟨?_, ?_⟩
                · simp only [bne_iff_ne, ne_eq]
                  intro e
                  exact he (UInt8.toNat_inj.1 (by omega))
                · apply Classical.byContradiction
                  intro hno
                  have := HPA.out y hno
                  rw [hu1, hu2] at this
                  injection this with this
                  exact he this
            have HKD := Lib.hid (HK.out.trans ((bel_drew (bel_refl (a := wr))).below.mono HK.out.size))
            clear c1 c2 c3 hu1 hu2 HS6 HPL HPA HDT HZ r0 r1 r2 r3
            rcases hcs with rfl | ⟨hne, rfl, h8, h12⟩
            · go_wp2_with fail
              go_region
              all_goals
                go_wp2_with fail
                go_roundw
                case rel => exact ⟨y + 1, by omega, by go_num, HKD⟩
                case measure => simp [intOf]; omega
            · rw [show strB headT = ⟨#[104, 101, 97, 100]⟩ from rfl] at s2
              have d5 : decide ((8 : Int) ≤ y) = true := by simp; omega
              have d6 : decide ((y : Int) < 12) = true := by simp; omega
              go_wp2_with fail
              go_region
              all_goals
                go_wp2_with fail
                go_roundw
                case rel => exact ⟨y + 1, by omega, by go_num, HKD⟩
                case measure => simp [intOf]; omega
          · obtain rfl : y = z := by omega
            have HSR := Lib.hid (HSN.out.keep HK.out)
            have HBR := Lib.hid (HB6.out.trans (HK.out.mono HB6.out.size))
            go_wp2_with fail
            go_roundw
            case rel => exact ⟨j + 1, by omega, by go_num, HSR, HBR⟩
            case measure => simp [intOf]; omega
      · obtain rfl : j = n := by omega
        go_wp2_with fail
        go_ret
        exact ⟨rfl, HB.out⟩
end Go.Proofs.Ytejombofjakllaa

namespace Go.Proofs.Ytejombofjakllaa
open Go.ChangeShapes Go.WideShapes Go.ChangeAt Go.RowKit

set_option maxRecDepth 100000 in
theorem sfntBack_lifted (os : Os) (started : os.Started) (H : Type) (enc : TypeId × Value → H) :
    ReturnsInHanded {} Try.checked os 4 .any (Rows.sfntBackSpec.pre6 enc Try.prog Try.f4 Rows.sfntBackRow.domain false) (Rows.sfntBackSpec.post enc Try.prog Try.f4 false true false false) := by
  refine returnsInHanded_of_change_sized (C := Try.checked) own_none started (by kernel_rfl) Try.func4
    (ChangeSpec.witness6 (enc := enc) (C := Try.checked) false ⟨#[], #[.int .i64 0, .slice none 0 0], []⟩ 8 (by kernel_rfl) (by kernel_rfl) (by kernel_rfl) (by kernel_rfl)) ?_
  intro W base args ds gs before hval0 hW _ hwt _
  have hval : ∀ (j : Nat) t v, Try.f4.params[j]? = some t → args[j]? = some v → Value.okWide Try.prog W .any base t v := hval0
  have hW' := hW
  obtain ⟨p, q, hA0, _, _, _, _⟩ := hW
  have hA : DataW.TrodAll enc Try.prog W 0 (fun _ => true) true Try.f4.params.toList args.toList ds p := hA0
  rw [Try.params4] at hA hval
  obtain ⟨v0, v1, d0, d1, p0, p1, rfl, rfl, rfl, h0, h1⟩ := trodAll_two hA
  obtain ⟨v, rfl, wv⟩ := open_num Try.underlying3 (hval 0 _ _ rfl rfl) h0
  have bv := bounds_i64 wv
  obtain ⟨A, n, c, rfl, k1, m1, r1, s1⟩ := open_sl (eb := 40) (ks := [.str, .sl 1 [.int .u8]]) Try.underlying22 (by kernel_rfl) (hval 1 _ _ rfl rfl) h1 (reach_all (ts := [3, 22]) (by kernel_rfl) hwt (j := 1) rfl rfl)
  clear hA0 hval0
  obtain ⟨es, hB⟩ := blobs_of s1
  refine (back_law v hB (by omega)).mono fun e W' ⟨he, hb⟩ => ?_
  subst he
  exact ⟨_, rfl, law_post_any laid_out Try.underlying4 hW' (by kernel_rfl) rfl rfl rfl hb⟩

theorem sfntBack_holds : Rows.SfntBackSaid :=
  OpenClaim.holds_of_wide 4 Try.f4 rfl rfl rfl rfl rfl rfl rfl ⟨rfl, rfl, rfl, rfl, rfl⟩ rfl rfl rfl rfl rfl (by kernel_rfl) Try.func4 (by kernel_rfl)
    (of_decide_eq_true (by kernel_rfl)) (by unfold Func.isWrapper; first | (rw [if_pos (by decide +kernel)]; kernel_rfl) | (rw [if_neg (by decide +kernel)]; exact ⟨rfl, rfl⟩))
    (fun os started H enc _ => sfntBack_lifted os started H enc)

end Go.Proofs.Ytejombofjakllaa
