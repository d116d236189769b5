/-
  Layer 15, the document: Put; DictPuts.
-/
import Derived.Test.YtoofjkhigonppaaDcX
namespace Go.Proofs.Ytoofjkhigonppaa
open Go.RowKit

theorem slat_u82 (w : World) (y z : Int) (b d : UInt8) (h : Value.int .u8 y = byteV b) (h2 : Value.int .u8 z = byteV d) : SlAt (w.alloc (.cells #[.int .u8 y, .int .u8 z] 5)) (some ⟨w.heap.size, 0, none⟩) 2 ([b, d].map byteV) := by
  rw [h, h2]
  exact slat_blk (Blk.newAt w _ [byteV b, byteV d] rfl) rfl
theorem by8_esc (op : Int) : Value.int .u8 ((op - 3072) % 256) = byteV (by8 op) := by
  rw [by8_V]
  congr 1
  omega
def PutsR (ls : List (Int × List Int)) (w : World) (e : Ending) (w' : World) : Prop := ∃ A c, e = .returned (.slice A (putS ls).length c) ∧ Bs w' A (putS ls) c ∧ Below w.heap.size w w'
theorem puts_is {ls : List (Int × List Int)} {w w' : World} {A : Option Addr} {n c : Nat} {bs : List UInt8} (h : OwB w.heap.size w w' A n c bs) (hb : bs = putS ls) (hn : n ≤ 1000000) : PutsR ls w (.returned (.slice A n c)) w' := by
  have hl := h.len
  subst hb hl
  exact ⟨_, _, rfl, h.toBs (by omega), h.bel⟩
set_option maxRecDepth 20000 in
set_option maxHeartbeats 8000000 in
theorem rPut_any {w : World} {A : Option Addr} {n c : Nat} {es : List En} (h : EnL w A n es) (hi : EnIn es) (hall : (es.map enV).all mayB = true) (hn : n ≤ 200) :
    Calls Try.prog 16 #[.slice A n c] w (PutsR (es.map enV) w) := by
  have hl : es.length = n := by have := h.rows.len; simpa using this
  subst hl
  have HALL := Lib.hid hall
  have H := Lib.hid h
  have HI := Lib.hid hi
  clear hall h hi
  go_enter Try.func16, Try.ntmps16
  go_wp2_with fail
  go_loopw [3, 4] (fun out i wr => ∃ (k : Nat) (A1 : Option Addr) (c1 : Nat) (bs : List UInt8), k ≤ es.length ∧ i = .int .i64 k ∧ out = .slice A1 bs.length c1 ∧ Hid (bs = putS ((es.map enV).take k)) ∧ bs.length ≤ k * 242 ∧ Hid (OwB w.heap.size w wr A1 bs.length c1 bs)) (fun _ i _ => es.length - (intOf i).toNat)
  case atStart => exact ⟨0, none, 0, [], Nat.zero_le _, rfl, rfl, Lib.hid rfl, by simp, Lib.hid (OwB.nil bel_refl)⟩
  case round =>
    obtain ⟨k, A1, c1, bs, hk, rfl, rfl, HE, hbl, HO⟩ := hrel
    by_cases hlt : k < es.length
    · obtain ⟨⟨op, vA, vc, xs⟩, hv⟩ := get_some' hlt
      have hv2 : (es.map enV)[k]? = some (op, xs) := by rw [List.getElem?_map, hv]; rfl
      obtain ⟨b, o, rfl, hb, hc1, hc2⟩ := H.out.at_ hv
      dsimp only at hc1 hc2
      have hmem := List.mem_of_getElem? hv
      have hmy := List.all_eq_true.1 HALL.out (op, xs) (List.mem_map.2 ⟨_, hmem, rfl⟩)
      unfold mayB at hmy
      simp only [Bool.and_eq_true, decide_eq_true_eq] at hmy
      obtain ⟨⟨m1, m2⟩, m3⟩ := hmy
      try dsimp only at m1 m2 m3
      have hargs := H.out.args _ hmem
      have hin := (HI.out _ hmem).1
      dsimp only at hargs hin
      obtain ⟨hin1, hin2⟩ := hin
      have HARGS := Lib.hid hargs
      have HV2 := Lib.hid hv2
      have HW := Lib.hid (List.all_eq_true.1 m3)
      have HC1 := Lib.hid hc1
      have HC2 := Lib.hid hc2
      clear hv hv2 hmem hargs m1 m3 hc1 hc2
      go_wp2_with fail
      go_loopw [3, 5] (fun out i wq => ∃ (j : Nat) (A2 : Option Addr) (c2 : Nat) (cs : List UInt8), j ≤ xs.length ∧ i = .int .i64 j ∧ out = .slice A2 cs.length c2 ∧ Hid (cs = bs ++ (xs.take j).flatMap num5) ∧ cs.length ≤ bs.length + j * 5 ∧ Hid (OwB w.heap.size w wq A2 cs.length c2 cs)) (fun _ i _ => xs.length - (intOf i).toNat)
      case atStart => exact ⟨0, A1, c1, bs, Nat.zero_le _, rfl, rfl, Lib.hid (by simp), by simp, HO⟩
      case round =>
        obtain ⟨j, A2, c2, cs, hj, rfl, rfl, HCS, hcl, HP⟩ := hrel
        have q0 : wr.cell? ⟨b, o + k * 2, none⟩ = some (.int .i64 op) := (HP.out.bel.cell (p := ⟨b, _, none⟩) hb).trans HC1.out
        have q1 : wr.cell? ⟨b, o + k * 2 + 1, none⟩ = some (.slice vA xs.length vc) := (HP.out.bel.cell (p := ⟨b, _, none⟩) hb).trans HC2.out
        have hsz := HP.out.bel.size
        by_cases hlt2 : j < xs.length
        · obtain ⟨x, hx⟩ := get_some' hlt2
          obtain ⟨b2, o2, rfl, hb2, hc⟩ := HARGS.out.2 j hlt2
          rw [List.getElem?_map, hx] at hc
          simp only [Option.map_some] at hc
          have q2 : wr.cell? ⟨b2, o2 + j, none⟩ = some (.int .i64 x) := (HP.out.bel.cell (p := ⟨b2, _, none⟩) hb2).trans hc
          have hwx := HW.out x (List.mem_of_getElem? hx)
          unfold wholeB at hwx
          simp only [decide_eq_true_eq] at hwx
          have htd := tdm x
          obtain ⟨q, hq⟩ : ∃ q, x.tdiv 65536 = q := ⟨_, rfl⟩
          have hqx : x / 65536 = q := by omega
          have hqb : -2147483648 ≤ q ∧ q < 2147483648 := by omega
          obtain ⟨hq0, hq1⟩ := hqb
          have hfs := flat_snoc (f := num5) hx
          rw [show num5 x = numS q by unfold num5; rw [hqx]] at hfs
          have HFS := Lib.hid hfs
          have HKN := Lib.hid (fun w => dnumR_any q hq0 hq1 w)
          have hnl := numS_len q
          generalize numS q = N at *
          clear hfs htd hqx hwx hx hc
          go_wp2_with (first
            | (go_at_call 34; (with_reducible refine (HKN.out _).mono ?_); rintro e w5 ⟨A5, c5, rfl, hs5, hb5⟩; have HP5 := Lib.hid (HP.out.keep hb5); have HS5 := Lib.hid hs5; clear hs5 hb5)
            | (at_builtin; refine wpList_append_ow (by rfl) (.tmp 22) (.tmp 32) (by rfl) (by rfl) HP5.out A5 N.length c5 (by rfl) N HS5.out (by omega) ?_; intro A6 c6 w6 hp6; have HP6 := Lib.hid hp6; clear hp6)
            | fail)
          have HP7 : Hid (OwB w.heap.size w w6 A6 (cs ++ N).length c6 (cs ++ N)) := by rw [List.length_append]; exact HP6
          go_roundw
          case rel => exact ⟨j + 1, A6, c6, cs ++ N, by omega, by go_num, by rw [List.length_append], Lib.hid (by rw [HFS.out, HCS.out, List.append_assoc]), by rw [List.length_append]; omega, HP7⟩
          case measure => simp [intOf]; omega
        · obtain rfl : j = xs.length := by omega
          have hcs := HCS.out
          rw [List.take_length] at hcs
          have hfs := flat_snoc (f := entS) HV2.out
          have HCC2 := Lib.hid hcs
          have HFS := Lib.hid hfs
          clear hcs hfs
          by_cases hop : 3072 ≤ op
          · have HPA := Lib.hid (HP.out.alloc (.cells #[.int .u8 12, .int .u8 ((op - 3072) % 256)] 5))
            have HSA := Lib.hid (slat_u82 wr 12 ((op - 3072) % 256) 12 (by8 op) rfl (by8_esc op))
            go_wp2_with (first
              | (at_builtin; refine wpList_append_ow (by rfl) (.tmp 40) (.tmp 48) (by rfl) (by rfl) HPA.out _ 2 _ (by rfl) [12, by8 op] HSA.out (by omega) ?_; intro A6 c6 w6 hp6; have HP6 := Lib.hid hp6; clear hp6)
              | fail)
            have hln : (cs ++ [12, by8 op]).length = cs.length + 2 := by simp
            have HO7 : Hid (OwB w.heap.size w w6 A6 (cs ++ [12, by8 op]).length c6 (cs ++ [12, by8 op])) := by rw [hln]; exact HP6
            go_roundw
            case rel => exact ⟨k + 1, A6, c6, cs ++ [12, by8 op], by omega, by go_num, by rw [hln], Lib.hid (by unfold putS; rw [HFS.out, HCC2.out, HE.out]; unfold putS; rw [entS_hi hop]; simp only [List.append_assoc]; rfl), by rw [hln]; omega, HO7⟩
            case measure => simp [intOf]; omega
          · have HPB := Lib.hid (HP.out.alloc (.cells #[.int .u8 (op % 256)] 5))
            have HSB := Lib.hid (slat_u8 wr (op % 256) (by8 op) (by8_V op).symm)
            go_wp2_with (first
              | (at_builtin; refine wpList_append_ow (by rfl) (.tmp 50) (.tmp 57) (by rfl) (by rfl) HPB.out _ 1 _ (by rfl) [by8 op] HSB.out (by omega) ?_; intro A7 c7 w7 hp7; have HP7 := Lib.hid hp7; clear hp7)
              | fail)
            have hln : (cs ++ [by8 op]).length = cs.length + 1 := by simp
            have HO7 : Hid (OwB w.heap.size w w7 A7 (cs ++ [by8 op]).length c7 (cs ++ [by8 op])) := by rw [hln]; exact HP7
            go_roundw
            case rel => exact ⟨k + 1, A7, c7, cs ++ [by8 op], by omega, by go_num, by rw [hln], Lib.hid (by unfold putS; rw [HFS.out, HCC2.out, HE.out]; unfold putS; rw [entS_lo hop]; simp only [List.append_assoc]), by rw [hln]; omega, HO7⟩
            case measure => simp [intOf]; omega
    · obtain rfl : k = es.length := by omega
      go_wp2_with fail
      go_ret
      refine puts_is HO.out ?_ (by omega)
      rw [HE.out, List.take_of_length_le (by simp)]
set_option maxRecDepth 20000 in
set_option maxHeartbeats 8000000 in
theorem dictPuts_any {w : World} {A : Option Addr} {n c : Nat} {es : List En} (h : EnL w A n es) (hi : EnIn es) (hn : n ≤ 4398046511104) :
    Calls Try.prog 4 #[.slice A n c] w fun e w' => e = .returned (.bool true) ∧ Below w.heap.size w w' := by
  have hl : es.length = n := by have := h.rows.len; simpa using this
  have H := Lib.hid h
  have HI := Lib.hid hi
  have HN := Lib.hid hn
  have HLA := Lib.hid (large_any (c := c) h hn)
  clear h hi
  have hbig : (Calls Try.prog 13 #[.slice A n c] w fun e w' => (e = .returned (.bool true) ∨ (e = .returned (.bool false) ∧ es.length ≤ 200)) ∧ w = w') := HLA.out.mono fun e w' ⟨⟨b, h1, h2⟩, h3⟩ => ⟨by cases b; exact .inr ⟨h1, h2 rfl⟩; exact .inl h1, h3⟩
  have HBIG := Lib.hid hbig
  clear hbig HLA
  by_cases h200 : es.length ≤ 200
  · have hn2 : n ≤ 200 := by omega
    have HP := fun c => Lib.hid (put_any (c := c) H.out HI.out hn2)
    cases hall : (es.map enV).all mayB
    case false =>
      have KP : ∀ c, Calls Try.prog 14 #[.slice A n c] w fun e w' => e = .returned (.tuple #[.slice none 0 0, .int .i64 1]) ∧ Below w.heap.size w w' := fun c => (HP c).out.mono fun e w' h => by unfold PutR at h; rw [hall] at h; exact h
      have KM := fun w' (hb : Below w.heap.size w w') => rMay_any (c := c) (H.out.keep hb) HI.out HN.out
      unfold MayR at KM
      rw [hall] at KM
      have HKP := Lib.hid KP
      have HKM := Lib.hid KM
      clear KP KM HP hall h200 hn2 hl
      go_enter Try.func4, Try.ntmps4
      go_wp2_with (first
        | (go_at_call 13; (with_reducible refine HBIG.out.mono ?_); rintro e w1 ⟨rfl | ⟨rfl, hsm⟩, rfl⟩)
        | (go_at_call 14; (with_reducible refine (HKP.out _).mono ?_); rintro e w2 ⟨rfl, hb2⟩; have HB2 := Lib.hid hb2; clear hb2)
        | (go_at_call 8; (with_reducible refine (lives15_any _).mono ?_); rintro e w3 ⟨rfl, hb3⟩; have HB3 := Lib.hid hb3; clear hb3)
        | (go_at_call 15; (with_reducible refine (HKM.out _ (HB2.out.trans (HB3.out.mono HB2.out.size))).mono ?_); rintro e w4 ⟨rfl, rfl⟩)
        | fail)
      · go_ret
        exact ⟨rfl, HB3.out⟩
      · go_ret
        exact ⟨rfl, HB2.out.trans (HB3.out.mono HB2.out.size)⟩
    case true =>
      have KP : ∀ c, Calls Try.prog 14 #[.slice A n c] w fun e w' => (∃ A c, e = .returned (.tuple #[.slice A (putS (es.map enV)).length c, .int .i64 0]) ∧ Bs w' A (putS (es.map enV)) c) ∧ Below w.heap.size w w' := fun c => (HP c).out.mono fun e w' h => by unfold PutR at h; rw [if_pos hall] at h; exact h
      have KM := fun w' (hb : Below w.heap.size w w') => rMay_any (c := c) (H.out.keep hb) HI.out HN.out
      unfold MayR at KM
      rw [hall] at KM
      have KR := fun w' (hb : Below w.heap.size w w') => rPut_any (c := c) (H.out.keep hb) HI.out hall hn2
      unfold PutsR at KR
      generalize putS (es.map enV) = bs at *
      have HKP := Lib.hid KP
      have HKM := Lib.hid KM
      have HKR := Lib.hid KR
      clear KP KM KR HP hall h200 hn2 hl
      go_enter Try.func4, Try.ntmps4
      go_wp2_with (first
        | (go_at_call 13; (with_reducible refine HBIG.out.mono ?_); rintro e w1 ⟨rfl | ⟨rfl, hsm⟩, rfl⟩)
        | (go_at_call 14; (with_reducible refine (HKP.out _).mono ?_); rintro e w2 ⟨⟨A2, c2, rfl, hs2⟩, hb2⟩; have HB2 := Lib.hid hb2; have HS2 := Lib.hid hs2; clear hb2 hs2)
        | (go_at_call 8; (with_reducible refine (lives15_any _).mono ?_); rintro e w3 ⟨rfl, hb3⟩; have HB3 := Lib.hid hb3; clear hb3)
        | (go_at_call 15; (with_reducible refine (HKM.out _ (HB2.out.trans (HB3.out.mono HB2.out.size))).mono ?_); rintro e w4 ⟨rfl, rfl⟩)
        | fail)
      · go_ret
        exact ⟨rfl, HB3.out⟩
      · have HB := Lib.hid (HB2.out.trans (HB3.out.mono HB2.out.size))
        have hcx := (HS2.out.keep HB3.out).sl.aft
        have HKR2 := Lib.hid (HKR.out w3.drew (HB.out.trans (aft_drew.mono HB.out.size)))
        have hbz := HB.out.size
        go_region_held (fun u => Aft w3 u) (first | (with_reducible exact aft_drew) | (with_reducible exact HA.out)) (first | (go_at_call 16; (with_reducible refine HKR2.out.mono ?_); rintro e w7 ⟨A7, c7, rfl, hs7, hb7⟩; have HA := Lib.hid (aft_drew.call hb7); have hq7 := hs7.sl.aft _ (aft_refl (W := w7)); clear hs7 hb7))
        go_wp2
        go_ret
        exact ⟨rfl, HB.out.trans ((by assumption : Aft w3 _).mono hbz)⟩
  · have HB2 := Lib.hid h200
    have hb2 : Calls Try.prog 13 #[.slice A n c] w fun e w' => e = .returned (.bool true) ∧ w = w' := HBIG.out.mono fun e w' ⟨h1, h2⟩ => ⟨by rcases h1 with h1 | ⟨h1, h3⟩; exact h1; exact absurd h3 h200, h2⟩
    have HB3 := Lib.hid hb2
    clear hb2 HBIG h200
    go_enter Try.func4, Try.ntmps4
    go_wp2_with (first
      | (go_at_call 13; (with_reducible refine (HB3.out).mono ?_); rintro e w1 ⟨rfl, rfl⟩)
      | (go_at_call 8; (with_reducible refine (lives15_any _).mono ?_); rintro e w3 ⟨rfl, hb3⟩)
      | fail)
    go_ret
    exact ⟨rfl, hb3⟩
end Go.Proofs.Ytoofjkhigonppaa
