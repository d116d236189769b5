/-
  For every list of entries and any two numbers DictBack answers true and leaves its arguments as they were. No conditions.
  Layer 15: entries that came in.
  Layer 15: DictBack.
  Layer 15, plainly: what was put is parsed again.
  math/bits.Div64.
  The quotient of a number of two words: plainly.
  Layer 15: gets: an operator's operands and its number are as they should be.
  Layer 15, the document: the same operands, the same entries, an operator's operands.
  Layer 15, the document: May, Put; large.
  Layer 15, the document: what may be put, a whole number.
-/
import Derived.Test.YtoofjkhigonppaaDcS
import Derived.Test.YtoofjkhigonppaaWireF
import Derived.Test.YtoofjkhigonppaaDcQ
import Derived.Test.YtoofjkhigonppaaLen
import Derived.Test.YtoofjkhigonppaaDcU
import Derived.Test.YtoofjkhigonppaaDcM
import Derived.Test.YtoofjkhigonppaaFlat
import Derived.Test.YtoofjkhigonppaaOpn
import Derived.Test.YtoofjkhigonppaaFrame
namespace Go.Proofs.Ytoofjkhigonppaa
open Go.RowKit

theorem rWhole_any (x : Int) (h0 : -9223372036854775808 ≤ x) (h1 : x ≤ 9223372036854775807) (w : World) : Calls Try.prog 33 #[.int .i64 x] w fun e w' => e = .returned (.bool (wholeB x)) ∧ w = w' := by
  have htd := tdm x
  have key : ((x.tmod 65536 == 0) = false ∧ wholeB x = false) ∨ ((x.tmod 65536 == 0) = true ∧ x.tdiv 65536 < -2147483648 ∧ wholeB x = false) ∨ ((x.tmod 65536 == 0) = true ∧ (-2147483648 ≤ x.tdiv 65536 ∧ x.tdiv 65536 < 2147483648) ∧ wholeB x = true) ∨ ((x.tmod 65536 == 0) = true ∧ ¬ x.tdiv 65536 < 2147483648 ∧ wholeB x = false) := by
    unfold wholeB
    simp only [beq_eq_false_iff_ne, beq_iff_eq, decide_eq_false_iff_not, decide_eq_true_eq, ne_eq]
    omega
  obtain ⟨q, hq⟩ : ∃ q, x.tdiv 65536 = q := ⟨_, rfl⟩
  obtain ⟨m, hm⟩ : ∃ m, x.tmod 65536 = m := ⟨_, rfl⟩
  have hqb : -140737488355328 ≤ q ∧ q ≤ 140737488355328 := by omega
  rw [hq, hm] at key
  have hw : wrap64 q = q := IntWalk.wrap64_in _ ⟨by omega, by omega⟩
  clear htd
  rcases key with ⟨h1, hv⟩ | ⟨h1, h2, hv⟩ | ⟨h1, ⟨h2, h3⟩, hv⟩ | ⟨h1, h2, hv⟩
  all_goals
    have HV := Lib.hid hv
    clear hv
    go_enter Try.func33, Try.ntmps33
    go_wp2_with fail
    go_ret
    exact ⟨by rw [HV.out]; rfl, rfl⟩
theorem beB2 (x : Int) : beB 2 x = [by8 (x / 256), by8 x] := by
  unfold beB byteAt by8
  simp [List.range_succ]
theorem beB4 (x : Int) : beB 4 x = [by8 (x / 16777216), by8 (x / 65536), by8 (x / 256), by8 x] := by
  unfold beB byteAt by8
  simp [List.range_succ]
theorem dby2 (w : World) (x : Int) : Calls Try.prog 50 #[.int .i64 2, .int .i64 x] w fun e w' => ∃ A', e = .returned (.slice A' 2 2) ∧ SlAt w' A' 2 ((beB 2 x).map byteV) ∧ Below w.heap.size w w' := bytes_W w 2 x (by omega) (by omega)
theorem dby4 (w : World) (x : Int) : Calls Try.prog 50 #[.int .i64 4, .int .i64 x] w fun e w' => ∃ A', e = .returned (.slice A' 4 4) ∧ SlAt w' A' 4 ((beB 4 x).map byteV) ∧ Below w.heap.size w w' := bytes_W w 4 x (by omega) (by omega)
theorem bs_ow {bs : List UInt8} {w w' : World} {A : Option Addr} {n c : Nat} {cs : List UInt8} (h : OwB w.heap.size w w' A n c cs) (hb : cs = bs) (hn : n ≤ 100) : BsR bs w (.returned (.slice A n c)) w' := by
  have hl := h.len
  subst hb hl
  exact ⟨_, _, rfl, (h.toBs (by omega)).sl, h.bel⟩
set_option maxRecDepth 20000 in
set_option maxHeartbeats 4000000 in
theorem dnumR_any (x : Int) (h0 : -2147483648 ≤ x) (h1 : x < 2147483648) (w : World) : Calls Try.prog 34 #[.int .i64 x] w (BsR (numS x) w) := by
  by_cases c1 : -107 ≤ x ∧ x ≤ 107
  · have hv : numS x = [by8 (x + 139)] := by unfold numS; rw [if_pos c1]
    obtain ⟨a1, a2⟩ := c1
    have HV := Lib.hid hv
    clear hv
    go_enter Try.func34, Try.ntmps34
    go_wp2_with fail
    go_ret
    rw [HV.out]
    exact bs_new (by simp [by8_V]; omega) rfl
  by_cases c2 : -1131 ≤ x ∧ x < 0
  · have hv : numS x = [by8 ((-x - 108) / 256 + 251), by8 (-x - 108)] := by unfold numS; rw [if_neg c1, if_pos c2]
    obtain ⟨a1, a2⟩ := c2
    have a3 : ¬ (-107 ≤ x) := by omega
    have a4 : ¬ (108 ≤ x) := by omega
    have a5 : x ≤ -108 := by omega
    have t1 : (-x - 108).tdiv 256 = (-x - 108) / 256 := Int.tdiv_eq_ediv_of_nonneg (by omega)
    have t2 : (-x - 108).tmod 256 = (-x - 108) % 256 := Int.tmod_eq_emod_of_nonneg (by omega)
    have HV := Lib.hid hv
    clear hv c1
    go_enter Try.func34, Try.ntmps34
    go_wp2_with fail
    go_ret
    rw [HV.out]
    refine bs_new ?_ rfl
    simp [by8_V]
    try omega
  by_cases c3 : 0 < x ∧ x ≤ 1131
  · have hv : numS x = [by8 ((x - 108) / 256 + 247), by8 (x - 108)] := by unfold numS; rw [if_neg c1, if_neg c2, if_pos c3]
    obtain ⟨a1, a2⟩ := c3
    have a3 : ¬ (x ≤ 107) := by omega
    have a4 : -107 ≤ x := by omega
    have a5 : 108 ≤ x := by omega
    have t1 : (x - 108).tdiv 256 = (x - 108) / 256 := Int.tdiv_eq_ediv_of_nonneg (by omega)
    have t2 : (x - 108).tmod 256 = (x - 108) % 256 := Int.tmod_eq_emod_of_nonneg (by omega)
    have HV := Lib.hid hv
    clear hv c1 c2
    go_enter Try.func34, Try.ntmps34
    go_wp2_with fail
    go_ret
    rw [HV.out]
    refine bs_new ?_ rfl
    simp [by8_V]
    try omega
  have hn : x < -1131 ∨ 1131 < x := by omega
  have ho : ∀ b y, (Value.int .u8 y = byteV b) → OwB w.heap.size w (w.alloc (.cells #[.int .u8 y] 5)) (some ⟨w.heap.size, 0, none⟩) 1 1 [b] := fun b y hy => by
    rw [hy]
    exact OwB.of_blk (Blk.newAt w _ [byteV b] rfl) rfl (Nat.le_refl _) (bel_alloc bel_refl).below (by omega)
  by_cases c4 : -32768 ≤ x ∧ x < 32768
  · have hv : [28] ++ beB 2 x = numS x := by unfold numS; rw [if_neg c1, if_neg c2, if_neg c3, if_pos c4, beB2]; rfl
    have HO := Lib.hid (ho 28 28 rfl)
    obtain ⟨a1, a2⟩ := c4
    have HV := Lib.hid hv
    clear hv c1 c2 c3 ho
    rcases hn with d1 | d1
    all_goals
      go_enter Try.func34, Try.ntmps34
      go_wp2_with (first
        | (go_at_call 50; (with_reducible refine (dby2 _ x).mono ?_); rintro e w5 ⟨A5, rfl, hs5, hb5⟩; have HP5 := Lib.hid (HO.out.keep hb5); have HS5 := Lib.hid hs5; clear hs5 hb5)
        | (at_builtin; refine wpList_append_ow (by rfl) (.tmp 57) (.tmp 59) (by rfl) (by rfl) HP5.out A5 2 _ (by rfl) (beB 2 x) HS5.out (by omega) ?_; intro A6 c6 w6 hp6; have HP6 := Lib.hid hp6; clear hp6)
        | fail)
      go_ret
      exact bs_ow HP6.out HV.out (by omega)
  · have hv : [29] ++ beB 4 x = numS x := by unfold numS; rw [if_neg c1, if_neg c2, if_neg c3, if_neg c4, beB4]; rfl
    have HO := Lib.hid (ho 29 29 rfl)
    have HV := Lib.hid hv
    clear hv c1 c2 c3 ho
    have hn2 : x < -32768 ∨ (1131 < x ∧ 32768 ≤ x) := by omega
    clear hn
    rcases hn2 with d1 | ⟨d1, d2⟩
    all_goals
      go_enter Try.func34, Try.ntmps34
      go_wp2_with (first
        | (go_at_call 50; (with_reducible refine (dby4 _ x).mono ?_); rintro e w5 ⟨A5, rfl, hs5, hb5⟩; have HP5 := Lib.hid (HO.out.keep hb5); have HS5 := Lib.hid hs5; clear hs5 hb5)
        | (at_builtin; refine wpList_append_ow (by rfl) (.tmp 61) (.tmp 63) (by rfl) (by rfl) HP5.out A5 4 _ (by rfl) (beB 4 x) HS5.out (by omega) ?_; intro A6 c6 w6 hp6; have HP6 := Lib.hid hp6; clear hp6)
        | fail)
      go_ret
      exact bs_ow HP6.out HV.out (by omega)
end Go.Proofs.Ytoofjkhigonppaa

namespace Go.Proofs.Ytoofjkhigonppaa
open Go.RowKit

def LargeR (es : List En) (e : Ending) : Prop := ∃ b, e = .returned (.bool b) ∧ (b = false → es.length ≤ 200)
set_option maxRecDepth 20000 in
set_option maxHeartbeats 4000000 in
theorem large_any {w : World} {A : Option Addr} {n c : Nat} {es : List En} (h : EnL w A n es) (hn : n ≤ 4398046511104) :
    Calls Try.prog 13 #[.slice A n c] w fun e w' => LargeR es e ∧ w = w' := by
  have hl : es.length = n := by have := h.rows.len; simpa using this
  subst hl
  have H := Lib.hid h
  clear h
  go_enter Try.func13, Try.ntmps13
  go_wp2_with fail
  go_loop [3, 4] (fun s i => ∃ (k : Nat) (z : Int), k ≤ es.length ∧ k ≤ 300 ∧ i = .int .i64 k ∧ s = .int .i64 z ∧ 0 ≤ z ∧ z ≤ k * 17592186044416) (fun _ i => 300 - (intOf i).toNat)
  case atStart => exact ⟨0, 0, Nat.zero_le _, by omega, rfl, rfl, by omega, by omega⟩
  case round =>
    obtain ⟨k, z, hk, hk3, rfl, rfl, hz0, hz1⟩ := hrel
    by_cases hlt : k < es.length
    · by_cases h3 : k < 300
      · obtain ⟨⟨op, vA, vc, xs⟩, hv⟩ := get_some' hlt
        obtain ⟨b, o, rfl, hb, hc1, hc2⟩ := H.out.at_ hv
        dsimp only at hc1 hc2
        have hs := H.out.short _ (List.mem_of_getElem? hv)
        dsimp only at hs
        clear hv
        go_wp2_with fail
        go_round
        case rel => exact ⟨k + 1, z + xs.length, by omega, by omega, by go_num, rfl, by omega, by omega⟩
        case measure => simp [intOf]; omega
      · obtain rfl : k = 300 := by omega
        have h2 : (200 : Int) < es.length := by omega
        go_wp2_with fail
        go_ret
        exact ⟨⟨true, rfl, fun h => by cases h⟩, rfl⟩
    · have hge : es.length = k := by omega
      clear hlt
      by_cases h2 : 200 < es.length
      · have h2' : (200 : Int) < es.length := by omega
        go_wp2_with fail
        go_ret
        exact ⟨⟨true, rfl, fun h => by cases h⟩, rfl⟩
      · have hle : es.length ≤ 200 := by omega
        have h2' : ¬ (200 : Int) < es.length := by omega
        have h2'' : ¬ (200 : Int) < k := by omega
        have HLE := Lib.hid hle
        clear hle h2
        by_cases h4 : 3000 < z
        · go_wp2_with fail
          go_ret
          exact ⟨⟨true, rfl, fun h => by cases h⟩, rfl⟩
        · go_wp2_with fail
          go_ret
          exact ⟨⟨false, rfl, fun _ => HLE.out⟩, rfl⟩
def MayR (es : List En) (w : World) (e : Ending) (w' : World) : Prop := e = .returned (.bool ((es.map enV).all mayB)) ∧ w = w'
theorem may_is {es : List En} {w : World} {b : Bool} (h : (es.map enV).all mayB = b) : MayR es w (.returned (.bool b)) w := ⟨by rw [h], rfl⟩
theorem isOp_cases (op : Int) : ((op < 0 ∨ op = 12 ∨ (21 < op ∧ op < 3072) ∨ 3327 < op) ∧ isOpB op = false) ∨ (((0 ≤ op ∧ op ≤ 21 ∧ (op != 12) = true) ∨ (3072 ≤ op ∧ op ≤ 3327)) ∧ isOpB op = true) := by
  unfold isOpB
  simp only [bne_iff_ne, decide_eq_false_iff_not, decide_eq_true_eq]
  omega
set_option maxRecDepth 20000 in
set_option maxHeartbeats 8000000 in
theorem rMay_any {w : World} {A : Option Addr} {n c : Nat} {es : List En} (h : EnL w A n es) (hi : EnIn es) (hn : n ≤ 4398046511104) :
    Calls Try.prog 15 #[.slice A n c] w (MayR es w) := by
  have hl : es.length = n := by have := h.rows.len; simpa using this
  subst hl
  have H := Lib.hid h
  have HI := Lib.hid hi
  clear h hi
  go_enter Try.func15, Try.ntmps15
  go_wp2_with fail
  go_loop [3] (fun i => ∃ k : Nat, k ≤ es.length ∧ i = .int .i64 k ∧ Hid (((es.map enV).take k).all mayB = true)) (fun i => es.length - (intOf i).toNat)
  case atStart => exact ⟨0, Nat.zero_le _, rfl, Lib.hid rfl⟩
  case round =>
    obtain ⟨k, hk, rfl, HT⟩ := hrel
    by_cases hlt : k < es.length
    · obtain ⟨⟨op, vA, vc, xs⟩, hv⟩ := get_some' hlt
      have hv2 : (es.map enV)[k]? = some (op, xs) := by rw [List.getElem?_map, hv]; rfl
      obtain ⟨b, o, rfl, hb, hc1, hc2⟩ := H.out.at_ hv
      dsimp only at hc1 hc2
      have hmem := List.mem_of_getElem? hv
      have hs := H.out.short _ hmem
      have hargs := H.out.args _ hmem
      obtain ⟨⟨o0, o1⟩, hin⟩ := HI.out _ hmem
      dsimp only at hs hargs o0 o1 hin
      have HA := Lib.hid hargs
      have HN := Lib.hid hin
      have hno : mayB (op, xs) = false → (es.map enV).all mayB = false := fun h => all_not hv2 h
      have hnx : mayB (op, xs) = true → ((es.map enV).take (k + 1)).all mayB = true := fun h => all_take hv2 HT.out h
      have hm : mayB (op, xs) = (isOpB op && decide (xs.length ≤ 48) && xs.all wholeB) := rfl
      rw [hm] at hno hnx
      have HNO := Lib.hid hno
      have HNX := Lib.hid hnx
      clear hno hnx hm hv hv2 hmem hargs hin
      rcases isOp_cases op with ⟨hop, hf⟩ | ⟨hop, hf⟩
      · have hfin := HNO.out (by rw [hf]; rfl)
        have HF := Lib.hid hfin
        clear hfin hf
        rcases hop with hop | rfl | ⟨hop1, hop2⟩ | hop
        all_goals
          go_wp2_with fail
          go_ret
          exact may_is HF.out
      · have HFO := Lib.hid hf
        clear hf
        by_cases h48 : xs.length ≤ 48
        · have h48' : ¬ (48 : Int) < xs.length := by omega
          rcases hop with ⟨hop1, hop2, hop3⟩ | ⟨hop1, hop2⟩
          all_goals
            go_wp2_with fail
            go_loop [5] (fun j => ∃ m : Nat, m ≤ xs.length ∧ j = .int .i64 m ∧ Hid ((xs.take m).all wholeB = true)) (fun j => xs.length - (intOf j).toNat)
            case atStart => exact ⟨0, Nat.zero_le _, rfl, Lib.hid rfl⟩
            case round =>
              obtain ⟨m, hm, rfl, HM⟩ := hrel
              by_cases hlt2 : m < xs.length
              · obtain ⟨x, hx⟩ := get_some' hlt2
                obtain ⟨b2, o2, rfl, hb2, hc⟩ := HA.out.2 m hlt2
                rw [List.getElem?_map, hx] at hc
                simp only [Option.map_some] at hc
                obtain ⟨x0, x1⟩ := HN.out x (List.mem_of_getElem? hx)
                have KW := fun w => rWhole_any x x0 x1 w
                have hnx := fun h => all_take (p := wholeB) hx HM.out h
                have hno := fun h => all_not (p := wholeB) hx h
                have HNX2 := Lib.hid hnx
                have HNO2 := Lib.hid hno
                obtain ⟨wx, hwx⟩ : ∃ wx, wholeB x = wx := ⟨_, rfl⟩
                rw [hwx] at KW
                have HW := Lib.hid hwx
                have HKW := Lib.hid KW
                clear KW hnx hno hwx hx
                cases wx
                · have hfin := HNO.out (by rw [HNO2.out HW.out, Bool.and_false])
                  have HF := Lib.hid hfin
                  clear hfin
                  go_wp2_with (first | (go_at_call 33; (with_reducible refine (HKW.out _).mono ?_); rintro e w1 ⟨rfl, rfl⟩) | fail)
                  go_ret
                  exact may_is HF.out
                · go_wp2_with (first | (go_at_call 33; (with_reducible refine (HKW.out _).mono ?_); rintro e w1 ⟨rfl, rfl⟩) | fail)
                  go_round
                  case rel => exact ⟨m + 1, by omega, by go_num, Lib.hid (HNX2.out HW.out)⟩
                  case measure => simp [intOf]; omega
              · obtain rfl : m = xs.length := by omega
                have ht := HM.out
                rw [List.take_length] at ht
                have hfin := HNX.out (by rw [HFO.out, ht, decide_eq_true h48]; rfl)
                have HF := Lib.hid hfin
                clear hfin ht
                go_wp2_with fail
                go_round
                case rel => exact ⟨k + 1, by omega, by go_num, HF⟩
                case measure => simp [intOf]; omega
        · have h48' : (48 : Int) < xs.length := by omega
          have hfin := HNO.out (by rw [decide_eq_false h48, Bool.and_false]; rfl)
          have HF := Lib.hid hfin
          clear hfin
          rcases hop with ⟨hop1, hop2, hop3⟩ | ⟨hop1, hop2⟩
          all_goals
            go_wp2_with fail
            go_ret
            exact may_is HF.out
    · obtain rfl : k = es.length := by omega
      have ht := HT.out
      rw [List.take_of_length_le (by simp)] at ht
      have HF := Lib.hid ht
      clear ht
      go_wp2_with fail
      go_ret
      exact may_is HF.out
end Go.Proofs.Ytoofjkhigonppaa

namespace Go.Proofs.Ytoofjkhigonppaa
open Go.RowKit

set_option maxRecDepth 20000 in
set_option maxHeartbeats 4000000 in
theorem sameInts_any {w : World} {A B : Option Addr} {n c d : Nat} {xs : List Int} (hn : xs.length = n) (hA : SlAt w A n (xs.map (Value.int .i64))) (hB : SlAt w B n (xs.map (Value.int .i64))) (hs : n ≤ 17592186044416) :
    Calls Try.prog 27 #[.slice A n c, .slice B n d] w fun e w' => e = .returned (.bool true) ∧ Below w.heap.size w w' := by
  subst hn
  have HA := Lib.hid hA
  have HB := Lib.hid hB
  clear hA hB
  go_enter Try.func27, Try.ntmps27
  go_wp2_with fail
  go_loopw [5] (fun i wr => ∃ k : Nat, k ≤ xs.length ∧ i = .int .i64 k ∧ Hid (Below w.heap.size w wr)) (fun i _ => xs.length - (intOf i).toNat)
  case atStart => exact ⟨0, Nat.zero_le _, rfl, Lib.hid (Below.refl _ _)⟩
  case round =>
    obtain ⟨k, hk, rfl, HW⟩ := hrel
    by_cases hlt : k < xs.length
    · obtain ⟨x, hx⟩ := get_some' hlt
      obtain ⟨b, o, rfl, hb, hc⟩ := HA.out.2 k hlt
      obtain ⟨b2, o2, rfl, hb2, hc2⟩ := HB.out.2 k hlt
      rw [List.getElem?_map, hx] at hc hc2
      simp only [Option.map_some] at hc hc2
      have q0 : wr.cell? ⟨b, o + k, none⟩ = some (.int .i64 x) := (HW.out.cell (p := ⟨b, _, none⟩) hb).trans hc
      have q1 : wr.cell? ⟨b2, o2 + k, none⟩ = some (.int .i64 x) := (HW.out.cell (p := ⟨b2, _, none⟩) hb2).trans hc2
      have hsz := HW.out.size
      clear hc hc2 hx
      go_wp2_with fail
      go_quiet (fail)
      go_wp2
      go_roundw
      case rel => exact ⟨k + 1, by omega, by go_num, Lib.hid (HW.out.trans ((bel_drewN (bel_refl (a := wr))).below.mono hsz))⟩
      case measure => simp [intOf]; omega
    · obtain rfl : k = xs.length := by omega
      go_wp2_with fail
      go_ret
      exact ⟨rfl, HW.out⟩
theorem enV_at {la lb : List En} (h : la.map enV = lb.map enV) {k : Nat} {a : En} (ha : la[k]? = some a) : ∃ b : En, lb[k]? = some b ∧ b.op = a.op ∧ b.xs = a.xs := by
  have h1 : (la.map enV)[k]? = some (a.op, a.xs) := by rw [List.getElem?_map, ha]; rfl
  rw [h, List.getElem?_map] at h1
  obtain ⟨b, hb, he⟩ := Option.map_eq_some_iff.1 h1
  injection he with e1 e2
  exact ⟨b, hb, e1, e2⟩
theorem aft_cell {w wr u : World} {b o : Nat} {v : Value} (hb : b < w.heap.size) (h : Below w.heap.size w wr) (hc : w.cell? ⟨b, o, none⟩ = some v) (hu : Aft wr u) : u.cell? ⟨b, o, none⟩ = some v :=
  ((h.trans (hu.mono h.size)).cell (p := ⟨b, o, none⟩) hb).trans hc
set_option maxRecDepth 20000 in
set_option maxHeartbeats 4000000 in
theorem same_any {w : World} {A B : Option Addr} {n c d : Nat} {la lb : List En} (hA : EnL w A n la) (hB : EnL w B n lb) (he : la.map enV = lb.map enV) (hn : n ≤ 4398046511104) :
    Calls Try.prog 11 #[.slice A n c, .slice B n d] w fun e w' => e = .returned (.bool true) ∧ Below w.heap.size w w' := by
  have hl : la.length = n := by have := hA.rows.len; simpa using this
  subst hl
  have HA := Lib.hid hA
  have HB := Lib.hid hB
  have HE := Lib.hid he
  clear hA hB he
  go_enter Try.func11, Try.ntmps11
  go_wp2_with fail
  go_loopw [5] (fun i wr => ∃ k : Nat, k ≤ la.length ∧ i = .int .i64 k ∧ Hid (Below w.heap.size w wr)) (fun i _ => la.length - (intOf i).toNat)
  case atStart => exact ⟨0, Nat.zero_le _, rfl, Lib.hid (Below.refl _ _)⟩
  case round =>
    obtain ⟨k, hk, rfl, HW⟩ := hrel
    by_cases hlt : k < la.length
    · obtain ⟨v, hv⟩ := get_some' hlt
      obtain ⟨v2, hv2, e1, e2⟩ := enV_at HE.out hv
      obtain ⟨op, vA, vc, xs⟩ := v
      obtain ⟨op2, uA, uc, xs2⟩ := v2
      dsimp only at e1 e2
      subst e1 e2
      obtain ⟨b, o, rfl, hb, hc1, hc2⟩ := HA.out.at_ hv
      obtain ⟨b2, o2, rfl, hb2, hc3, hc4⟩ := HB.out.at_ hv2
      dsimp only at hc1 hc2 hc3 hc4
      have g1 := fun u => aft_cell (u := u) hb HW.out hc1
      have g2 := fun u => aft_cell (u := u) hb HW.out hc2
      have g3 := fun u => aft_cell (u := u) hb2 HW.out hc3
      have g4 := fun u => aft_cell (u := u) hb2 HW.out hc4
      have hsz := HW.out.size
      have hs1 := HA.out.args _ (List.mem_of_getElem? hv)
      have hs2 := HB.out.args _ (List.mem_of_getElem? hv2)
      have hs3 := HA.out.short _ (List.mem_of_getElem? hv)
      dsimp only at hs1 hs2 hs3
      have KS := fun w' (hw : Aft wr w') => sameInts_any (c := vc) (d := uc) rfl (hs1.keep (HW.out.trans (hw.mono hsz))) (hs2.keep (HW.out.trans (hw.mono hsz))) hs3
      have HKS := Lib.hid KS
      clear KS hs1 hs2 hv hv2 hc1 hc2 hc3 hc4
      have hbr : b < wr.heap.size := by omega
      have hbr2 : b2 < wr.heap.size := by omega
      go_wp2_with fail
      go_region_held (fun u => Aft wr u) (first | (with_reducible exact aft_drew) | (with_reducible exact HX.out)) (first | (go_at_call 27; (with_reducible refine (HKS.out _ aft_drew).mono ?_); rintro e w7 ⟨rfl, hb7⟩; have HX := Lib.hid (aft_drew.call hb7); clear hb7))
      go_wp2
      go_roundw
      case rel => exact ⟨k + 1, by omega, by go_num, Lib.hid (HW.out.trans ((by assumption : Aft wr _).mono hsz))⟩
      case measure => simp [intOf]; omega
    · obtain rfl : k = la.length := by omega
      go_wp2_with fail
      go_ret
      exact ⟨rfl, HW.out⟩
theorem getV_hit {es : List En} {op : Int} {k : Nat} {v : En} (hv : es[k]? = some v) (hn : (es.drop (k + 1)).reverse.find? (fun v => v.op == op) = none) (ho : v.op = op) : getV es op = some v := by
  unfold getV
  rw [show es.reverse = (es.drop k).reverse ++ (es.take k).reverse by rw [← List.reverse_append, List.take_append_drop], drop_last hv, List.append_assoc, List.find?_append, hn]
  simp [ho]
theorem getV_miss {es : List En} {op : Int} {k : Nat} {v : En} (hv : es[k]? = some v) (hn : (es.drop (k + 1)).reverse.find? (fun v => v.op == op) = none) (ho : v.op ≠ op) : (es.drop k).reverse.find? (fun v => v.op == op) = none := by
  rw [drop_last hv, List.find?_append, hn]
  simp [ho]
def RGetR (es : List En) (op : Int) (w : World) (e : Ending) (w' : World) : Prop :=
  (match getV es op with
    | some v => e = .returned (.tuple #[.slice v.A v.xs.length v.c, .bool true])
    | none => e = .returned (.tuple #[.slice none 0 0, .bool false])) ∧ w = w'
theorem rget_no {es : List En} {op : Int} {w : World} (h : getV es op = none) : RGetR es op w (.returned (.tuple #[.slice none 0 0, .bool false])) w := by
  unfold RGetR; rw [h]; exact ⟨rfl, rfl⟩
theorem rget_yes {es : List En} {op : Int} {w : World} {v : En} (h : getV es op = some v) : RGetR es op w (.returned (.tuple #[.slice v.A v.xs.length v.c, .bool true])) w := by
  unfold RGetR; rw [h]; exact ⟨rfl, rfl⟩
set_option maxRecDepth 20000 in
set_option maxHeartbeats 4000000 in
theorem rGet_any {w : World} {A : Option Addr} {n c : Nat} {es : List En} (op : Int) (h : EnL w A n es) (hn : n ≤ 4398046511104) :
    Calls Try.prog 28 #[.slice A n c, .int .i64 op] w (RGetR es op w) := by
  have hl : es.length = n := by have := h.rows.len; simpa using this
  subst hl
  have H := Lib.hid h
  clear h
  go_enter Try.func28, Try.ntmps28
  go_wp2_with fail
  go_loop [6] (fun i => ∃ k : Nat, k ≤ es.length ∧ i = .int .i64 ((k : Int) - 1) ∧ Hid ((es.drop k).reverse.find? (fun v => v.op == op) = none)) (fun i => (intOf i + 1).toNat)
  case atStart => exact ⟨es.length, Nat.le_refl _, rfl, Lib.hid (by rw [List.drop_length]; rfl)⟩
  case round =>
    obtain ⟨k, hk, rfl, HN⟩ := hrel
    rcases Nat.eq_zero_or_pos k with rfl | h0
    · have hg : getV es op = none := HN.out
      have HG := Lib.hid hg
      clear hg
      rw [show ((0 : Nat) : Int) - 1 = -1 by omega]
      go_wp2_with fail
      go_ret2
      exact rget_no HG.out
    · obtain ⟨k, rfl⟩ : ∃ k', k = k' + 1 := ⟨k - 1, by omega⟩
      rw [show ((k + 1 : Nat) : Int) - 1 = (k : Int) by omega]
      obtain ⟨v, hv⟩ := get_some' (l := es) (k := k) (by omega)
      obtain ⟨b, o, rfl, hb, q0, q1⟩ := H.out.at_ hv
      by_cases ho : v.op = op
      · have hg := getV_hit hv HN.out ho
        have HG := Lib.hid hg
        rw [ho] at q0
        clear hg hv ho
        go_wp2_with fail
        go_ret2
        exact rget_yes HG.out
      · have hg := getV_miss hv HN.out ho
        have HG := Lib.hid hg
        have ho' : (v.op == op) = false := by simpa using ho
        clear hg hv ho
        go_wp2_with fail
        go_round
        case rel => exact ⟨k, by omega, by go_num, HG⟩
        case measure => simp [intOf]
end Go.Proofs.Ytoofjkhigonppaa

namespace Go.Proofs.Ytoofjkhigonppaa
open Go.RowKit

theorem sl_one {w : World} {A : Option Addr} {x : Int} (h : SlAt w A 1 ([x].map (Value.int .i64))) : ∃ b o, A = some ⟨b, o, none⟩ ∧ b < w.heap.size ∧ w.cell? ⟨b, o, none⟩ = some (.int .i64 x) := by
  obtain ⟨b, o, hA, hb, hc⟩ := h.2 0 (by simp)
  exact ⟨b, o, hA, hb, by simpa using hc⟩
set_option maxRecDepth 20000 in
set_option maxHeartbeats 8000000 in
theorem gets_any {w : World} {A : Option Addr} {n c : Nat} {es : List En} (op other : Int) (h : EnL w A n es) (hi : EnIn es) (hn : n ≤ 4398046511104) :
    Calls Try.prog 12 #[.slice A n c, .int .i64 op, .int .i64 other] w fun e w' => e = .returned (.bool true) ∧ Below w.heap.size w w' := by
  have HG := get_any (c := c) op h hn
  have HR := fun w' (hb : Below w.heap.size w w') => rGet_any (c := c) op (h.keep hb) hn
  have HN := fun w' (hb : Below w.heap.size w w') => numberE_any (c := c) op other (h.keep hb) hn hi
  cases hg : getV es op with
  | none =>
    have hgl : getL es op = none := by unfold getL; rw [hg]; rfl
    unfold GetR at HG
    unfold RGetR at HR
    unfold NumR at HN
    rw [hg] at HG HR
    rw [hgl] at HN
    dsimp only [numE] at HG HR HN
    have HGG := Lib.hid HG
    have HRR := Lib.hid HR
    have HNN := Lib.hid HN
    clear HG HR HN hg hgl h hi
    go_enter Try.func12, Try.ntmps12
    go_wp2_with (first
      | (go_at_call 19; (with_reducible refine HGG.out.mono ?_); rintro e w1 ⟨rfl, hb1⟩; have HB1 := Lib.hid hb1; clear hb1)
      | (go_at_call 28; (with_reducible refine (HRR.out _ HB1.out).mono ?_); rintro e w2 ⟨rfl, rfl⟩)
      | (go_at_call 20; (with_reducible refine (HNN.out _ HB1.out).mono ?_); rintro e w3 ⟨rfl, hb3⟩; have HB3 := Lib.hid hb3; clear hb3)
      | (go_at_call 27; (with_reducible refine (sameInts_any (xs := []) (n := 0) rfl (SlAt.nil _ _) (SlAt.nil _ _) (by omega)).mono ?_); rintro e w4 ⟨rfl, hb4⟩; have HB4 := Lib.hid hb4; clear hb4)
      | fail)
    go_ret
    exact ⟨rfl, HB1.out.trans ((HB3.out.trans (HB4.out.mono HB3.out.size)).mono HB1.out.size)⟩
  | some v =>
    have hmem : v ∈ es := by
      have := List.mem_of_find?_eq_some hg
      simpa using this
    have hin := (hi v hmem).2
    have hargs := h.args v hmem
    have hsh := h.short v hmem
    have hgl : getL es op = some v.xs := by unfold getL; rw [hg]; rfl
    unfold GetR at HG
    unfold RGetR at HR
    unfold NumR at HN
    rw [hg] at HG HR
    rw [hgl] at HN
    dsimp only at HG HR
    obtain ⟨vo, vA, vc, xs⟩ := v
    dsimp only at *
    have KS : ∀ w1 w3, Below w.heap.size w w1 → Below w1.heap.size w1 w3 → ∀ A1 c1, SlAt w1 A1 xs.length (xs.map (Value.int .i64)) → Calls Try.prog 27 #[.slice A1 xs.length c1, .slice vA xs.length vc] w3 fun e w' => e = .returned (.bool true) ∧ Below w3.heap.size w3 w' :=
      fun w1 w3 h1 h3 A1 c1 hs => sameInts_any rfl (hs.keep h3) (hargs.keep (h1.trans (h3.mono h1.size))) hsh
    have HGG := Lib.hid HG
    have HRR := Lib.hid HR
    have HKS := Lib.hid KS
    have HARGS := Lib.hid hargs
    clear HG HR hg hgl h hi KS hargs hmem
    by_cases h1 : xs.length = 1
    · obtain ⟨x, rfl⟩ := List.length_eq_one_iff.1 h1
      obtain ⟨x0, x1⟩ := hin x (by simp)
      have htd := tdm x
      obtain ⟨b, o, rfl, hb, hc⟩ := sl_one HARGS.out
      have hne : numE (some [x]) other = if x % 65536 = 0 then (x / 65536, 0) else (0, 150) := rfl
      obtain ⟨q, hq⟩ : ∃ q, x.tdiv 65536 = q := ⟨_, rfl⟩
      obtain ⟨m, hm⟩ : ∃ m, x.tmod 65536 = m := ⟨_, rfl⟩
      have hqb : -140737488355328 ≤ q ∧ q ≤ 140737488355328 := by omega
      have hw : wrap64 q = q := IntWalk.wrap64_in _ ⟨by omega, by omega⟩
      have key : (m = 0 ∧ x % 65536 = 0 ∧ x / 65536 = q) ∨ ((m != 0) = true ∧ x % 65536 ≠ 0) := by
        rw [bne_iff_ne]
        omega
      rw [hne] at HN
      clear htd hne h1
      have HK1 : Hid (∀ w1 w3, Below w.heap.size w w1 → Below w1.heap.size w1 w3 → ∀ A1 c1, SlAt w1 A1 1 ([x].map (Value.int .i64)) → Calls Try.prog 27 #[.slice A1 1 c1, .slice (some ⟨b, o, none⟩) 1 vc] w3 fun e w' => e = .returned (.bool true) ∧ Below w3.heap.size w3 w') := HKS
      clear HKS
      rcases key with ⟨rfl, k2, k3⟩ | ⟨k1, k2⟩
      · rw [if_pos k2, k3] at HN
        have HNN := Lib.hid HN
        clear HN k2 k3 hqb
        go_enter Try.func12, Try.ntmps12
        go_wp2_with (first
          | (go_at_call 19; (with_reducible refine HGG.out.mono ?_); rintro e w1 ⟨⟨A1, c1, rfl, hs1⟩, hb1⟩; have HB1 := Lib.hid hb1; have HS1 := Lib.hid hs1; clear hb1 hs1)
          | (go_at_call 28; (with_reducible refine (HRR.out _ HB1.out).mono ?_); rintro e w2 ⟨rfl, rfl⟩)
          | (go_at_call 20; (with_reducible refine (HNN.out _ HB1.out).mono ?_); rintro e w3 ⟨rfl, hb3⟩; have HB3 := Lib.hid hb3; clear hb3)
          | (go_at_call 27; (with_reducible refine (HK1.out _ _ HB1.out HB3.out _ _ HS1.out).mono ?_); rintro e w4 ⟨rfl, hb4⟩
             have HB4 := Lib.hid (HB1.out.trans ((HB3.out.trans (hb4.mono HB3.out.size)).mono HB1.out.size))
             have q4 := (HB4.out.cell (p := ⟨b, o, none⟩) hb).trans hc
             have hb4s := HB4.out.size
             clear hb4)
          | fail)
        go_ret
        exact ⟨rfl, HB4.out⟩
      · rw [if_neg k2] at HN
        have HNN := Lib.hid HN
        clear HN k2 hqb
        go_enter Try.func12, Try.ntmps12
        go_wp2_with (first
          | (go_at_call 19; (with_reducible refine HGG.out.mono ?_); rintro e w1 ⟨⟨A1, c1, rfl, hs1⟩, hb1⟩; have HB1 := Lib.hid hb1; have HS1 := Lib.hid hs1; clear hb1 hs1)
          | (go_at_call 28; (with_reducible refine (HRR.out _ HB1.out).mono ?_); rintro e w2 ⟨rfl, rfl⟩)
          | (go_at_call 20; (with_reducible refine (HNN.out _ HB1.out).mono ?_); rintro e w3 ⟨rfl, hb3⟩; have HB3 := Lib.hid hb3; clear hb3)
          | (go_at_call 27; (with_reducible refine (HK1.out _ _ HB1.out HB3.out _ _ HS1.out).mono ?_); rintro e w4 ⟨rfl, hb4⟩
             have HB4 := Lib.hid (HB1.out.trans ((HB3.out.trans (hb4.mono HB3.out.size)).mono HB1.out.size))
             have q4 := (HB4.out.cell (p := ⟨b, o, none⟩) hb).trans hc
             have hb4s := HB4.out.size
             clear hb4)
          | fail)
        go_ret
        exact ⟨rfl, HB4.out⟩
    · have hv : numE (some xs) other = (0, 150) := by
        unfold numE
        split
        · rename_i hh; cases hh
        · rename_i hh; injection hh with hh; subst hh; simp at h1
        · rfl
      rw [hv] at HN
      have HNN := Lib.hid HN
      have h1' : ((xs.length : Int) != 1) = true := by rw [bne_iff_ne]; omega
      clear hv HN
      go_enter Try.func12, Try.ntmps12
      go_wp2_with (first
        | (go_at_call 19; (with_reducible refine HGG.out.mono ?_); rintro e w1 ⟨⟨A1, c1, rfl, hs1⟩, hb1⟩; have HB1 := Lib.hid hb1; have HS1 := Lib.hid hs1; clear hb1 hs1)
        | (go_at_call 28; (with_reducible refine (HRR.out _ HB1.out).mono ?_); rintro e w2 ⟨rfl, rfl⟩)
        | (go_at_call 20; (with_reducible refine (HNN.out _ HB1.out).mono ?_); rintro e w3 ⟨rfl, hb3⟩; have HB3 := Lib.hid hb3; clear hb3)
        | (go_at_call 27; (with_reducible refine (HKS.out _ _ HB1.out HB3.out _ _ HS1.out).mono ?_); rintro e w4 ⟨rfl, hb4⟩
           have HB4 := Lib.hid (HB1.out.trans ((HB3.out.trans (hb4.mono HB3.out.size)).mono HB1.out.size))
           clear hb4)
        | fail)
      go_ret
      exact ⟨rfl, HB4.out⟩
end Go.Proofs.Ytoofjkhigonppaa

namespace Go.Proofs.Ytoofjkhigonppaa

/-- One digit of a quotient: (u b + n) / v, v = a b + c. -/
structure Kn (a c u n Q : Nat) : Prop where
  c1 : c < 4294967296
  a0 : 2147483648 ≤ a
  a1 : a < 4294967296
  u1 : u < a * 4294967296 + c
  n1 : n < 4294967296
  q0 : Q * (a * 4294967296 + c) ≤ u * 4294967296 + n
  q1 : u * 4294967296 + n < (Q + 1) * (a * 4294967296 + c)
structure KnI (a u Q q r : Nat) : Prop where
  eq : q * a + r = u
  le : Q ≤ q
  q1 : q ≤ 4294967297
  r1 : r < 4294967296
section
variable {a c u n Q q r : Nat}
theorem Kn.Qlt (h : Kn a c u n Q) : Q < 4294967296 := by
  rcases Nat.lt_or_ge Q 4294967296 with hq | hq
  · exact hq
  · exfalso
    have h1 := h.q0
    have h2 : 4294967296 * (a * 4294967296 + c) ≤ Q * (a * 4294967296 + c) := Nat.mul_le_mul_right _ hq
    have h3 := h.u1
    have h4 := h.n1
    omega
theorem Kn.init (h : Kn a c u n Q) : KnI a u Q (u / a) (u % a) := by
  have a0 := h.a0
  refine ⟨by rw [Nat.mul_comm]; exact Nat.div_add_mod u a, ?_, ?_, by have := Nat.mod_lt u (show 0 < a by omega); have := h.a1; omega⟩
  · rw [Nat.le_div_iff_mul_le (by omega)]
    have h1 := h.q0
    rw [Nat.mul_add, ← Nat.mul_assoc] at h1
    have h2 := h.n1
    have : 0 ≤ Q * c := Nat.zero_le _
    omega
  · have h1 := h.u1
    have h2 := h.c1
    have : u / a < 4294967298 := by
      rw [Nat.div_lt_iff_lt_mul (by omega)]
      omega
    omega
theorem Kn.leQ (h : Kn a c u n Q) {x : Nat} (hx : x * (a * 4294967296 + c) ≤ u * 4294967296 + n) : x ≤ Q := by
  have h1 := h.q1
  rcases Nat.lt_or_ge Q x with hq | hq
  · exfalso
    have : (Q + 1) * (a * 4294967296 + c) ≤ x * (a * 4294967296 + c) := Nat.mul_le_mul_right _ hq
    omega
  · exact hq
theorem Kn.done (h : Kn a c u n Q) (i : KnI a u Q q r) (h1 : ¬ (4294967296 * r + n < q * c)) : q = Q := by
  refine Nat.le_antisymm (h.leQ ?_) i.le
  have e := i.eq
  rw [Nat.mul_add, ← Nat.mul_assoc]
  omega
theorem Kn.more (h : Kn a c u n Q) (i : KnI a u Q q r) (h1 : 4294967296 ≤ q ∨ 4294967296 * r + n < q * c) : Q + 1 ≤ q ∧ (q - 1) * a + (r + a) = u := by
  have e := i.eq
  have hQ := h.Qlt
  have hle := i.le
  have hlt : Q < q := by
    rcases h1 with h1 | h1
    · omega
    · rcases Nat.lt_or_ge Q q with hq | hq
      · exact hq
      · exfalso
        have hqe : q = Q := by omega
        have h2 := h.q0
        rw [← hqe, Nat.mul_add, ← Nat.mul_assoc] at h2
        omega
  refine ⟨by omega, ?_⟩
  obtain ⟨k, rfl⟩ : ∃ k, q = k + 1 := ⟨q - 1, by omega⟩
  rw [Nat.add_mul] at e
  rw [Nat.add_sub_cancel]
  omega
theorem Kn.next (h : Kn a c u n Q) (i : KnI a u Q q r) (h1 : 4294967296 ≤ q ∨ 4294967296 * r + n < q * c) (h2 : ¬ 4294967296 ≤ r + a) : KnI a u Q (q - 1) (r + a) := by
  obtain ⟨m1, m2⟩ := h.more i h1
  have := i.q1
  exact ⟨m2, by omega, by omega, by omega⟩
theorem Kn.brk (h : Kn a c u n Q) (i : KnI a u Q q r) (h1 : 4294967296 ≤ q ∨ 4294967296 * r + n < q * c) (h2 : 4294967296 ≤ r + a) : q - 1 = Q := by
  obtain ⟨m1, m2⟩ := h.more i h1
  have hq1 := i.q1
  refine Nat.le_antisymm (h.leQ ?_) (by omega)
  obtain ⟨k, hk⟩ : ∃ k, q - 1 = k := ⟨_, rfl⟩
  rw [hk] at m2 ⊢
  have hc := h.c1
  have h3 : k * c ≤ 4294967296 * 4294967296 := Nat.mul_le_mul (by omega) (by omega)
  rw [Nat.mul_add, ← Nat.mul_assoc]
  omega
theorem Kn.small (h : Kn a c u n Q) (i : KnI a u Q q r) (hq : ¬ 4294967296 ≤ q) : q * c < 18446744073709551616 ∧ 4294967296 * r + n < 18446744073709551616 := by
  have h1 := h.c1
  have h2 := h.n1
  have h3 := i.r1
  have : q * c ≤ 4294967295 * 4294967295 := Nat.mul_le_mul (by omega) (by omega)
  omega
theorem kn_of {v u n : Nat} (hv0 : 9223372036854775808 ≤ v) (hv1 : v < 18446744073709551616) (hu : u < v) (hn : n < 4294967296) : Kn (v / 4294967296) (v % 4294967296) u n ((u * 4294967296 + n) / v) := by
  have e : v / 4294967296 * 4294967296 + v % 4294967296 = v := by omega
  refine ⟨by omega, by omega, by omega, by rw [e]; exact hu, hn, ?_, ?_⟩
  · rw [e, Nat.mul_comm]
    exact Nat.mul_div_le _ _
  · rw [e]
    have h := Nat.lt_mul_div_succ (u * 4294967296 + n) (show 0 < v by omega)
    rw [Nat.mul_comm v] at h
    exact h
end
/-- All the pieces of a division of two words by one. -/
structure Dv (N y s v u n1 n0 Q1 R Q0 R0 : Nat) : Prop where
  k1 : Kn (v / 4294967296) (v % 4294967296) u n1 Q1
  k2 : Kn (v / 4294967296) (v % 4294967296) R n0 Q0
  r1 : u * 4294967296 + n1 = Q1 * v + R
  r2 : R * 4294967296 + n0 = Q0 * v + R0
  rl : R < v
  r0l : R0 < v
  ul : u < v
  vl : v < 18446744073709551616
  q : N / y = Q1 * 4294967296 + Q0
  m : N % y = R0 / 2 ^ s
theorem dv_all {N y s : Nat} (hs0 : 9223372036854775808 ≤ y * 2 ^ s) (hs1 : y * 2 ^ s < 18446744073709551616) (hN : N < y * 18446744073709551616) :
    ∃ v u n1 n0 Q1 R Q0 R0, Dv N y s v u n1 n0 Q1 R Q0 R0 ∧ v = y * 2 ^ s ∧ u = N * 2 ^ s / 18446744073709551616 ∧ n1 = N * 2 ^ s % 18446744073709551616 / 4294967296 ∧ n0 = N * 2 ^ s % 18446744073709551616 % 4294967296 := by
  obtain ⟨v, hv⟩ : ∃ v, y * 2 ^ s = v := ⟨_, rfl⟩
  obtain ⟨M, hM⟩ : ∃ M, N * 2 ^ s = M := ⟨_, rfl⟩
  have hp : 0 < 2 ^ s := Nat.pow_pos (by omega)
  have hy : 0 < y := by
    rcases Nat.eq_zero_or_pos y with h | h
    · subst h; omega
    · exact h
  have hMl : M < v * 18446744073709551616 := by
    rw [← hM, ← hv, Nat.mul_right_comm]
    exact Nat.mul_lt_mul_of_pos_right hN hp
  have hq : N / y = M / v := by rw [← hM, ← hv, Nat.mul_div_mul_right _ _ hp]
  have hm : N % y = M % v / 2 ^ s := by rw [← hM, ← hv, Nat.mul_mod_mul_right, Nat.mul_div_cancel _ hp]
  rw [hv] at hs0 hs1
  have hu : M / 18446744073709551616 < v := by rw [Nat.div_lt_iff_lt_mul (by omega)]; exact hMl
  obtain ⟨u, hu'⟩ : ∃ u, M / 18446744073709551616 = u := ⟨_, rfl⟩
  obtain ⟨n1, hn1⟩ : ∃ u, M % 18446744073709551616 / 4294967296 = u := ⟨_, rfl⟩
  obtain ⟨n0, hn0⟩ : ∃ u, M % 18446744073709551616 % 4294967296 = u := ⟨_, rfl⟩
  have hMe : M = (u * 4294967296 + n1) * 4294967296 + n0 := by omega
  have hn1l : n1 < 4294967296 := by omega
  have hn0l : n0 < 4294967296 := by omega
  rw [hu'] at hu
  have hv0 : 0 < v := by omega
  have d1 := Nat.div_add_mod (u * 4294967296 + n1) v
  have l1 := Nat.mod_lt (u * 4294967296 + n1) hv0
  have k1 := kn_of hs0 hs1 hu hn1l
  obtain ⟨Q1, hQ1⟩ : ∃ x, (u * 4294967296 + n1) / v = x := ⟨_, rfl⟩
  obtain ⟨R, hR⟩ : ∃ x, (u * 4294967296 + n1) % v = x := ⟨_, rfl⟩
  rw [hQ1, hR] at d1
  rw [hQ1] at k1
  rw [hR] at l1
  have d2 := Nat.div_add_mod (R * 4294967296 + n0) v
  have l2 := Nat.mod_lt (R * 4294967296 + n0) hv0
  have k2 := kn_of hs0 hs1 l1 hn0l
  obtain ⟨Q0, hQ0⟩ : ∃ x, (R * 4294967296 + n0) / v = x := ⟨_, rfl⟩
  obtain ⟨R0, hR0⟩ : ∃ x, (R * 4294967296 + n0) % v = x := ⟨_, rfl⟩
  rw [hQ0, hR0] at d2
  rw [hQ0] at k2
  rw [hR0] at l2
  have hM2 : M = v * (Q1 * 4294967296 + Q0) + R0 := by
    rw [hMe, ← d1, Nat.mul_add, ← Nat.mul_assoc]
    omega
  refine ⟨v, u, n1, n0, Q1, R, Q0, R0, ⟨k1, k2, by rw [Nat.mul_comm Q1 v]; exact d1.symm, by rw [Nat.mul_comm Q0 v]; exact d2.symm, l1, l2, hu, hs1, ?_, ?_⟩, hv.symm, by rw [hM]; exact hu'.symm, by rw [hM]; exact hn1.symm, by rw [hM]; exact hn0.symm⟩
  · rw [hq, hM2, Nat.mul_add_div hv0, Nat.div_eq_of_lt l2, Nat.add_zero]
  · rw [hm, hM2, Nat.mul_add_mod, Nat.mod_eq_of_lt l2]
end Go.Proofs.Ytoofjkhigonppaa

namespace Go.Proofs.Ytoofjkhigonppaa
open Go.RowKit

theorem shl_u {P : Program} (x : Nat) (s : Nat) (hs : s ≤ 64) (w : World) : (Op.shift .shl .u64 x .u64 s).run P w = .ok (.int .u64 ((x * 2 ^ s % 18446744073709551616 : Nat) : Int)) w := by
  unfold Op.shift
  rw [if_neg (by omega)]
  simp only [Int.toNat_natCast, IntKind.bits, Nat.min_eq_left hs]
  rw [show (x : Int) * 2 ^ s = ((x * 2 ^ s : Nat) : Int) by simp, m_wrapM]
  rfl
theorem shr_u {P : Program} (x : Nat) (s : Int) (k : Nat) (hs : s = k) (hk : k ≤ 64) (w : World) : (Op.shift .shr .u64 x .u64 s).run P w = .ok (.int .u64 ((x / 2 ^ k : Nat) : Int)) w := by
  subst hs
  unfold Op.shift
  rw [if_neg (by omega)]
  simp only [Int.toNat_natCast, IntKind.bits, Nat.min_eq_left hk]
  rw [Int.fdiv_eq_ediv_of_nonneg (x : Int) (Int.pow_nonneg (by decide)), show (x : Int) / 2 ^ k = ((x / 2 ^ k : Nat) : Int) by simp]
  rfl
theorem un32_eq {N s : Nat} (hs : s ≤ 64) (h : N / 18446744073709551616 * 2 ^ s < 18446744073709551616) :
    (N / 18446744073709551616 * 2 ^ s % 18446744073709551616) ||| (N % 18446744073709551616 / 2 ^ (64 - s)) = N * 2 ^ s / 18446744073709551616 := by
  have e1 : (2 : Nat) ^ 64 = 2 ^ (64 - s) * 2 ^ s := by rw [← Nat.pow_add]; congr 1; omega
  have hp : 0 < 2 ^ s := Nat.pow_pos (by omega)
  have hp2 : 0 < 2 ^ (64 - s) := Nat.pow_pos (by omega)
  have hl : N % 18446744073709551616 / 2 ^ (64 - s) < 2 ^ s := by
    rw [Nat.div_lt_iff_lt_mul hp2, Nat.mul_comm, ← e1]
    omega
  rw [Nat.mod_eq_of_lt h, Nat.mul_comm, ← Nat.two_pow_add_eq_or_of_lt hl]
  have hN := Nat.div_add_mod N 18446744073709551616
  have e3 : N * 2 ^ s = 2 ^ s * (N / 18446744073709551616) * 18446744073709551616 + N % 18446744073709551616 * 2 ^ s := by
    have : N * 2 ^ s = (18446744073709551616 * (N / 18446744073709551616) + N % 18446744073709551616) * 2 ^ s := by rw [hN]
    rw [this, Nat.add_mul, Nat.mul_assoc, Nat.mul_comm, Nat.mul_comm (N / 18446744073709551616)]
  rw [e3, Nat.add_comm (_ * 18446744073709551616), Nat.add_mul_div_right _ _ (by omega), Nat.add_comm]
  congr 1
  rw [show (18446744073709551616 : Nat) = 2 ^ (64 - s) * 2 ^ s from e1, Nat.mul_div_mul_right _ _ hp]
theorem un10_eq {N s : Nat} : N % 18446744073709551616 * 2 ^ s % 18446744073709551616 = N * 2 ^ s % 18446744073709551616 := by
  rw [Nat.mod_mul_mod]
theorem kn_cases {a c u n Q q r : Nat} (h : Kn a c u n Q) (i : KnI a u Q q r) : ∃ P G1 G2 : Int, IntKind.u64.wrap ((q : Int) * c) = P ∧ IntKind.u64.wrap (4294967296 * (r : Int)) = G1 ∧ IntKind.u64.wrap (G1 + n) = G2 ∧
    ((¬ (4294967296 : Int) ≤ q ∧ ¬ G2 < P ∧ q = Q) ∨
      (∃ q' r' : Nat, IntKind.u64.wrap ((q : Int) - 1) = q' ∧ IntKind.u64.wrap ((r : Int) + a) = r' ∧ q' < q ∧ ((4294967296 : Int) ≤ q ∨ (¬ (4294967296 : Int) ≤ q ∧ G2 < P)) ∧
        (((4294967296 : Int) ≤ r' ∧ q' = Q) ∨ (¬ (4294967296 : Int) ≤ r' ∧ KnI a u Q q' r')))) := by
  refine ⟨_, _, _, rfl, rfl, rfl, ?_⟩
  have hr := i.r1
  have hq1 := i.q1
  have ha := h.a1
  have hn := h.n1
  obtain ⟨P, hP⟩ : ∃ P, q * c = P := ⟨_, rfl⟩
  have eP : (q : Int) * c = (P : Int) := by rw [← hP]; simp
  have hG : IntKind.u64.wrap (IntKind.u64.wrap (4294967296 * (r : Int)) + n) = ((4294967296 * r + n : Nat) : Int) := by
    simp only [IntKind.wrap_u64]
    omega
  rw [hG, eP]
  by_cases hb : 4294967296 ≤ q
  · right
    obtain ⟨m1, m2⟩ := h.more i (.inl hb)
    refine ⟨q - 1, r + a, by rw [IntKind.wrap_u64]; omega, by rw [IntKind.wrap_u64]; omega, by omega, .inl (by omega), ?_⟩
    by_cases hr2 : 4294967296 ≤ r + a
    · exact .inl ⟨by omega, h.brk i (.inl hb) hr2⟩
    · exact .inr ⟨by omega, h.next i (.inl hb) hr2⟩
  · obtain ⟨s1, s2⟩ := h.small i hb
    rw [hP] at s1
    have hw : IntKind.u64.wrap (P : Int) = P := m_wrap P s1
    rw [hw]
    by_cases hc : 4294967296 * r + n < P
    · right
      have hc' : 4294967296 ≤ q ∨ 4294967296 * r + n < q * c := .inr (by rw [hP]; exact hc)
      obtain ⟨m1, m2⟩ := h.more i hc'
      refine ⟨q - 1, r + a, by rw [IntKind.wrap_u64]; omega, by rw [IntKind.wrap_u64]; omega, by omega, .inr ⟨by omega, by omega⟩, ?_⟩
      by_cases hr2 : 4294967296 ≤ r + a
      · exact .inl ⟨by omega, h.brk i hc' hr2⟩
      · exact .inr ⟨by omega, h.next i hc' hr2⟩
    · left
      exact ⟨by omega, by omega, h.done i (by rw [hP]; exact hc)⟩
structure T1 (v u n1 Q1 R : Nat) (X1 X2 X3 F1 : Int) : Prop where
  e1 : IntKind.u64.wrap ((u : Int) * 4294967296) = X1
  e2 : IntKind.u64.wrap (X1 + n1) = X2
  e3 : IntKind.u64.wrap ((Q1 : Int) * v) = X3
  e4 : IntKind.u64.wrap (X2 - X3) = R
  f1 : IntKind.u64.wrap ((Q1 : Int) * 4294967296) = F1
structure T2 (v R n0 Q0 R0 Nq : Nat) (F1 F3 F4 F5 : Int) : Prop where
  f2 : IntKind.u64.wrap (F1 + Q0) = Nq
  f3 : IntKind.u64.wrap ((R : Int) * 4294967296) = F3
  f4 : IntKind.u64.wrap (F3 + n0) = F4
  f5 : IntKind.u64.wrap ((Q0 : Int) * v) = F5
  f6 : IntKind.u64.wrap (F4 - F5) = R0
theorem t_of {N y s v u n1 n0 Q1 R Q0 R0 : Nat} (D : Dv N y s v u n1 n0 Q1 R Q0 R0) : ∃ X1 X2 X3 F1 F3 F4 F5, T1 v u n1 Q1 R X1 X2 X3 F1 ∧ T2 v R n0 Q0 R0 (Q1 * 4294967296 + Q0) F1 F3 F4 F5 := by
  have h1 := D.k1.Qlt
  have h2 := D.k2.Qlt
  have h3 := D.r1
  have h4 := D.r2
  have h5 := D.rl
  have h6 := D.r0l
  have h7 := D.vl
  have h8 := D.k1.n1
  have h9 := D.k2.n1
  obtain ⟨P1, hP1⟩ : ∃ P, Q1 * v = P := ⟨_, rfl⟩
  obtain ⟨P2, hP2⟩ : ∃ P, Q0 * v = P := ⟨_, rfl⟩
  have e1 : (Q1 : Int) * v = (P1 : Int) := by rw [← hP1]; simp
  have e2 : (Q0 : Int) * v = (P2 : Int) := by rw [← hP2]; simp
  rw [hP1] at h3
  rw [hP2] at h4
  refine ⟨_, _, _, _, _, _, _, ⟨rfl, rfl, rfl, ?_, rfl⟩, ⟨?_, rfl, rfl, rfl, ?_⟩⟩
  · rw [e1]
    simp only [IntKind.wrap_u64]
    omega
  · simp only [IntKind.wrap_u64]
    omega
  · rw [e2]
    simp only [IntKind.wrap_u64]
    omega
theorem div_first {u a : Nat} (ha : 0 < a) (hu : u < 18446744073709551616) : ∃ Y, IntKind.u64.wrap ((u : Int) / a) = ((u / a : Nat) : Int) ∧ IntKind.u64.wrap (((u / a : Nat) : Int) * a) = Y ∧ IntKind.u64.wrap ((u : Int) - Y) = ((u % a : Nat) : Int) := by
  have h1 := Nat.div_add_mod u a
  have h2 := Nat.div_le_self u a
  obtain ⟨q, hq⟩ : ∃ q, u / a = q := ⟨_, rfl⟩
  obtain ⟨r, hr⟩ : ∃ r, u % a = r := ⟨_, rfl⟩
  have e : (u : Int) / a = (q : Int) := by rw [← hq]; simp
  rw [hq] at h2
  rw [hq, hr] at h1
  rw [hq, hr, e]
  obtain ⟨P, hP⟩ : ∃ P, a * q = P := ⟨_, rfl⟩
  have e2 : (q : Int) * a = (P : Int) := by rw [← hP]; simp [Int.mul_comm]
  rw [hP] at h1
  refine ⟨_, by rw [IntKind.wrap_u64]; omega, rfl, ?_⟩
  rw [e2]
  simp only [IntKind.wrap_u64]
  omega
set_option maxRecDepth 20000 in
set_option maxHeartbeats 8000000 in
theorem div64_big {N y : Nat} (hN : N < y * 18446744073709551616) (hb : 18446744073709551616 ≤ N) (hy : y < 18446744073709551616) : DivOk N y := by
  intro w
  have y0 : 0 < y := by
    rcases Nat.eq_zero_or_pos y with h | h
    · subst h; omega
    · exact h
  obtain ⟨b1, b2, b3⟩ := bitLen_le_pow y (by omega) hy
  have b4 := Lib.bitLen_le y 64 (by omega) hy
  have KL := fun w => lead_any y hy w
  obtain ⟨L, hL⟩ : ∃ L, Lib.bitLen y = L := ⟨_, rfl⟩
  rw [hL] at b1 b2 b3 b4 KL
  obtain ⟨s, hs⟩ : ∃ s, 64 - L = s := ⟨_, rfl⟩
  rw [hs] at KL
  have hs64 : s ≤ 63 := by omega
  have hs0 : 9223372036854775808 ≤ y * 2 ^ s := by
    have h1 : 2 ^ (L - 1) * 2 ^ s ≤ y * 2 ^ s := Nat.mul_le_mul_right _ b1
    rw [← Nat.pow_add, show L - 1 + s = 63 by omega] at h1
    exact h1
  have hs1 : y * 2 ^ s < 18446744073709551616 := by
    have h1 : y * 2 ^ s < 2 ^ L * 2 ^ s := Nat.mul_lt_mul_of_pos_right b2 (Nat.pow_pos (by omega))
    rw [← Nat.pow_add, show L + s = 64 by omega] at h1
    exact h1
  obtain ⟨v, u, n1, n0, Q1, R, Q0, R0, D, hv, hu, hn1, hn0⟩ := dv_all hs0 hs1 hN
  have hH : N / 18446744073709551616 < y := by rw [Nat.div_lt_iff_lt_mul (by omega)]; exact hN
  have hHs : N / 18446744073709551616 * 2 ^ s < 18446744073709551616 := Nat.lt_of_le_of_lt (Nat.mul_le_mul_right _ (Nat.le_of_lt hH)) hs1
  have or1 := un32_eq (N := N) (s := s) (by omega) hHs
  have un1 := un10_eq (N := N) (s := s)
  rw [← hu] at or1
  have wsh : ∀ x : Nat, IntKind.u64.wrap ((x : Int) * 2 ^ s) = ((x * 2 ^ s % 18446744073709551616 : Nat) : Int) := fun x => by rw [show (x : Int) * 2 ^ s = ((x * 2 ^ s : Nat) : Int) by simp, m_wrapM]
  have wsr : ∀ x k : Nat, k ≤ 64 → (x : Int) / 2 ^ min k 64 = ((x / 2 ^ k : Nat) : Int) := fun x k hk => by rw [Nat.min_eq_left hk]; simp
  have s1 : IntKind.u64.wrap ((y : Int) * 2 ^ s) = v := by rw [wsh, ← hv, Nat.mod_eq_of_lt (by rw [hv]; exact hs1)]
  have s3 := wsh (N / 18446744073709551616)
  have s4 := wsr (N % 18446744073709551616) (64 - s) (by omega)
  have s5 := wsh (N % 18446744073709551616)
  rw [un1] at s5
  have hH0 : N / 18446744073709551616 ≠ 0 := by omega
  have hLo := Nat.mod_lt N (show 0 < 18446744073709551616 by omega)
  have o1 : N / 18446744073709551616 * 2 ^ s % 18446744073709551616 < 18446744073709551616 := Nat.mod_lt _ (by omega)
  have o2 : N % 18446744073709551616 / 2 ^ (64 - s) < 18446744073709551616 := Nat.lt_of_le_of_lt (Nat.div_le_self _ _) hLo
  have hw10 := Nat.mod_lt (N * 2 ^ s) (show 0 < 18446744073709551616 by omega)
  obtain ⟨t, ht⟩ : ∃ t, 64 - s = t := ⟨_, rfl⟩
  rw [ht] at s4 or1 o2
  obtain ⟨H, hHe⟩ : ∃ x, N / 18446744073709551616 = x := ⟨_, rfl⟩
  obtain ⟨Lo, hLoe⟩ : ∃ x, N % 18446744073709551616 = x := ⟨_, rfl⟩
  obtain ⟨Z, hZ⟩ : ∃ x, N * 2 ^ s % 18446744073709551616 = x := ⟨_, rfl⟩
  rw [hHe] at hH hH0 s3 or1 o1
  rw [hLoe] at s4 s5 or1 o2
  rw [hZ] at s5 hn1 hn0 hw10
  obtain ⟨U1, hU1⟩ : ∃ x, H * 2 ^ s % 18446744073709551616 = x := ⟨_, rfl⟩
  obtain ⟨U2, hU2⟩ : ∃ x, Lo / 2 ^ t = x := ⟨_, rfl⟩
  rw [hU1] at s3 or1 o1
  rw [hU2] at s4 or1 o2
  have hor : bits .or .u64 (U1 : Int) (U2 : Int) = (u : Int) := by rw [bits_or_u64_nat _ _ o1 o2, or1]
  have hcv : bits .and .u64 (v : Int) 4294967295 = ((v % 4294967296 : Nat) : Int) := m_mask v D.vl
  have hcz : bits .and .u64 (Z : Int) 4294967295 = (n0 : Int) := by rw [m_mask Z hw10, hn0]
  have s2 : (v : Int) / 4294967296 = ((v / 4294967296 : Nat) : Int) := by simp
  have s6 : (Z : Int) / 4294967296 = (n1 : Int) := by rw [hn1]; simp
  have s7 : (R0 : Int) / 2 ^ min s 64 = ((N % y : Nat) : Int) := by rw [wsr R0 s (by omega), D.m]
  have k1 := D.k1
  have k2 := D.k2
  have hq := D.q
  have hul := D.ul
  have hrl := D.rl
  have hvl := D.vl
  obtain ⟨X1, X2, X3, F1, F3, F4, F5, t1, t2⟩ := t_of D
  rw [← hq] at t2
  obtain ⟨a, ha⟩ : ∃ a, v / 4294967296 = a := ⟨_, rfl⟩
  obtain ⟨c, hc⟩ : ∃ a, v % 4294967296 = a := ⟨_, rfl⟩
  rw [ha] at s2 k1 k2
  rw [hc] at hcv k1 k2
  obtain ⟨Nq, hNq⟩ : ∃ a, N / y = a := ⟨_, rfl⟩
  obtain ⟨Nm, hNm⟩ : ∃ a, N % y = a := ⟨_, rfl⟩
  rw [hNq] at t2
  rw [hNm] at s7
  rw [hNq, hNm, hHe, hLoe]
  have ha0 : 0 < a := by have := k1.a0; omega
  obtain ⟨Y1, p1, p2, p3⟩ := div_first (u := u) ha0 (by omega)
  obtain ⟨Y2, p4, p5, p6⟩ := div_first (u := R) ha0 (by omega)
  have i1 := k1.init
  have i2 := k2.init
  obtain ⟨q1, hq1⟩ : ∃ x, u / a = x := ⟨_, rfl⟩
  obtain ⟨r1, hr1⟩ : ∃ x, u % a = x := ⟨_, rfl⟩
  obtain ⟨q2, hq2⟩ : ∃ x, R / a = x := ⟨_, rfl⟩
  obtain ⟨r2, hr2⟩ : ∃ x, R % a = x := ⟨_, rfl⟩
  rw [hq1, hr1] at i1
  rw [hq2, hr2] at i2
  rw [hq1] at p1 p2
  rw [hr1] at p3
  rw [hq2] at p4 p5
  rw [hr2] at p6
  have K1 := Lib.hid k1
  have K2 := Lib.hid k2
  have TT1 := Lib.hid t1
  have TT2 := Lib.hid t2
  have I1 := Lib.hid i1
  have I2 := Lib.hid i2
  have P4 := Lib.hid (And.intro p4 (And.intro p5 p6))
  have HK := Lib.hid KL
  have z1 : ((y : Int) == 0) = false := by rw [beq_eq_false_iff_ne]; omega
  have z2 : ¬ (y : Int) ≤ H := by omega
  have z3 : ((H : Int) == 0) = false := by rw [beq_eq_false_iff_ne]; omega
  have z4 : (a : Int) ≠ 0 := by omega
  have z5 : ((a : Int) == 0) = false := by rw [beq_eq_false_iff_ne]; omega
  have z6 : (0 : Int) < a := by omega
  have wt : IntKind.u64.wrap (64 - (s : Int)) = t := by rw [IntKind.wrap_u64]; omega
  have ws : IntKind.u64.wrap (s : Int) = s := by rw [IntKind.wrap_u64]; omega
  have s8 : (R0 : Int) / 2 ^ s = (Nm : Int) := by rw [← s7, Nat.min_eq_left (by omega)]
  have p1' : (u : Int).tdiv a = (u : Int) / a := Int.tdiv_eq_ediv_of_nonneg (by omega)
  clear wsh wsr k1 k2 t1 t2 i1 i2 p4 p5 p6 KL hq1 hr1 hq2 hr2 hq hul hrl hvl ha hc hNq hNm hU1 hU2 hZ hHe hLoe hH hH0 or1 o1 o2 hw10 hLo un1 hHs D hv hu hn1 hn0 hs0 hs1 b1 b2 b3 b4 hL hs ht hN hb hy y0
  go_enter Try.func64, Try.ntmps64
  go_wp2_with (first | (go_at_call 65; (with_reducible refine (HK.out _).mono ?_); rintro e w1 ⟨rfl, rfl⟩) | fail)
  go_loop [15, 16] (fun q r => ∃ q' r' : Nat, q = .int .u64 q' ∧ r = .int .u64 r' ∧ Hid (KnI a u Q1 q' r')) (fun q _ => (intOf q).toNat)
  case atStart => exact ⟨q1, r1, rfl, rfl, I1⟩
  case round =>
    obtain ⟨q, r, rfl, rfl, HI⟩ := hrel
    obtain ⟨P, G1, G2, g1, g2, g3, hc⟩ := kn_cases K1.out HI.out
    clear p1 p2 p3 p1'
    rcases hc with ⟨c1, c2, hqe0⟩ | ⟨q', r', hq', hr', hlt, hc1, hc2⟩
    rotate_left
    · rcases hc1 with c1 | ⟨c1, c2⟩ <;> rcases hc2 with ⟨d1, hqe⟩ | ⟨d1, d2⟩
      rotate_left
      · have D2 := Lib.hid d2
        clear d2
        go_wp2_with fail
        go_round
        case rel => exact ⟨q', r', rfl, rfl, D2⟩
        case measure => simp [intOf]; omega
      rotate_left
      · have D2 := Lib.hid d2
        clear d2
        go_wp2_with fail
        go_round
        case rel => exact ⟨q', r', rfl, rfl, D2⟩
        case measure => simp [intOf]; omega
      all_goals
        obtain ⟨e1, e2, e3, e4, f1⟩ := TT1.out
        obtain ⟨p4, p5, p6⟩ := P4.out
        have p4' : (R : Int).tdiv a = (R : Int) / a := Int.tdiv_eq_ediv_of_nonneg (by omega)
        clear K1 TT1 I1 P4 HI
        go_wp2_with fail
        clear e1 e2 e3 e4 p4 p5 p6 p4'
        go_loop [18, 16] (fun q r => ∃ q' r' : Nat, q = .int .u64 q' ∧ r = .int .u64 r' ∧ Hid (KnI a R Q0 q' r')) (fun q _ => (intOf q).toNat)
        case atStart => exact ⟨q2, r2, rfl, rfl, I2⟩
        case round =>
          obtain ⟨qq, rr, rfl, rfl, HI⟩ := hrel
          obtain ⟨P', G3, G4, g4, g5, g6, hc⟩ := kn_cases K2.out HI.out
          rcases hc with ⟨c3, c4, hqf0⟩ | ⟨q3, r3, hq3, hr3, hlt3, hc3, hc4⟩
          · rw [← hqf0] at TT2
            clear hqf0
            obtain ⟨f2, f3, f4, f5, f6⟩ := TT2.out
            clear TT2 HI K2 I2
            go_wp2_with fail
            go_ret2
            exact ⟨rfl, Below.refl _ _⟩
          · rcases hc3 with c3 | ⟨c3, c4⟩ <;> rcases hc4 with ⟨d3, hqf⟩ | ⟨d3, d4⟩
            · skip
              obtain ⟨f2, f3, f4, f5, f6⟩ := TT2.out
              clear TT2 HI K2 I2
              go_wp2_with fail
              go_ret2
              exact ⟨rfl, Below.refl _ _⟩
            · have D4 := Lib.hid d4
              clear d4
              go_wp2_with fail
              go_round
              case rel => exact ⟨q3, r3, rfl, rfl, D4⟩
              case measure => simp [intOf]; omega
            · skip
              obtain ⟨f2, f3, f4, f5, f6⟩ := TT2.out
              clear TT2 HI K2 I2
              go_wp2_with fail
              go_ret2
              exact ⟨rfl, Below.refl _ _⟩
            · have D4 := Lib.hid d4
              clear d4
              go_wp2_with fail
              go_round
              case rel => exact ⟨q3, r3, rfl, rfl, D4⟩
              case measure => simp [intOf]; omega
    · rw [← hqe0] at TT1
      clear hqe0
      obtain ⟨e1, e2, e3, e4, f1⟩ := TT1.out
      obtain ⟨p4, p5, p6⟩ := P4.out
      have p4' : (R : Int).tdiv a = (R : Int) / a := Int.tdiv_eq_ediv_of_nonneg (by omega)
      clear K1 TT1 I1 P4 HI
      go_wp2_with fail
      clear e1 e2 e3 e4 p4 p5 p6 p4'
      go_loop [18, 16] (fun q r => ∃ q' r' : Nat, q = .int .u64 q' ∧ r = .int .u64 r' ∧ Hid (KnI a R Q0 q' r')) (fun q _ => (intOf q).toNat)
      case atStart => exact ⟨q2, r2, rfl, rfl, I2⟩
      case round =>
        obtain ⟨qq, rr, rfl, rfl, HI⟩ := hrel
        obtain ⟨P', G3, G4, g4, g5, g6, hc⟩ := kn_cases K2.out HI.out
        rcases hc with ⟨c3, c4, hqf0⟩ | ⟨q3, r3, hq3, hr3, hlt3, hc3, hc4⟩
        · rw [← hqf0] at TT2
          clear hqf0
          obtain ⟨f2, f3, f4, f5, f6⟩ := TT2.out
          clear TT2 HI K2 I2
          go_wp2_with fail
          go_ret2
          exact ⟨rfl, Below.refl _ _⟩
        · rcases hc3 with c3 | ⟨c3, c4⟩ <;> rcases hc4 with ⟨d3, hqf⟩ | ⟨d3, d4⟩
          · skip
            obtain ⟨f2, f3, f4, f5, f6⟩ := TT2.out
            clear TT2 HI K2 I2
            go_wp2_with fail
            go_ret2
            exact ⟨rfl, Below.refl _ _⟩
          · have D4 := Lib.hid d4
            clear d4
            go_wp2_with fail
            go_round
            case rel => exact ⟨q3, r3, rfl, rfl, D4⟩
            case measure => simp [intOf]; omega
          · skip
            obtain ⟨f2, f3, f4, f5, f6⟩ := TT2.out
            clear TT2 HI K2 I2
            go_wp2_with fail
            go_ret2
            exact ⟨rfl, Below.refl _ _⟩
          · have D4 := Lib.hid d4
            clear d4
            go_wp2_with fail
            go_round
            case rel => exact ⟨q3, r3, rfl, rfl, D4⟩
            case measure => simp [intOf]; omega
end Go.Proofs.Ytoofjkhigonppaa

namespace Go.Proofs.Ytoofjkhigonppaa

theorem by8_n (x : Int) : ((by8 x).toNat : Int) = x % 256 := by
  unfold by8
  rw [UInt8.toNat_ofNat_of_lt' (by show (x % 256).toNat < 256; omega)]
  omega
theorem drop_len {bs a t : List UInt8} {p : Nat} (h : bs.drop p = a ++ t) (h0 : 0 < a.length) : p + a.length + t.length = bs.length := by
  have := congrArg List.length h
  rw [List.length_drop, List.length_append] at this
  omega
theorem drop_app {bs a t : List UInt8} {p : Nat} (h : bs.drop p = a ++ t) : bs.drop (p + a.length) = t := by
  rw [← List.drop_drop, h, List.drop_left]
theorem get_first {bs t : List UInt8} {p : Nat} {c : UInt8} (h : bs.drop p = c :: t) : bs[p]? = some c := by
  have := congrArg (fun l => l[0]?) h
  simp only [List.getElem?_drop, Nat.add_zero, List.getElem?_cons_zero] at this
  exact this
theorem drop_tail {bs t : List UInt8} {p : Nat} {c : UInt8} (h : bs.drop p = c :: t) : bs.drop (p + 1) = t := by
  rw [← List.drop_drop, h]; rfl
/-- An operand that was put. -/
theorem op_put {bs t : List UInt8} {p : Nat} {x : Int} (x0 : -2147483648 ≤ x) (x1 : x < 2147483648) (h : bs.drop p = numS x ++ t) :
    ∃ b : UInt8, bs[p]? = some b ∧ 21 < b.toNat ∧ opS bs (p + 1) b.toNat = some (x * 65536, p + (numS x).length) := by
  have hl : 0 < (numS x).length := by unfold numS; split; simp; split; simp; split; simp; split <;> simp
  have hlen := drop_len h hl
  unfold numS at h hlen ⊢
  have num : ∀ (n : Nat) (u : List UInt8), u.length = n → (∃ r, bs.drop (p + 1) = u ++ r) → p + 1 + n ≤ bs.length → numF bs (p + 1, false) n = numB u ∧ advF bs (p + 1, false) n = (p + 1 + n, false) := by
    intro n u hu ⟨r, hr⟩ hb
    refine ⟨?_, advF_ok hb⟩
    rw [numF_ok hb, hr, ← hu, List.take_left]
  split at h
  · rename_i c1
    rw [if_pos c1]
    have hb := by8_n (x + 139)
    refine ⟨_, get_first h, by omega, ?_⟩
    have hw : wholeV bs (p + 1) (by8 (x + 139)).toNat = some (((by8 (x + 139)).toNat : Int) - 139, (p + 1, false)) := by
      unfold wholeV
      rw [if_neg (by omega), if_neg (by omega), if_neg (by omega), if_neg (by omega), if_pos (by omega)]
    unfold opS
    rw [if_neg (by omega), hw]
    simp only [List.length_cons, List.length_nil, Nat.zero_add]
    rw [show ((by8 (x + 139)).toNat : Int) - 139 = x by omega]
  rename_i c1
  rw [if_neg c1] at hlen ⊢
  split at h
  · rename_i c2
    rw [if_pos c2] at hlen ⊢
    have hb := by8_n ((-x - 108) / 256 + 251)
    have hd := by8_n (-x - 108)
    obtain ⟨n1, n2⟩ := num 1 [by8 (-x - 108)] rfl ⟨t, drop_tail h⟩ (by simp at hlen; omega)
    refine ⟨_, get_first h, by omega, ?_⟩
    have hw : wholeV bs (p + 1) (by8 ((-x - 108) / 256 + 251)).toNat = some (x, (p + 1 + 1, false)) := by
      unfold wholeV
      rw [if_neg (by omega), if_neg (by omega), if_pos (by omega), n1, n2]
      simp only [numB, List.foldl_cons, List.foldl_nil]
      congr 2
      omega
    unfold opS
    rw [if_neg (by omega), hw]
    rfl
  rename_i c2
  rw [if_neg c2] at hlen ⊢
  split at h
  · rename_i c3
    rw [if_pos c3] at hlen ⊢
    have hb := by8_n ((x - 108) / 256 + 247)
    have hd := by8_n (x - 108)
    obtain ⟨n1, n2⟩ := num 1 [by8 (x - 108)] rfl ⟨t, drop_tail h⟩ (by simp at hlen; omega)
    refine ⟨_, get_first h, by omega, ?_⟩
    have hw : wholeV bs (p + 1) (by8 ((x - 108) / 256 + 247)).toNat = some (x, (p + 1 + 1, false)) := by
      unfold wholeV
      rw [if_neg (by omega), if_neg (by omega), if_neg (by omega), if_pos (by omega), n1, n2]
      simp only [numB, List.foldl_cons, List.foldl_nil]
      congr 2
      omega
    unfold opS
    rw [if_neg (by omega), hw]
    rfl
  rename_i c3
  rw [if_neg c3] at hlen ⊢
  split at h
  · rename_i c4
    rw [if_pos c4] at hlen ⊢
    have h1 := by8_n (x / 256)
    have h2 := by8_n x
    obtain ⟨n1, n2⟩ := num 2 [by8 (x / 256), by8 x] rfl ⟨t, drop_tail h⟩ (by simp at hlen; omega)
    refine ⟨_, get_first h, by decide, ?_⟩
    have hw : wholeV bs (p + 1) (28 : UInt8).toNat = some (x, (p + 1 + 2, false)) := by
      unfold wholeV
      rw [if_pos (by decide), n1, n2]
      simp only [numB, List.foldl_cons, List.foldl_nil]
      congr 2
      unfold sgn16
      split <;> omega
    unfold opS
    rw [if_neg (by decide), hw]
    rfl
  · rename_i c4
    rw [if_neg c4] at hlen ⊢
    have h1 := by8_n (x / 16777216)
    have h2 := by8_n (x / 65536)
    have h3 := by8_n (x / 256)
    have h4 := by8_n x
    obtain ⟨n1, n2⟩ := num 4 [by8 (x / 16777216), by8 (x / 65536), by8 (x / 256), by8 x] rfl ⟨t, drop_tail h⟩ (by simp at hlen; omega)
    refine ⟨_, get_first h, by decide, ?_⟩
    have hw : wholeV bs (p + 1) (29 : UInt8).toNat = some (x, (p + 1 + 4, false)) := by
      unfold wholeV
      rw [if_neg (by decide), if_pos (by decide), n1, n2]
      simp only [numB, List.foldl_cons, List.foldl_nil]
      congr 2
      unfold sgn32
      split <;> omega
    unfold opS
    rw [if_neg (by decide), hw]
    rfl
theorem numS_pos (x : Int) : 0 < (numS x).length := by unfold numS; split; simp; split; simp; split; simp; split <;> simp
/-- The operands of an entry. -/
theorem parse_args {bs : List UInt8} {l : List (Int × List Int)} : ∀ (xs : List Int) (t : List UInt8) (n p : Nat) (args : List Int), bs.drop p = xs.flatMap num5 ++ t → bs.length - p ≤ n → 0 < t.length → args.length + xs.length ≤ 48 → (∀ x ∈ xs, wholeB x = true) →
    ∃ n' p', parseA bs n p args l = parseA bs n' p' (args ++ xs) l ∧ bs.drop p' = t ∧ bs.length - p' ≤ n'
  | [], t, n, p, args, h, hn, _, _, _ => ⟨n, p, by simp, by simpa using h, hn⟩
  | x :: xs, t, n, p, args, h, hn, ht, h48, hw => by
    have hwx := hw x (by simp)
    unfold wholeB at hwx
    simp only [decide_eq_true_eq] at hwx
    obtain ⟨w1, w2, w3⟩ := hwx
    rw [List.flatMap_cons, List.append_assoc] at h
    obtain ⟨b, hb, h21, ho⟩ := op_put (x := x / 65536) w2 w3 h
    have hlen := drop_len h (numS_pos _)
    have hpos := numS_pos (x / 65536)
    unfold num5 at hlen
    rw [List.length_cons] at h48
    obtain ⟨m, rfl⟩ : ∃ m, n = m + 1 := ⟨n - 1, by omega⟩
    rw [parse_arg hb h21, ho]
    dsimp only
    rw [if_neg (by omega), show x / 65536 * 65536 = x by omega]
    obtain ⟨n', p', e1, e2, e3⟩ := parse_args xs t m (p + (numS (x / 65536)).length) (args ++ [x]) (drop_app h) (by omega) ht (by rw [List.length_append, List.length_singleton]; omega) (fun y hy => hw y (by simp [hy]))
    exact ⟨n', p', by rw [e1, List.append_assoc]; rfl, e2, e3⟩
theorem parse_puts {bs : List UInt8} : ∀ (ls : List (Int × List Int)) (n p : Nat) (l : List (Int × List Int)), bs.drop p = putS ls → bs.length - p ≤ n → ls.all mayB = true → parseA bs n p [] l = some (l ++ ls)
  | [], n, p, l, h, _, _ => by
    have hp : bs.length ≤ p := by
      have := congrArg List.length h
      rw [List.length_drop] at this
      simp [putS] at this
      omega
    rw [parse_end hp, if_pos rfl, List.append_nil]
  | v :: ls, n, p, l, h, hn, hall => by
    obtain ⟨op, xs⟩ := v
    rw [List.all_cons, Bool.and_eq_true] at hall
    obtain ⟨hv, hall⟩ := hall
    unfold mayB at hv
    simp only [Bool.and_eq_true, decide_eq_true_eq] at hv
    obtain ⟨⟨ho, h48⟩, hw⟩ := hv
    have hput : putS ((op, xs) :: ls) = xs.flatMap num5 ++ ((if 3072 ≤ op then [12] else []) ++ ([by8 op] ++ putS ls)) := by
      unfold putS
      rw [List.flatMap_cons]
      unfold entS
      simp only [List.append_assoc]
    rw [hput] at h
    obtain ⟨n', p', e1, e2, e3⟩ := parse_args (l := l) xs _ n p [] h hn (by rw [List.length_append, List.length_append, List.length_singleton]; omega) (by simpa using h48) (List.all_eq_true.1 hw)
    rw [e1, List.nil_append]
    have hb := by8_n op
    unfold isOpB at ho
    simp only [decide_eq_true_eq] at ho
    by_cases hop : 3072 ≤ op
    · rw [if_pos hop] at e2
      have e2' : bs.drop p' = 12 :: by8 op :: putS ls := e2
      have hlen := congrArg List.length e2'
      rw [List.length_drop, List.length_cons, List.length_cons] at hlen
      obtain ⟨m, rfl⟩ : ∃ m, n' = m + 1 := ⟨n' - 1, by omega⟩
      have d1 := drop_tail e2'
      rw [parse_esc (get_first e2') rfl, get_first d1]
      dsimp only
      rw [parse_puts ls m (p' + 2) _ (drop_tail d1) (by omega) hall, List.append_assoc, show (3072 : Int) + (by8 op).toNat = op by omega]
      rfl
    · rw [if_neg hop] at e2
      have e2' : bs.drop p' = by8 op :: putS ls := e2
      have hlen := congrArg List.length e2'
      rw [List.length_drop, List.length_cons] at hlen
      obtain ⟨m, rfl⟩ : ∃ m, n' = m + 1 := ⟨n' - 1, by omega⟩
      rw [parse_op (get_first e2') (by omega) (by omega), parse_puts ls m (p' + 1) _ (drop_tail e2') (by omega) hall, List.append_assoc, show ((by8 op).toNat : Int) = op by omega]
      rfl
theorem parse_put {ls : List (Int × List Int)} (h : ls.all mayB = true) : parseS (putS ls) = some ls := by
  unfold parseS
  rw [parse_puts (bs := putS ls) ls _ 0 [] rfl (by omega) h, List.nil_append]
end Go.Proofs.Ytoofjkhigonppaa

namespace Go.Proofs.Ytoofjkhigonppaa
open Go.RowKit

theorem div_any {N y : Nat} (h0 : 0 < y) (hy : y < 18446744073709551616) (hN : N < y * 18446744073709551616) : DivOk N y := by
  rcases Nat.lt_or_ge N 18446744073709551616 with h | h
  · exact div_small h hy h0
  · exact div64_big hN h hy
theorem divL_any (f : Fl) : DivL f := fun _ k hk hc => by
  have hp := pow17 hk
  have hp0 : 0 < 10 ^ k := Nat.pow_pos (by omega)
  exact div_any hp0 (by omega) (by omega)
theorem divP_any (bs : List UInt8) : DivP bs := fun _ _ _ _ _ => divL_any _
theorem putS_len : ∀ ls : List (Int × List Int), ls.all mayB = true → (putS ls).length ≤ 242 * ls.length
  | [], _ => by simp [putS]
  | v :: ls, h => by
    rw [List.all_cons, Bool.and_eq_true] at h
    have ih := putS_len ls h.2
    have hv := h.1
    unfold mayB at hv
    simp only [Bool.and_eq_true, decide_eq_true_eq] at hv
    have := entS_len v hv.1.2
    have e : putS (v :: ls) = entS v ++ putS ls := by unfold putS; rw [List.flatMap_cons]
    rw [e, List.length_append, List.length_cons]
    omega
theorem parse_back {w : World} {ls : List (Int × List Int)} {bs : List UInt8} {A : Option Addr} {c n : Nat} (hp : parseS bs = some ls) (hl : ls.length = n) (hb : bs.length ≤ 1000000) (h : Bs w A bs c) :
    Calls Try.prog 9 #[.slice A bs.length c] w fun e w' => ∃ A' c' es', e = .returned (.tuple #[.slice A' n c', .int .i64 0]) ∧ es'.map enV = ls ∧ EnL w' A' n es' ∧ Below w.heap.size w w' :=
  (parse_any h.sl h.cap hb h.row (divP_any bs)).mono fun e w' hr => by
    unfold ParseR at hr
    rw [hp] at hr
    obtain ⟨⟨A', k, c', es', rfl, he, hE⟩, hbl⟩ := hr
    have hk : es'.length = k := by have := hE.rows.len; simpa using this
    have : k = n := by rw [← hk, ← hl, ← he, List.length_map]
    subst this
    exact ⟨A', c', es', rfl, he, hE, hbl⟩
set_option maxRecDepth 20000 in
set_option maxHeartbeats 8000000 in
theorem dictBack_any {w : World} {A : Option Addr} {n c : Nat} {es : List En} (op other : Int) (h : EnL w A n es) (hi : EnIn es) (hn : n ≤ 4398046511104) :
    Calls Try.prog 5 #[.slice A n c, .int .i64 op, .int .i64 other] w fun e w' => e = .returned (.bool true) ∧ Below w.heap.size w w' := by
  have hl : es.length = n := by have := h.rows.len; simpa using this
  have H := Lib.hid h
  have HI := Lib.hid hi
  have HN := Lib.hid hn
  have HLA := Lib.hid (large_any (c := c) h hn)
  clear h hi
  have hbig : (Calls Try.prog 13 #[.slice A n c] w fun e w' => (e = .returned (.bool true) ∨ (e = .returned (.bool false) ∧ es.length ≤ 200)) ∧ w = w') := HLA.out.mono fun e w' ⟨⟨b, h1, h2⟩, h3⟩ => ⟨by cases b; exact .inr ⟨h1, h2 rfl⟩; exact .inl h1, h3⟩
  have HBIG := Lib.hid hbig
  clear hbig HLA
  by_cases h200 : es.length ≤ 200
  · have hn2 : n ≤ 200 := by omega
    have HP := fun c => Lib.hid (put_any (c := c) H.out HI.out hn2)
    cases hall : (es.map enV).all mayB
    case false =>
      have KP : ∀ c, Calls Try.prog 14 #[.slice A n c] w fun e w' => e = .returned (.tuple #[.slice none 0 0, .int .i64 1]) ∧ Below w.heap.size w w' := fun c => (HP c).out.mono fun e w' h => by unfold PutR at h; rw [hall] at h; exact h
      have HKP := Lib.hid KP
      clear KP HP hall h200 hn2 hl
      have HZ := Lib.hid (Below.refl w.heap.size w)
      go_enter Try.func5, Try.ntmps5
      go_wp2_with (first
        | (go_at_call 13; (with_reducible refine HBIG.out.mono ?_); rintro e w1 ⟨rfl | ⟨rfl, hsm⟩, rfl⟩)
        | (go_at_call 14; (with_reducible refine (HKP.out _).mono ?_); rintro e w2 ⟨rfl, hb2⟩; replace HZ := Lib.hid hb2; clear hb2)
        | (go_at_call 8; (with_reducible refine (lives15_any _).mono ?_); rintro e w3 ⟨rfl, hb3⟩; have hz := HZ.out.trans (hb3.mono HZ.out.size); replace HZ := Lib.hid hz; clear hb3 hz)
        | fail)
      all_goals
        go_ret
        exact ⟨rfl, HZ.out⟩
    case true =>
      have KP : ∀ c, Calls Try.prog 14 #[.slice A n c] w fun e w' => (∃ A c, e = .returned (.tuple #[.slice A (putS (es.map enV)).length c, .int .i64 0]) ∧ Bs w' A (putS (es.map enV)) c) ∧ Below w.heap.size w w' := fun c => (HP c).out.mono fun e w' h => by unfold PutR at h; rw [if_pos hall] at h; exact h
      have hps := parse_put hall
      have hlen := putS_len _ hall
      rw [List.length_map] at hlen
      have KG := fun w' (hb : Below w.heap.size w w') => gets_any (c := c) op other (H.out.keep hb) HI.out HN.out
      have KA := fun (w' : World) (A : Option Addr) (c : Nat) (hb : Bs w' A (putS (es.map enV)) c) => parse_back (n := n) hps (by rw [List.length_map]; exact hl) (by omega) hb
      generalize putS (es.map enV) = bs at *
      have HKP := Lib.hid KP
      have HKG := Lib.hid KG
      have HKA := Lib.hid KA
      clear KP KG KA HP hall h200 hn2 hl hps hlen
      have HZ := Lib.hid (Below.refl w.heap.size w)
      go_enter Try.func5, Try.ntmps5
      go_wp2_with (first
        | (go_at_call 13; (with_reducible refine HBIG.out.mono ?_); rintro e w1 ⟨rfl | ⟨rfl, hsm⟩, rfl⟩)
        | (go_at_call 14; (with_reducible refine (HKP.out _).mono ?_); rintro e w2 ⟨⟨A2, c2, rfl, hs2⟩, hb2⟩; replace HZ := Lib.hid hb2; have HS2 := Lib.hid hs2; clear hb2 hs2)
        | (go_at_call 8; (with_reducible refine (lives15_any _).mono ?_); rintro e w3 ⟨rfl, hb3⟩; have hz := HZ.out.trans (hb3.mono HZ.out.size); replace HZ := Lib.hid hz; first | (have hs3 := HS2.out.keep hb3; replace HS2 := Lib.hid hs3; clear hs3) | skip
           clear hb3 hz)
        | (go_at_call 9; (with_reducible refine (HKA.out _ _ _ HS2.out).mono ?_); rintro e w4 ⟨A4, c4, es4, rfl, he4, hl4, hb4⟩; have HE4 := Lib.hid he4; have HL4 := Lib.hid hl4; have hz := HZ.out.trans (hb4.mono HZ.out.size); replace HZ := Lib.hid hz; clear hb4 hz hl4 he4)
        | (go_at_call 11; (with_reducible refine (same_any HL4.out (H.out.keep HZ.out) HE4.out HN.out).mono ?_); rintro e w5 ⟨rfl, hb5⟩; have hz := HZ.out.trans (hb5.mono HZ.out.size); replace HZ := Lib.hid hz; clear hb5 hz)
        | (go_at_call 12; (with_reducible refine (HKG.out _ HZ.out).mono ?_); rintro e w6 ⟨rfl, hb6⟩; have hz := HZ.out.trans (hb6.mono HZ.out.size); replace HZ := Lib.hid hz; clear hb6 hz)
        | fail)
      all_goals
        go_ret
        exact ⟨rfl, HZ.out⟩
  · have HB2 := Lib.hid h200
    have hb2 : Calls Try.prog 13 #[.slice A n c] w fun e w' => e = .returned (.bool true) ∧ w = w' := HBIG.out.mono fun e w' ⟨h1, h2⟩ => ⟨by rcases h1 with h1 | ⟨h1, h3⟩; exact h1; exact absurd h3 h200, h2⟩
    have HB3 := Lib.hid hb2
    clear hb2 HBIG h200
    go_enter Try.func5, Try.ntmps5
    go_wp2_with (first
      | (go_at_call 13; (with_reducible refine (HB3.out).mono ?_); rintro e w1 ⟨rfl, rfl⟩)
      | (go_at_call 8; (with_reducible refine (lives15_any _).mono ?_); rintro e w3 ⟨rfl, hb3⟩)
      | fail)
    go_ret
    exact ⟨rfl, hb3⟩
end Go.Proofs.Ytoofjkhigonppaa

namespace Go.Proofs.Ytoofjkhigonppaa
open Go.ChangeShapes Go.WideShapes Go.ChangeAt Go.RowKit

theorem bounds_in {n : Int} (h : (Lit.int .i64 n).wf = true) : -9223372036854775808 ≤ n ∧ n ≤ 9223372036854775807 := by
  have := bounds_i64 h
  omega
theorem ints_in {w : World} {v : Value} (h : CellOk w (.sl 8 [.int .i64]) v) : ∃ (A : Option Addr) (xs : List Int) (c : Nat), v = .slice A xs.length c ∧ SlAt w A xs.length (xs.map (Value.int .i64)) ∧ InI xs ∧ xs.length ≤ 17592186044416 := by
  simp only [CellOk] at h
  obtain ⟨A, n, c, rfl, h1, h2, h3, h4⟩ := h
  have key : ∀ i, i < n → ∃ u : Int, (-9223372036854775808 ≤ u ∧ u ≤ 9223372036854775807) ∧ ∃ (b : Nat) (o : Nat), A = some ⟨b, o, none⟩ ∧ b < w.heap.size ∧ w.cell? ⟨b, o + i, none⟩ = some (.int .i64 u) := by
    intro i hi
    obtain ⟨b, o, hA, hb, hc⟩ := h4 i hi
    simp only [CellsOk, CellOk, List.length_cons, List.length_nil, Nat.zero_add, Nat.mul_one, Nat.add_zero, and_true] at hc
    obtain ⟨v, hv, n, rfl, hw⟩ := hc
    exact ⟨n, bounds_in hw, b, o, hA, hb, hv⟩
  obtain ⟨xs, hl, hp⟩ := list_of n key
  subst hl
  refine ⟨A, xs, c, rfl, ⟨by simp, fun k hk => ?_⟩, fun x hx => ?_, by omega⟩
  · obtain ⟨-, b, o, hA, hb, hc⟩ := hp k _ (List.getElem?_eq_getElem hk)
    exact ⟨b, o, hA, hb, by rw [hc, List.getElem?_map, List.getElem?_eq_getElem hk]; rfl⟩
  · obtain ⟨k, hk⟩ := List.getElem?_of_mem hx
    exact (hp k x hk).1
theorem ents_of {w : World} {A : Option Addr} {n : Nat} (h : ∀ i, i < n → ∃ b o, A = some ⟨b, o, none⟩ ∧ b < w.heap.size ∧ CellsOk w [.int .i64, .sl 8 [.int .i64]] (fun j => w.cell? ⟨b, o + (i * [CK.int .i64, .sl 8 [.int .i64]].length + j), none⟩)) :
    ∃ es : List En, EnL w A n es ∧ EnIn es := by
  have key : ∀ i, i < n → ∃ v : En, ((-9223372036854775808 ≤ v.op ∧ v.op ≤ 9223372036854775807) ∧ InI v.xs ∧ v.xs.length ≤ 17592186044416 ∧ SlAt w v.A v.xs.length (v.xs.map (Value.int .i64))) ∧ ∃ (b : Nat) (o : Nat), A = some ⟨b, o, none⟩ ∧ b < w.heap.size ∧ w.cell? ⟨b, o + i * 2, none⟩ = some (.int .i64 v.op) ∧ w.cell? ⟨b, o + i * 2 + 1, none⟩ = some (.slice v.A v.xs.length v.c) := by
    intro i hi
    obtain ⟨b, o, hA, hb, hc⟩ := h i hi
    simp only [CellsOk, and_true] at hc
    obtain ⟨⟨v, hv, hk⟩, v2, hv2, hk2⟩ := hc
    simp only [CellOk] at hk
    obtain ⟨op, rfl, hop⟩ := hk
    obtain ⟨A2, xs, c2, rfl, hs, hin, hlen⟩ := ints_in hk2
    exact ⟨⟨op, A2, c2, xs⟩, ⟨bounds_in hop, hin, hlen, hs⟩, b, o, hA, hb, hv, hv2⟩
  obtain ⟨es, hl, hp⟩ := list_of n key
  refine ⟨es, ⟨?_, fun v hv => ?_, fun v hv => ?_⟩, fun v hv => ?_⟩
  · refine ⟨by simp [hl], fun i r hr => ?_⟩
    rw [List.getElem?_map] at hr
    obtain ⟨v, hv, rfl⟩ := Option.map_eq_some_iff.1 hr
    obtain ⟨-, b, o, hA, hb, h0, h1⟩ := hp i v hv
    refine ⟨rfl, b, o, hA, hb, fun j u hu => ?_⟩
    match j, hu with
    | 0, hu => simp only [enC, List.getElem?_cons_zero, Option.some.injEq] at hu; subst hu; exact h0
    | 1, hu => simp only [enC, List.getElem?_cons_succ, List.getElem?_cons_zero, Option.some.injEq] at hu; subst hu; exact h1
    | k + 2, hu => simp [enC] at hu
  · obtain ⟨k, hk⟩ := List.getElem?_of_mem hv
    exact (hp k v hk).1.2.2.2
  · obtain ⟨k, hk⟩ := List.getElem?_of_mem hv
    exact (hp k v hk).1.2.2.1
  · obtain ⟨k, hk⟩ := List.getElem?_of_mem hv
    exact ⟨(hp k v hk).1.1, (hp k v hk).1.2.1⟩
end Go.Proofs.Ytoofjkhigonppaa

namespace Go.Proofs.Ytoofjkhigonppaa
open Go.ChangeShapes Go.WideShapes Go.ChangeAt Go.RowKit

set_option maxRecDepth 100000 in
theorem dictBack_lifted (os : Os) (started : os.Started) (H : Type) (enc : TypeId × Value → H) :
    ReturnsInHanded {} Try.checked os 5 .any (Rows.dictBackSpec.pre6 enc Try.prog Try.f5 Rows.dictBackRow.domain false) (Rows.dictBackSpec.post enc Try.prog Try.f5 false true false false) := by
  refine returnsInHanded_of_change_sized (C := Try.checked) own_none started (by kernel_rfl) Try.func5
    (ChangeSpec.witness6 (enc := enc) (C := Try.checked) false ⟨#[], #[.slice none 0 0, .int .i64 0, .int .i64 0], []⟩ 8 (by kernel_rfl) (by kernel_rfl) (by kernel_rfl) (by kernel_rfl)) ?_
  intro W base args ds gs before hval0 hW _ hwt _
  have hval : ∀ (j : Nat) t v, Try.f5.params[j]? = some t → args[j]? = some v → Value.okWide Try.prog W .any base t v := hval0
  have hW' := hW
  obtain ⟨p, q, hA0, _, _, _, _⟩ := hW
  have hA : DataW.TrodAll enc Try.prog W 0 (fun _ => true) true Try.f5.params.toList args.toList ds p := hA0
  rw [Try.params5] at hA hval
  obtain ⟨v0, v1, v2, d0, d1, d2, p0, p1, p2, rfl, rfl, rfl, h0, h1, h2⟩ := trodAll_three hA
  obtain ⟨A, n, c, rfl, k0, m0, r0, s0⟩ := open_sl (eb := 32) (ks := [.int .i64, .sl 8 [.int .i64]]) Try.underlying24 (by kernel_rfl) (hval 0 _ _ rfl rfl) h0 (reach_all (ts := [24, 3, 3]) (by kernel_rfl) hwt (j := 0) rfl rfl)
  obtain ⟨op, rfl, wop⟩ := open_num Try.underlying3 (hval 1 _ _ rfl rfl) h1
  have bop := bounds_i64 wop
  obtain ⟨other, rfl, wother⟩ := open_num Try.underlying3 (hval 2 _ _ rfl rfl) h2
  have bother := bounds_i64 wother
  clear hA0 hval0
  obtain ⟨es, hE, hI⟩ := ents_of s0
  refine (dictBack_any op other hE hI (by omega)).mono fun e W' ⟨he, hb⟩ => ?_
  subst he
  exact ⟨_, rfl, law_post_any laid_out Try.underlying4 hW' (by kernel_rfl) rfl rfl rfl hb⟩

theorem dictBack_holds : Rows.DictBackSaid :=
  OpenClaim.holds_of_wide 5 Try.f5 rfl rfl rfl rfl rfl rfl rfl ⟨rfl, rfl, rfl, rfl, rfl⟩ rfl rfl rfl rfl rfl (by kernel_rfl) Try.func5 (by kernel_rfl)
    (of_decide_eq_true (by kernel_rfl)) (by unfold Func.isWrapper; first | (rw [if_pos (by decide +kernel)]; kernel_rfl) | (rw [if_neg (by decide +kernel)]; exact ⟨rfl, rfl⟩))
    (fun os started H enc _ => dictBack_lifted os started H enc)

end Go.Proofs.Ytoofjkhigonppaa
