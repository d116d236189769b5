/-
  For all bytes and any two numbers DictParses answers true and leaves its arguments as they were. No conditions.
  Layer 15: DictParses.
  Layer 15, the document: Parse.
  Layer 15, the document: an operand.
  Layer 15, the document: the half bytes of a real number.
  Layer 15, the document: the value of half bytes: the walk.
  Layer 15, the document: the value of half bytes.
  Layer 15, the document: 65536 m 10^e, the nearest.
  math/bits.Div64.
  The quotient of a number of two words: plainly.
  Layer 15: gets: an operator's operands and its number are as they should be.
  Layer 15, the document: the same operands, the same entries, an operator's operands.
  Layer 15, the document: May, Put; large.
  Layer 15, the document: what may be put, a whole number.
-/
import Derived.Test.YtoofjkhigonppaaDcS
import Derived.Test.YtoofjkhigonppaaWireF
import Derived.Test.YtoofjkhigonppaaDcQ
import Derived.Test.YtoofjkhigonppaaLen
import Derived.Test.YtoofjkhigonppaaDcU
import Derived.Test.YtoofjkhigonppaaDcD
import Derived.Test.YtoofjkhigonppaaDcE
import Derived.Test.YtoofjkhigonppaaDcL
import Derived.Test.YtoofjkhigonppaaDcH
import Derived.Test.YtoofjkhigonppaaDcG
import Derived.Test.YtoofjkhigonppaaRefRd
import Derived.Test.YtoofjkhigonppaaDcI
import Derived.Test.YtoofjkhigonppaaOpn
import Derived.Test.YtoofjkhigonppaaBs
import Derived.Test.YtoofjkhigonppaaFrame
import Derived.Test.YtoofjkhigonppaaFlat
namespace Go.Proofs.Ytoofjkhigonppaa
open Go.RowKit

theorem rWhole_any (x : Int) (h0 : -9223372036854775808 ≤ x) (h1 : x ≤ 9223372036854775807) (w : World) : Calls Try.prog 33 #[.int .i64 x] w fun e w' => e = .returned (.bool (wholeB x)) ∧ w = w' := by
  have htd := tdm x
  have key : ((x.tmod 65536 == 0) = false ∧ wholeB x = false) ∨ ((x.tmod 65536 == 0) = true ∧ x.tdiv 65536 < -2147483648 ∧ wholeB x = false) ∨ ((x.tmod 65536 == 0) = true ∧ (-2147483648 ≤ x.tdiv 65536 ∧ x.tdiv 65536 < 2147483648) ∧ wholeB x = true) ∨ ((x.tmod 65536 == 0) = true ∧ ¬ x.tdiv 65536 < 2147483648 ∧ wholeB x = false) := by
    unfold wholeB
    simp only [beq_eq_false_iff_ne, beq_iff_eq, decide_eq_false_iff_not, decide_eq_true_eq, ne_eq]
    omega
  obtain ⟨q, hq⟩ : ∃ q, x.tdiv 65536 = q := ⟨_, rfl⟩
  obtain ⟨m, hm⟩ : ∃ m, x.tmod 65536 = m := ⟨_, rfl⟩
  have hqb : -140737488355328 ≤ q ∧ q ≤ 140737488355328 := by omega
  rw [hq, hm] at key
  have hw : wrap64 q = q := IntWalk.wrap64_in _ ⟨by omega, by omega⟩
  clear htd
  rcases key with ⟨h1, hv⟩ | ⟨h1, h2, hv⟩ | ⟨h1, ⟨h2, h3⟩, hv⟩ | ⟨h1, h2, hv⟩
  all_goals
    have HV := Lib.hid hv
    clear hv
    go_enter Try.func33, Try.ntmps33
    go_wp2_with fail
    go_ret
    exact ⟨by rw [HV.out]; rfl, rfl⟩
theorem beB2 (x : Int) : beB 2 x = [by8 (x / 256), by8 x] := by
  unfold beB byteAt by8
  simp [List.range_succ]
theorem beB4 (x : Int) : beB 4 x = [by8 (x / 16777216), by8 (x / 65536), by8 (x / 256), by8 x] := by
  unfold beB byteAt by8
  simp [List.range_succ]
theorem dby2 (w : World) (x : Int) : Calls Try.prog 50 #[.int .i64 2, .int .i64 x] w fun e w' => ∃ A', e = .returned (.slice A' 2 2) ∧ SlAt w' A' 2 ((beB 2 x).map byteV) ∧ Below w.heap.size w w' := bytes_W w 2 x (by omega) (by omega)
theorem dby4 (w : World) (x : Int) : Calls Try.prog 50 #[.int .i64 4, .int .i64 x] w fun e w' => ∃ A', e = .returned (.slice A' 4 4) ∧ SlAt w' A' 4 ((beB 4 x).map byteV) ∧ Below w.heap.size w w' := bytes_W w 4 x (by omega) (by omega)
theorem bs_ow {bs : List UInt8} {w w' : World} {A : Option Addr} {n c : Nat} {cs : List UInt8} (h : OwB w.heap.size w w' A n c cs) (hb : cs = bs) (hn : n ≤ 100) : BsR bs w (.returned (.slice A n c)) w' := by
  have hl := h.len
  subst hb hl
  exact ⟨_, _, rfl, (h.toBs (by omega)).sl, h.bel⟩
set_option maxRecDepth 20000 in
set_option maxHeartbeats 4000000 in
theorem dnumR_any (x : Int) (h0 : -2147483648 ≤ x) (h1 : x < 2147483648) (w : World) : Calls Try.prog 34 #[.int .i64 x] w (BsR (numS x) w) := by
  by_cases c1 : -107 ≤ x ∧ x ≤ 107
  · have hv : numS x = [by8 (x + 139)] := by unfold numS; rw [if_pos c1]
    obtain ⟨a1, a2⟩ := c1
    have HV := Lib.hid hv
    clear hv
    go_enter Try.func34, Try.ntmps34
    go_wp2_with fail
    go_ret
    rw [HV.out]
    exact bs_new (by simp [by8_V]; omega) rfl
  by_cases c2 : -1131 ≤ x ∧ x < 0
  · have hv : numS x = [by8 ((-x - 108) / 256 + 251), by8 (-x - 108)] := by unfold numS; rw [if_neg c1, if_pos c2]
    obtain ⟨a1, a2⟩ := c2
    have a3 : ¬ (-107 ≤ x) := by omega
    have a4 : ¬ (108 ≤ x) := by omega
    have a5 : x ≤ -108 := by omega
    have t1 : (-x - 108).tdiv 256 = (-x - 108) / 256 := Int.tdiv_eq_ediv_of_nonneg (by omega)
    have t2 : (-x - 108).tmod 256 = (-x - 108) % 256 := Int.tmod_eq_emod_of_nonneg (by omega)
    have HV := Lib.hid hv
    clear hv c1
    go_enter Try.func34, Try.ntmps34
    go_wp2_with fail
    go_ret
    rw [HV.out]
    refine bs_new ?_ rfl
    simp [by8_V]
    try omega
  by_cases c3 : 0 < x ∧ x ≤ 1131
  · have hv : numS x = [by8 ((x - 108) / 256 + 247), by8 (x - 108)] := by unfold numS; rw [if_neg c1, if_neg c2, if_pos c3]
    obtain ⟨a1, a2⟩ := c3
    have a3 : ¬ (x ≤ 107) := by omega
    have a4 : -107 ≤ x := by omega
    have a5 : 108 ≤ x := by omega
    have t1 : (x - 108).tdiv 256 = (x - 108) / 256 := Int.tdiv_eq_ediv_of_nonneg (by omega)
    have t2 : (x - 108).tmod 256 = (x - 108) % 256 := Int.tmod_eq_emod_of_nonneg (by omega)
    have HV := Lib.hid hv
    clear hv c1 c2
    go_enter Try.func34, Try.ntmps34
    go_wp2_with fail
    go_ret
    rw [HV.out]
    refine bs_new ?_ rfl
    simp [by8_V]
    try omega
  have hn : x < -1131 ∨ 1131 < x := by omega
  have ho : ∀ b y, (Value.int .u8 y = byteV b) → OwB w.heap.size w (w.alloc (.cells #[.int .u8 y] 5)) (some ⟨w.heap.size, 0, none⟩) 1 1 [b] := fun b y hy => by
    rw [hy]
    exact OwB.of_blk (Blk.newAt w _ [byteV b] rfl) rfl (Nat.le_refl _) (bel_alloc bel_refl).below (by omega)
  by_cases c4 : -32768 ≤ x ∧ x < 32768
  · have hv : [28] ++ beB 2 x = numS x := by unfold numS; rw [if_neg c1, if_neg c2, if_neg c3, if_pos c4, beB2]; rfl
    have HO := Lib.hid (ho 28 28 rfl)
    obtain ⟨a1, a2⟩ := c4
    have HV := Lib.hid hv
    clear hv c1 c2 c3 ho
    rcases hn with d1 | d1
    all_goals
      go_enter Try.func34, Try.ntmps34
      go_wp2_with (first
        | (go_at_call 50; (with_reducible refine (dby2 _ x).mono ?_); rintro e w5 ⟨A5, rfl, hs5, hb5⟩; have HP5 := Lib.hid (HO.out.keep hb5); have HS5 := Lib.hid hs5; clear hs5 hb5)
        | (at_builtin; refine wpList_append_ow (by rfl) (.tmp 57) (.tmp 59) (by rfl) (by rfl) HP5.out A5 2 _ (by rfl) (beB 2 x) HS5.out (by omega) ?_; intro A6 c6 w6 hp6; have HP6 := Lib.hid hp6; clear hp6)
        | fail)
      go_ret
      exact bs_ow HP6.out HV.out (by omega)
  · have hv : [29] ++ beB 4 x = numS x := by unfold numS; rw [if_neg c1, if_neg c2, if_neg c3, if_neg c4, beB4]; rfl
    have HO := Lib.hid (ho 29 29 rfl)
    have HV := Lib.hid hv
    clear hv c1 c2 c3 ho
    have hn2 : x < -32768 ∨ (1131 < x ∧ 32768 ≤ x) := by omega
    clear hn
    rcases hn2 with d1 | ⟨d1, d2⟩
    all_goals
      go_enter Try.func34, Try.ntmps34
      go_wp2_with (first
        | (go_at_call 50; (with_reducible refine (dby4 _ x).mono ?_); rintro e w5 ⟨A5, rfl, hs5, hb5⟩; have HP5 := Lib.hid (HO.out.keep hb5); have HS5 := Lib.hid hs5; clear hs5 hb5)
        | (at_builtin; refine wpList_append_ow (by rfl) (.tmp 61) (.tmp 63) (by rfl) (by rfl) HP5.out A5 4 _ (by rfl) (beB 4 x) HS5.out (by omega) ?_; intro A6 c6 w6 hp6; have HP6 := Lib.hid hp6; clear hp6)
        | fail)
      go_ret
      exact bs_ow HP6.out HV.out (by omega)
end Go.Proofs.Ytoofjkhigonppaa

namespace Go.Proofs.Ytoofjkhigonppaa
open Go.RowKit

def LargeR (es : List En) (e : Ending) : Prop := ∃ b, e = .returned (.bool b) ∧ (b = false → es.length ≤ 200)
set_option maxRecDepth 20000 in
set_option maxHeartbeats 4000000 in
theorem large_any {w : World} {A : Option Addr} {n c : Nat} {es : List En} (h : EnL w A n es) (hn : n ≤ 4398046511104) :
    Calls Try.prog 13 #[.slice A n c] w fun e w' => LargeR es e ∧ w = w' := by
  have hl : es.length = n := by have := h.rows.len; simpa using this
  subst hl
  have H := Lib.hid h
  clear h
  go_enter Try.func13, Try.ntmps13
  go_wp2_with fail
  go_loop [3, 4] (fun s i => ∃ (k : Nat) (z : Int), k ≤ es.length ∧ k ≤ 300 ∧ i = .int .i64 k ∧ s = .int .i64 z ∧ 0 ≤ z ∧ z ≤ k * 17592186044416) (fun _ i => 300 - (intOf i).toNat)
  case atStart => exact ⟨0, 0, Nat.zero_le _, by omega, rfl, rfl, by omega, by omega⟩
  case round =>
    obtain ⟨k, z, hk, hk3, rfl, rfl, hz0, hz1⟩ := hrel
    by_cases hlt : k < es.length
    · by_cases h3 : k < 300
      · obtain ⟨⟨op, vA, vc, xs⟩, hv⟩ := get_some' hlt
        obtain ⟨b, o, rfl, hb, hc1, hc2⟩ := H.out.at_ hv
        dsimp only at hc1 hc2
        have hs := H.out.short _ (List.mem_of_getElem? hv)
        dsimp only at hs
        clear hv
        go_wp2_with fail
        go_round
        case rel => exact ⟨k + 1, z + xs.length, by omega, by omega, by go_num, rfl, by omega, by omega⟩
        case measure => simp [intOf]; omega
      · obtain rfl : k = 300 := by omega
        have h2 : (200 : Int) < es.length := by omega
        go_wp2_with fail
        go_ret
        exact ⟨⟨true, rfl, fun h => by cases h⟩, rfl⟩
    · have hge : es.length = k := by omega
      clear hlt
      by_cases h2 : 200 < es.length
      · have h2' : (200 : Int) < es.length := by omega
        go_wp2_with fail
        go_ret
        exact ⟨⟨true, rfl, fun h => by cases h⟩, rfl⟩
      · have hle : es.length ≤ 200 := by omega
        have h2' : ¬ (200 : Int) < es.length := by omega
        have h2'' : ¬ (200 : Int) < k := by omega
        have HLE := Lib.hid hle
        clear hle h2
        by_cases h4 : 3000 < z
        · go_wp2_with fail
          go_ret
          exact ⟨⟨true, rfl, fun h => by cases h⟩, rfl⟩
        · go_wp2_with fail
          go_ret
          exact ⟨⟨false, rfl, fun _ => HLE.out⟩, rfl⟩
def MayR (es : List En) (w : World) (e : Ending) (w' : World) : Prop := e = .returned (.bool ((es.map enV).all mayB)) ∧ w = w'
theorem may_is {es : List En} {w : World} {b : Bool} (h : (es.map enV).all mayB = b) : MayR es w (.returned (.bool b)) w := ⟨by rw [h], rfl⟩
theorem isOp_cases (op : Int) : ((op < 0 ∨ op = 12 ∨ (21 < op ∧ op < 3072) ∨ 3327 < op) ∧ isOpB op = false) ∨ (((0 ≤ op ∧ op ≤ 21 ∧ (op != 12) = true) ∨ (3072 ≤ op ∧ op ≤ 3327)) ∧ isOpB op = true) := by
  unfold isOpB
  simp only [bne_iff_ne, decide_eq_false_iff_not, decide_eq_true_eq]
  omega
set_option maxRecDepth 20000 in
set_option maxHeartbeats 8000000 in
theorem rMay_any {w : World} {A : Option Addr} {n c : Nat} {es : List En} (h : EnL w A n es) (hi : EnIn es) (hn : n ≤ 4398046511104) :
    Calls Try.prog 15 #[.slice A n c] w (MayR es w) := by
  have hl : es.length = n := by have := h.rows.len; simpa using this
  subst hl
  have H := Lib.hid h
  have HI := Lib.hid hi
  clear h hi
  go_enter Try.func15, Try.ntmps15
  go_wp2_with fail
  go_loop [3] (fun i => ∃ k : Nat, k ≤ es.length ∧ i = .int .i64 k ∧ Hid (((es.map enV).take k).all mayB = true)) (fun i => es.length - (intOf i).toNat)
  case atStart => exact ⟨0, Nat.zero_le _, rfl, Lib.hid rfl⟩
  case round =>
    obtain ⟨k, hk, rfl, HT⟩ := hrel
    by_cases hlt : k < es.length
    · obtain ⟨⟨op, vA, vc, xs⟩, hv⟩ := get_some' hlt
      have hv2 : (es.map enV)[k]? = some (op, xs) := by rw [List.getElem?_map, hv]; rfl
      obtain ⟨b, o, rfl, hb, hc1, hc2⟩ := H.out.at_ hv
      dsimp only at hc1 hc2
      have hmem := List.mem_of_getElem? hv
      have hs := H.out.short _ hmem
      have hargs := H.out.args _ hmem
      obtain ⟨⟨o0, o1⟩, hin⟩ := HI.out _ hmem
      dsimp only at hs hargs o0 o1 hin
      have HA := Lib.hid hargs
      have HN := Lib.hid hin
      have hno : mayB (op, xs) = false → (es.map enV).all mayB = false := fun h => all_not hv2 h
      have hnx : mayB (op, xs) = true → ((es.map enV).take (k + 1)).all mayB = true := fun h => all_take hv2 HT.out h
      have hm : mayB (op, xs) = (isOpB op && decide (xs.length ≤ 48) && xs.all wholeB) := rfl
      rw [hm] at hno hnx
      have HNO := Lib.hid hno
      have HNX := Lib.hid hnx
      clear hno hnx hm hv hv2 hmem hargs hin
      rcases isOp_cases op with ⟨hop, hf⟩ | ⟨hop, hf⟩
      · have hfin := HNO.out (by rw [hf]; rfl)
        have HF := Lib.hid hfin
        clear hfin hf
        rcases hop with hop | rfl | ⟨hop1, hop2⟩ | hop
        all_goals
          go_wp2_with fail
          go_ret
          exact may_is HF.out
      · have HFO := Lib.hid hf
        clear hf
        by_cases h48 : xs.length ≤ 48
        · have h48' : ¬ (48 : Int) < xs.length := by omega
          rcases hop with ⟨hop1, hop2, hop3⟩ | ⟨hop1, hop2⟩
          all_goals
            go_wp2_with fail
            go_loop [5] (fun j => ∃ m : Nat, m ≤ xs.length ∧ j = .int .i64 m ∧ Hid ((xs.take m).all wholeB = true)) (fun j => xs.length - (intOf j).toNat)
            case atStart => exact ⟨0, Nat.zero_le _, rfl, Lib.hid rfl⟩
            case round =>
              obtain ⟨m, hm, rfl, HM⟩ := hrel
              by_cases hlt2 : m < xs.length
              · obtain ⟨x, hx⟩ := get_some' hlt2
                obtain ⟨b2, o2, rfl, hb2, hc⟩ := HA.out.2 m hlt2
                rw [List.getElem?_map, hx] at hc
                simp only [Option.map_some] at hc
                obtain ⟨x0, x1⟩ := HN.out x (List.mem_of_getElem? hx)
                have KW := fun w => rWhole_any x x0 x1 w
                have hnx := fun h => all_take (p := wholeB) hx HM.out h
                have hno := fun h => all_not (p := wholeB) hx h
                have HNX2 := Lib.hid hnx
                have HNO2 := Lib.hid hno
                obtain ⟨wx, hwx⟩ : ∃ wx, wholeB x = wx := ⟨_, rfl⟩
                rw [hwx] at KW
                have HW := Lib.hid hwx
                have HKW := Lib.hid KW
                clear KW hnx hno hwx hx
                cases wx
                · have hfin := HNO.out (by rw [HNO2.out HW.out, Bool.and_false])
                  have HF := Lib.hid hfin
                  clear hfin
                  go_wp2_with (first | (go_at_call 33; (with_reducible refine (HKW.out _).mono ?_); rintro e w1 ⟨rfl, rfl⟩) | fail)
                  go_ret
                  exact may_is HF.out
                · go_wp2_with (first | (go_at_call 33; (with_reducible refine (HKW.out _).mono ?_); rintro e w1 ⟨rfl, rfl⟩) | fail)
                  go_round
                  case rel => exact ⟨m + 1, by omega, by go_num, Lib.hid (HNX2.out HW.out)⟩
                  case measure => simp [intOf]; omega
              · obtain rfl : m = xs.length := by omega
                have ht := HM.out
                rw [List.take_length] at ht
                have hfin := HNX.out (by rw [HFO.out, ht, decide_eq_true h48]; rfl)
                have HF := Lib.hid hfin
                clear hfin ht
                go_wp2_with fail
                go_round
                case rel => exact ⟨k + 1, by omega, by go_num, HF⟩
                case measure => simp [intOf]; omega
        · have h48' : (48 : Int) < xs.length := by omega
          have hfin := HNO.out (by rw [decide_eq_false h48, Bool.and_false]; rfl)
          have HF := Lib.hid hfin
          clear hfin
          rcases hop with ⟨hop1, hop2, hop3⟩ | ⟨hop1, hop2⟩
          all_goals
            go_wp2_with fail
            go_ret
            exact may_is HF.out
    · obtain rfl : k = es.length := by omega
      have ht := HT.out
      rw [List.take_of_length_le (by simp)] at ht
      have HF := Lib.hid ht
      clear ht
      go_wp2_with fail
      go_ret
      exact may_is HF.out
end Go.Proofs.Ytoofjkhigonppaa

namespace Go.Proofs.Ytoofjkhigonppaa
open Go.RowKit

set_option maxRecDepth 20000 in
set_option maxHeartbeats 4000000 in
theorem sameInts_any {w : World} {A B : Option Addr} {n c d : Nat} {xs : List Int} (hn : xs.length = n) (hA : SlAt w A n (xs.map (Value.int .i64))) (hB : SlAt w B n (xs.map (Value.int .i64))) (hs : n ≤ 17592186044416) :
    Calls Try.prog 27 #[.slice A n c, .slice B n d] w fun e w' => e = .returned (.bool true) ∧ Below w.heap.size w w' := by
  subst hn
  have HA := Lib.hid hA
  have HB := Lib.hid hB
  clear hA hB
  go_enter Try.func27, Try.ntmps27
  go_wp2_with fail
  go_loopw [5] (fun i wr => ∃ k : Nat, k ≤ xs.length ∧ i = .int .i64 k ∧ Hid (Below w.heap.size w wr)) (fun i _ => xs.length - (intOf i).toNat)
  case atStart => exact ⟨0, Nat.zero_le _, rfl, Lib.hid (Below.refl _ _)⟩
  case round =>
    obtain ⟨k, hk, rfl, HW⟩ := hrel
    by_cases hlt : k < xs.length
    · obtain ⟨x, hx⟩ := get_some' hlt
      obtain ⟨b, o, rfl, hb, hc⟩ := HA.out.2 k hlt
      obtain ⟨b2, o2, rfl, hb2, hc2⟩ := HB.out.2 k hlt
      rw [List.getElem?_map, hx] at hc hc2
      simp only [Option.map_some] at hc hc2
      have q0 : wr.cell? ⟨b, o + k, none⟩ = some (.int .i64 x) := (HW.out.cell (p := ⟨b, _, none⟩) hb).trans hc
      have q1 : wr.cell? ⟨b2, o2 + k, none⟩ = some (.int .i64 x) := (HW.out.cell (p := ⟨b2, _, none⟩) hb2).trans hc2
      have hsz := HW.out.size
      clear hc hc2 hx
      go_wp2_with fail
      go_quiet (fail)
      go_wp2
      go_roundw
      case rel => exact ⟨k + 1, by omega, by go_num, Lib.hid (HW.out.trans ((bel_drewN (bel_refl (a := wr))).below.mono hsz))⟩
      case measure => simp [intOf]; omega
    · obtain rfl : k = xs.length := by omega
      go_wp2_with fail
      go_ret
      exact ⟨rfl, HW.out⟩
theorem enV_at {la lb : List En} (h : la.map enV = lb.map enV) {k : Nat} {a : En} (ha : la[k]? = some a) : ∃ b : En, lb[k]? = some b ∧ b.op = a.op ∧ b.xs = a.xs := by
  have h1 : (la.map enV)[k]? = some (a.op, a.xs) := by rw [List.getElem?_map, ha]; rfl
  rw [h, List.getElem?_map] at h1
  obtain ⟨b, hb, he⟩ := Option.map_eq_some_iff.1 h1
  injection he with e1 e2
  exact ⟨b, hb, e1, e2⟩
theorem aft_cell {w wr u : World} {b o : Nat} {v : Value} (hb : b < w.heap.size) (h : Below w.heap.size w wr) (hc : w.cell? ⟨b, o, none⟩ = some v) (hu : Aft wr u) : u.cell? ⟨b, o, none⟩ = some v :=
  ((h.trans (hu.mono h.size)).cell (p := ⟨b, o, none⟩) hb).trans hc
set_option maxRecDepth 20000 in
set_option maxHeartbeats 4000000 in
theorem same_any {w : World} {A B : Option Addr} {n c d : Nat} {la lb : List En} (hA : EnL w A n la) (hB : EnL w B n lb) (he : la.map enV = lb.map enV) (hn : n ≤ 4398046511104) :
    Calls Try.prog 11 #[.slice A n c, .slice B n d] w fun e w' => e = .returned (.bool true) ∧ Below w.heap.size w w' := by
  have hl : la.length = n := by have := hA.rows.len; simpa using this
  subst hl
  have HA := Lib.hid hA
  have HB := Lib.hid hB
  have HE := Lib.hid he
  clear hA hB he
  go_enter Try.func11, Try.ntmps11
  go_wp2_with fail
  go_loopw [5] (fun i wr => ∃ k : Nat, k ≤ la.length ∧ i = .int .i64 k ∧ Hid (Below w.heap.size w wr)) (fun i _ => la.length - (intOf i).toNat)
  case atStart => exact ⟨0, Nat.zero_le _, rfl, Lib.hid (Below.refl _ _)⟩
  case round =>
    obtain ⟨k, hk, rfl, HW⟩ := hrel
    by_cases hlt : k < la.length
    · obtain ⟨v, hv⟩ := get_some' hlt
      obtain ⟨v2, hv2, e1, e2⟩ := enV_at HE.out hv
      obtain ⟨op, vA, vc, xs⟩ := v
      obtain ⟨op2, uA, uc, xs2⟩ := v2
      dsimp only at e1 e2
      subst e1 e2
      obtain ⟨b, o, rfl, hb, hc1, hc2⟩ := HA.out.at_ hv
      obtain ⟨b2, o2, rfl, hb2, hc3, hc4⟩ := HB.out.at_ hv2
      dsimp only at hc1 hc2 hc3 hc4
      have g1 := fun u => aft_cell (u := u) hb HW.out hc1
      have g2 := fun u => aft_cell (u := u) hb HW.out hc2
      have g3 := fun u => aft_cell (u := u) hb2 HW.out hc3
      have g4 := fun u => aft_cell (u := u) hb2 HW.out hc4
      have hsz := HW.out.size
      have hs1 := HA.out.args _ (List.mem_of_getElem? hv)
      have hs2 := HB.out.args _ (List.mem_of_getElem? hv2)
      have hs3 := HA.out.short _ (List.mem_of_getElem? hv)
      dsimp only at hs1 hs2 hs3
      have KS := fun w' (hw : Aft wr w') => sameInts_any (c := vc) (d := uc) rfl (hs1.keep (HW.out.trans (hw.mono hsz))) (hs2.keep (HW.out.trans (hw.mono hsz))) hs3
      have HKS := Lib.hid KS
      clear KS hs1 hs2 hv hv2 hc1 hc2 hc3 hc4
      have hbr : b < wr.heap.size := by omega
      have hbr2 : b2 < wr.heap.size := by omega
      go_wp2_with fail
      go_region_held (fun u => Aft wr u) (first | (with_reducible exact aft_drew) | (with_reducible exact HX.out)) (first | (go_at_call 27; (with_reducible refine (HKS.out _ aft_drew).mono ?_); rintro e w7 ⟨rfl, hb7⟩; have HX := Lib.hid (aft_drew.call hb7); clear hb7))
      go_wp2
      go_roundw
      case rel => exact ⟨k + 1, by omega, by go_num, Lib.hid (HW.out.trans ((by assumption : Aft wr _).mono hsz))⟩
      case measure => simp [intOf]; omega
    · obtain rfl : k = la.length := by omega
      go_wp2_with fail
      go_ret
      exact ⟨rfl, HW.out⟩
theorem getV_hit {es : List En} {op : Int} {k : Nat} {v : En} (hv : es[k]? = some v) (hn : (es.drop (k + 1)).reverse.find? (fun v => v.op == op) = none) (ho : v.op = op) : getV es op = some v := by
  unfold getV
  rw [show es.reverse = (es.drop k).reverse ++ (es.take k).reverse by rw [← List.reverse_append, List.take_append_drop], drop_last hv, List.append_assoc, List.find?_append, hn]
  simp [ho]
theorem getV_miss {es : List En} {op : Int} {k : Nat} {v : En} (hv : es[k]? = some v) (hn : (es.drop (k + 1)).reverse.find? (fun v => v.op == op) = none) (ho : v.op ≠ op) : (es.drop k).reverse.find? (fun v => v.op == op) = none := by
  rw [drop_last hv, List.find?_append, hn]
  simp [ho]
def RGetR (es : List En) (op : Int) (w : World) (e : Ending) (w' : World) : Prop :=
  (match getV es op with
    | some v => e = .returned (.tuple #[.slice v.A v.xs.length v.c, .bool true])
    | none => e = .returned (.tuple #[.slice none 0 0, .bool false])) ∧ w = w'
theorem rget_no {es : List En} {op : Int} {w : World} (h : getV es op = none) : RGetR es op w (.returned (.tuple #[.slice none 0 0, .bool false])) w := by
  unfold RGetR; rw [h]; exact ⟨rfl, rfl⟩
theorem rget_yes {es : List En} {op : Int} {w : World} {v : En} (h : getV es op = some v) : RGetR es op w (.returned (.tuple #[.slice v.A v.xs.length v.c, .bool true])) w := by
  unfold RGetR; rw [h]; exact ⟨rfl, rfl⟩
set_option maxRecDepth 20000 in
set_option maxHeartbeats 4000000 in
theorem rGet_any {w : World} {A : Option Addr} {n c : Nat} {es : List En} (op : Int) (h : EnL w A n es) (hn : n ≤ 4398046511104) :
    Calls Try.prog 28 #[.slice A n c, .int .i64 op] w (RGetR es op w) := by
  have hl : es.length = n := by have := h.rows.len; simpa using this
  subst hl
  have H := Lib.hid h
  clear h
  go_enter Try.func28, Try.ntmps28
  go_wp2_with fail
  go_loop [6] (fun i => ∃ k : Nat, k ≤ es.length ∧ i = .int .i64 ((k : Int) - 1) ∧ Hid ((es.drop k).reverse.find? (fun v => v.op == op) = none)) (fun i => (intOf i + 1).toNat)
  case atStart => exact ⟨es.length, Nat.le_refl _, rfl, Lib.hid (by rw [List.drop_length]; rfl)⟩
  case round =>
    obtain ⟨k, hk, rfl, HN⟩ := hrel
    rcases Nat.eq_zero_or_pos k with rfl | h0
    · have hg : getV es op = none := HN.out
      have HG := Lib.hid hg
      clear hg
      rw [show ((0 : Nat) : Int) - 1 = -1 by omega]
      go_wp2_with fail
      go_ret2
      exact rget_no HG.out
    · obtain ⟨k, rfl⟩ : ∃ k', k = k' + 1 := ⟨k - 1, by omega⟩
      rw [show ((k + 1 : Nat) : Int) - 1 = (k : Int) by omega]
      obtain ⟨v, hv⟩ := get_some' (l := es) (k := k) (by omega)
      obtain ⟨b, o, rfl, hb, q0, q1⟩ := H.out.at_ hv
      by_cases ho : v.op = op
      · have hg := getV_hit hv HN.out ho
        have HG := Lib.hid hg
        rw [ho] at q0
        clear hg hv ho
        go_wp2_with fail
        go_ret2
        exact rget_yes HG.out
      · have hg := getV_miss hv HN.out ho
        have HG := Lib.hid hg
        have ho' : (v.op == op) = false := by simpa using ho
        clear hg hv ho
        go_wp2_with fail
        go_round
        case rel => exact ⟨k, by omega, by go_num, HG⟩
        case measure => simp [intOf]
end Go.Proofs.Ytoofjkhigonppaa

namespace Go.Proofs.Ytoofjkhigonppaa
open Go.RowKit

theorem sl_one {w : World} {A : Option Addr} {x : Int} (h : SlAt w A 1 ([x].map (Value.int .i64))) : ∃ b o, A = some ⟨b, o, none⟩ ∧ b < w.heap.size ∧ w.cell? ⟨b, o, none⟩ = some (.int .i64 x) := by
  obtain ⟨b, o, hA, hb, hc⟩ := h.2 0 (by simp)
  exact ⟨b, o, hA, hb, by simpa using hc⟩
set_option maxRecDepth 20000 in
set_option maxHeartbeats 8000000 in
theorem gets_any {w : World} {A : Option Addr} {n c : Nat} {es : List En} (op other : Int) (h : EnL w A n es) (hi : EnIn es) (hn : n ≤ 4398046511104) :
    Calls Try.prog 12 #[.slice A n c, .int .i64 op, .int .i64 other] w fun e w' => e = .returned (.bool true) ∧ Below w.heap.size w w' := by
  have HG := get_any (c := c) op h hn
  have HR := fun w' (hb : Below w.heap.size w w') => rGet_any (c := c) op (h.keep hb) hn
  have HN := fun w' (hb : Below w.heap.size w w') => numberE_any (c := c) op other (h.keep hb) hn hi
  cases hg : getV es op with
  | none =>
    have hgl : getL es op = none := by unfold getL; rw [hg]; rfl
    unfold GetR at HG
    unfold RGetR at HR
    unfold NumR at HN
    rw [hg] at HG HR
    rw [hgl] at HN
    dsimp only [numE] at HG HR HN
    have HGG := Lib.hid HG
    have HRR := Lib.hid HR
    have HNN := Lib.hid HN
    clear HG HR HN hg hgl h hi
    go_enter Try.func12, Try.ntmps12
    go_wp2_with (first
      | (go_at_call 19; (with_reducible refine HGG.out.mono ?_); rintro e w1 ⟨rfl, hb1⟩; have HB1 := Lib.hid hb1; clear hb1)
      | (go_at_call 28; (with_reducible refine (HRR.out _ HB1.out).mono ?_); rintro e w2 ⟨rfl, rfl⟩)
      | (go_at_call 20; (with_reducible refine (HNN.out _ HB1.out).mono ?_); rintro e w3 ⟨rfl, hb3⟩; have HB3 := Lib.hid hb3; clear hb3)
      | (go_at_call 27; (with_reducible refine (sameInts_any (xs := []) (n := 0) rfl (SlAt.nil _ _) (SlAt.nil _ _) (by omega)).mono ?_); rintro e w4 ⟨rfl, hb4⟩; have HB4 := Lib.hid hb4; clear hb4)
      | fail)
    go_ret
    exact ⟨rfl, HB1.out.trans ((HB3.out.trans (HB4.out.mono HB3.out.size)).mono HB1.out.size)⟩
  | some v =>
    have hmem : v ∈ es := by
      have := List.mem_of_find?_eq_some hg
      simpa using this
    have hin := (hi v hmem).2
    have hargs := h.args v hmem
    have hsh := h.short v hmem
    have hgl : getL es op = some v.xs := by unfold getL; rw [hg]; rfl
    unfold GetR at HG
    unfold RGetR at HR
    unfold NumR at HN
    rw [hg] at HG HR
    rw [hgl] at HN
    dsimp only at HG HR
    obtain ⟨vo, vA, vc, xs⟩ := v
    dsimp only at *
    have KS : ∀ w1 w3, Below w.heap.size w w1 → Below w1.heap.size w1 w3 → ∀ A1 c1, SlAt w1 A1 xs.length (xs.map (Value.int .i64)) → Calls Try.prog 27 #[.slice A1 xs.length c1, .slice vA xs.length vc] w3 fun e w' => e = .returned (.bool true) ∧ Below w3.heap.size w3 w' :=
      fun w1 w3 h1 h3 A1 c1 hs => sameInts_any rfl (hs.keep h3) (hargs.keep (h1.trans (h3.mono h1.size))) hsh
    have HGG := Lib.hid HG
    have HRR := Lib.hid HR
    have HKS := Lib.hid KS
    have HARGS := Lib.hid hargs
    clear HG HR hg hgl h hi KS hargs hmem
    by_cases h1 : xs.length = 1
    · obtain ⟨x, rfl⟩ := List.length_eq_one_iff.1 h1
      obtain ⟨x0, x1⟩ := hin x (by simp)
      have htd := tdm x
      obtain ⟨b, o, rfl, hb, hc⟩ := sl_one HARGS.out
      have hne : numE (some [x]) other = if x % 65536 = 0 then (x / 65536, 0) else (0, 150) := rfl
      obtain ⟨q, hq⟩ : ∃ q, x.tdiv 65536 = q := ⟨_, rfl⟩
      obtain ⟨m, hm⟩ : ∃ m, x.tmod 65536 = m := ⟨_, rfl⟩
      have hqb : -140737488355328 ≤ q ∧ q ≤ 140737488355328 := by omega
      have hw : wrap64 q = q := IntWalk.wrap64_in _ ⟨by omega, by omega⟩
      have key : (m = 0 ∧ x % 65536 = 0 ∧ x / 65536 = q) ∨ ((m != 0) = true ∧ x % 65536 ≠ 0) := by
        rw [bne_iff_ne]
        omega
      rw [hne] at HN
      clear htd hne h1
      have HK1 : Hid (∀ w1 w3, Below w.heap.size w w1 → Below w1.heap.size w1 w3 → ∀ A1 c1, SlAt w1 A1 1 ([x].map (Value.int .i64)) → Calls Try.prog 27 #[.slice A1 1 c1, .slice (some ⟨b, o, none⟩) 1 vc] w3 fun e w' => e = .returned (.bool true) ∧ Below w3.heap.size w3 w') := HKS
      clear HKS
      rcases key with ⟨rfl, k2, k3⟩ | ⟨k1, k2⟩
      · rw [if_pos k2, k3] at HN
        have HNN := Lib.hid HN
        clear HN k2 k3 hqb
        go_enter Try.func12, Try.ntmps12
        go_wp2_with (first
          | (go_at_call 19; (with_reducible refine HGG.out.mono ?_); rintro e w1 ⟨⟨A1, c1, rfl, hs1⟩, hb1⟩; have HB1 := Lib.hid hb1; have HS1 := Lib.hid hs1; clear hb1 hs1)
          | (go_at_call 28; (with_reducible refine (HRR.out _ HB1.out).mono ?_); rintro e w2 ⟨rfl, rfl⟩)
          | (go_at_call 20; (with_reducible refine (HNN.out _ HB1.out).mono ?_); rintro e w3 ⟨rfl, hb3⟩; have HB3 := Lib.hid hb3; clear hb3)
          | (go_at_call 27; (with_reducible refine (HK1.out _ _ HB1.out HB3.out _ _ HS1.out).mono ?_); rintro e w4 ⟨rfl, hb4⟩
             have HB4 := Lib.hid (HB1.out.trans ((HB3.out.trans (hb4.mono HB3.out.size)).mono HB1.out.size))
             have q4 := (HB4.out.cell (p := ⟨b, o, none⟩) hb).trans hc
             have hb4s := HB4.out.size
             clear hb4)
          | fail)
        go_ret
        exact ⟨rfl, HB4.out⟩
      · rw [if_neg k2] at HN
        have HNN := Lib.hid HN
        clear HN k2 hqb
        go_enter Try.func12, Try.ntmps12
        go_wp2_with (first
          | (go_at_call 19; (with_reducible refine HGG.out.mono ?_); rintro e w1 ⟨⟨A1, c1, rfl, hs1⟩, hb1⟩; have HB1 := Lib.hid hb1; have HS1 := Lib.hid hs1; clear hb1 hs1)
          | (go_at_call 28; (with_reducible refine (HRR.out _ HB1.out).mono ?_); rintro e w2 ⟨rfl, rfl⟩)
          | (go_at_call 20; (with_reducible refine (HNN.out _ HB1.out).mono ?_); rintro e w3 ⟨rfl, hb3⟩; have HB3 := Lib.hid hb3; clear hb3)
          | (go_at_call 27; (with_reducible refine (HK1.out _ _ HB1.out HB3.out _ _ HS1.out).mono ?_); rintro e w4 ⟨rfl, hb4⟩
             have HB4 := Lib.hid (HB1.out.trans ((HB3.out.trans (hb4.mono HB3.out.size)).mono HB1.out.size))
             have q4 := (HB4.out.cell (p := ⟨b, o, none⟩) hb).trans hc
             have hb4s := HB4.out.size
             clear hb4)
          | fail)
        go_ret
        exact ⟨rfl, HB4.out⟩
    · have hv : numE (some xs) other = (0, 150) := by
        unfold numE
        split
        · rename_i hh; cases hh
        · rename_i hh; injection hh with hh; subst hh; simp at h1
        · rfl
      rw [hv] at HN
      have HNN := Lib.hid HN
      have h1' : ((xs.length : Int) != 1) = true := by rw [bne_iff_ne]; omega
      clear hv HN
      go_enter Try.func12, Try.ntmps12
      go_wp2_with (first
        | (go_at_call 19; (with_reducible refine HGG.out.mono ?_); rintro e w1 ⟨⟨A1, c1, rfl, hs1⟩, hb1⟩; have HB1 := Lib.hid hb1; have HS1 := Lib.hid hs1; clear hb1 hs1)
        | (go_at_call 28; (with_reducible refine (HRR.out _ HB1.out).mono ?_); rintro e w2 ⟨rfl, rfl⟩)
        | (go_at_call 20; (with_reducible refine (HNN.out _ HB1.out).mono ?_); rintro e w3 ⟨rfl, hb3⟩; have HB3 := Lib.hid hb3; clear hb3)
        | (go_at_call 27; (with_reducible refine (HKS.out _ _ HB1.out HB3.out _ _ HS1.out).mono ?_); rintro e w4 ⟨rfl, hb4⟩
           have HB4 := Lib.hid (HB1.out.trans ((HB3.out.trans (hb4.mono HB3.out.size)).mono HB1.out.size))
           clear hb4)
        | fail)
      go_ret
      exact ⟨rfl, HB4.out⟩
end Go.Proofs.Ytoofjkhigonppaa

namespace Go.Proofs.Ytoofjkhigonppaa

/-- One digit of a quotient: (u b + n) / v, v = a b + c. -/
structure Kn (a c u n Q : Nat) : Prop where
  c1 : c < 4294967296
  a0 : 2147483648 ≤ a
  a1 : a < 4294967296
  u1 : u < a * 4294967296 + c
  n1 : n < 4294967296
  q0 : Q * (a * 4294967296 + c) ≤ u * 4294967296 + n
  q1 : u * 4294967296 + n < (Q + 1) * (a * 4294967296 + c)
structure KnI (a u Q q r : Nat) : Prop where
  eq : q * a + r = u
  le : Q ≤ q
  q1 : q ≤ 4294967297
  r1 : r < 4294967296
section
variable {a c u n Q q r : Nat}
theorem Kn.Qlt (h : Kn a c u n Q) : Q < 4294967296 := by
  rcases Nat.lt_or_ge Q 4294967296 with hq | hq
  · exact hq
  · exfalso
    have h1 := h.q0
    have h2 : 4294967296 * (a * 4294967296 + c) ≤ Q * (a * 4294967296 + c) := Nat.mul_le_mul_right _ hq
    have h3 := h.u1
    have h4 := h.n1
    omega
theorem Kn.init (h : Kn a c u n Q) : KnI a u Q (u / a) (u % a) := by
  have a0 := h.a0
  refine ⟨by rw [Nat.mul_comm]; exact Nat.div_add_mod u a, ?_, ?_, by have := Nat.mod_lt u (show 0 < a by omega); have := h.a1; omega⟩
  · rw [Nat.le_div_iff_mul_le (by omega)]
    have h1 := h.q0
    rw [Nat.mul_add, ← Nat.mul_assoc] at h1
    have h2 := h.n1
    have : 0 ≤ Q * c := Nat.zero_le _
    omega
  · have h1 := h.u1
    have h2 := h.c1
    have : u / a < 4294967298 := by
      rw [Nat.div_lt_iff_lt_mul (by omega)]
      omega
    omega
theorem Kn.leQ (h : Kn a c u n Q) {x : Nat} (hx : x * (a * 4294967296 + c) ≤ u * 4294967296 + n) : x ≤ Q := by
  have h1 := h.q1
  rcases Nat.lt_or_ge Q x with hq | hq
  · exfalso
    have : (Q + 1) * (a * 4294967296 + c) ≤ x * (a * 4294967296 + c) := Nat.mul_le_mul_right _ hq
    omega
  · exact hq
theorem Kn.done (h : Kn a c u n Q) (i : KnI a u Q q r) (h1 : ¬ (4294967296 * r + n < q * c)) : q = Q := by
  refine Nat.le_antisymm (h.leQ ?_) i.le
  have e := i.eq
  rw [Nat.mul_add, ← Nat.mul_assoc]
  omega
theorem Kn.more (h : Kn a c u n Q) (i : KnI a u Q q r) (h1 : 4294967296 ≤ q ∨ 4294967296 * r + n < q * c) : Q + 1 ≤ q ∧ (q - 1) * a + (r + a) = u := by
  have e := i.eq
  have hQ := h.Qlt
  have hle := i.le
  have hlt : Q < q := by
    rcases h1 with h1 | h1
    · omega
    · rcases Nat.lt_or_ge Q q with hq | hq
      · exact hq
      · exfalso
        have hqe : q = Q := by omega
        have h2 := h.q0
        rw [← hqe, Nat.mul_add, ← Nat.mul_assoc] at h2
        omega
  refine ⟨by omega, ?_⟩
  obtain ⟨k, rfl⟩ : ∃ k, q = k + 1 := ⟨q - 1, by omega⟩
  rw [Nat.add_mul] at e
  rw [Nat.add_sub_cancel]
  omega
theorem Kn.next (h : Kn a c u n Q) (i : KnI a u Q q r) (h1 : 4294967296 ≤ q ∨ 4294967296 * r + n < q * c) (h2 : ¬ 4294967296 ≤ r + a) : KnI a u Q (q - 1) (r + a) := by
  obtain ⟨m1, m2⟩ := h.more i h1
  have := i.q1
  exact ⟨m2, by omega, by omega, by omega⟩
theorem Kn.brk (h : Kn a c u n Q) (i : KnI a u Q q r) (h1 : 4294967296 ≤ q ∨ 4294967296 * r + n < q * c) (h2 : 4294967296 ≤ r + a) : q - 1 = Q := by
  obtain ⟨m1, m2⟩ := h.more i h1
  have hq1 := i.q1
  refine Nat.le_antisymm (h.leQ ?_) (by omega)
  obtain ⟨k, hk⟩ : ∃ k, q - 1 = k := ⟨_, rfl⟩
  rw [hk] at m2 ⊢
  have hc := h.c1
  have h3 : k * c ≤ 4294967296 * 4294967296 := Nat.mul_le_mul (by omega) (by omega)
  rw [Nat.mul_add, ← Nat.mul_assoc]
  omega
theorem Kn.small (h : Kn a c u n Q) (i : KnI a u Q q r) (hq : ¬ 4294967296 ≤ q) : q * c < 18446744073709551616 ∧ 4294967296 * r + n < 18446744073709551616 := by
  have h1 := h.c1
  have h2 := h.n1
  have h3 := i.r1
  have : q * c ≤ 4294967295 * 4294967295 := Nat.mul_le_mul (by omega) (by omega)
  omega
theorem kn_of {v u n : Nat} (hv0 : 9223372036854775808 ≤ v) (hv1 : v < 18446744073709551616) (hu : u < v) (hn : n < 4294967296) : Kn (v / 4294967296) (v % 4294967296) u n ((u * 4294967296 + n) / v) := by
  have e : v / 4294967296 * 4294967296 + v % 4294967296 = v := by omega
  refine ⟨by omega, by omega, by omega, by rw [e]; exact hu, hn, ?_, ?_⟩
  · rw [e, Nat.mul_comm]
    exact Nat.mul_div_le _ _
  · rw [e]
    have h := Nat.lt_mul_div_succ (u * 4294967296 + n) (show 0 < v by omega)
    rw [Nat.mul_comm v] at h
    exact h
end
/-- All the pieces of a division of two words by one. -/
structure Dv (N y s v u n1 n0 Q1 R Q0 R0 : Nat) : Prop where
  k1 : Kn (v / 4294967296) (v % 4294967296) u n1 Q1
  k2 : Kn (v / 4294967296) (v % 4294967296) R n0 Q0
  r1 : u * 4294967296 + n1 = Q1 * v + R
  r2 : R * 4294967296 + n0 = Q0 * v + R0
  rl : R < v
  r0l : R0 < v
  ul : u < v
  vl : v < 18446744073709551616
  q : N / y = Q1 * 4294967296 + Q0
  m : N % y = R0 / 2 ^ s
theorem dv_all {N y s : Nat} (hs0 : 9223372036854775808 ≤ y * 2 ^ s) (hs1 : y * 2 ^ s < 18446744073709551616) (hN : N < y * 18446744073709551616) :
    ∃ v u n1 n0 Q1 R Q0 R0, Dv N y s v u n1 n0 Q1 R Q0 R0 ∧ v = y * 2 ^ s ∧ u = N * 2 ^ s / 18446744073709551616 ∧ n1 = N * 2 ^ s % 18446744073709551616 / 4294967296 ∧ n0 = N * 2 ^ s % 18446744073709551616 % 4294967296 := by
  obtain ⟨v, hv⟩ : ∃ v, y * 2 ^ s = v := ⟨_, rfl⟩
  obtain ⟨M, hM⟩ : ∃ M, N * 2 ^ s = M := ⟨_, rfl⟩
  have hp : 0 < 2 ^ s := Nat.pow_pos (by omega)
  have hy : 0 < y := by
    rcases Nat.eq_zero_or_pos y with h | h
    · subst h; omega
    · exact h
  have hMl : M < v * 18446744073709551616 := by
    rw [← hM, ← hv, Nat.mul_right_comm]
    exact Nat.mul_lt_mul_of_pos_right hN hp
  have hq : N / y = M / v := by rw [← hM, ← hv, Nat.mul_div_mul_right _ _ hp]
  have hm : N % y = M % v / 2 ^ s := by rw [← hM, ← hv, Nat.mul_mod_mul_right, Nat.mul_div_cancel _ hp]
  rw [hv] at hs0 hs1
  have hu : M / 18446744073709551616 < v := by rw [Nat.div_lt_iff_lt_mul (by omega)]; exact hMl
  obtain ⟨u, hu'⟩ : ∃ u, M / 18446744073709551616 = u := ⟨_, rfl⟩
  obtain ⟨n1, hn1⟩ : ∃ u, M % 18446744073709551616 / 4294967296 = u := ⟨_, rfl⟩
  obtain ⟨n0, hn0⟩ : ∃ u, M % 18446744073709551616 % 4294967296 = u := ⟨_, rfl⟩
  have hMe : M = (u * 4294967296 + n1) * 4294967296 + n0 := by omega
  have hn1l : n1 < 4294967296 := by omega
  have hn0l : n0 < 4294967296 := by omega
  rw [hu'] at hu
  have hv0 : 0 < v := by omega
  have d1 := Nat.div_add_mod (u * 4294967296 + n1) v
  have l1 := Nat.mod_lt (u * 4294967296 + n1) hv0
  have k1 := kn_of hs0 hs1 hu hn1l
  obtain ⟨Q1, hQ1⟩ : ∃ x, (u * 4294967296 + n1) / v = x := ⟨_, rfl⟩
  obtain ⟨R, hR⟩ : ∃ x, (u * 4294967296 + n1) % v = x := ⟨_, rfl⟩
  rw [hQ1, hR] at d1
  rw [hQ1] at k1
  rw [hR] at l1
  have d2 := Nat.div_add_mod (R * 4294967296 + n0) v
  have l2 := Nat.mod_lt (R * 4294967296 + n0) hv0
  have k2 := kn_of hs0 hs1 l1 hn0l
  obtain ⟨Q0, hQ0⟩ : ∃ x, (R * 4294967296 + n0) / v = x := ⟨_, rfl⟩
  obtain ⟨R0, hR0⟩ : ∃ x, (R * 4294967296 + n0) % v = x := ⟨_, rfl⟩
  rw [hQ0, hR0] at d2
  rw [hQ0] at k2
  rw [hR0] at l2
  have hM2 : M = v * (Q1 * 4294967296 + Q0) + R0 := by
    rw [hMe, ← d1, Nat.mul_add, ← Nat.mul_assoc]
    omega
  refine ⟨v, u, n1, n0, Q1, R, Q0, R0, ⟨k1, k2, by rw [Nat.mul_comm Q1 v]; exact d1.symm, by rw [Nat.mul_comm Q0 v]; exact d2.symm, l1, l2, hu, hs1, ?_, ?_⟩, hv.symm, by rw [hM]; exact hu'.symm, by rw [hM]; exact hn1.symm, by rw [hM]; exact hn0.symm⟩
  · rw [hq, hM2, Nat.mul_add_div hv0, Nat.div_eq_of_lt l2, Nat.add_zero]
  · rw [hm, hM2, Nat.mul_add_mod, Nat.mod_eq_of_lt l2]
end Go.Proofs.Ytoofjkhigonppaa

namespace Go.Proofs.Ytoofjkhigonppaa
open Go.RowKit

theorem shl_u {P : Program} (x : Nat) (s : Nat) (hs : s ≤ 64) (w : World) : (Op.shift .shl .u64 x .u64 s).run P w = .ok (.int .u64 ((x * 2 ^ s % 18446744073709551616 : Nat) : Int)) w := by
  unfold Op.shift
  rw [if_neg (by omega)]
  simp only [Int.toNat_natCast, IntKind.bits, Nat.min_eq_left hs]
  rw [show (x : Int) * 2 ^ s = ((x * 2 ^ s : Nat) : Int) by simp, m_wrapM]
  rfl
theorem shr_u {P : Program} (x : Nat) (s : Int) (k : Nat) (hs : s = k) (hk : k ≤ 64) (w : World) : (Op.shift .shr .u64 x .u64 s).run P w = .ok (.int .u64 ((x / 2 ^ k : Nat) : Int)) w := by
  subst hs
  unfold Op.shift
  rw [if_neg (by omega)]
  simp only [Int.toNat_natCast, IntKind.bits, Nat.min_eq_left hk]
  rw [Int.fdiv_eq_ediv_of_nonneg (x : Int) (Int.pow_nonneg (by decide)), show (x : Int) / 2 ^ k = ((x / 2 ^ k : Nat) : Int) by simp]
  rfl
theorem un32_eq {N s : Nat} (hs : s ≤ 64) (h : N / 18446744073709551616 * 2 ^ s < 18446744073709551616) :
    (N / 18446744073709551616 * 2 ^ s % 18446744073709551616) ||| (N % 18446744073709551616 / 2 ^ (64 - s)) = N * 2 ^ s / 18446744073709551616 := by
  have e1 : (2 : Nat) ^ 64 = 2 ^ (64 - s) * 2 ^ s := by rw [← Nat.pow_add]; congr 1; omega
  have hp : 0 < 2 ^ s := Nat.pow_pos (by omega)
  have hp2 : 0 < 2 ^ (64 - s) := Nat.pow_pos (by omega)
  have hl : N % 18446744073709551616 / 2 ^ (64 - s) < 2 ^ s := by
    rw [Nat.div_lt_iff_lt_mul hp2, Nat.mul_comm, ← e1]
    omega
  rw [Nat.mod_eq_of_lt h, Nat.mul_comm, ← Nat.two_pow_add_eq_or_of_lt hl]
  have hN := Nat.div_add_mod N 18446744073709551616
  have e3 : N * 2 ^ s = 2 ^ s * (N / 18446744073709551616) * 18446744073709551616 + N % 18446744073709551616 * 2 ^ s := by
    have : N * 2 ^ s = (18446744073709551616 * (N / 18446744073709551616) + N % 18446744073709551616) * 2 ^ s := by rw [hN]
    rw [this, Nat.add_mul, Nat.mul_assoc, Nat.mul_comm, Nat.mul_comm (N / 18446744073709551616)]
  rw [e3, Nat.add_comm (_ * 18446744073709551616), Nat.add_mul_div_right _ _ (by omega), Nat.add_comm]
  congr 1
  rw [show (18446744073709551616 : Nat) = 2 ^ (64 - s) * 2 ^ s from e1, Nat.mul_div_mul_right _ _ hp]
theorem un10_eq {N s : Nat} : N % 18446744073709551616 * 2 ^ s % 18446744073709551616 = N * 2 ^ s % 18446744073709551616 := by
  rw [Nat.mod_mul_mod]
theorem kn_cases {a c u n Q q r : Nat} (h : Kn a c u n Q) (i : KnI a u Q q r) : ∃ P G1 G2 : Int, IntKind.u64.wrap ((q : Int) * c) = P ∧ IntKind.u64.wrap (4294967296 * (r : Int)) = G1 ∧ IntKind.u64.wrap (G1 + n) = G2 ∧
    ((¬ (4294967296 : Int) ≤ q ∧ ¬ G2 < P ∧ q = Q) ∨
      (∃ q' r' : Nat, IntKind.u64.wrap ((q : Int) - 1) = q' ∧ IntKind.u64.wrap ((r : Int) + a) = r' ∧ q' < q ∧ ((4294967296 : Int) ≤ q ∨ (¬ (4294967296 : Int) ≤ q ∧ G2 < P)) ∧
        (((4294967296 : Int) ≤ r' ∧ q' = Q) ∨ (¬ (4294967296 : Int) ≤ r' ∧ KnI a u Q q' r')))) := by
  refine ⟨_, _, _, rfl, rfl, rfl, ?_⟩
  have hr := i.r1
  have hq1 := i.q1
  have ha := h.a1
  have hn := h.n1
  obtain ⟨P, hP⟩ : ∃ P, q * c = P := ⟨_, rfl⟩
  have eP : (q : Int) * c = (P : Int) := by rw [← hP]; simp
  have hG : IntKind.u64.wrap (IntKind.u64.wrap (4294967296 * (r : Int)) + n) = ((4294967296 * r + n : Nat) : Int) := by
    simp only [IntKind.wrap_u64]
    omega
  rw [hG, eP]
  by_cases hb : 4294967296 ≤ q
  · right
    obtain ⟨m1, m2⟩ := h.more i (.inl hb)
    refine ⟨q - 1, r + a, by rw [IntKind.wrap_u64]; omega, by rw [IntKind.wrap_u64]; omega, by omega, .inl (by omega), ?_⟩
    by_cases hr2 : 4294967296 ≤ r + a
    · exact .inl ⟨by omega, h.brk i (.inl hb) hr2⟩
    · exact .inr ⟨by omega, h.next i (.inl hb) hr2⟩
  · obtain ⟨s1, s2⟩ := h.small i hb
    rw [hP] at s1
    have hw : IntKind.u64.wrap (P : Int) = P := m_wrap P s1
    rw [hw]
    by_cases hc : 4294967296 * r + n < P
    · right
      have hc' : 4294967296 ≤ q ∨ 4294967296 * r + n < q * c := .inr (by rw [hP]; exact hc)
      obtain ⟨m1, m2⟩ := h.more i hc'
      refine ⟨q - 1, r + a, by rw [IntKind.wrap_u64]; omega, by rw [IntKind.wrap_u64]; omega, by omega, .inr ⟨by omega, by omega⟩, ?_⟩
      by_cases hr2 : 4294967296 ≤ r + a
      · exact .inl ⟨by omega, h.brk i hc' hr2⟩
      · exact .inr ⟨by omega, h.next i hc' hr2⟩
    · left
      exact ⟨by omega, by omega, h.done i (by rw [hP]; exact hc)⟩
structure T1 (v u n1 Q1 R : Nat) (X1 X2 X3 F1 : Int) : Prop where
  e1 : IntKind.u64.wrap ((u : Int) * 4294967296) = X1
  e2 : IntKind.u64.wrap (X1 + n1) = X2
  e3 : IntKind.u64.wrap ((Q1 : Int) * v) = X3
  e4 : IntKind.u64.wrap (X2 - X3) = R
  f1 : IntKind.u64.wrap ((Q1 : Int) * 4294967296) = F1
structure T2 (v R n0 Q0 R0 Nq : Nat) (F1 F3 F4 F5 : Int) : Prop where
  f2 : IntKind.u64.wrap (F1 + Q0) = Nq
  f3 : IntKind.u64.wrap ((R : Int) * 4294967296) = F3
  f4 : IntKind.u64.wrap (F3 + n0) = F4
  f5 : IntKind.u64.wrap ((Q0 : Int) * v) = F5
  f6 : IntKind.u64.wrap (F4 - F5) = R0
theorem t_of {N y s v u n1 n0 Q1 R Q0 R0 : Nat} (D : Dv N y s v u n1 n0 Q1 R Q0 R0) : ∃ X1 X2 X3 F1 F3 F4 F5, T1 v u n1 Q1 R X1 X2 X3 F1 ∧ T2 v R n0 Q0 R0 (Q1 * 4294967296 + Q0) F1 F3 F4 F5 := by
  have h1 := D.k1.Qlt
  have h2 := D.k2.Qlt
  have h3 := D.r1
  have h4 := D.r2
  have h5 := D.rl
  have h6 := D.r0l
  have h7 := D.vl
  have h8 := D.k1.n1
  have h9 := D.k2.n1
  obtain ⟨P1, hP1⟩ : ∃ P, Q1 * v = P := ⟨_, rfl⟩
  obtain ⟨P2, hP2⟩ : ∃ P, Q0 * v = P := ⟨_, rfl⟩
  have e1 : (Q1 : Int) * v = (P1 : Int) := by rw [← hP1]; simp
  have e2 : (Q0 : Int) * v = (P2 : Int) := by rw [← hP2]; simp
  rw [hP1] at h3
  rw [hP2] at h4
  refine ⟨_, _, _, _, _, _, _, ⟨rfl, rfl, rfl, ?_, rfl⟩, ⟨?_, rfl, rfl, rfl, ?_⟩⟩
  · rw [e1]
    simp only [IntKind.wrap_u64]
    omega
  · simp only [IntKind.wrap_u64]
    omega
  · rw [e2]
    simp only [IntKind.wrap_u64]
    omega
theorem div_first {u a : Nat} (ha : 0 < a) (hu : u < 18446744073709551616) : ∃ Y, IntKind.u64.wrap ((u : Int) / a) = ((u / a : Nat) : Int) ∧ IntKind.u64.wrap (((u / a : Nat) : Int) * a) = Y ∧ IntKind.u64.wrap ((u : Int) - Y) = ((u % a : Nat) : Int) := by
  have h1 := Nat.div_add_mod u a
  have h2 := Nat.div_le_self u a
  obtain ⟨q, hq⟩ : ∃ q, u / a = q := ⟨_, rfl⟩
  obtain ⟨r, hr⟩ : ∃ r, u % a = r := ⟨_, rfl⟩
  have e : (u : Int) / a = (q : Int) := by rw [← hq]; simp
  rw [hq] at h2
  rw [hq, hr] at h1
  rw [hq, hr, e]
  obtain ⟨P, hP⟩ : ∃ P, a * q = P := ⟨_, rfl⟩
  have e2 : (q : Int) * a = (P : Int) := by rw [← hP]; simp [Int.mul_comm]
  rw [hP] at h1
  refine ⟨_, by rw [IntKind.wrap_u64]; omega, rfl, ?_⟩
  rw [e2]
  simp only [IntKind.wrap_u64]
  omega
set_option maxRecDepth 20000 in
set_option maxHeartbeats 8000000 in
theorem div64_big {N y : Nat} (hN : N < y * 18446744073709551616) (hb : 18446744073709551616 ≤ N) (hy : y < 18446744073709551616) : DivOk N y := by
  intro w
  have y0 : 0 < y := by
    rcases Nat.eq_zero_or_pos y with h | h
    · subst h; omega
    · exact h
  obtain ⟨b1, b2, b3⟩ := bitLen_le_pow y (by omega) hy
  have b4 := Lib.bitLen_le y 64 (by omega) hy
  have KL := fun w => lead_any y hy w
  obtain ⟨L, hL⟩ : ∃ L, Lib.bitLen y = L := ⟨_, rfl⟩
  rw [hL] at b1 b2 b3 b4 KL
  obtain ⟨s, hs⟩ : ∃ s, 64 - L = s := ⟨_, rfl⟩
  rw [hs] at KL
  have hs64 : s ≤ 63 := by omega
  have hs0 : 9223372036854775808 ≤ y * 2 ^ s := by
    have h1 : 2 ^ (L - 1) * 2 ^ s ≤ y * 2 ^ s := Nat.mul_le_mul_right _ b1
    rw [← Nat.pow_add, show L - 1 + s = 63 by omega] at h1
    exact h1
  have hs1 : y * 2 ^ s < 18446744073709551616 := by
    have h1 : y * 2 ^ s < 2 ^ L * 2 ^ s := Nat.mul_lt_mul_of_pos_right b2 (Nat.pow_pos (by omega))
    rw [← Nat.pow_add, show L + s = 64 by omega] at h1
    exact h1
  obtain ⟨v, u, n1, n0, Q1, R, Q0, R0, D, hv, hu, hn1, hn0⟩ := dv_all hs0 hs1 hN
  have hH : N / 18446744073709551616 < y := by rw [Nat.div_lt_iff_lt_mul (by omega)]; exact hN
  have hHs : N / 18446744073709551616 * 2 ^ s < 18446744073709551616 := Nat.lt_of_le_of_lt (Nat.mul_le_mul_right _ (Nat.le_of_lt hH)) hs1
  have or1 := un32_eq (N := N) (s := s) (by omega) hHs
  have un1 := un10_eq (N := N) (s := s)
  rw [← hu] at or1
  have wsh : ∀ x : Nat, IntKind.u64.wrap ((x : Int) * 2 ^ s) = ((x * 2 ^ s % 18446744073709551616 : Nat) : Int) := fun x => by rw [show (x : Int) * 2 ^ s = ((x * 2 ^ s : Nat) : Int) by simp, m_wrapM]
  have wsr : ∀ x k : Nat, k ≤ 64 → (x : Int) / 2 ^ min k 64 = ((x / 2 ^ k : Nat) : Int) := fun x k hk => by rw [Nat.min_eq_left hk]; simp
  have s1 : IntKind.u64.wrap ((y : Int) * 2 ^ s) = v := by rw [wsh, ← hv, Nat.mod_eq_of_lt (by rw [hv]; exact hs1)]
  have s3 := wsh (N / 18446744073709551616)
  have s4 := wsr (N % 18446744073709551616) (64 - s) (by omega)
  have s5 := wsh (N % 18446744073709551616)
  rw [un1] at s5
  have hH0 : N / 18446744073709551616 ≠ 0 := by omega
  have hLo := Nat.mod_lt N (show 0 < 18446744073709551616 by omega)
  have o1 : N / 18446744073709551616 * 2 ^ s % 18446744073709551616 < 18446744073709551616 := Nat.mod_lt _ (by omega)
  have o2 : N % 18446744073709551616 / 2 ^ (64 - s) < 18446744073709551616 := Nat.lt_of_le_of_lt (Nat.div_le_self _ _) hLo
  have hw10 := Nat.mod_lt (N * 2 ^ s) (show 0 < 18446744073709551616 by omega)
  obtain ⟨t, ht⟩ : ∃ t, 64 - s = t := ⟨_, rfl⟩
  rw [ht] at s4 or1 o2
  obtain ⟨H, hHe⟩ : ∃ x, N / 18446744073709551616 = x := ⟨_, rfl⟩
  obtain ⟨Lo, hLoe⟩ : ∃ x, N % 18446744073709551616 = x := ⟨_, rfl⟩
  obtain ⟨Z, hZ⟩ : ∃ x, N * 2 ^ s % 18446744073709551616 = x := ⟨_, rfl⟩
  rw [hHe] at hH hH0 s3 or1 o1
  rw [hLoe] at s4 s5 or1 o2
  rw [hZ] at s5 hn1 hn0 hw10
  obtain ⟨U1, hU1⟩ : ∃ x, H * 2 ^ s % 18446744073709551616 = x := ⟨_, rfl⟩
  obtain ⟨U2, hU2⟩ : ∃ x, Lo / 2 ^ t = x := ⟨_, rfl⟩
  rw [hU1] at s3 or1 o1
  rw [hU2] at s4 or1 o2
  have hor : bits .or .u64 (U1 : Int) (U2 : Int) = (u : Int) := by rw [bits_or_u64_nat _ _ o1 o2, or1]
  have hcv : bits .and .u64 (v : Int) 4294967295 = ((v % 4294967296 : Nat) : Int) := m_mask v D.vl
  have hcz : bits .and .u64 (Z : Int) 4294967295 = (n0 : Int) := by rw [m_mask Z hw10, hn0]
  have s2 : (v : Int) / 4294967296 = ((v / 4294967296 : Nat) : Int) := by simp
  have s6 : (Z : Int) / 4294967296 = (n1 : Int) := by rw [hn1]; simp
  have s7 : (R0 : Int) / 2 ^ min s 64 = ((N % y : Nat) : Int) := by rw [wsr R0 s (by omega), D.m]
  have k1 := D.k1
  have k2 := D.k2
  have hq := D.q
  have hul := D.ul
  have hrl := D.rl
  have hvl := D.vl
  obtain ⟨X1, X2, X3, F1, F3, F4, F5, t1, t2⟩ := t_of D
  rw [← hq] at t2
  obtain ⟨a, ha⟩ : ∃ a, v / 4294967296 = a := ⟨_, rfl⟩
  obtain ⟨c, hc⟩ : ∃ a, v % 4294967296 = a := ⟨_, rfl⟩
  rw [ha] at s2 k1 k2
  rw [hc] at hcv k1 k2
  obtain ⟨Nq, hNq⟩ : ∃ a, N / y = a := ⟨_, rfl⟩
  obtain ⟨Nm, hNm⟩ : ∃ a, N % y = a := ⟨_, rfl⟩
  rw [hNq] at t2
  rw [hNm] at s7
  rw [hNq, hNm, hHe, hLoe]
  have ha0 : 0 < a := by have := k1.a0; omega
  obtain ⟨Y1, p1, p2, p3⟩ := div_first (u := u) ha0 (by omega)
  obtain ⟨Y2, p4, p5, p6⟩ := div_first (u := R) ha0 (by omega)
  have i1 := k1.init
  have i2 := k2.init
  obtain ⟨q1, hq1⟩ : ∃ x, u / a = x := ⟨_, rfl⟩
  obtain ⟨r1, hr1⟩ : ∃ x, u % a = x := ⟨_, rfl⟩
  obtain ⟨q2, hq2⟩ : ∃ x, R / a = x := ⟨_, rfl⟩
  obtain ⟨r2, hr2⟩ : ∃ x, R % a = x := ⟨_, rfl⟩
  rw [hq1, hr1] at i1
  rw [hq2, hr2] at i2
  rw [hq1] at p1 p2
  rw [hr1] at p3
  rw [hq2] at p4 p5
  rw [hr2] at p6
  have K1 := Lib.hid k1
  have K2 := Lib.hid k2
  have TT1 := Lib.hid t1
  have TT2 := Lib.hid t2
  have I1 := Lib.hid i1
  have I2 := Lib.hid i2
  have P4 := Lib.hid (And.intro p4 (And.intro p5 p6))
  have HK := Lib.hid KL
  have z1 : ((y : Int) == 0) = false := by rw [beq_eq_false_iff_ne]; omega
  have z2 : ¬ (y : Int) ≤ H := by omega
  have z3 : ((H : Int) == 0) = false := by rw [beq_eq_false_iff_ne]; omega
  have z4 : (a : Int) ≠ 0 := by omega
  have z5 : ((a : Int) == 0) = false := by rw [beq_eq_false_iff_ne]; omega
  have z6 : (0 : Int) < a := by omega
  have wt : IntKind.u64.wrap (64 - (s : Int)) = t := by rw [IntKind.wrap_u64]; omega
  have ws : IntKind.u64.wrap (s : Int) = s := by rw [IntKind.wrap_u64]; omega
  have s8 : (R0 : Int) / 2 ^ s = (Nm : Int) := by rw [← s7, Nat.min_eq_left (by omega)]
  have p1' : (u : Int).tdiv a = (u : Int) / a := Int.tdiv_eq_ediv_of_nonneg (by omega)
  clear wsh wsr k1 k2 t1 t2 i1 i2 p4 p5 p6 KL hq1 hr1 hq2 hr2 hq hul hrl hvl ha hc hNq hNm hU1 hU2 hZ hHe hLoe hH hH0 or1 o1 o2 hw10 hLo un1 hHs D hv hu hn1 hn0 hs0 hs1 b1 b2 b3 b4 hL hs ht hN hb hy y0
  go_enter Try.func64, Try.ntmps64
  go_wp2_with (first | (go_at_call 65; (with_reducible refine (HK.out _).mono ?_); rintro e w1 ⟨rfl, rfl⟩) | fail)
  go_loop [15, 16] (fun q r => ∃ q' r' : Nat, q = .int .u64 q' ∧ r = .int .u64 r' ∧ Hid (KnI a u Q1 q' r')) (fun q _ => (intOf q).toNat)
  case atStart => exact ⟨q1, r1, rfl, rfl, I1⟩
  case round =>
    obtain ⟨q, r, rfl, rfl, HI⟩ := hrel
    obtain ⟨P, G1, G2, g1, g2, g3, hc⟩ := kn_cases K1.out HI.out
    clear p1 p2 p3 p1'
    rcases hc with ⟨c1, c2, hqe0⟩ | ⟨q', r', hq', hr', hlt, hc1, hc2⟩
    rotate_left
    · rcases hc1 with c1 | ⟨c1, c2⟩ <;> rcases hc2 with ⟨d1, hqe⟩ | ⟨d1, d2⟩
      rotate_left
      · have D2 := Lib.hid d2
        clear d2
        go_wp2_with fail
        go_round
        case rel => exact ⟨q', r', rfl, rfl, D2⟩
        case measure => simp [intOf]; omega
      rotate_left
      · have D2 := Lib.hid d2
        clear d2
        go_wp2_with fail
        go_round
        case rel => exact ⟨q', r', rfl, rfl, D2⟩
        case measure => simp [intOf]; omega
      all_goals
        obtain ⟨e1, e2, e3, e4, f1⟩ := TT1.out
        obtain ⟨p4, p5, p6⟩ := P4.out
        have p4' : (R : Int).tdiv a = (R : Int) / a := Int.tdiv_eq_ediv_of_nonneg (by omega)
        clear K1 TT1 I1 P4 HI
        go_wp2_with fail
        clear e1 e2 e3 e4 p4 p5 p6 p4'
        go_loop [18, 16] (fun q r => ∃ q' r' : Nat, q = .int .u64 q' ∧ r = .int .u64 r' ∧ Hid (KnI a R Q0 q' r')) (fun q _ => (intOf q).toNat)
        case atStart => exact ⟨q2, r2, rfl, rfl, I2⟩
        case round =>
          obtain ⟨qq, rr, rfl, rfl, HI⟩ := hrel
          obtain ⟨P', G3, G4, g4, g5, g6, hc⟩ := kn_cases K2.out HI.out
          rcases hc with ⟨c3, c4, hqf0⟩ | ⟨q3, r3, hq3, hr3, hlt3, hc3, hc4⟩
          · rw [← hqf0] at TT2
            clear hqf0
            obtain ⟨f2, f3, f4, f5, f6⟩ := TT2.out
            clear TT2 HI K2 I2
            go_wp2_with fail
            go_ret2
            exact ⟨rfl, Below.refl _ _⟩
          · rcases hc3 with c3 | ⟨c3, c4⟩ <;> rcases hc4 with ⟨d3, hqf⟩ | ⟨d3, d4⟩
            · skip
              obtain ⟨f2, f3, f4, f5, f6⟩ := TT2.out
              clear TT2 HI K2 I2
              go_wp2_with fail
              go_ret2
              exact ⟨rfl, Below.refl _ _⟩
            · have D4 := Lib.hid d4
              clear d4
              go_wp2_with fail
              go_round
              case rel => exact ⟨q3, r3, rfl, rfl, D4⟩
              case measure => simp [intOf]; omega
            · skip
              obtain ⟨f2, f3, f4, f5, f6⟩ := TT2.out
              clear TT2 HI K2 I2
              go_wp2_with fail
              go_ret2
              exact ⟨rfl, Below.refl _ _⟩
            · have D4 := Lib.hid d4
              clear d4
              go_wp2_with fail
              go_round
              case rel => exact ⟨q3, r3, rfl, rfl, D4⟩
              case measure => simp [intOf]; omega
    · rw [← hqe0] at TT1
      clear hqe0
      obtain ⟨e1, e2, e3, e4, f1⟩ := TT1.out
      obtain ⟨p4, p5, p6⟩ := P4.out
      have p4' : (R : Int).tdiv a = (R : Int) / a := Int.tdiv_eq_ediv_of_nonneg (by omega)
      clear K1 TT1 I1 P4 HI
      go_wp2_with fail
      clear e1 e2 e3 e4 p4 p5 p6 p4'
      go_loop [18, 16] (fun q r => ∃ q' r' : Nat, q = .int .u64 q' ∧ r = .int .u64 r' ∧ Hid (KnI a R Q0 q' r')) (fun q _ => (intOf q).toNat)
      case atStart => exact ⟨q2, r2, rfl, rfl, I2⟩
      case round =>
        obtain ⟨qq, rr, rfl, rfl, HI⟩ := hrel
        obtain ⟨P', G3, G4, g4, g5, g6, hc⟩ := kn_cases K2.out HI.out
        rcases hc with ⟨c3, c4, hqf0⟩ | ⟨q3, r3, hq3, hr3, hlt3, hc3, hc4⟩
        · rw [← hqf0] at TT2
          clear hqf0
          obtain ⟨f2, f3, f4, f5, f6⟩ := TT2.out
          clear TT2 HI K2 I2
          go_wp2_with fail
          go_ret2
          exact ⟨rfl, Below.refl _ _⟩
        · rcases hc3 with c3 | ⟨c3, c4⟩ <;> rcases hc4 with ⟨d3, hqf⟩ | ⟨d3, d4⟩
          · skip
            obtain ⟨f2, f3, f4, f5, f6⟩ := TT2.out
            clear TT2 HI K2 I2
            go_wp2_with fail
            go_ret2
            exact ⟨rfl, Below.refl _ _⟩
          · have D4 := Lib.hid d4
            clear d4
            go_wp2_with fail
            go_round
            case rel => exact ⟨q3, r3, rfl, rfl, D4⟩
            case measure => simp [intOf]; omega
          · skip
            obtain ⟨f2, f3, f4, f5, f6⟩ := TT2.out
            clear TT2 HI K2 I2
            go_wp2_with fail
            go_ret2
            exact ⟨rfl, Below.refl _ _⟩
          · have D4 := Lib.hid d4
            clear d4
            go_wp2_with fail
            go_round
            case rel => exact ⟨q3, r3, rfl, rfl, D4⟩
            case measure => simp [intOf]; omega
end Go.Proofs.Ytoofjkhigonppaa

namespace Go.Proofs.Ytoofjkhigonppaa
open Go.RowKit

theorem dbl {X P : Nat} (hP : 0 < P) : (P ≤ 2 * (X % P) ∧ (2 * X) / P = 2 * (X / P) + 1 ∧ (2 * X) % P = 2 * (X % P) - P) ∨ (¬ P ≤ 2 * (X % P) ∧ (2 * X) / P = 2 * (X / P) ∧ (2 * X) % P = 2 * (X % P)) := by
  have h1 := Nat.div_add_mod X P
  have h2 := Nat.mod_lt X hP
  obtain ⟨q, hq⟩ : ∃ q, X / P = q := ⟨_, rfl⟩
  obtain ⟨r, hr⟩ : ∃ r, X % P = r := ⟨_, rfl⟩
  rw [hq, hr] at h1
  rw [hr] at h2
  rw [hq, hr]
  by_cases h : P ≤ 2 * r
  · left
    have e : 2 * X = P * (2 * q + 1) + (2 * r - P) := by rw [← h1, Nat.mul_add P, Nat.mul_one, Nat.mul_left_comm P 2 q]; omega
    refine ⟨h, ?_, ?_⟩
    · rw [e, Nat.mul_add_div hP, Nat.div_eq_of_lt (by omega), Nat.add_zero]
    · rw [e, Nat.mul_add_mod, Nat.mod_eq_of_lt (by omega)]
  · right
    have e : 2 * X = P * (2 * q) + 2 * r := by rw [← h1, Nat.mul_left_comm P 2 q]; omega
    refine ⟨h, ?_, ?_⟩
    · rw [e, Nat.mul_add_div hP, Nat.div_eq_of_lt (by omega), Nat.add_zero]
    · rw [e, Nat.mul_add_mod, Nat.mod_eq_of_lt (by omega)]
def ScaR (v : Option Int) (w : World) (e : Ending) (w' : World) : Prop :=
  (match v with
    | some x => e = .returned (.tuple #[.int .i64 x, .bool true])
    | none => ∃ d, e = .returned (.tuple #[.int .i64 d, .bool false])) ∧ Below w.heap.size w w'
theorem sca_no {v : Option Int} {w w' : World} {d : Int} (h : v = none) (hb : Below w.heap.size w w') : ScaR v w (.returned (.tuple #[.int .i64 d, .bool false])) w' := by
  subst h; exact ⟨⟨_, rfl⟩, hb⟩
theorem sca_yes {v : Option Int} {w w' : World} {x y : Int} (h : v = some x) (hy : y = x) (hb : Below w.heap.size w w') : ScaR v w (.returned (.tuple #[.int .i64 y, .bool true])) w' := by
  subst h hy; exact ⟨rfl, hb⟩
set_option maxRecDepth 20000 in
set_option maxHeartbeats 8000000 in
theorem scaled_up (m : Nat) (hm : m < 10000000000000000) (n : Nat) (h1 : n ≤ 2000) (w : World) : Calls Try.prog 35 #[.int .i64 m, .int .i64 n] w (ScaR (valS m n) w) := by
  go_enter Try.func35, Try.ntmps35
  go_wp2_with fail
  go_loop [0, 6] (fun x i => ∃ j : Nat, j ≤ n ∧ i = .int .i64 j ∧ x = .int .i64 ((m * 10 ^ j : Nat) : Int) ∧ m * 10 ^ j < 100000000000000000) (fun _ i => n - (intOf i).toNat)
  case atStart => exact ⟨0, Nat.zero_le _, by simp, by simp, by simp; omega⟩
  case round =>
    obtain ⟨j, hj, rfl, rfl, hb⟩ := hrel
    have hs : m * 10 ^ (j + 1) = m * 10 ^ j * 10 := by rw [Nat.pow_succ, Nat.mul_assoc]
    have hS : valS m n = if m * 10 ^ n ≤ 2147483648 then some ((m * 10 ^ n * 65536 : Nat) : Int) else none := by unfold valS; rw [if_pos (by omega), Int.toNat_natCast]
    obtain ⟨M, hM⟩ : ∃ M, m * 10 ^ j = M := ⟨_, rfl⟩
    have hle : M ≤ m * 10 ^ n := by rw [← hM]; exact Nat.mul_le_mul_left _ (Nat.pow_le_pow_right (by omega) hj)
    have hEq : j = n → M = m * 10 ^ n := fun h => by rw [← hM, h]
    have hz : M = 0 → m * 10 ^ n = 0 := fun h => by
      rw [← hM] at h
      rcases Nat.mul_eq_zero.1 h with h | h
      · rw [h, Nat.zero_mul]
      · exact absurd h (Nat.ne_of_gt (Nat.pow_pos (by omega)))
    rw [hM] at hb ⊢
    rw [hM] at hs
    have HS := Lib.hid hs
    obtain ⟨Mi, hMi⟩ : ∃ Mi : Int, (M : Int) = Mi := ⟨_, rfl⟩
    obtain ⟨Wv, hWv⟩ : ∃ v, wrap64 (Mi * 65536) = v := ⟨_, rfl⟩
    have hn0 : (0 : Int) ≤ n := by omega
    by_cases hgo : j < n ∧ 0 < M
    · obtain ⟨g1, g2⟩ := hgo
      have g1' : (j : Int) < n := by omega
      have g2' : (0 : Int) < Mi := by omega
      by_cases g3 : M ≤ 2147483648
      · have g3' : Mi ≤ 2147483648 := by omega
        have HMi := Lib.hid hMi
        rw [hMi]
        clear hs hle hEq hz hM hMi hWv hS
        go_wp2_with fail
        go_round
        case rel => exact ⟨j + 1, by omega, by go_num, by rw [HS.out]; have := HMi.out; simp; omega, by rw [HS.out]; omega⟩
        case measure => simp [intOf]; omega
      · have g3' : ¬ Mi ≤ 2147483648 := by omega
        have hv : valS m n = none := by rw [hS, if_neg (by omega)]
        have HV := Lib.hid hv
        rw [hMi]
        clear hs hle hEq hz hM hMi hWv hS hv
        go_wp2_with fail
        go_ret2
        exact sca_no HV.out (Below.refl _ _)
    · have key : (Mi ≤ 2147483648 ∧ valS m n = some (Mi * 65536)) ∨ (¬ Mi ≤ 2147483648 ∧ valS m n = none) := by
        rcases Nat.lt_or_ge 2147483648 M with hc | hc
        · right
          refine ⟨by omega, by rw [hS, if_neg (by omega)]⟩
        · left
          have h2 : j = n ∨ M = 0 := by omega
          refine ⟨by omega, ?_⟩
          rcases h2 with h | h
          · rw [hS, ← hEq h, if_pos hc, ← hMi]; simp
          · rw [hS, hz h, if_pos (by omega), ← hMi, h]; simp
      have hcase : j = n ∨ ((j : Int) < n ∧ ¬ 0 < Mi) := by omega
      have hMi0 : 0 ≤ Mi := by omega
      rw [hMi]
      clear hs hle hEq hz hM hMi hS hgo HS
      rcases key with ⟨hc, hv⟩ | ⟨hc, hv⟩
      · have HV := Lib.hid hv
        clear hv hWv
        rcases hcase with rfl | ⟨hE1, hE2⟩
        · go_wp2_with fail
          go_ret2
          exact sca_yes HV.out rfl (Below.refl _ _)
        · go_wp2_with fail
          go_ret2
          exact sca_yes HV.out rfl (Below.refl _ _)
      · have HV := Lib.hid hv
        clear hv
        rcases hcase with rfl | ⟨hE1, hE2⟩
        · go_wp2_with fail
          go_ret2
          exact sca_no HV.out (Below.refl _ _)
        · go_wp2_with fail
          go_ret2
          exact sca_no HV.out (Below.refl _ _)
theorem p10n {k n : Nat} (h : k ≤ n) : 10 ^ k ≤ 10 ^ n := Nat.pow_le_pow_right (by omega) h
/-- What stands behind the second loop: so many digits M, K places down. -/
structure Sc (m : Nat) (e : Int) (M K : Nat) (E : Int) : Prop where
  kl : K ≤ 18
  lt : ∀ i : Nat, i ≤ K → (i < K ↔ ((i : Int) < -E ∧ i < 18))
  val : valS m e = if 2147483648 * 10 ^ K < M then none else some (((131072 * M + 10 ^ K) / (2 * 10 ^ K) : Nat) : Int)
theorem sc_of {m : Nat} {e : Int} {j : Nat} (h0 : e < 0) (hj : (j : Int) ≤ max 0 (-17 - e)) (hgo : ¬ (e + j < -17 ∧ 0 < m / 10 ^ j)) : ∃ K, Sc m e (m / 10 ^ j) K (e + j) := by
  have hS : valS m e = valN (if e < -17 then m / 10 ^ ((-e).toNat - 17) else m) (if e < -17 then 17 else (-e).toNat) := by
    unfold valS
    rw [if_neg (by omega)]
    split <;> rfl
  by_cases hE : e + j < -17
  · have hM : m / 10 ^ j = 0 := by
      rcases Nat.eq_zero_or_pos (m / 10 ^ j) with h | h
      · exact h
      · exact absurd ⟨hE, h⟩ hgo
    refine ⟨18, Nat.le_refl _, fun i hi => by omega, ?_⟩
    have hz : m / 10 ^ ((-e).toNat - 17) = 0 := by
      have h1 : m < 10 ^ j := by
        rcases Nat.lt_or_ge m (10 ^ j) with h | h
        · exact h
        · have := (Nat.le_div_iff_mul_le (Nat.pow_pos (n := j) (show 0 < 10 by omega))).2 (show 1 * 10 ^ j ≤ m by omega)
          omega
      exact Nat.div_eq_of_lt (Nat.lt_of_lt_of_le h1 (p10n (by omega)))
    rw [hS, if_pos (by omega), if_pos (by omega), hz, valN_zero, hM, if_neg (by omega), Nat.mul_zero, Nat.zero_add, Nat.div_eq_of_lt (by decide)]
    rfl
  · have hjj : (e < -17 ∧ (j : Int) = -17 - e) ∨ (¬ e < -17 ∧ j = 0) := by omega
    refine ⟨(-(e + j)).toNat, by omega, fun i hi => by omega, ?_⟩
    have hMM : (if e < -17 then m / 10 ^ ((-e).toNat - 17) else m) = m / 10 ^ j := by
      rcases hjj with ⟨h, h'⟩ | ⟨h, rfl⟩
      · rw [if_pos h, show (-e).toNat - 17 = j by omega]
      · rw [if_neg h]; simp
    have hkk : (if e < -17 then 17 else (-e).toNat) = (-(e + j)).toNat := by
      rcases hjj with ⟨h, h'⟩ | ⟨h, rfl⟩
      · rw [if_pos h]; omega
      · rw [if_neg h]; omega
    rw [hS, hMM, hkk]
    rfl
set_option maxRecDepth 20000 in
set_option maxHeartbeats 8000000 in
theorem scaled_down (m : Nat) (hm : m < 10000000000000000) (e : Int) (h0 : e < 0) (h1 : -2000 ≤ e) (w : World) : Calls Try.prog 35 #[.int .i64 m, .int .i64 e] w (ScaR (valS m e) w) := by
  have h0' : ¬ 0 < e := by omega
  have h0'' : ¬ 0 ≤ e := by omega
  go_enter Try.func35, Try.ntmps35
  go_wp2_with fail
  go_loop [0, 6] (fun x i => x = .int .i64 m ∧ i = .int .i64 0) (fun _ i => 0)
  case atStart => exact ⟨rfl, rfl⟩
  case round =>
    obtain ⟨rfl, rfl⟩ := hrel
    go_wp2_with fail
    go_loop [0, 1] (fun x i => ∃ j : Nat, (j : Int) ≤ max 0 (-17 - e) ∧ i = .int .i64 (e + j) ∧ x = .int .i64 ((m / 10 ^ j : Nat) : Int)) (fun _ i => (-(intOf i)).toNat)
    case atStart => exact ⟨0, by omega, by simp, by simp⟩
    case round =>
      obtain ⟨j, hj, rfl, rfl⟩ := hrel
      have hdd : m / 10 ^ (j + 1) = m / 10 ^ j / 10 := by rw [Nat.pow_succ, Nat.div_div_eq_div_mul]
      have hle := Nat.div_le_self m (10 ^ j)
      by_cases hgo : e + j < -17 ∧ 0 < m / 10 ^ j
      · obtain ⟨g1, g2⟩ := hgo
        obtain ⟨M, hM⟩ : ∃ M, m / 10 ^ j = M := ⟨_, rfl⟩
        rw [hM] at hdd hle g2 ⊢
        have HDD := Lib.hid hdd
        have g2' : (0 : Int) < M := by omega
        have hw1 : (M : Int).tdiv 10 = ((M / 10 : Nat) : Int) := by rw [Int.tdiv_eq_ediv_of_nonneg (by omega)]; simp
        clear hdd hM
        go_wp2_with fail
        go_round
        case rel => exact ⟨j + 1, by omega, int_eq2 (by omega), by rw [HDD.out]; try rfl⟩
        case measure => simp [intOf]; omega
      · obtain ⟨K, hsc⟩ := sc_of h0 hj hgo
        have hexit : ¬ e + j < -17 ∨ (e + j < -17 ∧ ¬ (0 : Int) < ((m / 10 ^ j : Nat) : Int)) := by omega
        obtain ⟨M, hM⟩ : ∃ M, m / 10 ^ j = M := ⟨_, rfl⟩
        rw [hM] at hle hsc hexit ⊢
        obtain ⟨E, hE⟩ : ∃ E, e + (j : Int) = E := ⟨_, rfl⟩
        have hE2 : -2000 ≤ E ∧ E ≤ 0 := by omega
        obtain ⟨hE3, hE4⟩ := hE2
        rw [hE] at hsc hexit ⊢
        have HSC := Lib.hid hsc
        clear hdd hM hE hgo hj hsc
        rcases hexit with hx | ⟨hx, hx2⟩
        all_goals
          go_wp2_with fail
          go_loop [7, 8] (fun x i => ∃ k : Nat, k ≤ K ∧ i = .int .i64 k ∧ x = .int .i64 ((10 ^ k : Nat) : Int)) (fun _ i => K - (intOf i).toNat)
          case atStart => exact ⟨0, Nat.zero_le _, rfl, rfl⟩
          case round =>
            obtain ⟨k, hk, rfl, rfl⟩ := hrel
            have hKl := HSC.out.kl
            by_cases hlt : k < K
            · obtain ⟨c1, c2⟩ := (HSC.out.lt k hk).1 hlt
              have c2' : (k : Int) < 18 := by omega
              have hp : 10 ^ k ≤ 100000000000000000 := p10n (n := 17) (by omega)
              have hs : (10 : Nat) ^ (k + 1) = 10 ^ k * 10 := Nat.pow_succ ..
              obtain ⟨P, hP⟩ : ∃ P : Nat, 10 ^ k = P := ⟨_, rfl⟩
              rw [hP] at hs hp ⊢
              have hw1 : wrap64 ((P : Int) * 10) = ((P * 10 : Nat) : Int) := by rw [IntWalk.wrap64_in _ ⟨by omega, by omega⟩]; simp
              have HS := Lib.hid hs
              clear hs hP
              go_wp2_with fail
              go_round
              case rel => exact ⟨k + 1, by omega, by go_num, by rw [HS.out]; simp⟩
              case measure => simp [intOf]; omega
            · obtain rfl : k = K := by omega
              have hex : ¬ (k : Int) < -E ∨ ((k : Int) < -E ∧ ¬ (k : Int) < 18) := by
                have := HSC.out.lt k (Nat.le_refl _)
                omega
              have hv := HSC.out.val
              have hp0 : 0 < 10 ^ k := Nat.pow_pos (by omega)
              have hp : 10 ^ k ≤ 1000000000000000000 := p10n (n := 18) (by omega)
              rw [round_eq M (10 ^ k) hp0] at hv
              obtain ⟨P, hP⟩ : ∃ P : Nat, 10 ^ k = P := ⟨_, rfl⟩
              rw [hP] at hv hp0 hp ⊢
              have hd := Nat.div_add_mod M P
              have hml := Nat.mod_lt M hp0
              have hql : ¬ 2147483648 * P < M → M / P ≤ 2147483648 := fun h => by
                have : M / P < 2147483649 := by rw [Nat.div_lt_iff_lt_mul hp0]; omega
                omega
              have hqg : 2147483648 * P < M → 2147483648 < M / P ∨ (M / P = 2147483648 ∧ 0 < M % P) := fun h => by
                have h5 : 2147483648 ≤ M / P := by rw [Nat.le_div_iff_mul_le hp0]; omega
                by_cases h6 : M / P = 2147483648
                · rw [h6] at hd
                  right
                  refine ⟨h6, by omega⟩
                · left; omega
              have hqz : ¬ 2147483648 * P < M → M / P < 2147483648 ∨ (M / P = 2147483648 ∧ ¬ 0 < M % P) := fun h => by
                have h5 := hql h
                by_cases h6 : M / P = 2147483648
                · rw [h6] at hd
                  right
                  refine ⟨h6, by omega⟩
                · left; omega
              have tq : (M : Int).tdiv P = ((M / P : Nat) : Int) := by rw [Int.tdiv_eq_ediv_of_nonneg (by omega)]; simp
              have tr : (M : Int).tmod P = ((M % P : Nat) : Int) := by rw [Int.tmod_eq_emod_of_nonneg (by omega)]; simp
              have eq : (M : Int) / P = ((M / P : Nat) : Int) := by simp
              have er : (M : Int) % P = ((M % P : Nat) : Int) := by simp
              have z1 : ((P : Int) == 0) = false := by rw [beq_eq_false_iff_ne]; omega
              have z2 : (P : Int) ≠ 0 := by omega
              have z3 : (0 : Int) < P := by omega
              have z4 : P ≠ 0 := by omega
              have ml := Nat.div_le_self M P
              obtain ⟨Q, hQ⟩ : ∃ Q, M / P = Q := ⟨_, rfl⟩
              obtain ⟨R, hR⟩ : ∃ Q, M % P = Q := ⟨_, rfl⟩
              rw [hQ] at tq eq hql hqg hqz ml
              rw [hR] at tr er hqg hqz hml
              have HQR := Lib.hid (And.intro hQ hR)
              clear hP hlt hk hd hQ hR HSC
              by_cases hbig : 2147483648 * P < M
              · rw [if_pos hbig] at hv
                have HV := Lib.hid hv
                have hqq := hqg hbig
                obtain ⟨Qi, hQi⟩ : ∃ Qi : Int, (Q : Int) = Qi := ⟨_, rfl⟩
                have hqq' : (2147483648 < Qi) ∨ (¬ 2147483648 < Qi ∧ Qi = 2147483648 ∧ (0 : Int) < R) := by omega
                rw [hQi] at tq eq
                have hwq : wrap64 Qi = Qi := IntWalk.wrap64_in _ ⟨by omega, by omega⟩
                clear hql hqg hqz hbig hv hqq hQi
                rcases hex with hx3 | ⟨hx3, hx4⟩ <;> rcases hqq' with g1 | ⟨g1, g2, g3⟩
                all_goals
                  go_wp2_with fail
                  go_quiet (fail)
                  go_wp2
                  all_goals
                    go_ret2
                    exact sca_no HV.out (bel_drewN bel_refl).below
              · rw [if_neg hbig] at hv
                have HV := Lib.hid hv
                have hqq := hqz hbig
                have hq31 := hql hbig
                obtain ⟨Qi, hQi⟩ : ∃ Qi : Int, (Q : Int) = Qi := ⟨_, rfl⟩
                have hqq' : (Qi < 2147483648) ∨ (Qi = 2147483648 ∧ ¬ (0 : Int) < R) := by omega
                have hwq : wrap64 Qi = Qi := IntWalk.wrap64_in _ ⟨by omega, by omega⟩
                have hqb : 0 ≤ Qi ∧ Qi ≤ 2147483648 := by omega
                obtain ⟨hq0, hq1⟩ := hqb
                have h31 : ¬ 2147483648 < Qi := by omega
                have HQI := Lib.hid hQi
                have HP1 := Lib.hid (And.intro hp0 hbig)
                rw [hQi] at tq eq
                clear hql hqg hqz hbig hv hqq hQi ml hml hp0
                rcases hex with hx3 | ⟨hx3, hx4⟩ <;> rcases hqq' with g1 | ⟨g1, g2⟩
                all_goals
                  go_wp2_with fail
                  go_quiet (fail)
                  go_wp2_with fail
                  all_goals
                    go_loop [9, 10, 11] (fun q r i => ∃ t : Nat, t ≤ 16 ∧ i = .int .i64 t ∧ q = .int .i64 ((M * 2 ^ t / P : Nat) : Int) ∧ r = .int .i64 ((M * 2 ^ t % P : Nat) : Int)) (fun _ _ i => 16 - (intOf i).toNat)
                    case atStart => exact ⟨0, Nat.zero_le _, rfl, by rw [Nat.pow_zero, Nat.mul_one, HQR.out.1, HQI.out]; try (rw [g1]), by rw [Nat.pow_zero, Nat.mul_one, HQR.out.2]⟩
                    case round =>
                      obtain ⟨t, ht, rfl, rfl, rfl⟩ := hrel
                      obtain ⟨hP0, hbig⟩ := HP1.out
                      have hrl := Nat.mod_lt (M * 2 ^ t) hP0
                      have hql : M * 2 ^ t / P ≤ 140737488355328 := by
                        have h5 : M * 2 ^ t / P ≤ 2147483648 * 2 ^ t := by
                          rw [← Nat.lt_add_one_iff, Nat.div_lt_iff_lt_mul hP0]
                          have h6 : M * 2 ^ t ≤ 2147483648 * P * 2 ^ t := Nat.mul_le_mul_right _ (by omega)
                          rw [Nat.add_mul, Nat.one_mul, Nat.mul_right_comm 2147483648 (2 ^ t) P]
                          omega
                        have h7 : 2 ^ t ≤ 2 ^ 16 := Nat.pow_le_pow_right (by omega) ht
                        have h8 : 2147483648 * 2 ^ t ≤ 2147483648 * 2 ^ 16 := Nat.mul_le_mul_left _ h7
                        omega
                      by_cases hlt : t < 16
                      · have hlt' : (t : Int) < 16 := by omega
                        have hd := dbl (X := M * 2 ^ t) hP0
                        have hX : M * 2 ^ (t + 1) = 2 * (M * 2 ^ t) := by rw [Nat.pow_succ, ← Nat.mul_assoc, Nat.mul_comm]
                        rw [← hX] at hd
                        obtain ⟨q, hq⟩ : ∃ q, M * 2 ^ t / P = q := ⟨_, rfl⟩
                        obtain ⟨r, hr⟩ : ∃ q, M * 2 ^ t % P = q := ⟨_, rfl⟩
                        rw [hq, hr] at hd
                        rw [hq] at hql
                        rw [hr] at hrl
                        rw [hq, hr]
                        clear hq hr hX hbig
                        rcases hd with ⟨d1, d2, d3⟩ | ⟨d1, d2, d3⟩
                        · have HD := Lib.hid (And.intro d2 d3)
                          have d1' : (P : Int) ≤ 2 * r := by omega
                          clear d2 d3
                          go_wp2_with fail
                          go_round
                          case rel => exact ⟨t + 1, by omega, by go_num, by rw [HD.out.1]; simp, by rw [HD.out.2]; exact int_eq2 (by omega)⟩
                          case measure => simp [intOf]; omega
                        · have HD := Lib.hid (And.intro d2 d3)
                          have d1' : ¬ (P : Int) ≤ 2 * r := by omega
                          clear d2 d3
                          go_wp2_with fail
                          go_round
                          case rel => exact ⟨t + 1, by omega, by go_num, by rw [HD.out.1]; simp, by rw [HD.out.2]; exact int_eq2 (by omega)⟩
                          case measure => simp [intOf]; omega
                      · obtain rfl : t = 16 := by omega
                        have hv := HV.out
                        rw [show M * 65536 = M * 2 ^ 16 from rfl] at hv
                        obtain ⟨q, hq⟩ : ∃ q, M * 2 ^ 16 / P = q := ⟨_, rfl⟩
                        obtain ⟨r, hr⟩ : ∃ q, M * 2 ^ 16 % P = q := ⟨_, rfl⟩
                        rw [hq, hr] at hv
                        rw [hq] at hql
                        rw [hr] at hrl
                        rw [hq, hr]
                        clear hq hr hbig
                        by_cases hc : P - r ≤ r
                        · rw [if_pos hc] at hv
                          have HV2 := Lib.hid hv
                          have hc' : (P : Int) ≤ 2 * r := by omega
                          clear hv hc
                          go_wp2_with fail
                          go_ret2
                          exact sca_yes HV2.out (by simp) (bel_drewN bel_refl).below
                        · rw [if_neg hc] at hv
                          have HV2 := Lib.hid hv
                          have hc' : ¬ (P : Int) ≤ 2 * r := by omega
                          clear hv hc
                          go_wp2_with fail
                          go_ret2
                          exact sca_yes HV2.out rfl (bel_drewN bel_refl).below
theorem scaled_any (m : Nat) (hm : m < 10000000000000000) (e : Int) (h0 : -2000 ≤ e) (h1 : e ≤ 2000) (w : World) : Calls Try.prog 35 #[.int .i64 m, .int .i64 e] w (ScaR (valS m e) w) := by
  rcases Int.lt_or_le e 0 with h | h
  · exact scaled_down m hm e h h0 w
  · obtain ⟨n, rfl⟩ : ∃ n : Nat, e = n := ⟨e.toNat, by omega⟩
    exact scaled_up m hm n (by omega) w
end Go.Proofs.Ytoofjkhigonppaa

namespace Go.Proofs.Ytoofjkhigonppaa
open Go.RowKit

def finF (f : Fl) : Option Int := if badFl f = true then none else (valS f.m.toNat (expF f)).map (sgnF f)
theorem realF_fin (l : List Int) : realF l = finF (l.foldl takeF fl0) := rfl
theorem take_wrong {f : Fl} (h : f.wrong = true) (x : Int) : (takeF f x).wrong = true := by unfold takeF; rw [if_pos h]; exact h
theorem fold_wrong : ∀ (t : List Int) (f : Fl), f.wrong = true → (t.foldl takeF f).wrong = true
  | [], _, h => h
  | x :: t, f, h => fold_wrong t _ (take_wrong h x)
theorem fin_wrong {f : Fl} (h : f.wrong = true) : finF f = none := by unfold finF badFl; rw [h]; rfl
/-- The half bytes up to i are taken. -/
structure RS (l : List Int) (i : Nat) (f : Fl) : Prop where
  eq : l.foldl takeF fl0 = (l.drop i).foldl takeF f
  ok : FlOk f
section
variable {l : List Int} {i : Nat} {f : Fl} {x : Int}
theorem RS.next (h : RS l i f) (hx : l[i]? = some x) (x0 : 0 ≤ x) : RS l (i + 1) (takeF f x) := by
  obtain ⟨h1, h2⟩ := List.getElem?_eq_some_iff.1 hx
  refine ⟨?_, takeF_ok h.ok x0⟩
  rw [h.eq, List.drop_eq_getElem_cons h1, h2, List.foldl_cons]
theorem RS.nothing (h : RS l i f) (hw : f.wrong = true) : realF l = none := by
  rw [realF_fin, h.eq]
  exact fin_wrong (fold_wrong _ _ hw)
theorem RS.bad (h : RS l i f) (hx : l[i]? = some x) (x0 : 0 ≤ x) (hw : (takeF f x).wrong = true) : realF l = none := (h.next hx x0).nothing hw
theorem RS.fin (h : RS l i f) (hi : l.length ≤ i) : realF l = finF f := by
  rw [realF_fin, h.eq, List.drop_eq_nil_of_le hi]
  rfl
end
theorem take_dig {mi p an : Bool} {m d b x : Int} (hx : x ≤ 9) : takeF ⟨mi, m, d, b, 0, 0, 0, p, false, an⟩ x = ⟨mi, 10 * m + x, d + 1, if p = true then b + 1 else b, 0, 0, 0, p, decide (15 < d + 1), true⟩ := by
  unfold takeF
  rw [if_neg (by simp), if_pos hx]
  unfold digitF
  rw [if_neg (by simp)]
theorem take_pt {mi an : Bool} {m d b : Int} : takeF ⟨mi, m, d, b, 0, 0, 0, false, false, an⟩ 10 = ⟨mi, m, d, b, 0, 0, 0, true, false, true⟩ := by
  unfold takeF
  rw [if_neg (by simp), if_neg (by omega), if_neg (by omega), if_pos rfl]
  rfl
theorem take_sg {mi p an : Bool} {m d b x : Int} (hx : x = 11 ∨ x = 12) (hd : d ≠ 0) : takeF ⟨mi, m, d, b, 0, 0, 0, p, false, an⟩ x = ⟨mi, m, d, b, 0, if x = 12 then -1 else 1, 0, p, false, true⟩ := by
  unfold takeF
  rw [if_neg (by simp), if_neg (by omega), if_neg (by omega), if_neg (by omega), if_pos hx]
  simp [hd]
/-- What ends the digits, and is no exponent. -/
theorem take_no {mi p an : Bool} {m d b x : Int} (h9 : ¬ x ≤ 9) (h10 : x = 10 → p = true) (h14 : x = 14 → an = true) (hs : (x = 11 ∨ x = 12) → d = 0) : (takeF ⟨mi, m, d, b, 0, 0, 0, p, false, an⟩ x).wrong = true := by
  unfold takeF
  rw [if_neg (by simp), if_neg h9]
  split
  · rename_i h; exact h14 h
  split
  · rename_i h; simp [h10 h]
  split
  · rename_i h; simp [hs h]
  · rfl
theorem take_ex {mi p : Bool} {m d b e sg k x : Int} (hs : sg ≠ 0) (hx : x ≤ 9) : takeF ⟨mi, m, d, b, e, sg, k, p, false, true⟩ x = ⟨mi, m, d, b, 10 * e + x, sg, k + 1, p, decide (2 < k + 1), true⟩ := by
  unfold takeF
  rw [if_neg (by simp), if_pos hx]
  unfold digitF
  rw [if_pos (by simpa using hs)]
theorem take_ex_no {mi p : Bool} {m d b e sg k x : Int} (hs : sg ≠ 0) (hx : ¬ x ≤ 9) : (takeF ⟨mi, m, d, b, e, sg, k, p, false, true⟩ x).wrong = true := by
  unfold takeF
  rw [if_neg (by simp), if_neg hx]
  split
  · rfl
  split
  · simp [hs]
  split
  · simp [hs]
  · rfl
/-- Three digits of an exponent are too many. -/
theorem ex_many : ∀ (t : List Int) (f : Fl), f.sign ≠ 0 → f.any = true → f.exps + t.length > 2 → 0 ≤ f.exps → f.exps ≤ 2 → (t.foldl takeF f).wrong = true
  | [], f, _, _, h, _, h3 => by simp at h; omega
  | x :: t, f, hs, ha, h, h0, h2 => by
    rw [List.foldl_cons]
    cases hw : f.wrong with
    | true => exact fold_wrong t _ (take_wrong hw x)
    | false =>
      obtain ⟨mi, m, d, b, e, sg, k, p, w, an⟩ := f
      dsimp only at hs ha h h0 h2 hw
      subst ha hw
      rw [List.length_cons] at h
      by_cases hx : x ≤ 9
      · rw [take_ex hs hx]
        by_cases h3 : 2 < k + 1
        · exact fold_wrong t _ (by simp [h3])
        · exact ex_many t _ hs rfl (by simp only; omega) (by simp only; omega) (by simp only; omega)
      · exact fold_wrong t _ (take_ex_no hs hx)
theorem RS.many {l : List Int} {i : Nat} {f : Fl} (h : RS l i f) (hs : f.sign ≠ 0) (ha : f.any = true) (he : f.exps = 0) (hl : i + 2 < l.length) : realF l = none := by
  rw [realF_fin, h.eq]
  refine fin_wrong (ex_many _ _ hs ha ?_ (by omega) (by omega))
  rw [List.length_drop]
  omega
theorem rs_start (l : List Int) : RS l 0 fl0 := ⟨rfl, fl0_ok⟩
theorem fin_zero {mi p an : Bool} {m b e sg k : Int} : finF ⟨mi, m, 0, b, e, sg, k, p, false, an⟩ = none := by
  unfold finF badFl
  rw [if_pos (by simp)]
theorem fin_noex {mi p an : Bool} {m d b e sg : Int} (hs : sg ≠ 0) : finF ⟨mi, m, d, b, e, sg, 0, p, false, an⟩ = none := by
  unfold finF badFl
  rw [if_pos (by simp [hs])]
theorem fin_val {mi p an : Bool} {m d b e sg k : Int} (hd : d ≠ 0) (hk : sg = 0 ∨ k ≠ 0) : finF ⟨mi, m, d, b, e, sg, k, p, false, an⟩ = (valS m.toNat (sg * e - b)).map (fun x => if mi = true then -x else x) := by
  unfold finF badFl
  rw [if_neg (by simp [hd]; omega)]
  rfl
end Go.Proofs.Ytoofjkhigonppaa

namespace Go.Proofs.Ytoofjkhigonppaa
open Go.RowKit

theorem slat_get {w : World} {A : Option Addr} {n : Nat} {l : List Int} {i : Nat} {x : Int} (h : SlAt w A n (l.map (Value.int .i64))) (hx : l[i]? = some x) : ∃ b o, A = some ⟨b, o, none⟩ ∧ b < w.heap.size ∧ w.cell? ⟨b, o + i, none⟩ = some (.int .i64 x) := by
  have hl := (List.getElem?_eq_some_iff.1 hx).1
  have hn := h.1
  rw [List.length_map] at hn
  obtain ⟨b, o, hA, hb, hc⟩ := h.2 i (by omega)
  rw [List.getElem?_map, hx] at hc
  exact ⟨b, o, hA, hb, hc⟩
/-- What the digits came to: d digits, no sign of an exponent so far. -/
def DigF (mi : Bool) (m d b : Int) (p : Bool) (i : Nat) : Fl := ⟨mi, m, d, b, 0, 0, 0, p, false, decide (0 < i)⟩
theorem dig_bd {l : List Int} {i : Nat} {mi : Bool} {m d b : Int} {p : Bool} {j : Nat} (h : RS l i (DigF mi m d b p j)) : 0 ≤ m ∧ m < 1000000000000000 ∧ 0 ≤ d ∧ d ≤ 15 ∧ 0 ≤ b ∧ b ≤ d := by
  obtain ⟨m0, m1, d0, d1, b0, b1, -, -, -, -, -, ok⟩ := h.ok
  obtain ⟨o1, -⟩ := ok rfl
  have h2 := p10 (show (DigF mi m d b p j).digits.toNat ≤ 15 by omega)
  have h3 : (10 : Int) ^ 15 = 1000000000000000 := by decide
  unfold DigF at *
  dsimp only at *
  omega
def SgF (mi : Bool) (m d b : Int) (p : Bool) (e sg k : Int) : Fl := ⟨mi, m, d, b, e, sg, k, p, false, true⟩
theorem sg_bd {l : List Int} {i : Nat} {mi : Bool} {m d b : Int} {p : Bool} {e sg k : Int} (h : RS l i (SgF mi m d b p e sg k)) : 0 ≤ m ∧ m < 1000000000000000 ∧ 0 ≤ b ∧ b ≤ 15 ∧ 0 ≤ e ∧ e < 100 ∧ (sg = 0 ∨ sg = 1 ∨ sg = -1) := by
  obtain ⟨m0, m1, d0, d1, b0, b1, e0, e1, x0, x1, hs, ok⟩ := h.ok
  obtain ⟨o1, o2, -⟩ := ok rfl
  have h2 := p10 (show (SgF mi m d b p e sg k).digits.toNat ≤ 15 by omega)
  have h3 : (10 : Int) ^ 15 = 1000000000000000 := by decide
  unfold SgF at *
  dsimp only at *
  omega
theorem scaled_int (m : Int) (m0 : 0 ≤ m) (m1 : m ≤ 999999999999999) (e : Int) (h0 : -2000 ≤ e) (h1 : e ≤ 2000) (w : World) : Calls Try.prog 35 #[.int .i64 m, .int .i64 e] w (ScaR (valS m.toNat e) w) := by
  obtain ⟨k, rfl⟩ : ∃ k : Nat, m = k := ⟨m.toNat, by omega⟩
  exact scaled_any k (by omega) e h0 h1 w
theorem dig_dig {mi p : Bool} {m d b x : Int} {i j : Nat} (hx : x ≤ 9) (hd : d ≤ 14) : takeF (DigF mi m d b p i) x = DigF mi (m * 10 + x) (d + 1) (if p = true then b + 1 else b) p (j + 1) := by
  unfold DigF
  rw [take_dig hx, show decide (15 < d + 1) = false by simp; omega, show 10 * m + x = m * 10 + x by omega, show decide (0 < j + 1) = true by simp]
theorem dig_many {mi p : Bool} {m d b x : Int} {i : Nat} (hx : x ≤ 9) (hd : ¬ d ≤ 14) : (takeF (DigF mi m d b p i) x).wrong = true := by
  unfold DigF
  rw [take_dig hx]
  simp
  omega
theorem dig_pt {mi : Bool} {m d b : Int} {i j : Nat} : takeF (DigF mi m d b false i) 10 = DigF mi m d b true (j + 1) := by
  unfold DigF
  rw [take_pt, show decide (0 < j + 1) = true by simp]
theorem dig_sg {mi p : Bool} {m d b x : Int} {i : Nat} (hx : x = 11 ∨ x = 12) (hd : d ≠ 0) : takeF (DigF mi m d b p i) x = SgF mi m d b p 0 (if x = 12 then -1 else 1) 0 := by
  unfold DigF
  rw [take_sg hx hd]
  rfl
theorem sg_dig {mi p : Bool} {m d b e sg k x : Int} (hs : sg ≠ 0) (hx : x ≤ 9) (hk : k ≤ 1) : takeF (SgF mi m d b p e sg k) x = SgF mi m d b p (e * 10 + x) sg (k + 1) := by
  unfold SgF
  rw [take_ex hs hx, show decide (2 < k + 1) = false by simp; omega, show 10 * e + x = e * 10 + x by omega]
theorem real_end {mi : Bool} {v : Option Int} {x : Int} {w w' : World} (h : v = some x) (hb : Below w.heap.size w w') : ScaR (v.map (fun x => if mi = true then -x else x)) w (.returned (.tuple #[.int .i64 (if mi = true then -x else x), .bool true])) w' := by
  subst h; exact ⟨rfl, hb⟩
set_option maxRecDepth 20000 in
set_option maxHeartbeats 8000000 in
theorem Real_any {w : World} {A : Option Addr} {n c : Nat} {l : List Int} (hn : l.length = n) (h : SlAt w A n (l.map (Value.int .i64))) (hi : ∀ x ∈ l, 0 ≤ x ∧ x ≤ 14) (hs : n ≤ 1000000000) :
    Calls Try.prog 17 #[.slice A n c] w (ScaR (realF l) w) := by
  subst hn
  have H := Lib.hid h
  have HI := Lib.hid hi
  clear h hi
  have hst : ∃ (i0 : Nat) (mi : Bool), RS l i0 (DigF mi 0 0 0 false i0) ∧ i0 ≤ 1 ∧ i0 ≤ l.length ∧ (i0 = 0 → l[0]? ≠ some 14) ∧ ((mi = false ∧ i0 = 0 ∧ l = []) ∨ (mi = false ∧ i0 = 0 ∧ ∃ x, l[0]? = some x ∧ x ≠ 14) ∨ (mi = true ∧ i0 = 1 ∧ l[0]? = some 14)) := by
    match l with
    | [] => exact ⟨0, false, rs_start _, by omega, by simp, by simp, .inl ⟨rfl, rfl, rfl⟩⟩
    | x :: t =>
      by_cases hx : x = 14
      · subst hx
        exact ⟨1, true, (rs_start _).next (x := 14) rfl (by omega), by omega, by simp, by simp, .inr (.inr ⟨rfl, rfl, rfl⟩)⟩
      · exact ⟨0, false, rs_start _, by omega, by simp, by simpa using hx, .inr (.inl ⟨rfl, rfl, x, rfl, hx⟩)⟩
  obtain ⟨i0, mi, hrs, hi1, hil, h14, hcase⟩ := hst
  have HRS := Lib.hid hrs
  have H14 := Lib.hid h14
  clear hrs h14
  have start : ∀ Q : Prop, ((mi = false ∧ i0 = 0 ∧ ((l.length : Int) = 0)) → Q) → ((mi = false ∧ i0 = 0 ∧ (0 : Int) < l.length ∧ ∃ x b o, (x == 14) = false ∧ A = some ⟨b, o, none⟩ ∧ b < w.heap.size ∧ w.cell? ⟨b, o, none⟩ = some (.int .i64 x)) → Q) → ((mi = true ∧ i0 = 1 ∧ (0 : Int) < l.length ∧ ∃ b o, A = some ⟨b, o, none⟩ ∧ b < w.heap.size ∧ w.cell? ⟨b, o, none⟩ = some (.int .i64 14)) → Q) → Q := by
    intro Q q1 q2 q3
    rcases hcase with ⟨e1, e2, e3⟩ | ⟨e1, e2, x, hx, h14⟩ | ⟨e1, e2, hx⟩
    · exact q1 ⟨e1, e2, by rw [e3]; rfl⟩
    · obtain ⟨b, o, hA, hb, hc⟩ := slat_get H.out hx
      have := (List.getElem?_eq_some_iff.1 hx).1
      exact q2 ⟨e1, e2, by omega, x, b, o, by simpa using h14, hA, hb, hc⟩
    · obtain ⟨b, o, hA, hb, hc⟩ := slat_get H.out hx
      have := (List.getElem?_eq_some_iff.1 hx).1
      exact q3 ⟨e1, e2, by omega, b, o, hA, hb, hc⟩
  clear hcase
  have hmi : (mi = false ∧ i0 = 0) ∨ (mi = true ∧ i0 = 1) := start _ (fun h => .inl ⟨h.1, h.2.1⟩) (fun h => .inl ⟨h.1, h.2.1⟩) (fun h => .inr ⟨h.1, h.2.1⟩)
  have START := Lib.hid start
  clear start
  go_enter Try.func17, Try.ntmps17
  go_upto_region 2 with fail
  go_cut [24] (fun s wx => s = .bool mi ∧ w = wx)
  case first =>
    refine START.out _ ?_ ?_ ?_
    · rintro ⟨rfl, rfl, hl0⟩
      clear START hmi
      go_wp2_with fail
      go_meet
      exact ⟨rfl, rfl⟩
    · rintro ⟨rfl, rfl, hl0, x, b, o, hx, rfl, hb, hc⟩
      clear START hmi
      go_wp2_with fail
      go_meet
      exact ⟨rfl, rfl⟩
    · rintro ⟨rfl, rfl, hl0, b, o, rfl, hb, hc⟩
      clear START hmi
      go_wp2_with fail
      go_meet
      exact ⟨rfl, rfl⟩
  case rest =>
    obtain ⟨rfl, rfl⟩ := hcut
    clear START
    go_upto_if 24 with fail
    go_cut [4, 5] (fun s4 s5 wx => s4 = .int .i64 i0 ∧ s5 = .bool mi ∧ w = wx)
    case first =>
      rcases hmi with ⟨rfl, rfl⟩ | ⟨rfl, rfl⟩
      all_goals
        go_wp2_with fail
        go_meet
        exact ⟨rfl, rfl, rfl⟩
    case rest =>
      obtain ⟨rfl, rfl, rfl⟩ := hcut
      go_wp2_with fail
      go_loop [4, 6, 7, 8, 9] (fun i m d b p => ∃ (i' : Nat) (m' d' b' : Int) (p' : Bool), i0 ≤ i' ∧ i' ≤ l.length ∧ i = .int .i64 i' ∧ m = .int .i64 m' ∧ d = .int .i64 d' ∧ b = .int .i64 b' ∧ p = .bool p' ∧ Hid (RS l i' (DigF mi m' d' b' p' i'))) (fun i _ _ _ _ => l.length - (intOf i).toNat)
      case atStart => exact ⟨i0, 0, 0, 0, false, Nat.le_refl _, hil, rfl, rfl, rfl, rfl, rfl, HRS⟩
      case round =>
        obtain ⟨i, m, d, b, p, hi0, hil2, rfl, rfl, rfl, rfl, rfl, HR⟩ := hrel
        obtain ⟨m0, m1', d0, d1, b0, b1⟩ := dig_bd HR.out
        have m1 : m ≤ 999999999999999 := by omega
        clear m1'
        by_cases hlt : i < l.length
        · obtain ⟨x, hx⟩ := get_some' hlt
          obtain ⟨bb, oo, rfl, hb, hc⟩ := slat_get H.out hx
          obtain ⟨x0, x14⟩ := HI.out x (List.mem_of_getElem? hx)
          by_cases h9 : x ≤ 9
          · have h10 : (x == 10) = false := by rw [beq_eq_false_iff_ne]; omega
            by_cases h15 : d ≤ 14
            · have hn := HR.out.next hx x0
              rw [dig_dig (j := i) h9 h15] at hn
              have HNX := Lib.hid hn
              clear hn hx
              cases p
              all_goals
                go_wp2_with fail
                go_round
                case rel => exact ⟨i + 1, m * 10 + x, d + 1, _, _, by omega, by omega, by go_num, rfl, rfl, rfl, rfl, HNX⟩
                case measure => simp [intOf]; omega
            · have hno := HR.out.bad hx x0 (dig_many h9 h15)
              have HNO := Lib.hid hno
              have hd15 : d = 15 := by omega
              clear hno hx
              go_wp2_with fail
              go_ret2
              exact sca_no HNO.out (Below.refl _ _)
          · by_cases hpt : x = 10 ∧ p = false
            · obtain ⟨rfl, rfl⟩ := hpt
              have hn := HR.out.next hx x0
              rw [dig_pt (j := i)] at hn
              have HNX := Lib.hid hn
              clear hn hx
              go_wp2_with fail
              go_round
              case rel => exact ⟨i + 1, m, d, b, true, by omega, by omega, by go_num, rfl, rfl, rfl, rfl, HNX⟩
              case measure => simp [intOf]; omega
            · have hp : (x == 10) = false ∨ ((x == 10) = true ∧ p = true) := by
                rw [beq_eq_false_iff_ne, beq_iff_eq]
                by_cases h10 : x = 10
                · exact .inr ⟨h10, by cases p; exact absurd ⟨h10, rfl⟩ hpt; rfl⟩
                · exact .inl h10
              have han : x = 14 → decide (0 < i) = true := fun h => by
                rcases Nat.eq_zero_or_pos i with h0 | h0
                · subst h0
                  exact absurd (hx.trans (by rw [h])) (H14.out (by omega))
                · simpa using h0
              have h10p : x = 10 → p = true := fun h => by cases p; exact absurd ⟨h, rfl⟩ hpt; rfl
              by_cases hd0 : d = 0
              · subst hd0
                have hno := HR.out.bad hx x0 (take_no h9 h10p han (fun _ => rfl))
                have HNO := Lib.hid hno
                clear hno hx han h10p hpt
                rcases hp with hp | ⟨hp, rfl⟩
                all_goals
                  go_wp2_with fail
                  go_ret2
                  exact sca_no HNO.out (Below.refl _ _)
              · have hd0' : (d == 0) = false := by rw [beq_eq_false_iff_ne]; exact hd0
                by_cases hsg : x = 11 ∨ x = 12
                · have hn := HR.out.next hx x0
                  rw [dig_sg hsg hd0] at hn
                  obtain ⟨sg, hsge⟩ : ∃ sg : Int, (if x = 12 then (-1 : Int) else 1) = sg := ⟨_, rfl⟩
                  rw [hsge] at hn
                  have hsg0 : sg ≠ 0 := by rw [← hsge]; split <;> omega
                  have hcase : (x = 12 ∧ sg = -1) ∨ (x = 11 ∧ sg = 1) := by
                    rcases hsg with h | h
                    · exact .inr ⟨h, by rw [← hsge, if_neg (by omega)]⟩
                    · exact .inl ⟨h, by rw [← hsge, if_pos h]⟩
                  have HNX := Lib.hid hn
                  clear han h10p hpt hp hsge hx hsg
                  by_cases hn1 : i + 1 = l.length
                  · have hno := HNX.out.fin (by omega)
                    unfold SgF at hno
                    rw [fin_noex hsg0] at hno
                    have HNO := Lib.hid hno
                    have hln : (l.length : Int) = i + 1 := by omega
                    clear hno hn
                    rcases hcase with ⟨rfl, rfl⟩ | ⟨rfl, rfl⟩
                    all_goals
                      go_wp2_with fail
                      go_ret2
                      exact sca_no HNO.out (Below.refl _ _)
                  by_cases hn3 : i + 3 < l.length
                  · have hno := HNX.out.many hsg0 rfl rfl (by omega)
                    have HNO := Lib.hid hno
                    have hl1 : ¬ (l.length : Int) - i - 1 < 1 := by omega
                    have hl2 : (2 : Int) < (l.length : Int) - i - 1 := by omega
                    clear hno hn
                    rcases hcase with ⟨rfl, rfl⟩ | ⟨rfl, rfl⟩
                    all_goals
                      go_wp2_with fail
                      go_ret2
                      exact sca_no HNO.out (Below.refl _ _)
                  · have hl1 : ¬ (l.length : Int) - i - 1 < 1 := by omega
                    have hl2 : ¬ (2 : Int) < (l.length : Int) - i - 1 := by omega
                    have HSG : Hid (RS l (i + 1) (SgF mi m d b p 0 sg (((i + 1 : Nat) : Int) - i - 1))) := Lib.hid (by rw [show ((i + 1 : Nat) : Int) - i - 1 = 0 by omega]; exact HNX.out)
                    clear hn HNX
                    rcases hcase with ⟨rfl, rfl⟩ | ⟨rfl, rfl⟩
                    · skip
                      go_wp2_with fail
                      go_loop [10, 13] (fun e k => ∃ (k' : Nat) (e' : Int), i + 1 ≤ k' ∧ k' ≤ l.length ∧ k = .int .i64 k' ∧ e = .int .i64 e' ∧ Hid (RS l k' (SgF mi m d b p e' (-1) ((k' : Int) - i - 1)))) (fun _ k => l.length - (intOf k).toNat)
                      case atStart => exact ⟨i + 1, 0, Nat.le_refl _, by omega, by go_num, rfl, HSG⟩
                      case round =>
                        obtain ⟨k, ex, hk1, hk2, rfl, rfl, HK⟩ := hrel
                        obtain ⟨m0, m1', b0, b1, e0, e1', -⟩ := sg_bd HK.out
                        have e1 : ex ≤ 99 := by omega
                        have m1 : m ≤ 999999999999999 := by omega
                        clear m1' e1'
                        by_cases hlt2 : k < l.length
                        · obtain ⟨y, hy⟩ := get_some' hlt2
                          obtain ⟨bq, oq, hAq, hbq, hcq⟩ := slat_get H.out hy
                          injection hAq with hAq
                          injection hAq with hq1 hq2
                          subst hq1 hq2
                          obtain ⟨y0, y14⟩ := HI.out y (List.mem_of_getElem? hy)
                          by_cases hy9 : y ≤ 9
                          · have hn := HK.out.next hy y0
                            rw [sg_dig (k := (k : Int) - i - 1) hsg0 hy9 (by omega)] at hn
                            have HNX := Lib.hid hn
                            have hy9' : ¬ 9 < y := by omega
                            clear hn hy
                            go_wp2_with fail
                            go_round
                            case rel => exact ⟨k + 1, ex * 10 + y, by omega, by omega, by go_num, rfl, Lib.hid (by rw [show ((k + 1 : Nat) : Int) - i - 1 = (k : Int) - i - 1 + 1 by omega]; exact HNX.out)⟩
                            case measure => simp [intOf]; omega
                          · have hno := HK.out.bad hy y0 (take_ex_no hsg0 hy9)
                            have HNO := Lib.hid hno
                            have hy9' : 9 < y := by omega
                            clear hno hy
                            go_wp2_with fail
                            go_ret2
                            exact sca_no HNO.out (Below.refl _ _)
                        · obtain rfl : k = l.length := by omega
                          have hval := HK.out.fin (Nat.le_refl _)
                          unfold SgF at hval
                          rw [fin_val hd0 (.inr (by omega))] at hval
                          clear hlt2
                          have HVV := Lib.hid hval
                          have KS := fun (w : World) (E' : Int) (hE : E' = (-1 : Int) * ex - b) => scaled_int m m0 m1 E' (by omega) (by omega) w
                          cases hE : valS m.toNat ((-1 : Int) * ex - b) with
                          | none =>
                            have hno : realF l = none := by rw [hval, hE]; rfl
                            have HNO := Lib.hid hno
                            have KN : ∀ (w : World) (E' : Int), E' = (-1 : Int) * ex - b → Calls Try.prog 35 #[.int .i64 m, .int .i64 E'] w fun e w' => ∃ d, e = .returned (.tuple #[.int .i64 d, .bool false]) ∧ Below w.heap.size w w' := fun w E' h => (KS w E' h).mono fun e w' hr => by
                              subst h
                              unfold ScaR at hr
                              rw [hE] at hr
                              obtain ⟨⟨d, rfl⟩, hb⟩ := hr
                              exact ⟨d, rfl, hb⟩
                            have HKN := Lib.hid KN
                            clear KS KN hno hval hE HVV
                            cases mi
                            all_goals
                              go_wp2_with (first | (go_at_call 35; (with_reducible refine (HKN.out _ _ ?_).mono ?_); (· omega); rintro e w5 ⟨dd, rfl, hb5⟩) | fail)
                              go_ret2
                              exact sca_no HNO.out hb5
                          | some v =>
                            obtain ⟨v0, v1⟩ := valS_bd hE
                            have hyes : realF l = some (if mi = true then -v else v) := by rw [hval, hE]; rfl
                            have HYES := Lib.hid hyes
                            have KN : ∀ (w : World) (E' : Int), E' = (-1 : Int) * ex - b → Calls Try.prog 35 #[.int .i64 m, .int .i64 E'] w fun e w' => e = .returned (.tuple #[.int .i64 v, .bool true]) ∧ Below w.heap.size w w' := fun w E' h => (KS w E' h).mono fun e w' hr => by
                              subst h
                              unfold ScaR at hr
                              rw [hE] at hr
                              exact hr
                            have HKN := Lib.hid KN
                            clear KS KN hyes hval hE HVV
                            cases mi
                            all_goals
                              go_wp2_with (first | (go_at_call 35; (with_reducible refine (HKN.out _ _ ?_).mono ?_); (· omega); rintro e w5 ⟨rfl, hb5⟩) | fail)
                              go_ret2
                              exact sca_yes HYES.out (by first | rfl | simp | omega) hb5
                    · skip
                      go_wp2_with fail
                      go_loop [10, 13] (fun e k => ∃ (k' : Nat) (e' : Int), i + 1 ≤ k' ∧ k' ≤ l.length ∧ k = .int .i64 k' ∧ e = .int .i64 e' ∧ Hid (RS l k' (SgF mi m d b p e' 1 ((k' : Int) - i - 1)))) (fun _ k => l.length - (intOf k).toNat)
                      case atStart => exact ⟨i + 1, 0, Nat.le_refl _, by omega, by go_num, rfl, HSG⟩
                      case round =>
                        obtain ⟨k, ex, hk1, hk2, rfl, rfl, HK⟩ := hrel
                        obtain ⟨m0, m1', b0, b1, e0, e1', -⟩ := sg_bd HK.out
                        have e1 : ex ≤ 99 := by omega
                        have m1 : m ≤ 999999999999999 := by omega
                        clear m1' e1'
                        by_cases hlt2 : k < l.length
                        · obtain ⟨y, hy⟩ := get_some' hlt2
                          obtain ⟨bq, oq, hAq, hbq, hcq⟩ := slat_get H.out hy
                          injection hAq with hAq
                          injection hAq with hq1 hq2
                          subst hq1 hq2
                          obtain ⟨y0, y14⟩ := HI.out y (List.mem_of_getElem? hy)
                          by_cases hy9 : y ≤ 9
                          · have hn := HK.out.next hy y0
                            rw [sg_dig (k := (k : Int) - i - 1) hsg0 hy9 (by omega)] at hn
                            have HNX := Lib.hid hn
                            have hy9' : ¬ 9 < y := by omega
                            clear hn hy
                            go_wp2_with fail
                            go_round
                            case rel => exact ⟨k + 1, ex * 10 + y, by omega, by omega, by go_num, rfl, Lib.hid (by rw [show ((k + 1 : Nat) : Int) - i - 1 = (k : Int) - i - 1 + 1 by omega]; exact HNX.out)⟩
                            case measure => simp [intOf]; omega
                          · have hno := HK.out.bad hy y0 (take_ex_no hsg0 hy9)
                            have HNO := Lib.hid hno
                            have hy9' : 9 < y := by omega
                            clear hno hy
                            go_wp2_with fail
                            go_ret2
                            exact sca_no HNO.out (Below.refl _ _)
                        · obtain rfl : k = l.length := by omega
                          have hval := HK.out.fin (Nat.le_refl _)
                          unfold SgF at hval
                          rw [fin_val hd0 (.inr (by omega))] at hval
                          clear hlt2
                          have HVV := Lib.hid hval
                          have KS := fun (w : World) (E' : Int) (hE : E' = (1 : Int) * ex - b) => scaled_int m m0 m1 E' (by omega) (by omega) w
                          cases hE : valS m.toNat ((1 : Int) * ex - b) with
                          | none =>
                            have hno : realF l = none := by rw [hval, hE]; rfl
                            have HNO := Lib.hid hno
                            have KN : ∀ (w : World) (E' : Int), E' = (1 : Int) * ex - b → Calls Try.prog 35 #[.int .i64 m, .int .i64 E'] w fun e w' => ∃ d, e = .returned (.tuple #[.int .i64 d, .bool false]) ∧ Below w.heap.size w w' := fun w E' h => (KS w E' h).mono fun e w' hr => by
                              subst h
                              unfold ScaR at hr
                              rw [hE] at hr
                              obtain ⟨⟨d, rfl⟩, hb⟩ := hr
                              exact ⟨d, rfl, hb⟩
                            have HKN := Lib.hid KN
                            clear KS KN hno hval hE HVV
                            cases mi
                            all_goals
                              go_wp2_with (first | (go_at_call 35; (with_reducible refine (HKN.out _ _ ?_).mono ?_); (· omega); rintro e w5 ⟨dd, rfl, hb5⟩) | fail)
                              go_ret2
                              exact sca_no HNO.out hb5
                          | some v =>
                            obtain ⟨v0, v1⟩ := valS_bd hE
                            have hyes : realF l = some (if mi = true then -v else v) := by rw [hval, hE]; rfl
                            have HYES := Lib.hid hyes
                            have KN : ∀ (w : World) (E' : Int), E' = (1 : Int) * ex - b → Calls Try.prog 35 #[.int .i64 m, .int .i64 E'] w fun e w' => e = .returned (.tuple #[.int .i64 v, .bool true]) ∧ Below w.heap.size w w' := fun w E' h => (KS w E' h).mono fun e w' hr => by
                              subst h
                              unfold ScaR at hr
                              rw [hE] at hr
                              exact hr
                            have HKN := Lib.hid KN
                            clear KS KN hyes hval hE HVV
                            cases mi
                            all_goals
                              go_wp2_with (first | (go_at_call 35; (with_reducible refine (HKN.out _ _ ?_).mono ?_); (· omega); rintro e w5 ⟨rfl, hb5⟩) | fail)
                              go_ret2
                              exact sca_yes HYES.out (by first | rfl | simp | omega) hb5
                · have hno := HR.out.bad hx x0 (take_no h9 h10p han (fun h => absurd h hsg))
                  have HNO := Lib.hid hno
                  have h11 : (x != 11) = true := by rw [bne_iff_ne]; omega
                  have h12 : (x == 12) = false := by rw [beq_eq_false_iff_ne]; omega
                  clear hno hx han h10p hpt hsg
                  rcases hp with hp | ⟨hp, rfl⟩
                  all_goals
                    go_wp2_with fail
                    go_ret2
                    exact sca_no HNO.out (Below.refl _ _)
        · obtain rfl : i = l.length := by omega
          by_cases hd0 : d = 0
          · subst hd0
            have hno := HR.out.fin (Nat.le_refl _)
            unfold DigF at hno
            rw [fin_zero] at hno
            have HNO := Lib.hid hno
            clear hno
            go_wp2_with fail
            go_ret2
            exact sca_no HNO.out (Below.refl _ _)
          · have hd0' : (d == 0) = false := by rw [beq_eq_false_iff_ne]; exact hd0
            have hval := HR.out.fin (Nat.le_refl _)
            unfold DigF at hval
            rw [fin_val hd0 (.inl rfl), show (0 : Int) * 0 - b = -b by omega] at hval
            clear hlt
            have HVV := Lib.hid hval
            have KS := fun (w : World) (E' : Int) (hE : E' = -b) => scaled_int m m0 m1 E' (by omega) (by omega) w
            cases hE : valS m.toNat (-b) with
            | none =>
              have hno : realF l = none := by rw [hval, hE]; rfl
              have HNO := Lib.hid hno
              have KN : ∀ (w : World) (E' : Int), E' = -b → Calls Try.prog 35 #[.int .i64 m, .int .i64 E'] w fun e w' => ∃ d, e = .returned (.tuple #[.int .i64 d, .bool false]) ∧ Below w.heap.size w w' := fun w E' h => (KS w E' h).mono fun e w' hr => by
                subst h
                unfold ScaR at hr
                rw [hE] at hr
                obtain ⟨⟨d, rfl⟩, hb⟩ := hr
                exact ⟨d, rfl, hb⟩
              have HKN := Lib.hid KN
              clear KS KN hno hval hE HVV
              cases mi
              all_goals
                go_wp2_with (first | (go_at_call 35; (with_reducible refine (HKN.out _ _ ?_).mono ?_); (· omega); rintro e w5 ⟨dd, rfl, hb5⟩) | fail)
                go_ret2
                exact sca_no HNO.out hb5
            | some v =>
              obtain ⟨v0, v1⟩ := valS_bd hE
              have hyes : realF l = some (if mi = true then -v else v) := by rw [hval, hE]; rfl
              have HYES := Lib.hid hyes
              have KN : ∀ (w : World) (E' : Int), E' = -b → Calls Try.prog 35 #[.int .i64 m, .int .i64 E'] w fun e w' => e = .returned (.tuple #[.int .i64 v, .bool true]) ∧ Below w.heap.size w w' := fun w E' h => (KS w E' h).mono fun e w' hr => by
                subst h
                unfold ScaR at hr
                rw [hE] at hr
                exact hr
              have HKN := Lib.hid KN
              clear KS KN hyes hval hE HVV
              cases mi
              all_goals
                go_wp2_with (first | (go_at_call 35; (with_reducible refine (HKN.out _ _ ?_).mono ?_); (· omega); rintro e w5 ⟨rfl, hb5⟩) | fail)
                go_ret2
                exact sca_yes HYES.out (by first | rfl | simp | omega) hb5
end Go.Proofs.Ytoofjkhigonppaa

namespace Go.Proofs.Ytoofjkhigonppaa
open Go.RowKit

theorem sl_byte {w : World} {A : Option Addr} {n : Nat} {bs : List UInt8} {i : Nat} {u : UInt8} (h : SlAt w A n (bs.map byteV)) (hx : bs[i]? = some u) : ∃ b o, A = some ⟨b, o, none⟩ ∧ b < w.heap.size ∧ w.cell? ⟨b, o + i, none⟩ = some (.int .u8 u.toNat) := by
  have hl := (List.getElem?_eq_some_iff.1 hx).1
  have hn := h.1
  rw [List.length_map] at hn
  obtain ⟨b, o, hA, hb, hc⟩ := h.2 i (by omega)
  rw [List.getElem?_map, hx] at hc
  exact ⟨b, o, hA, hb, hc⟩
def RealR (bs : List UInt8) (w : World) (e : Ending) (w' : World) : Prop :=
  (match realS bs with
    | none => e = .returned (.tuple #[.slice none 0 0, .int .i64 0, .bool false])
    | some (l, n) => ∃ A c, e = .returned (.tuple #[.slice A l.length c, .int .i64 n, .bool true]) ∧ SlAt w' A l.length (l.map (Value.int .i64))) ∧ Below w.heap.size w w'
theorem realR_no {bs : List UInt8} {w w' : World} (h : realS bs = none) (hb : Below w.heap.size w w') : RealR bs w (.returned (.tuple #[.slice none 0 0, .int .i64 0, .bool false])) w' := by
  unfold RealR; rw [h]; exact ⟨rfl, hb⟩
theorem realR_yes {bs : List UInt8} {w w' : World} {l : List Int} {n : Nat} {A : Option Addr} {k c : Nat} {i : Int} (h : realS bs = some (l, n)) (hi : i = n) (ho : OwI w.heap.size w' A k c l) (hb : Below w.heap.size w w') : RealR bs w (.returned (.tuple #[.slice A k c, .int .i64 i, .bool true])) w' := by
  have hl := ho.len
  subst hl hi
  unfold RealR; rw [h]; exact ⟨⟨_, _, rfl, ho.sl⟩, hb⟩
theorem done_hi {bs : List UInt8} {q : Nat} {pre : List Int} {c : UInt8} (h : Done bs 0 q pre) (hc : bs[q]? = some c) (h1 : hi4 c = 15) : realS bs = some (pre, q + 1) := by
  obtain ⟨hp, h⟩ := h
  rw [List.drop_zero] at h
  rw [h, drop_at hc, realS, if_pos h1]
  simp
  omega
theorem done_lo {bs : List UInt8} {q : Nat} {pre : List Int} {c : UInt8} (h : Done bs 0 q pre) (hc : bs[q]? = some c) (h1 : hi4 c ≠ 15) (h2 : lo4 c = 15) : realS bs = some (pre ++ [hi4 c], q + 1) := by
  obtain ⟨hp, h⟩ := h
  rw [List.drop_zero] at h
  rw [h, drop_at hc, realS, if_neg h1, if_pos h2]
  simp
  omega
theorem done_end {bs : List UInt8} {q : Nat} {pre : List Int} (h : Done bs 0 q pre) (hq : bs.length ≤ q) : realS bs = none := by
  obtain ⟨hp, h⟩ := h
  rw [List.drop_zero] at h
  rw [h, List.drop_eq_nil_of_le hq]
  rfl
set_option maxRecDepth 20000 in
set_option maxHeartbeats 8000000 in
theorem rreal_any {w : World} {bs : List UInt8} {A : Option Addr} {n c : Nat} (hn : bs.length = n) (h : SlAt w A n (bs.map byteV)) (hs : n ≤ 1000000) :
    Calls Try.prog 44 #[.slice A n c] w (RealR bs w) := by
  subst hn
  have H := Lib.hid h
  clear h
  go_enter Try.func44, Try.ntmps44
  go_wp2_with fail
  go_loopw [5, 6] (fun out i wr => ∃ (q : Nat) (pre : List Int) (A1 : Option Addr) (k c1 : Nat), q ≤ bs.length ∧ i = .int .i64 q ∧ out = .slice A1 k c1 ∧ k ≤ 2 * q ∧ Hid (Done bs 0 q pre) ∧ Hid (OwI w.heap.size wr A1 k c1 pre) ∧ Hid (Below w.heap.size w wr)) (fun _ i _ => bs.length - (intOf i).toNat)
  case atStart => exact ⟨0, [], none, 0, 0, Nat.zero_le _, rfl, rfl, by omega, Lib.hid ⟨Nat.le_refl _, by simp⟩, Lib.hid (OwI.nil w), Lib.hid (Below.refl _ _)⟩
  case round =>
    obtain ⟨q, pre, A1, k, c1, hq, rfl, rfl, hk, HD, HO, HW⟩ := hrel
    have hsz := HW.out.size
    by_cases hlt : q < bs.length
    · obtain ⟨u, hu⟩ := get_some' hlt
      obtain ⟨b, o, rfl, hb, hc⟩ := sl_byte H.out hu
      have q0 : wr.cell? ⟨b, o + q, none⟩ = some (.int .u8 u.toNat) := (HW.out.cell (p := ⟨b, _, none⟩) hb).trans hc
      obtain ⟨z, hz⟩ : ∃ z : Int, (u.toNat : Int) = z := ⟨_, rfl⟩
      have hz1 : 0 ≤ z ∧ z ≤ 255 := by have := u.toNat_lt; omega
      obtain ⟨z0, z1⟩ := hz1
      have hhi : hi4 u = z / 16 := by unfold hi4; omega
      have hlo : lo4 u = z % 16 := by unfold lo4; omega
      have t1 : z.tdiv 16 = z / 16 := Int.tdiv_eq_ediv_of_nonneg z0
      have t2 : z.tmod 16 = z % 16 := Int.tmod_eq_emod_of_nonneg z0
      have HU := Lib.hid hu
      have HHL := Lib.hid (And.intro hhi hlo)
      rw [hz] at q0
      clear hc hu hz hhi hlo
      go_upto_region 6 with fail
      go_quiet (fail)
      have hzz : 0 ≤ z / 16 ∧ z / 16 ≤ 15 ∧ 0 ≤ z % 16 ∧ z % 16 ≤ 15 := by omega
      have hO2 := HO.out.keep (w' := wr.drewN nq) (bel_drewN bel_refl).below
      have hW2 := HW.out.trans ((bel_drewN (n := nq) (bel_refl (a := wr))).below.mono hsz)
      try simp only [t1, t2]
      generalize hH : z / 16 = Hh at *
      generalize hL : z % 16 = Ll at *
      generalize hwq : wr.drewN nq = wq at *
      have HO2 := Lib.hid hO2
      have HW2 := Lib.hid hW2
      obtain ⟨y0, y1, y2, y3⟩ := hzz
      clear hO2 hW2 HO HW t1 t2 hH hL hwq q0
      by_cases h15 : Hh = 15
      · have hr := done_hi HD.out HU.out (by rw [HHL.out.1]; exact h15)
        have HR := Lib.hid hr
        clear hr
        go_wp2_with fail
        go_ret3
        exact realR_yes HR.out rfl HO2.out HW2.out
      · have h15' : (Hh == 15) = false := by rw [beq_eq_false_iff_ne]; exact h15
        have hsz2 := HW2.out.size
        have hkl := HO2.out.len
        have HOA := Lib.hid (HO2.out.keep (w' := wq.alloc (.cells #[.int .i64 Hh] 3)) (bel_alloc bel_refl).below)
        have HWA := Lib.hid (HW2.out.trans ((bel_alloc (o := .cells #[.int .i64 Hh] 3) (bel_refl (a := wq))).below.mono hsz2))
        go_upto_region 9 with (first
          | (at_builtin; refine wpList_append_oi2 (by rfl) (.tmp 32) (.tmp 34) (by rfl) (by rfl) HOA.out (some ⟨wq.heap.size, 0, none⟩) 1 1 (by rfl) [Hh] (slat_int wq Hh) (by omega) ?_; intro A3 c3 w5 ho5 hg5 hr5; have HO5 := Lib.hid ho5; have HG5 := Lib.hid hg5; clear ho5 hg5 hr5)
          | fail)
        have HW5 := Lib.hid (HWA.out.trans (grown_below' HG5.out HOA.out.le (fun k hk => (HOA.out.row k hk).1)))
        have hsz5 := HW5.out.size
        clear HOA HWA HG5 HO2 HW2
        by_cases l15 : Ll = 15
        · have hr := done_lo HD.out HU.out (by rw [HHL.out.1]; exact h15) (by rw [HHL.out.2]; exact l15)
          rw [HHL.out.1] at hr
          have HR := Lib.hid hr
          clear hr
          go_wp2_with fail
          go_ret3
          exact realR_yes HR.out rfl HO5.out HW5.out
        · have l15' : (Ll == 15) = false := by rw [beq_eq_false_iff_ne]; exact l15
          have hdn := done_next HD.out HU.out (by rw [HHL.out.1]; exact h15) (by rw [HHL.out.2]; exact l15)
          rw [HHL.out.1, HHL.out.2] at hdn
          have HDN := Lib.hid hdn
          have HOA := Lib.hid (HO5.out.keep (w' := w5.alloc (.cells #[.int .i64 Ll] 3)) (bel_alloc bel_refl).below)
          have HWA := Lib.hid (HW5.out.trans ((bel_alloc (o := .cells #[.int .i64 Ll] 3) (bel_refl (a := w5))).below.mono hsz5))
          clear hdn
          go_wp2_with (first
            | (at_builtin; refine wpList_append_oi2 (by rfl) (.tmp 41) (.tmp 43) (by rfl) (by rfl) HOA.out (some ⟨w5.heap.size, 0, none⟩) 1 1 (by rfl) [Ll] (slat_int w5 Ll) (by omega) ?_; intro A6 c6 w6 ho6 hg6 hr6; have HO6 := Lib.hid ho6; have HG6 := Lib.hid hg6; clear ho6 hg6 hr6)
            | fail)
          have HW6 := Lib.hid (HWA.out.trans (grown_below' HG6.out HOA.out.le (fun k hk => (HOA.out.row k hk).1)))
          go_roundw
          case rel => exact ⟨q + 1, pre ++ [Hh] ++ [Ll], A6, k + 1 + 1, c6, by omega, by go_num, by go_num, by omega, HDN, HO6, HW6⟩
          case measure => simp [intOf]; omega
    · obtain rfl : q = bs.length := by omega
      have hr := done_end HD.out (Nat.le_refl _)
      have HR := Lib.hid hr
      clear hr
      go_wp2_with fail
      go_ret3
      exact realR_no HR.out HW.out
end Go.Proofs.Ytoofjkhigonppaa

namespace Go.Proofs.Ytoofjkhigonppaa
open Go.RowKit

section
variable {w w' : World} {r : Nat} {bs : List UInt8} {pos : Nat} {bad : Bool} {A : Option Addr} {c : Nat}
theorem Rx.badC (h : Rx w r bs pos bad A c) : w.cell? ⟨r, 2, none⟩ = some (.bool bad) := by rw [h.blk.cell 2]; rfl
theorem Rx.atC (h : Rx w r bs pos bad A c) : w.cell? ⟨r, 1, none⟩ = some (.int .i64 pos) := by rw [h.blk.cell 1]; rfl
theorem Rx.new (h : Bs w A bs c) : Rx (w.alloc (.cells #[.slice A bs.length c, .int .i64 0, .bool false] 71)) w.heap.size bs 0 false A c :=
  ⟨Blk.new w _ [.slice A bs.length c, .int .i64 0, .bool false], h.sl.keep (bel_alloc bel_refl).below, fun _ e => by have := h.row _ e; omega, h.cap, Nat.zero_le _, h.small⟩
end
theorem run_sl_l (W : World) (A : Option Addr) (len c lo : Nat) (x : Int) (hx : x = lo) (h1 : lo ≤ len) (h2 : len ≤ c) :
    (Instr.slice 22 (.slice A len c) (some (.int .i64 x)) none none).run Try.prog W = .ok (.slice (if c = lo then A else Option.map (fun z => z.add lo) A) (len - lo) (c - lo)) W := by
  subst hx
  have he : Try.prog.elem 22 = 5 := by kernel_rfl
  have hs : ∀ W, (sizeOf 5).run Try.prog W = .ok 1 W := fun _ => by kernel_rfl
  rw [run_slice_l W 22 A len c (by rw [he]; exact Try.underlying22) .i64 _ (by omega) (by omega), he, hs]
  simp [sliced, Result.andThen]
theorem realS_in : ∀ {bs : List UInt8} {l : List Int} {n : Nat}, realS bs = some (l, n) → (∀ x ∈ l, 0 ≤ x ∧ x ≤ 14) ∧ l.length ≤ 2 * bs.length
  | [], _, _, h => by cases h
  | c :: t, l, n, h => by
    have hc := c.toNat_lt
    unfold realS at h
    split at h
    · injection h with h; injection h with h _; subst h; exact ⟨fun x hx => (by simp at hx), by simp⟩
    rename_i h1
    split at h
    · injection h with h; injection h with h _; subst h
      refine ⟨fun x hx => ?_, by simp; omega⟩
      rw [List.mem_singleton] at hx
      subst hx
      unfold hi4 at *
      omega
    · rename_i h2
      cases hr : realS t with
      | none => rw [hr] at h; cases h
      | some y =>
        rw [hr] at h
        obtain ⟨i1, i2⟩ := realS_in hr
        injection h with h; injection h with h _; subst h
        refine ⟨fun x hx => ?_, by simp; omega⟩
        rcases List.mem_cons.1 hx with rfl | hx
        · unfold hi4 at *; omega
        rcases List.mem_cons.1 hx with rfl | hx
        · unfold lo4 at *; omega
        · exact i1 x hx
def OpDR (t : List UInt8) (c0 : Nat) (w : World) (e : Ending) (w' : World) : Prop :=
  (match opS t 1 c0 with
    | none => ∃ x n, e = .returned (.tuple #[.int .i64 x, .int .i64 n, .bool false])
    | some (x, q) => e = .returned (.tuple #[.int .i64 x, .int .i64 q, .bool true])) ∧ Below w.heap.size w w'
theorem od_is {t : List UInt8} {c0 : Nat} {w w' : World} {x y : Int} {q : Nat} {bad : Bool} (h : wholeV t 1 c0 = some (x, (q, bad))) (hc : c0 ≠ 30) (hy : y = x * 65536) (hb : Below w.heap.size w w') : OpDR t c0 w (.returned (.tuple #[.int .i64 y, .int .i64 q, .bool (!bad)])) w' := by
  subst hy
  refine ⟨?_, hb⟩
  unfold opS
  rw [if_neg hc, h]
  cases bad
  · rfl
  · exact ⟨_, _, rfl⟩
theorem od_no {t : List UInt8} {c0 : Nat} {w w' : World} {x n : Int} (h : opS t 1 c0 = none) (hb : Below w.heap.size w w') : OpDR t c0 w (.returned (.tuple #[.int .i64 x, .int .i64 n, .bool false])) w' := by
  refine ⟨?_, hb⟩
  rw [h]
  exact ⟨_, _, rfl⟩
theorem od_yes {t : List UInt8} {c0 : Nat} {w w' : World} {x y n : Int} {q : Nat} (h : opS t 1 c0 = some (x, q)) (hy : y = x) (hq : n = q) (hb : Below w.heap.size w w') : OpDR t c0 w (.returned (.tuple #[.int .i64 y, .int .i64 n, .bool true])) w' := by
  subst hy hq
  refine ⟨?_, hb⟩
  rw [h]
theorem opS_none {t : List UInt8} {c0 : Nat} (hc : c0 ≠ 30) (h : wholeV t 1 c0 = none) : opS t 1 c0 = none := by
  unfold opS
  rw [if_neg hc, h]
section
variable {w : World} {r : Nat} {t : List UInt8} {s : Nat × Bool} {A : Option Addr} {c : Nat}
theorem yU1 (h : Rx w r t s.1 s.2 A c) : Calls Try.prog 42 #[.pointer (some ⟨r, 0, none⟩), .int .i64 1] w fun e w' => e = .returned (.int .i64 (numF t s 1)) ∧ Rx w' r t (advF t s 1).1 (advF t s 1).2 A c ∧ Turn w w' r none := xU_any w r t s A c 1 h (by omega)
theorem yU4 (h : Rx w r t s.1 s.2 A c) : Calls Try.prog 42 #[.pointer (some ⟨r, 0, none⟩), .int .i64 4] w fun e w' => e = .returned (.int .i64 (numF t s 4)) ∧ Rx w' r t (advF t s 4).1 (advF t s 4).2 A c ∧ Turn w w' r none := xU_any w r t s A c 4 h (by omega)
end
set_option maxRecDepth 20000 in
set_option maxHeartbeats 8000000 in
theorem roperand_any {w : World} {u : UInt8} {t : List UInt8} {A : Option Addr} {n c : Nat} (hu : t[0]? = some u) (hn : t.length = n) (h : Bs w A t c) (hs : n ≤ 1000000) :
    Calls Try.prog 26 #[.slice A n c] w (OpDR t u.toNat w) := by
  have hl0 := (List.getElem?_eq_some_iff.1 hu).1
  have HR0 := Lib.hid (Rx.new h)
  rw [hn] at HR0
  have HB0 := Lib.hid (bel_alloc (o := .cells #[.slice A n c, .int .i64 0, .bool false] 71) (bel_refl (a := w)))
  obtain ⟨n1, n2⟩ := num1 hu
  have KU := yU1 (s := (0, false)) HR0.out
  rw [n1, n2] at KU
  have HKU := Lib.hid KU
  have hub := u.toNat_lt
  obtain ⟨c0, hc0⟩ : ∃ c0, u.toNat = c0 := ⟨_, rfl⟩
  rw [hc0] at HKU hub ⊢
  have b2 := numF_lt t (1, false) 2
  have b4 := numF_lt t (1, false) 4
  have b1 := numF_lt t (1, false) 1
  have H := Lib.hid h
  clear h KU n1 n2 hc0 hu
  have key : c0 = 28 ∨ c0 = 29 ∨ (251 ≤ c0 ∧ c0 < 255) ∨ (247 ≤ c0 ∧ c0 < 251) ∨ (32 ≤ c0 ∧ c0 < 247) ∨ c0 = 30 ∨ (c0 ≠ 28 ∧ c0 ≠ 29 ∧ c0 ≠ 30 ∧ ¬ 32 ≤ c0) ∨ 255 ≤ c0 := by omega
  rcases key with rfl | rfl | ⟨h1, h2⟩ | ⟨h1, h2⟩ | ⟨h1, h2⟩ | rfl | ⟨h1, h2, h3, h4⟩ | h1
  · have hv : wholeV t 1 28 = some (sgn16 (numF t (1, false) 2), advF t (1, false) 2) := rfl
    obtain ⟨x, hx⟩ : ∃ x : Int, sgn16 (numF t (1, false) 2) = x := ⟨_, rfl⟩
    have hxb : -32768 ≤ x ∧ x ≤ 32767 := by rw [← hx]; exact sgn16_bd (by omega) (by omega)
    obtain ⟨x0, x1⟩ := hxb
    obtain ⟨q, bad, hq⟩ : ∃ q bad, advF t (1, false) 2 = (q, bad) := ⟨_, _, rfl⟩
    have KI := fun (w1 : World) (hr : Rx w1 w.heap.size t 1 false A c) => xI16_any w1 w.heap.size t (1, false) A c hr
    rw [hx, hq] at KI
    rw [hx, hq] at hv
    have HV := Lib.hid hv
    have HKI := Lib.hid KI
    clear KI hv hx hq
    go_enter Try.func26, Try.ntmps26
    go_wp2_with (first
      | (go_at_call 42; (with_reducible refine HKU.out.mono ?_); rintro e w1 ⟨rfl, hr1, ht1⟩; have HR1 := Lib.hid hr1; have HB1 := Lib.hid (HB0.out.below.trans (ht1.below HB0.out.le (Nat.le_refl _) (by intro k e; cases e))); clear hr1 ht1)
      | (go_at_call 43; (with_reducible refine (HKI.out _ HR1.out).mono ?_); rintro e w2 ⟨rfl, hr2, ht2⟩; have HB2 := Lib.hid (HB1.out.trans (ht2.below HB1.out.size (Nat.le_refl _) (by intro k e; cases e))); have k1 := hr2.atC; have k2 := hr2.badC; have k3 := hr2.blk.lt; clear hr2 ht2)
      | fail)
    go_quiet (fail)
    go_wp2
    go_ret3
    exact od_is HV.out (by decide) rfl (below_drewN HB2.out _)
  · have hv : wholeV t 1 29 = some (sgn32 (numF t (1, false) 4), advF t (1, false) 4) := rfl
    obtain ⟨y, hy⟩ : ∃ y : Int, (numF t (1, false) 4 : Int) = y := ⟨_, rfl⟩
    have hw := wrap_sgn32 (x := y) (by omega) (by omega)
    obtain ⟨x, hx⟩ : ∃ x : Int, sgn32 y = x := ⟨_, rfl⟩
    have hxb : -2147483648 ≤ x ∧ x ≤ 2147483647 := by rw [← hx]; unfold sgn32; split <;> omega
    obtain ⟨x0, x1⟩ := hxb
    obtain ⟨q, bad, hq⟩ : ∃ q bad, advF t (1, false) 4 = (q, bad) := ⟨_, _, rfl⟩
    have KI := fun (w1 : World) (hr : Rx w1 w.heap.size t 1 false A c) => yU4 (s := (1, false)) hr
    rw [hy, hq] at KI
    rw [hy, hx, hq] at hv
    rw [hx] at hw
    have HV := Lib.hid hv
    have HKI := Lib.hid KI
    have HWW := Lib.hid hw
    obtain ⟨v, hvv⟩ : ∃ v, wrap64 (wrap32 y) = v := ⟨_, rfl⟩
    have hve : v = x := by rw [← hvv, HWW.out]
    clear KI hv hx hq hy
    go_enter Try.func26, Try.ntmps26
    go_wp2_with (first
      | (go_at_call 42; (with_reducible refine HKU.out.mono ?_); rintro e w1 ⟨rfl, hr1, ht1⟩; have HR1 := Lib.hid hr1; have HB1 := Lib.hid (HB0.out.below.trans (ht1.below HB0.out.le (Nat.le_refl _) (by intro k e; cases e))); clear hr1 ht1)
      | (go_at_call 42; (with_reducible refine (HKI.out _ HR1.out).mono ?_); rintro e w2 ⟨rfl, hr2, ht2⟩; have HB2 := Lib.hid (HB1.out.trans (ht2.below HB1.out.size (Nat.le_refl _) (by intro k e; cases e))); have k1 := hr2.atC; have k2 := hr2.badC; have k3 := hr2.blk.lt; clear hr2 ht2)
      | fail)
    go_quiet (fail)
    go_wp2
    go_ret3
    exact od_is HV.out (by decide) (by first | rfl | (rw [HWW.out]) | omega) (below_drewN HB2.out _)
  · have hv : wholeV t 1 c0 = some ((251 - (c0 : Int)) * 256 - numF t (1, false) 1 - 108, advF t (1, false) 1) := by
      unfold wholeV
      rw [if_neg (by omega), if_neg (by omega), if_pos ⟨h1, h2⟩]
    obtain ⟨y, hy⟩ : ∃ y : Int, (numF t (1, false) 1 : Int) = y := ⟨_, rfl⟩
    have hyb : 0 ≤ y ∧ y ≤ 255 := by omega
    obtain ⟨y0, y1⟩ := hyb
    obtain ⟨q, bad, hq⟩ : ∃ q bad, advF t (1, false) 1 = (q, bad) := ⟨_, _, rfl⟩
    have KI := fun (w1 : World) (hr : Rx w1 w.heap.size t 1 false A c) => yU1 (s := (1, false)) hr
    rw [hy, hq] at KI
    rw [hy, hq] at hv
    have HV := Lib.hid hv
    have HKI := Lib.hid KI
    clear KI hv hq hy
    obtain rfl | rfl | rfl | rfl : c0 = 251 ∨ c0 = 252 ∨ c0 = 253 ∨ c0 = 254 := by omega
    all_goals
      go_enter Try.func26, Try.ntmps26
      go_wp2_with (first
        | (go_at_call 42; (with_reducible refine HKU.out.mono ?_); rintro e w1 ⟨rfl, hr1, ht1⟩; have HR1 := Lib.hid hr1; have HB1 := Lib.hid (HB0.out.below.trans (ht1.below HB0.out.le (Nat.le_refl _) (by intro k e; cases e))); clear hr1 ht1)
        | (go_at_call 42; (with_reducible refine (HKI.out _ HR1.out).mono ?_); rintro e w2 ⟨rfl, hr2, ht2⟩; have HB2 := Lib.hid (HB1.out.trans (ht2.below HB1.out.size (Nat.le_refl _) (by intro k e; cases e))); have k1 := hr2.atC; have k2 := hr2.badC; have k3 := hr2.blk.lt; clear hr2 ht2)
        | fail)
      go_quiet (fail)
      go_wp2
      go_ret3
      exact od_is HV.out (by decide) (by omega) (below_drewN HB2.out _)
  · have hv : wholeV t 1 c0 = some (((c0 : Int) - 247) * 256 + numF t (1, false) 1 + 108, advF t (1, false) 1) := by
      unfold wholeV
      rw [if_neg (by omega), if_neg (by omega), if_neg (by omega), if_pos ⟨h1, h2⟩]
    obtain ⟨y, hy⟩ : ∃ y : Int, (numF t (1, false) 1 : Int) = y := ⟨_, rfl⟩
    have hyb : 0 ≤ y ∧ y ≤ 255 := by omega
    obtain ⟨y0, y1⟩ := hyb
    obtain ⟨q, bad, hq⟩ : ∃ q bad, advF t (1, false) 1 = (q, bad) := ⟨_, _, rfl⟩
    have KI := fun (w1 : World) (hr : Rx w1 w.heap.size t 1 false A c) => yU1 (s := (1, false)) hr
    rw [hy, hq] at KI
    rw [hy, hq] at hv
    have HV := Lib.hid hv
    have HKI := Lib.hid KI
    clear KI hv hq hy
    obtain rfl | rfl | rfl | rfl : c0 = 247 ∨ c0 = 248 ∨ c0 = 249 ∨ c0 = 250 := by omega
    all_goals
      go_enter Try.func26, Try.ntmps26
      go_wp2_with (first
        | (go_at_call 42; (with_reducible refine HKU.out.mono ?_); rintro e w1 ⟨rfl, hr1, ht1⟩; have HR1 := Lib.hid hr1; have HB1 := Lib.hid (HB0.out.below.trans (ht1.below HB0.out.le (Nat.le_refl _) (by intro k e; cases e))); clear hr1 ht1)
        | (go_at_call 42; (with_reducible refine (HKI.out _ HR1.out).mono ?_); rintro e w2 ⟨rfl, hr2, ht2⟩; have HB2 := Lib.hid (HB1.out.trans (ht2.below HB1.out.size (Nat.le_refl _) (by intro k e; cases e))); have k1 := hr2.atC; have k2 := hr2.badC; have k3 := hr2.blk.lt; clear hr2 ht2)
        | fail)
      go_quiet (fail)
      go_wp2
      go_ret3
      exact od_is HV.out (by decide) (by omega) (below_drewN HB2.out _)
  · have hv : wholeV t 1 c0 = some ((c0 : Int) - 139, (1, false)) := by
      unfold wholeV
      rw [if_neg (by omega), if_neg (by omega), if_neg (by omega), if_neg (by omega), if_pos ⟨h1, h2⟩]
    have HV := Lib.hid hv
    clear hv
    have c1 : ((c0 : Int) == 28) = false := by rw [beq_eq_false_iff_ne]; omega
    have c2 : ((c0 : Int) == 29) = false := by rw [beq_eq_false_iff_ne]; omega
    have c3 : (c0 : Int) ≤ 246 := by omega
    have c4 : (32 : Int) ≤ c0 := by omega
    by_cases h30 : c0 = 30
    · omega
    go_enter Try.func26, Try.ntmps26
    go_wp2_with (first
      | (go_at_call 42; (with_reducible refine HKU.out.mono ?_); rintro e w1 ⟨rfl, hr1, ht1⟩; have HB1 := Lib.hid (HB0.out.below.trans (ht1.below HB0.out.le (Nat.le_refl _) (by intro k e; cases e))); have k1 := hr1.atC; have k2 := hr1.badC; have k3 := hr1.blk.lt; clear hr1 ht1)
      | fail)
    go_quiet (fail)
    go_wp2
    go_ret3
    exact od_is HV.out h30 rfl (below_drewN HB1.out _)
  · have hop : opS t 1 30 = match realS (t.drop 1) with
      | none => none
      | some (l, n) => (realF l).map fun x => (x, 1 + n) := rfl
    have hcap := H.out.cap
    rw [hn] at hcap
    have hn1 : 1 ≤ n := by omega
    obtain ⟨A1, hA1⟩ : ∃ A1, (if c = 1 then A else Option.map (fun x => x.add 1) A) = A1 := ⟨_, rfl⟩
    have hsl : ∀ W, (Instr.slice 22 (.slice A n c) (some (.int .i64 1)) none none).run Try.prog W = .ok (.slice A1 (n - 1) (c - 1)) W := fun W => by
      rw [← hA1]
      exact run_sl_l W A n c 1 1 rfl hn1 hcap
    have KR := fun (w1 : World) (hb : Below w.heap.size w w1) => rreal_any (w := w1) (bs := t.drop 1) (A := A1) (n := n - 1) (c := c - 1) (by rw [List.length_drop, hn]) (by
      have := ((H.out.sl.keep hb).sub_if H.out.cap 1 (n - 1) (by omega))
      rw [← List.map_drop, ← List.map_take, List.take_of_length_le (by rw [List.length_drop]; omega), hA1] at this
      exact this) (by omega)
    clear hA1
    have HKR := Lib.hid KR
    have HOP := Lib.hid hop
    clear KR hop
    cases hr : realS (t.drop 1) with
    | none =>
      have hno : opS t 1 30 = none := by rw [HOP.out, hr]
      have HNO := Lib.hid hno
      have KP : ∀ w1 : World, Below w.heap.size w w1 → Calls Try.prog 44 #[.slice A1 (n - 1) (c - 1)] w1 fun e w' => e = .returned (.tuple #[.slice none 0 0, .int .i64 0, .bool false]) ∧ Below w1.heap.size w1 w' := fun w1 hb => (HKR.out w1 hb).mono fun e w' h => by unfold RealR at h; rw [hr] at h; exact h
      have HKP := Lib.hid KP
      clear KP HKR hr hno HOP
      go_enter Try.func26, Try.ntmps26
      go_wp2_with (first
      | (go_at_call 42; (with_reducible refine HKU.out.mono ?_); rintro e w1 ⟨rfl, hr1, ht1⟩; have HB1 := Lib.hid (HB0.out.below.trans (ht1.below HB0.out.le (Nat.le_refl _) (by intro k e; cases e))); clear hr1 ht1)
      | (go_at_call 44; (with_reducible refine (HKP.out _ HB1.out).mono ?_); rintro e w2 ⟨rfl, hb2⟩; have HB2 := Lib.hid (HB1.out.trans (hb2.mono HB1.out.size));  clear hb2)
      | fail)
      go_ret3
      exact od_no HNO.out HB2.out
    | some y =>
      obtain ⟨l, m⟩ := y
      obtain ⟨hin, hll⟩ := realS_in hr
      rw [List.length_drop] at hll
      have hml := realS_len hr
      rw [List.length_drop] at hml
      have hop2 : opS t 1 30 = (realF l).map fun x => (x, 1 + m) := by rw [HOP.out, hr]
      have KP : ∀ w1 : World, Below w.heap.size w w1 → Calls Try.prog 44 #[.slice A1 (n - 1) (c - 1)] w1 fun e w' => (∃ A c, e = .returned (.tuple #[.slice A l.length c, .int .i64 m, .bool true]) ∧ SlAt w' A l.length (l.map (Value.int .i64))) ∧ Below w1.heap.size w1 w' := fun w1 hb => (HKR.out w1 hb).mono fun e w' h => by unfold RealR at h; rw [hr] at h; exact h
      have HKP := Lib.hid KP
      have HIN := Lib.hid hin
      have HOP2 := Lib.hid hop2
      clear KP HKR hr hop2 HOP hin
      cases hf : realF l with
      | none =>
        have hno : opS t 1 30 = none := by rw [HOP2.out, hf]; rfl
        have HNO := Lib.hid hno
        have KF : ∀ (w : World) (A : Option Addr) (c : Nat), SlAt w A l.length (l.map (Value.int .i64)) → Calls Try.prog 17 #[.slice A l.length c] w fun e w' => (∃ d, e = .returned (.tuple #[.int .i64 d, .bool false])) ∧ Below w.heap.size w w' := fun w A c h => (Real_any rfl h HIN.out (by omega)).mono fun e w' h => by unfold ScaR at h; rw [hf] at h; exact h
        have HKF := Lib.hid KF
        clear KF hf hno HOP2
        go_enter Try.func26, Try.ntmps26
        go_wp2_with (first
      | (go_at_call 42; (with_reducible refine HKU.out.mono ?_); rintro e w1 ⟨rfl, hr1, ht1⟩; have HB1 := Lib.hid (HB0.out.below.trans (ht1.below HB0.out.le (Nat.le_refl _) (by intro k e; cases e))); clear hr1 ht1)
      | (go_at_call 44; (with_reducible refine (HKP.out _ HB1.out).mono ?_); rintro e w2 ⟨⟨A2, c2, rfl, hs2⟩, hb2⟩; have HB2 := Lib.hid (HB1.out.trans (hb2.mono HB1.out.size)); have HS2 := Lib.hid hs2; clear hs2; clear hb2)
      | (go_at_call 17; (with_reducible refine (HKF.out _ _ _ HS2.out).mono ?_); rintro e w3 ⟨⟨d, rfl⟩, hb3⟩; have HB3 := Lib.hid (HB2.out.trans (hb3.mono HB2.out.size)); clear hb3)
      | fail)
        go_ret3
        exact od_no HNO.out HB3.out
      | some x =>
        have hyes : opS t 1 30 = some (x, 1 + m) := by rw [HOP2.out, hf]; rfl
        have HYES := Lib.hid hyes
        have KF : ∀ (w : World) (A : Option Addr) (c : Nat), SlAt w A l.length (l.map (Value.int .i64)) → Calls Try.prog 17 #[.slice A l.length c] w fun e w' => e = .returned (.tuple #[.int .i64 x, .bool true]) ∧ Below w.heap.size w w' := fun w A c h => (Real_any rfl h HIN.out (by omega)).mono fun e w' h => by unfold ScaR at h; rw [hf] at h; exact h
        have HKF := Lib.hid KF
        clear KF hf hyes HOP2
        go_enter Try.func26, Try.ntmps26
        go_wp2_with (first
      | (go_at_call 42; (with_reducible refine HKU.out.mono ?_); rintro e w1 ⟨rfl, hr1, ht1⟩; have HB1 := Lib.hid (HB0.out.below.trans (ht1.below HB0.out.le (Nat.le_refl _) (by intro k e; cases e))); clear hr1 ht1)
      | (go_at_call 44; (with_reducible refine (HKP.out _ HB1.out).mono ?_); rintro e w2 ⟨⟨A2, c2, rfl, hs2⟩, hb2⟩; have HB2 := Lib.hid (HB1.out.trans (hb2.mono HB1.out.size)); have HS2 := Lib.hid hs2; clear hs2; clear hb2)
      | (go_at_call 17; (with_reducible refine (HKF.out _ _ _ HS2.out).mono ?_); rintro e w3 ⟨rfl, hb3⟩; have HB3 := Lib.hid (HB2.out.trans (hb3.mono HB2.out.size)); clear hb3)
      | fail)
        go_ret3
        exact od_yes HYES.out rfl (by omega) HB3.out
  · have hv : opS t 1 c0 = none := opS_none h3 (by
      unfold wholeV
      rw [if_neg (by omega), if_neg (by omega), if_neg (by omega), if_neg (by omega), if_neg (by omega)])
    have HV := Lib.hid hv
    clear hv
    have c1 : ((c0 : Int) == 28) = false := by rw [beq_eq_false_iff_ne]; omega
    have c2 : ((c0 : Int) == 29) = false := by rw [beq_eq_false_iff_ne]; omega
    have c3 : ((c0 : Int) == 30) = false := by rw [beq_eq_false_iff_ne]; omega
    have c4 : ¬ (32 : Int) ≤ c0 := by omega
    have c5 : ¬ (247 : Int) ≤ c0 := by omega
    have c6 : ¬ (251 : Int) ≤ c0 := by omega
    go_enter Try.func26, Try.ntmps26
    go_wp2_with (first
      | (go_at_call 42; (with_reducible refine HKU.out.mono ?_); rintro e w1 ⟨rfl, hr1, ht1⟩; have HR1 := Lib.hid hr1; have HB1 := Lib.hid (HB0.out.below.trans (ht1.below HB0.out.le (Nat.le_refl _) (by intro k e; cases e))); clear hr1 ht1)
      | fail)
    go_ret3
    exact od_no HV.out HB1.out
  · have hv : opS t 1 c0 = none := opS_none (by omega) (by
      unfold wholeV
      rw [if_neg (by omega), if_neg (by omega), if_neg (by omega), if_neg (by omega), if_neg (by omega)])
    have HV := Lib.hid hv
    clear hv
    obtain rfl : c0 = 255 := by omega
    go_enter Try.func26, Try.ntmps26
    go_wp2_with (first
      | (go_at_call 42; (with_reducible refine HKU.out.mono ?_); rintro e w1 ⟨rfl, hr1, ht1⟩; have HR1 := Lib.hid hr1; have HB1 := Lib.hid (HB0.out.below.trans (ht1.below HB0.out.le (Nat.le_refl _) (by intro k e; cases e))); clear hr1 ht1)
      | fail)
    go_ret3
    exact od_no HV.out HB1.out
end Go.Proofs.Ytoofjkhigonppaa

namespace Go.Proofs.Ytoofjkhigonppaa
open Go.RowKit

theorem takF_shift (bs : List UInt8) (p n : Nat) (hp : p ≤ bs.length) : takF bs (p + 1, false) n = takF (bs.drop p) (1, false) n ∧ advF bs (p + 1, false) n = (p + (advF (bs.drop p) (1, false) n).1, (advF (bs.drop p) (1, false) n).2) := by
  have hb : badF bs (p + 1, false) n = badF (bs.drop p) (1, false) n := by
    unfold badF
    simp only [Bool.false_or, List.length_drop]
    rw [Bool.eq_iff_iff]
    simp only [decide_eq_true_eq]
    omega
  constructor
  · unfold takF
    rw [hb]
    simp only [List.drop_drop]
  · unfold advF
    rw [hb]
    split
    · rfl
    · simp only [Prod.mk.injEq, and_true]; omega
theorem numF_shift (bs : List UInt8) (p n : Nat) (hp : p ≤ bs.length) : numF bs (p + 1, false) n = numF (bs.drop p) (1, false) n := by unfold numF; rw [(takF_shift bs p n hp).1]
theorem wholeV_shift (bs : List UInt8) (p c : Nat) (hp : p ≤ bs.length) : wholeV bs (p + 1) c = (wholeV (bs.drop p) 1 c).map fun y => (y.1, (p + y.2.1, y.2.2)) := by
  unfold wholeV
  rw [numF_shift bs p 1 hp, numF_shift bs p 2 hp, numF_shift bs p 4 hp, (takF_shift bs p 1 hp).2, (takF_shift bs p 2 hp).2, (takF_shift bs p 4 hp).2]
  split
  · rfl
  split
  · rfl
  split
  · rfl
  split
  · rfl
  split
  · rfl
  · rfl
theorem opS_shift (bs : List UInt8) (p c : Nat) (hp : p ≤ bs.length) : opS bs (p + 1) c = (opS (bs.drop p) 1 c).map fun y => (y.1, p + y.2) := by
  unfold opS
  split
  · rw [List.drop_drop]
    cases realS (bs.drop (p + 1)) with
    | none => rfl
    | some y =>
      obtain ⟨l, n⟩ := y
      dsimp only
      cases realF l with
      | none => rfl
      | some x => simp; omega
  · rw [wholeV_shift bs p c hp]
    cases wholeV (bs.drop p) 1 c with
    | none => rfl
    | some y =>
      obtain ⟨x, q, b⟩ := y
      cases b <;> rfl
theorem rowOf_add (A : Option Addr) (q : Nat) : rowOf (Option.map (fun z => z.add q) A) = rowOf A := by
  cases A with
  | none => rfl
  | some a => simp [rowOf, block_of_add]
theorem Bs.cut {w : World} {A : Option Addr} {t : List UInt8} {c q : Nat} (h : Bs w A t c) (hq : q ≤ t.length) : Bs w (if c = q then A else Option.map (fun z => z.add q) A) (t.drop q) (c - q) := by
  have hc := h.cap
  have hs := h.small
  refine ⟨?_, by rw [List.length_drop]; omega, by rw [List.length_drop]; omega, fun k hk => ?_⟩
  · have := h.sl.sub_if hc q (t.length - q) (by omega)
    rw [← List.map_drop, ← List.map_take, List.take_of_length_le (by rw [List.length_drop]; omega)] at this
    rw [List.length_drop]
    exact this
  · split at hk
    · exact h.row k hk
    · rw [rowOf_add] at hk
      exact h.row k hk
theorem Bs.cut2 {w : World} {b o : Nat} {t : List UInt8} {c q : Nat} (h : Bs w (some ⟨b, o, none⟩) t c) (hq : q ≤ t.length) : (c = q → Bs w (some ⟨b, o, none⟩) (t.drop q) 0) ∧ (¬ c = q → Bs w (some ⟨b, o + q, none⟩) (t.drop q) (c - q)) := by
  have h1 := h.cut hq
  refine ⟨fun e => ?_, fun e => ?_⟩
  · rw [if_pos e, e, Nat.sub_self] at h1
    exact h1
  · rw [if_neg e] at h1
    simpa [Addr.add_lit] using h1
def RParR (bs : List UInt8) (w : World) (e : Ending) (w' : World) : Prop :=
  (match parseS bs with
    | none => ∃ A k c, e = .returned (.tuple #[.slice A k c, .bool false])
    | some ls => ∃ A k c es, e = .returned (.tuple #[.slice A k c, .bool true]) ∧ es.map enV = ls ∧ EnL w' A k es) ∧ Below w.heap.size w w'
theorem rpar_no {bs : List UInt8} {w w' : World} {A : Option Addr} {k c : Nat} (h : parseS bs = none) (hb : Below w.heap.size w w') : RParR bs w (.returned (.tuple #[.slice A k c, .bool false])) w' := by
  unfold RParR; rw [h]; exact ⟨⟨_, _, _, rfl⟩, hb⟩
theorem rpar_yes {bs : List UInt8} {w w' : World} {A : Option Addr} {k c : Nat} {es : List En} (h : parseS bs = some (es.map enV)) (he : EnL w' A k es) (hb : Below w.heap.size w w') : RParR bs w (.returned (.tuple #[.slice A k c, .bool true])) w' := by
  unfold RParR; rw [h]; exact ⟨⟨_, _, _, _, rfl, rfl, he⟩, hb⟩
/-- At the loop's head: place p. -/
structure AtD (w wr : World) (bs : List UInt8) (p : Nat) (A : Option Addr) (m c : Nat) (Al : Option Addr) (kl cl : Nat) (l : List En) (Aa : Option Addr) (ka ca : Nat) (args : List Int) : Prop where
  b : Bs w A (bs.drop p) c
  mm : m = bs.length - p
  pl : p ≤ bs.length
  pi : PI w.heap.size wr Al kl cl l Aa ka ca args
  bel : Below w.heap.size w wr
  ka : ka ≤ 48
  kl : kl ≤ p
  good : ∃ n, bs.length - p ≤ n ∧ parseS bs = parseA bs n p args (l.map enV)
set_option maxRecDepth 20000 in
set_option maxHeartbeats 8000000 in
theorem rparse_any {w : World} {bs : List UInt8} {A : Option Addr} {n c : Nat} (hn : bs.length = n) (h : Bs w A bs c) (hs : n ≤ 1000000) :
    Calls Try.prog 10 #[.slice A n c] w (RParR bs w) := by
  subst hn
  have hst : AtD w w bs 0 A bs.length c none 0 0 [] none 0 0 [] := ⟨h, rfl, Nat.zero_le _, PI.nil (Nat.le_refl _), Below.refl _ _, by omega, Nat.le_refl _, bs.length, by omega, rfl⟩
  have HST := Lib.hid hst
  clear hst h
  go_enter Try.func10, Try.ntmps10
  go_wp2_with fail
  go_loopg [0, 4, 5] (bs.length) (fun k vb vl va wr => ∃ p A m c Al kl cl l Aa ka ca args, k = m ∧ vb = .slice A m c ∧ vl = .slice Al kl cl ∧ va = .slice Aa ka ca ∧ Hid (AtD w wr bs p A m c Al kl cl l Aa ka ca args))
  case atStart => exact ⟨_, _, _, _, _, _, _, _, _, _, _, _, rfl, rfl, rfl, rfl, HST⟩
  case round =>
    obtain ⟨p, A, m, c, Al, kl, cl, l, Aa, ka, ca, args, hk, rfl, rfl, rfl, HAT⟩ := hrel
    obtain ⟨n, hn1, hn2⟩ := HAT.out.good
    have hpl := HAT.out.pl
    have hmm := HAT.out.mm
    have hcap := HAT.out.b.cap
    rw [List.length_drop, ← hmm] at hcap
    have HMM := Lib.hid hmm
    have hmp1 : p + m ≤ bs.length := by omega
    have hmp2 : bs.length ≤ p + m := by omega
    clear hmm
    have hsz := HAT.out.bel.size
    have hka := HAT.out.ka
    have hkl := HAT.out.kl
    have hl1 := HAT.out.pi.len
    have hl2 := HAT.out.pi.oi.len
    by_cases hlt : p < bs.length
    · obtain ⟨n, rfl⟩ : ∃ n', n = n' + 1 := ⟨n - 1, by omega⟩
      obtain ⟨u, hu⟩ : ∃ u, bs[p]? = some u := ⟨_, List.getElem?_eq_getElem hlt⟩
      have hu0 : (bs.drop p)[0]? = some u := by rw [List.getElem?_drop, Nat.add_zero]; exact hu
      have hsl0 := HAT.out.b.sl
      obtain ⟨b, o, rfl, hb, hc⟩ := sl_byte hsl0 hu0
      have q0 : wr.cell? ⟨b, o, none⟩ = some (.int .u8 u.toNat) := (HAT.out.bel.cell (p := ⟨b, _, none⟩) hb).trans hc
      have hm0 : (0 : Int) < m := by omega
      have hbr : b < wr.heap.size := by omega
      have hul := u.toNat_lt
      have HN2 := Lib.hid hn2
      have HU := Lib.hid hu
      have HU0 := Lib.hid hu0
      clear hn2 hu hu0 hsl0 hc
      by_cases hgt : 21 < u.toNat
      · have hgt' : (21 : Int) < (u.toNat : Int) := by omega
        have hpa := parse_arg (n := n) (args := args) (l := l.map enV) HU.out hgt
        rw [← HN2.out, opS_shift bs p u.toNat hpl] at hpa
        have HOP := Lib.hid (roperand_any (w := wr) (n := m) (c := c) HU0.out (by rw [List.length_drop]; exact HMM.out.symm) (HAT.out.b.keep HAT.out.bel) (by omega))
        cases hop : opS (bs.drop p) 1 u.toNat with
        | none =>
          rw [hop] at hpa
          have HNO : Hid (parseS bs = none) := Lib.hid hpa
          have HP := Lib.hid (HOP.out.mono fun e w' h => (show ∃ x n, e = .returned (.tuple #[.int .i64 x, .int .i64 n, .bool false]) ∧ Below wr.heap.size wr w' by
            unfold OpDR at h
            rw [hop] at h
            obtain ⟨⟨x, n, rfl⟩, ht⟩ := h
            exact ⟨x, n, rfl, ht⟩))
          clear hpa hop HOP
          go_wp2_with (first
            | (go_at_call 26; (with_reducible refine HP.out.mono ?_); rintro e w3 ⟨x, nx, rfl, hb3⟩; have HB3 := Lib.hid (HAT.out.bel.trans (hb3.mono hsz)); clear hb3)
            | fail)
          go_ret2
          exact rpar_no HNO.out HB3.out
        | some y =>
          obtain ⟨x, q⟩ := y
          rw [hop] at hpa
          have hpa2 : parseS bs = if args.length = 48 then none else parseA bs n (p + q) (args ++ [x]) (l.map enV) := hpa
          have hqp := opS_pos (by rw [List.length_drop]; omega) hop
          rw [List.length_drop] at hqp
          have hqm : q ≤ m := by omega
          have hqm' : (q : Int) ≤ m := by omega
          have hq1 := hqp.1
          clear hqp
          have HP := Lib.hid (HOP.out.mono fun e w' h => (show e = .returned (.tuple #[.int .i64 x, .int .i64 q, .bool true]) ∧ Below wr.heap.size wr w' by
            unfold OpDR at h
            rw [hop] at h
            exact h))
          clear hpa hop HOP
          by_cases h48 : ka = 48
          · subst h48
            rw [if_pos hl2] at hpa2
            have HNO := Lib.hid hpa2
            clear hpa2
            go_wp2_with (first
              | (go_at_call 26; (with_reducible refine HP.out.mono ?_); rintro e w3 ⟨rfl, hb3⟩; have HB3 := Lib.hid (HAT.out.bel.trans (hb3.mono hsz)); clear hb3)
              | fail)
            go_ret2
            exact rpar_no HNO.out HB3.out
          · rw [if_neg (by omega)] at hpa2
            have HNO := Lib.hid hpa2
            have h48' : ((ka : Int) == 48) = false := by rw [beq_eq_false_iff_ne]; omega
            have hbn := HAT.out.b.cut2 (q := q) (by rw [List.length_drop]; omega)
            rw [List.drop_drop] at hbn
            have HBN := Lib.hid hbn
            clear hpa2 hbn hlt
            go_upto_region 9 with (first
              | (go_at_call 26; (with_reducible refine HP.out.mono ?_); rintro e w3 ⟨rfl, hb3⟩; have HB3 := Lib.hid (HAT.out.bel.trans (hb3.mono hsz)); have HP3 := Lib.hid (HAT.out.pi.keep hb3); clear hb3)
              | fail)
            have hal := (bel_alloc (o := .cells #[.int .i64 x] 3) (bel_refl (a := w3))).below
            have hs3 := HB3.out.size
            have HP4 := Lib.hid (HP3.out.keep hal)
            have HW4 := Lib.hid (HB3.out.trans (hal.mono hs3))
            have HOI := Lib.hid HP4.out.oi
            clear hal HAT HP HP3 HN2
            go_wp2_with (first
              | (at_builtin; refine wpList_append_oi2 (by rfl) (.tmp 34) (.tmp 36) (by rfl) (by rfl) HOI.out (some ⟨w3.heap.size, 0, none⟩) 1 1 (by rfl) [x] (slat_int w3 x) (by omega) ?_; intro A3 c3 w5 ho5 hg5 hr5; have HO5 := Lib.hid ho5; have HG5 := Lib.hid hg5; have HRW5 := Lib.hid hr5; clear ho5 hg5 hr5)
              | fail)
            · have hfin : AtD w w5 bs (p + q) (some ⟨b, o, none⟩) (m - q) 0 Al kl cl l A3 (ka + 1) c3 (args ++ [x]) :=
                ⟨HBN.out.1 (by first | assumption | rfl | omega), (by have := HMM.out; omega), (by have := HMM.out; omega), HP4.out.arg HO5.out HG5.out HRW5.out, HW4.out.trans (grown_below' HG5.out HOI.out.le (fun k hk => (HOI.out.row k hk).1)), by omega, by omega, n, (by have := HMM.out; omega), HNO.out⟩
              have HFI := Lib.hid hfin
              clear hfin
              go_roundg (m - q)
              case rel => exact ⟨_, _, _, _, _, _, _, _, _, _, _, _, rfl, rfl, rfl, rfl, HFI⟩
              case measure => omega
            · have hfin : AtD w w5 bs (p + q) (some ⟨b, o + q, none⟩) (m - q) (c - q) Al kl cl l A3 (ka + 1) c3 (args ++ [x]) :=
                ⟨HBN.out.2 (by first | assumption | omega), (by have := HMM.out; omega), (by have := HMM.out; omega), HP4.out.arg HO5.out HG5.out HRW5.out, HW4.out.trans (grown_below' HG5.out HOI.out.le (fun k hk => (HOI.out.row k hk).1)), by omega, by omega, n, (by have := HMM.out; omega), HNO.out⟩
              have HFI := Lib.hid hfin
              clear hfin
              go_roundg (m - q)
              case rel => exact ⟨_, _, _, _, _, _, _, _, _, _, _, _, rfl, rfl, rfl, rfl, HFI⟩
              case measure => omega
      · have hgt' : ¬ (21 : Int) < (u.toNat : Int) := by omega
        by_cases h12 : u.toNat = 12
        · have hpa := parse_esc (n := n) (args := args) (l := l.map enV) HU.out h12
          rw [← HN2.out] at hpa
          rw [h12] at q0
          by_cases h2 : m < 2
          · have hnone : bs[p + 1]? = none := List.getElem?_eq_none (by omega)
            rw [hnone] at hpa
            have HNO : Hid (parseS bs = none) := Lib.hid hpa
            have h2' : (m : Int) < 2 := by omega
            have HB3 := Lib.hid HAT.out.bel
            clear hpa HN2 HAT
            go_wp2_with fail
            go_ret2
            exact rpar_no HNO.out HB3.out
          · obtain ⟨d, hd⟩ : ∃ u, bs[p + 1]? = some u := ⟨_, List.getElem?_eq_getElem (by omega)⟩
            have hd0 : (bs.drop p)[1]? = some d := by rw [List.getElem?_drop]; exact hd
            rw [hd] at hpa
            have HNO : Hid (parseS bs = parseA bs n (p + 2) [] (l.map enV ++ [(3072 + (d.toNat : Int), args)])) := Lib.hid hpa
            obtain ⟨b', o', hA', -, hc'⟩ := sl_byte HAT.out.b.sl hd0
            injection hA' with hA'
            injection hA' with hA1 hA2
            subst hA1 hA2
            have q1 : wr.cell? ⟨b, o + 1, none⟩ = some (.int .u8 d.toNat) := (HAT.out.bel.cell (p := ⟨b, _, none⟩) hb).trans hc'
            obtain ⟨v, hv⟩ : ∃ v, d.toNat = v := ⟨_, rfl⟩
            have hvl := d.toNat_lt
            rw [hv] at HNO q1 hvl
            have h2' : ¬ (m : Int) < 2 := by omega
            have h1m : (1 : Int) < m := by omega
            clear hpa HN2 hd hd0 hc' hv
            obtain ⟨i0, z0, hi0, hz0, hz1, hz2', hz3⟩ := en_parts
            have hrd : Reads (wr.alloc (.cells #[.int .i64 (3072 + (v : Int)), .slice Aa ka ca] 42)) (wr.alloc (.cells #[.int .i64 (3072 + (v : Int)), .slice Aa ka ca] 42)).heap.size 2 (some ⟨wr.heap.size, 0, none⟩) 1 (enC ⟨(3072 + (v : Int)), Aa, ca, args⟩) := by
              have := reads_en wr ⟨(3072 + (v : Int)), Aa, ca, args⟩
              dsimp only at this
              rw [hl2] at this
              exact this
            have HRD := Lib.hid hrd
            have hal := (bel_alloc (o := .cells #[.int .i64 (3072 + (v : Int)), .slice Aa ka ca] 42) (bel_refl (a := wr))).below
            have HP4 := Lib.hid (HAT.out.pi.keep hal)
            have HW4 := Lib.hid (HAT.out.bel.trans (hal.mono hsz))
            have HOWN := Lib.hid HP4.out.own
            have hbn := HAT.out.b.cut2 (q := 2) (by rw [List.length_drop]; omega)
            rw [List.drop_drop] at hbn
            have HBN := Lib.hid hbn
            clear hrd hal hbn HAT hlt
            go_wp2_with (first
              | (at_builtin; refine wpList_append_any _ (by rfl) (.tmp 52) (.tmp 56) _ (by rfl) w.heap.size 42 i0 z0 2 32 Try.underlying24 hi0 hz0 hz1 hz2' hz3 (by omega) _ kl _ (by rfl) HOWN.out _ _ 1 _ _ (by rfl) HRD.out (by simpa using enC_one [(⟨(3072 + (v : Int)), Aa, ca, args⟩ : En)]) (by unfold maxLen; omega) (by omega) (by simp; omega) ?_; intro v' w5 ho5 hg5 hr5; obtain ⟨A5, c5, rfl, hp5⟩ := HP4.out.entry hka ho5 hg5 hr5; have HP5 := Lib.hid hp5; have HG5 := Lib.hid hg5; clear ho5 hg5 hr5 hp5)
              | fail)
            · have hfin : AtD w w5 bs (p + 2) (some ⟨b, o, none⟩) (m - 2) 0 A5 (kl + 1) c5 (l ++ [⟨(3072 + (v : Int)), Aa, ca, args⟩]) none 0 0 [] :=
                ⟨HBN.out.1 (by first | assumption | rfl | omega), (by have := HMM.out; omega), (by have := HMM.out; omega), HP5.out, HW4.out.trans (grown_below' HG5.out (by simp; omega) (fun k hk => (own_lt HOWN.out k hk).1)), by omega, by omega, n, (by have := HMM.out; omega), by rw [List.map_append]; exact HNO.out⟩
              have HFI := Lib.hid hfin
              clear hfin
              go_roundg (m - 2)
              case rel => exact ⟨_, _, _, _, _, _, _, _, _, _, _, _, rfl, rfl, rfl, rfl, HFI⟩
              case measure => omega
            · have hfin : AtD w w5 bs (p + 2) (some ⟨b, o + 2, none⟩) (m - 2) (c - 2) A5 (kl + 1) c5 (l ++ [⟨(3072 + (v : Int)), Aa, ca, args⟩]) none 0 0 [] :=
                ⟨HBN.out.2 (by first | assumption | omega), (by have := HMM.out; omega), (by have := HMM.out; omega), HP5.out, HW4.out.trans (grown_below' HG5.out (by simp; omega) (fun k hk => (own_lt HOWN.out k hk).1)), by omega, by omega, n, (by have := HMM.out; omega), by rw [List.map_append]; exact HNO.out⟩
              have HFI := Lib.hid hfin
              clear hfin
              go_roundg (m - 2)
              case rel => exact ⟨_, _, _, _, _, _, _, _, _, _, _, _, rfl, rfl, rfl, rfl, HFI⟩
              case measure => omega
        · have hpa := parse_op (n := n) (args := args) (l := l.map enV) HU.out hgt h12
          rw [← HN2.out] at hpa
          have HNO := Lib.hid hpa
          obtain ⟨v, hv⟩ : ∃ v, u.toNat = v := ⟨_, rfl⟩
          have h12' : ((v : Int) == 12) = false := by rw [beq_eq_false_iff_ne]; omega
          rw [hv] at HNO q0 hul hgt'
          clear hpa HN2 hv
          obtain ⟨i0, z0, hi0, hz0, hz1, hz2', hz3⟩ := en_parts
          have hrd : Reads (wr.alloc (.cells #[.int .i64 (v : Int), .slice Aa ka ca] 42)) (wr.alloc (.cells #[.int .i64 (v : Int), .slice Aa ka ca] 42)).heap.size 2 (some ⟨wr.heap.size, 0, none⟩) 1 (enC ⟨(v : Int), Aa, ca, args⟩) := by
            have := reads_en wr ⟨(v : Int), Aa, ca, args⟩
            dsimp only at this
            rw [hl2] at this
            exact this
          have HRD := Lib.hid hrd
          have hal := (bel_alloc (o := .cells #[.int .i64 (v : Int), .slice Aa ka ca] 42) (bel_refl (a := wr))).below
          have HP4 := Lib.hid (HAT.out.pi.keep hal)
          have HW4 := Lib.hid (HAT.out.bel.trans (hal.mono hsz))
          have HOWN := Lib.hid HP4.out.own
          have hbn := HAT.out.b.cut2 (q := 1) (by rw [List.length_drop]; omega)
          rw [List.drop_drop] at hbn
          have HBN := Lib.hid hbn
          clear hrd hal hbn HAT hlt
          go_wp2_with (first
            | (at_builtin; refine wpList_append_any _ (by rfl) (.tmp 52) (.tmp 56) _ (by rfl) w.heap.size 42 i0 z0 2 32 Try.underlying24 hi0 hz0 hz1 hz2' hz3 (by omega) _ kl _ (by rfl) HOWN.out _ _ 1 _ _ (by rfl) HRD.out (by simpa using enC_one [(⟨(v : Int), Aa, ca, args⟩ : En)]) (by unfold maxLen; omega) (by omega) (by simp; omega) ?_; intro v' w5 ho5 hg5 hr5; obtain ⟨A5, c5, rfl, hp5⟩ := HP4.out.entry hka ho5 hg5 hr5; have HP5 := Lib.hid hp5; have HG5 := Lib.hid hg5; clear ho5 hg5 hr5 hp5)
            | fail)
          · have hfin : AtD w w5 bs (p + 1) (some ⟨b, o, none⟩) (m - 1) 0 A5 (kl + 1) c5 (l ++ [⟨(v : Int), Aa, ca, args⟩]) none 0 0 [] :=
              ⟨HBN.out.1 (by first | assumption | rfl | omega), (by have := HMM.out; omega), (by have := HMM.out; omega), HP5.out, HW4.out.trans (grown_below' HG5.out (by simp; omega) (fun k hk => (own_lt HOWN.out k hk).1)), by omega, by omega, n, (by have := HMM.out; omega), by rw [List.map_append]; exact HNO.out⟩
            have HFI := Lib.hid hfin
            clear hfin
            go_roundg (m - 1)
            case rel => exact ⟨_, _, _, _, _, _, _, _, _, _, _, _, rfl, rfl, rfl, rfl, HFI⟩
            case measure => omega
          · have hfin : AtD w w5 bs (p + 1) (some ⟨b, o + 1, none⟩) (m - 1) (c - 1) A5 (kl + 1) c5 (l ++ [⟨(v : Int), Aa, ca, args⟩]) none 0 0 [] :=
              ⟨HBN.out.2 (by first | assumption | omega), (by have := HMM.out; omega), (by have := HMM.out; omega), HP5.out, HW4.out.trans (grown_below' HG5.out (by simp; omega) (fun k hk => (own_lt HOWN.out k hk).1)), by omega, by omega, n, (by have := HMM.out; omega), by rw [List.map_append]; exact HNO.out⟩
            have HFI := Lib.hid hfin
            clear hfin
            go_roundg (m - 1)
            case rel => exact ⟨_, _, _, _, _, _, _, _, _, _, _, _, rfl, rfl, rfl, rfl, HFI⟩
            case measure => omega
    · have hm0 : m = 0 := by omega
      subst hm0
      rw [parse_end (by omega)] at hn2
      have HB3 := Lib.hid HAT.out.bel
      have HL3 := Lib.hid HAT.out.pi.list
      rcases (show ka = 0 ∨ 0 < ka by omega) with rfl | h0
      · obtain rfl := List.eq_nil_of_length_eq_zero hl2
        rw [if_pos rfl] at hn2
        have HNO := Lib.hid hn2
        clear hn2
        go_wp2_with fail
        go_ret2
        exact rpar_yes HNO.out HL3.out HB3.out
      · have h0' : ((ka : Int) == 0) = false := by rw [beq_eq_false_iff_ne]; omega
        rw [if_neg (fun e => by rw [e] at hl2; simp at hl2; omega)] at hn2
        have HNO := Lib.hid hn2
        clear hn2
        go_wp2_with fail
        go_ret2
        exact rpar_no HNO.out HB3.out
end Go.Proofs.Ytoofjkhigonppaa

namespace Go.Proofs.Ytoofjkhigonppaa
open Go.RowKit

theorem div_any {N y : Nat} (h0 : 0 < y) (hy : y < 18446744073709551616) (hN : N < y * 18446744073709551616) : DivOk N y := by
  rcases Nat.lt_or_ge N 18446744073709551616 with h | h
  · exact div_small h hy h0
  · exact div64_big hN h hy
theorem divL_any (f : Fl) : DivL f := fun _ k hk hc => by
  have hp := pow17 hk
  have hp0 : 0 < 10 ^ k := Nat.pow_pos (by omega)
  exact div_any hp0 (by omega) (by omega)
theorem divP_any (bs : List UInt8) : DivP bs := fun _ _ _ _ _ => divL_any _
theorem opS_bd {bs : List UInt8} {p c : Nat} {x : Int} {q : Nat} (h : opS bs p c = some (x, q)) : -9223372036854775808 ≤ x ∧ x ≤ 9223372036854775807 := by
  unfold opS at h
  split at h
  · split at h
    · cases h
    · rename_i l n hr
      cases hf : realF l with
      | none => rw [hf] at h; cases h
      | some y =>
        rw [hf] at h
        injection h with h
        injection h with h _
        subst h
        unfold realF at hf
        split at hf
        · cases hf
        · obtain ⟨v, hv, rfl⟩ := Option.map_eq_some_iff.1 hf
          have := valS_bd hv
          unfold sgnF
          split <;> omega
  · split at h
    · rename_i y q' hw
      injection h with h
      injection h with h _
      subst h
      have := wholeV_bd hw
      omega
    · cases h
def EnP (v : Int × List Int) : Prop := (0 ≤ v.1 ∧ v.1 ≤ 3400) ∧ InI v.2
theorem parse_bd {bs : List UInt8} : ∀ (n p : Nat) (args : List Int) (l ls : List (Int × List Int)), parseA bs n p args l = some ls → InI args → (∀ v ∈ l, EnP v) → (∀ v ∈ ls, EnP v) ∧ ls.length ≤ l.length + n
  | 0, p, args, l, ls, h, _, hl => by
    unfold parseA at h
    split at h
    · injection h with h; subst h; exact ⟨hl, by omega⟩
    · cases h
  | n + 1, p, args, l, ls, h, ha, hl => by
    have snoc : ∀ op : Int, 0 ≤ op → op ≤ 3400 → ∀ v ∈ l ++ [(op, args)], EnP v := fun op h0 h1 v hv => by
      rcases List.mem_append.1 hv with hv | hv
      · exact hl v hv
      · rw [List.mem_singleton] at hv; subst hv; exact ⟨⟨h0, h1⟩, ha⟩
    unfold parseA at h
    split at h
    · split at h
      · injection h with h; subst h; exact ⟨hl, by omega⟩
      · cases h
    · rename_i b hb
      have hbl := b.toNat_lt
      split at h
      · split at h
        · cases h
        · rename_i x q ho
          split at h
          · cases h
          · obtain ⟨i1, i2⟩ := parse_bd n q (args ++ [x]) l ls h (fun y hy => by
              rcases List.mem_append.1 hy with hy | hy
              · exact ha y hy
              · rw [List.mem_singleton] at hy; subst hy; exact opS_bd ho) hl
            exact ⟨i1, by omega⟩
      · split at h
        · split at h
          · cases h
          · rename_i d hd
            have hdl := d.toNat_lt
            obtain ⟨i1, i2⟩ := parse_bd n (p + 2) [] _ ls h (fun y hy => (by simp at hy)) (snoc _ (by omega) (by omega))
            exact ⟨i1, by rw [List.length_append, List.length_singleton] at i2; omega⟩
        · obtain ⟨i1, i2⟩ := parse_bd n (p + 1) [] _ ls h (fun y hy => (by simp at hy)) (snoc _ (by omega) (by omega))
          exact ⟨i1, by rw [List.length_append, List.length_singleton] at i2; omega⟩
theorem parseS_bd {bs : List UInt8} {ls : List (Int × List Int)} (h : parseS bs = some ls) : (∀ v ∈ ls, EnP v) ∧ ls.length ≤ bs.length := by
  obtain ⟨h1, h2⟩ := parse_bd _ _ _ _ _ h (fun y hy => (by simp at hy)) (fun v hv => (by simp at hv))
  exact ⟨h1, by simpa using h2⟩
theorem enIn_of {es : List En} {ls : List (Int × List Int)} (he : es.map enV = ls) (h : ∀ v ∈ ls, EnP v) : EnIn es := fun v hv => by
  have := h (enV v) (he ▸ List.mem_map.2 ⟨v, hv, rfl⟩)
  obtain ⟨⟨h0, h1⟩, h2⟩ := this
  unfold enV at h0 h1 h2
  dsimp only at h0 h1 h2
  exact ⟨⟨by omega, by omega⟩, h2⟩
set_option maxRecDepth 20000 in
set_option maxHeartbeats 8000000 in
theorem dictParses_any {w : World} {A : Option Addr} {n c : Nat} {bs : List UInt8} (op other : Int) (hn : bs.length = n) (h : Bs w A bs c) :
    Calls Try.prog 3 #[.slice A n c, .int .i64 op, .int .i64 other] w fun e w' => e = .returned (.bool true) ∧ Below w.heap.size w w' := by
  subst hn
  have hsm := h.small
  by_cases hbig : bs.length ≤ 5000
  · have hbig' : ¬ (5000 : Int) < bs.length := by omega
    have H := Lib.hid h
    have HO : Hid (OwB w.heap.size w (w.alloc (.cells #[] 5)) (some ⟨w.heap.size, 0, none⟩) 0 0 []) := Lib.hid (OwB.of_blk (Blk.newAt w 5 [] rfl) rfl (Nat.le_refl _) (bel_alloc bel_refl).below (by omega))
    have HSA := Lib.hid (h.sl.keep (w' := w.alloc (.cells #[] 5)) (bel_alloc bel_refl).below)
    clear h
    cases hp : parseS bs with
    | none =>
      have KP := fun (w' : World) (A : Option Addr) (c : Nat) (hb : Bs w' A bs c) => (parse_any hb.sl hb.cap (by omega) hb.row (divP_any _)).mono fun e w'' h => (show e = .returned (.tuple #[.slice none 0 0, .int .i64 150]) ∧ Below w'.heap.size w' w'' by unfold ParseR at h; rw [hp] at h; exact h)
      have KR := fun (w' : World) (A : Option Addr) (c : Nat) (hb : Bs w' A bs c) => (rparse_any rfl hb (by omega)).mono fun e w'' h => (show (∃ A k c, e = .returned (.tuple #[.slice A k c, .bool false])) ∧ Below w'.heap.size w' w'' by unfold RParR at h; rw [hp] at h; exact h)
      have HKP := Lib.hid KP
      have HKR := Lib.hid KR
      clear KP KR hp
      go_enter Try.func3, Try.ntmps3
      go_wp2_with (first
        | (at_builtin; refine wpList_append_ow (by rfl) (.tmp 16) (.tmp 17) (by rfl) (by rfl) HO.out _ bs.length _ (by rfl) bs HSA.out (by omega) ?_; intro A3 c3 w3 ho3
           have HB3 := Lib.hid ho3.bel
           have hs3 : Bs w3 A3 bs c3 := ho3.toBs (by omega)
           have HS3 := Lib.hid hs3
           have HT3 := Lib.hid (H.out.keep HB3.out)
           clear ho3 hs3)
        | (go_at_call 9; (with_reducible refine (HKP.out _ _ _ HS3.out).mono ?_); rintro e w4 ⟨rfl, hb4⟩; have HB4 := Lib.hid (HB3.out.trans (hb4.mono HB3.out.size)); have HS4 := Lib.hid (HS3.out.keep hb4); have HT4 := Lib.hid (HT3.out.keep hb4); clear hb4)
        | (go_at_call 10; (with_reducible refine (HKR.out _ _ _ HT4.out).mono ?_); rintro e w5 ⟨⟨A5, k5, c5, rfl⟩, hb5⟩; have HB5 := Lib.hid (HB4.out.trans (hb5.mono HB4.out.size)); have HS5 := Lib.hid (HS4.out.keep hb5); have HT5 := Lib.hid (HT4.out.keep hb5); clear hb5)
        | (go_at_call 8; (with_reducible refine (lives15_any _).mono ?_); rintro e w6 ⟨rfl, hb6⟩
           have hq1 := slat_str15 HS5.out.sl hb6
           have hq2 := slat_str15 HT5.out.sl hb6
           have HB6 := Lib.hid (HB5.out.trans (hb6.mono HB5.out.size))
           clear hb6)
        | fail)
      go_ret
      exact ⟨rfl, HB6.out⟩
    | some ls =>
      obtain ⟨hP, hlen⟩ := parseS_bd hp
      obtain ⟨k, hk⟩ : ∃ k, ls.length = k := ⟨_, rfl⟩
      rw [hk] at hlen
      have kk : ∀ {w : World} {A : Option Addr} {k' : Nat} {es : List En}, EnL w A k' es → es.map enV = ls → k' = k := fun h he => by
        have := h.rows.len
        rw [List.length_map] at this
        rw [← this, ← hk, ← he, List.length_map]
      have KP := fun (w' : World) (A : Option Addr) (c : Nat) (hb : Bs w' A bs c) => (parse_any hb.sl hb.cap (by omega) hb.row (divP_any _)).mono fun e w'' h => (show (∃ A c es, e = .returned (.tuple #[.slice A k c, .int .i64 0]) ∧ es.map enV = ls ∧ EnL w'' A k es) ∧ Below w'.heap.size w' w'' by
        unfold ParseR at h
        rw [hp] at h
        obtain ⟨⟨A, k', c, es, rfl, he, hE⟩, hb⟩ := h
        obtain rfl := kk hE he
        exact ⟨⟨A, c, es, rfl, he, hE⟩, hb⟩)
      have KR := fun (w' : World) (A : Option Addr) (c : Nat) (hb : Bs w' A bs c) => (rparse_any rfl hb (by omega)).mono fun e w'' h => (show (∃ A c es, e = .returned (.tuple #[.slice A k c, .bool true]) ∧ es.map enV = ls ∧ EnL w'' A k es) ∧ Below w'.heap.size w' w'' by
        unfold RParR at h
        rw [hp] at h
        obtain ⟨⟨A, k', c, es, rfl, he, hE⟩, hb⟩ := h
        obtain rfl := kk hE he
        exact ⟨⟨A, c, es, rfl, he, hE⟩, hb⟩)
      have HKP := Lib.hid KP
      have HKR := Lib.hid KR
      have HPP := Lib.hid hP
      have hk4 : k ≤ 4398046511104 := by omega
      have HK4 := Lib.hid hk4
      clear KP KR hp hP kk hk hlen hk4
      go_enter Try.func3, Try.ntmps3
      go_wp2_with (first
        | (at_builtin; refine wpList_append_ow (by rfl) (.tmp 16) (.tmp 17) (by rfl) (by rfl) HO.out _ bs.length _ (by rfl) bs HSA.out (by omega) ?_; intro A3 c3 w3 ho3
           have HB3 := Lib.hid ho3.bel
           have hs3 : Bs w3 A3 bs c3 := ho3.toBs (by omega)
           have HS3 := Lib.hid hs3
           have HT3 := Lib.hid (H.out.keep HB3.out)
           clear ho3 hs3)
        | (go_at_call 9; (with_reducible refine (HKP.out _ _ _ HS3.out).mono ?_); rintro e w4 ⟨⟨A4, c4, es4, rfl, he4, hl4⟩, hb4⟩; have HE4 := Lib.hid he4; have HL4 := Lib.hid hl4; have HB4 := Lib.hid (HB3.out.trans (hb4.mono HB3.out.size)); have HS4 := Lib.hid (HS3.out.keep hb4); have HT4 := Lib.hid (HT3.out.keep hb4); clear hb4 he4 hl4)
        | (go_at_call 10; (with_reducible refine (HKR.out _ _ _ HT4.out).mono ?_); rintro e w5 ⟨⟨A5, c5, es5, rfl, he5, hl5⟩, hb5⟩; have HE5 := Lib.hid he5; have HL5 := Lib.hid hl5; have HL45 := Lib.hid (HL4.out.keep hb5); have HB5 := Lib.hid (HB4.out.trans (hb5.mono HB4.out.size)); have HS5 := Lib.hid (HS4.out.keep hb5); have HT5 := Lib.hid (HT4.out.keep hb5); clear hb5 he5 hl5)
        | (go_at_call 8; (with_reducible refine (lives15_any _).mono ?_); rintro e w6 ⟨rfl, hb6⟩
           have hq1 := slat_str15 HS5.out.sl hb6
           have hq2 := slat_str15 HT5.out.sl hb6
           have HL46 := Lib.hid (HL45.out.keep hb6)
           have HL56 := Lib.hid (HL5.out.keep hb6)
           have HB6 := Lib.hid (HB5.out.trans (hb6.mono HB5.out.size))
           clear hb6)
        | (go_at_call 11; (with_reducible refine (same_any HL46.out HL56.out (HE4.out.trans HE5.out.symm) HK4.out).mono ?_); rintro e w7 ⟨rfl, hb7⟩; have HL57 := Lib.hid (HL56.out.keep hb7); have HB7 := Lib.hid (HB6.out.trans (hb7.mono HB6.out.size)); clear hb7)
        | (go_at_call 12; (with_reducible refine (gets_any op other HL57.out (enIn_of HE5.out HPP.out) HK4.out).mono ?_); rintro e w8 ⟨rfl, hb8⟩; have HB8 := Lib.hid (HB7.out.trans (hb8.mono HB7.out.size)); clear hb8)
        | fail)
      go_ret
      exact ⟨rfl, HB8.out⟩
  · have hbig' : (5000 : Int) < bs.length := by omega
    clear h hbig
    go_enter Try.func3, Try.ntmps3
    go_wp2_with (first | (go_at_call 8; (with_reducible refine (lives15_any _).mono ?_); rintro e w3 ⟨rfl, hb3⟩) | fail)
    go_ret
    exact ⟨rfl, hb3⟩
end Go.Proofs.Ytoofjkhigonppaa

namespace Go.Proofs.Ytoofjkhigonppaa
open Go.ChangeShapes Go.WideShapes Go.ChangeAt Go.RowKit

set_option maxRecDepth 100000 in
theorem dictParses_lifted (os : Os) (started : os.Started) (H : Type) (enc : TypeId × Value → H) :
    ReturnsInHanded {} Try.checked os 3 .any (Rows.dictParsesSpec.pre6 enc Try.prog Try.f3 Rows.dictParsesRow.domain false) (Rows.dictParsesSpec.post enc Try.prog Try.f3 false true false false) := by
  refine returnsInHanded_of_change_sized (C := Try.checked) own_none started (by kernel_rfl) Try.func3
    (ChangeSpec.witness6 (enc := enc) (C := Try.checked) false ⟨#[], #[.slice none 0 0, .int .i64 0, .int .i64 0], []⟩ 8 (by kernel_rfl) (by kernel_rfl) (by kernel_rfl) (by kernel_rfl)) ?_
  intro W base args ds gs before hval0 hW _ hwt _
  have hval : ∀ (j : Nat) t v, Try.f3.params[j]? = some t → args[j]? = some v → Value.okWide Try.prog W .any base t v := hval0
  have hW' := hW
  obtain ⟨p, q, hA0, _, _, _, _⟩ := hW
  have hA : DataW.TrodAll enc Try.prog W 0 (fun _ => true) true Try.f3.params.toList args.toList ds p := hA0
  rw [Try.params3] at hA hval
  obtain ⟨v0, v1, v2, d0, d1, d2, p0, p1, p2, rfl, rfl, rfl, h0, h1, h2⟩ := trodAll_three hA
  obtain ⟨A, n, c, rfl, k0, m0, r0, s0⟩ := open_sl (eb := 1) (ks := [.int .u8]) Try.underlying22 (by kernel_rfl) (hval 0 _ _ rfl rfl) h0 (reach_all (ts := [22, 3, 3]) (by kernel_rfl) hwt (j := 0) rfl rfl)
  obtain ⟨op, rfl, wop⟩ := open_num Try.underlying3 (hval 1 _ _ rfl rfl) h1
  have bop := bounds_i64 wop
  obtain ⟨other, rfl, wother⟩ := open_num Try.underlying3 (hval 2 _ _ rfl rfl) h2
  have bother := bounds_i64 wother
  clear hA0 hval0
  obtain ⟨bs, hl, hB, -⟩ := arg_bytes Try.underlying22 (hval 0 _ _ rfl rfl) k0 m0 r0 s0
  refine (dictParses_any op other hl hB).mono fun e W' ⟨he, hb⟩ => ?_
  subst he
  exact ⟨_, rfl, law_post_any laid_out Try.underlying4 hW' (by kernel_rfl) rfl rfl rfl hb⟩

theorem dictParses_holds : Rows.DictParsesSaid :=
  OpenClaim.holds_of_wide 3 Try.f3 rfl rfl rfl rfl rfl rfl rfl ⟨rfl, rfl, rfl, rfl, rfl⟩ rfl rfl rfl rfl rfl (by kernel_rfl) Try.func3 (by kernel_rfl)
    (of_decide_eq_true (by kernel_rfl)) (by unfold Func.isWrapper; first | (rw [if_pos (by decide +kernel)]; kernel_rfl) | (rw [if_neg (by decide +kernel)]; exact ⟨rfl, rfl⟩))
    (fun os started H enc _ => dictParses_lifted os started H enc)

end Go.Proofs.Ytoofjkhigonppaa
