/-
  Layer 15, the document: May, Put; large.
-/
import Derived.Test.YtoofjkhigonppaaDcW
namespace Go.Proofs.Ytoofjkhigonppaa
open Go.RowKit

def LargeR (es : List En) (e : Ending) : Prop := ∃ b, e = .returned (.bool b) ∧ (b = false → es.length ≤ 200)
set_option maxRecDepth 20000 in
set_option maxHeartbeats 4000000 in
theorem large_any {w : World} {A : Option Addr} {n c : Nat} {es : List En} (h : EnL w A n es) (hn : n ≤ 4398046511104) :
    Calls Try.prog 13 #[.slice A n c] w fun e w' => LargeR es e ∧ w = w' := by
  have hl : es.length = n := by have := h.rows.len; simpa using this
  subst hl
  have H := Lib.hid h
  clear h
  go_enter Try.func13, Try.ntmps13
  go_wp2_with fail
  go_loop [3, 4] (fun s i => ∃ (k : Nat) (z : Int), k ≤ es.length ∧ k ≤ 300 ∧ i = .int .i64 k ∧ s = .int .i64 z ∧ 0 ≤ z ∧ z ≤ k * 17592186044416) (fun _ i => 300 - (intOf i).toNat)
  case atStart => exact ⟨0, 0, Nat.zero_le _, by omega, rfl, rfl, by omega, by omega⟩
  case round =>
    obtain ⟨k, z, hk, hk3, rfl, rfl, hz0, hz1⟩ := hrel
    by_cases hlt : k < es.length
    · by_cases h3 : k < 300
      · obtain ⟨⟨op, vA, vc, xs⟩, hv⟩ := get_some' hlt
        obtain ⟨b, o, rfl, hb, hc1, hc2⟩ := H.out.at_ hv
        dsimp only at hc1 hc2
        have hs := H.out.short _ (List.mem_of_getElem? hv)
        dsimp only at hs
        clear hv
        go_wp2_with fail
        go_round
        case rel => exact ⟨k + 1, z + xs.length, by omega, by omega, by go_num, rfl, by omega, by omega⟩
        case measure => simp [intOf]; omega
      · obtain rfl : k = 300 := by omega
        have h2 : (200 : Int) < es.length := by omega
        go_wp2_with fail
        go_ret
        exact ⟨⟨true, rfl, fun h => by cases h⟩, rfl⟩
    · have hge : es.length = k := by omega
      clear hlt
      by_cases h2 : 200 < es.length
      · have h2' : (200 : Int) < es.length := by omega
        go_wp2_with fail
        go_ret
        exact ⟨⟨true, rfl, fun h => by cases h⟩, rfl⟩
      · have hle : es.length ≤ 200 := by omega
        have h2' : ¬ (200 : Int) < es.length := by omega
        have h2'' : ¬ (200 : Int) < k := by omega
        have HLE := Lib.hid hle
        clear hle h2
        by_cases h4 : 3000 < z
        · go_wp2_with fail
          go_ret
          exact ⟨⟨true, rfl, fun h => by cases h⟩, rfl⟩
        · go_wp2_with fail
          go_ret
          exact ⟨⟨false, rfl, fun _ => HLE.out⟩, rfl⟩
def MayR (es : List En) (w : World) (e : Ending) (w' : World) : Prop := e = .returned (.bool ((es.map enV).all mayB)) ∧ w = w'
theorem may_is {es : List En} {w : World} {b : Bool} (h : (es.map enV).all mayB = b) : MayR es w (.returned (.bool b)) w := ⟨by rw [h], rfl⟩
theorem isOp_cases (op : Int) : ((op < 0 ∨ op = 12 ∨ (21 < op ∧ op < 3072) ∨ 3327 < op) ∧ isOpB op = false) ∨ (((0 ≤ op ∧ op ≤ 21 ∧ (op != 12) = true) ∨ (3072 ≤ op ∧ op ≤ 3327)) ∧ isOpB op = true) := by
  unfold isOpB
  simp only [bne_iff_ne, decide_eq_false_iff_not, decide_eq_true_eq]
  omega
set_option maxRecDepth 20000 in
set_option maxHeartbeats 8000000 in
theorem rMay_any {w : World} {A : Option Addr} {n c : Nat} {es : List En} (h : EnL w A n es) (hi : EnIn es) (hn : n ≤ 4398046511104) :
    Calls Try.prog 15 #[.slice A n c] w (MayR es w) := by
  have hl : es.length = n := by have := h.rows.len; simpa using this
  subst hl
  have H := Lib.hid h
  have HI := Lib.hid hi
  clear h hi
  go_enter Try.func15, Try.ntmps15
  go_wp2_with fail
  go_loop [3] (fun i => ∃ k : Nat, k ≤ es.length ∧ i = .int .i64 k ∧ Hid (((es.map enV).take k).all mayB = true)) (fun i => es.length - (intOf i).toNat)
  case atStart => exact ⟨0, Nat.zero_le _, rfl, Lib.hid rfl⟩
  case round =>
    obtain ⟨k, hk, rfl, HT⟩ := hrel
    by_cases hlt : k < es.length
    · obtain ⟨⟨op, vA, vc, xs⟩, hv⟩ := get_some' hlt
      have hv2 : (es.map enV)[k]? = some (op, xs) := by rw [List.getElem?_map, hv]; rfl
      obtain ⟨b, o, rfl, hb, hc1, hc2⟩ := H.out.at_ hv
      dsimp only at hc1 hc2
      have hmem := List.mem_of_getElem? hv
      have hs := H.out.short _ hmem
      have hargs := H.out.args _ hmem
      obtain ⟨⟨o0, o1⟩, hin⟩ := HI.out _ hmem
      dsimp only at hs hargs o0 o1 hin
      have HA := Lib.hid hargs
      have HN := Lib.hid hin
      have hno : mayB (op, xs) = false → (es.map enV).all mayB = false := fun h => all_not hv2 h
      have hnx : mayB (op, xs) = true → ((es.map enV).take (k + 1)).all mayB = true := fun h => all_take hv2 HT.out h
      have hm : mayB (op, xs) = (isOpB op && decide (xs.length ≤ 48) && xs.all wholeB) := rfl
      rw [hm] at hno hnx
      have HNO := Lib.hid hno
      have HNX := Lib.hid hnx
      clear hno hnx hm hv hv2 hmem hargs hin
      rcases isOp_cases op with ⟨hop, hf⟩ | ⟨hop, hf⟩
      · have hfin := HNO.out (by rw [hf]; rfl)
        have HF := Lib.hid hfin
        clear hfin hf
        rcases hop with hop | rfl | ⟨hop1, hop2⟩ | hop
        all_goals
          go_wp2_with fail
          go_ret
          exact may_is HF.out
      · have HFO := Lib.hid hf
        clear hf
        by_cases h48 : xs.length ≤ 48
        · have h48' : ¬ (48 : Int) < xs.length := by omega
          rcases hop with ⟨hop1, hop2, hop3⟩ | ⟨hop1, hop2⟩
          all_goals
            go_wp2_with fail
            go_loop [5] (fun j => ∃ m : Nat, m ≤ xs.length ∧ j = .int .i64 m ∧ Hid ((xs.take m).all wholeB = true)) (fun j => xs.length - (intOf j).toNat)
            case atStart => exact ⟨0, Nat.zero_le _, rfl, Lib.hid rfl⟩
            case round =>
              obtain ⟨m, hm, rfl, HM⟩ := hrel
              by_cases hlt2 : m < xs.length
              · obtain ⟨x, hx⟩ := get_some' hlt2
                obtain ⟨b2, o2, rfl, hb2, hc⟩ := HA.out.2 m hlt2
                rw [List.getElem?_map, hx] at hc
                simp only [Option.map_some] at hc
                obtain ⟨x0, x1⟩ := HN.out x (List.mem_of_getElem? hx)
                have KW := fun w => rWhole_any x x0 x1 w
                have hnx := fun h => all_take (p := wholeB) hx HM.out h
                have hno := fun h => all_not (p := wholeB) hx h
                have HNX2 := Lib.hid hnx
                have HNO2 := Lib.hid hno
                obtain ⟨wx, hwx⟩ : ∃ wx, wholeB x = wx := ⟨_, rfl⟩
                rw [hwx] at KW
                have HW := Lib.hid hwx
                have HKW := Lib.hid KW
                clear KW hnx hno hwx hx
                cases wx
                · have hfin := HNO.out (by rw [HNO2.out HW.out, Bool.and_false])
                  have HF := Lib.hid hfin
                  clear hfin
                  go_wp2_with (first | (go_at_call 33; (with_reducible refine (HKW.out _).mono ?_); rintro e w1 ⟨rfl, rfl⟩) | fail)
                  go_ret
                  exact may_is HF.out
                · go_wp2_with (first | (go_at_call 33; (with_reducible refine (HKW.out _).mono ?_); rintro e w1 ⟨rfl, rfl⟩) | fail)
                  go_round
                  case rel => exact ⟨m + 1, by omega, by go_num, Lib.hid (HNX2.out HW.out)⟩
                  case measure => simp [intOf]; omega
              · obtain rfl : m = xs.length := by omega
                have ht := HM.out
                rw [List.take_length] at ht
                have hfin := HNX.out (by rw [HFO.out, ht, decide_eq_true h48]; rfl)
                have HF := Lib.hid hfin
                clear hfin ht
                go_wp2_with fail
                go_round
                case rel => exact ⟨k + 1, by omega, by go_num, HF⟩
                case measure => simp [intOf]; omega
        · have h48' : (48 : Int) < xs.length := by omega
          have hfin := HNO.out (by rw [decide_eq_false h48, Bool.and_false]; rfl)
          have HF := Lib.hid hfin
          clear hfin
          rcases hop with ⟨hop1, hop2, hop3⟩ | ⟨hop1, hop2⟩
          all_goals
            go_wp2_with fail
            go_ret
            exact may_is HF.out
    · obtain rfl : k = es.length := by omega
      have ht := HT.out
      rw [List.take_of_length_le (by simp)] at ht
      have HF := Lib.hid ht
      clear ht
      go_wp2_with fail
      go_ret
      exact may_is HF.out
end Go.Proofs.Ytoofjkhigonppaa
