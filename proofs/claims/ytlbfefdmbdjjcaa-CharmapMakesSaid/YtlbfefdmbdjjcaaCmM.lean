/-
  Layer 08: pairs in memory; may they be made?
-/
import Derived.Test.YtlbfefdmbdjjcaaCmL
import Derived.Test.YtlbfefdmbdjjcaaIw
namespace Go.Proofs.Ytlbfefdmbdjjcaa
open Go.RowKit

abbrev Pr := Int × Int
def prC (p : Pr) : List Value := [.int .i64 p.1, .int .i64 p.2]
def mostC (f : Int) : Int := if f = 0 then 255 else if f = 4 then 65534 else if f = 6 then 65535 else 1114111
def mostG (f : Int) : Int := if f = 0 then 255 else 65535
def mayL (lc lg : Int) : Int → List Pr → Bool
  | _, [] => true
  | last, p :: t => decide (last < p.1 ∧ p.1 ≤ lc ∧ 1 ≤ p.2 ∧ p.2 ≤ lg) && mayL lc lg p.1 t
def lastP : Int → List Pr → Int
  | last, [] => last
  | _, p :: t => lastP p.1 t
theorem mayL_append (lc lg : Int) : ∀ (a b : List Pr) (last : Int), mayL lc lg last (a ++ b) = (mayL lc lg last a && mayL lc lg (lastP last a) b)
  | [], _, _ => rfl
  | p :: a, b, last => by
    show (decide _ && mayL lc lg p.1 (a ++ b)) = _
    rw [mayL_append lc lg a b p.1, ← Bool.and_assoc]
    rfl
theorem lastP_snoc : ∀ (a : List Pr) (p : Pr) (last : Int), lastP last (a ++ [p]) = p.1
  | [], _, _ => rfl
  | _ :: a, p, _ => lastP_snoc a p _
theorem mayL_one {lc lg last : Int} {p : Pr} : mayL lc lg last [p] = decide (last < p.1 ∧ p.1 ≤ lc ∧ 1 ≤ p.2 ∧ p.2 ≤ lg) := by
  show (decide _ && true) = _
  rw [Bool.and_true]
def mayS (f : Int) (l : List Pr) : Bool := mayL (mostC f) (mostG f) (-1) l
theorem most_any (f : Int) (w : World) : Calls Try.prog 59 #[.int .i64 f] w fun e w' => e = .returned (.tuple #[.int .i64 (mostC f), .int .i64 (mostG f)]) ∧ w = w' := by
  have hcs : ((f == 0) = true ∧ mostC f = 255 ∧ mostG f = 255) ∨ ((f == 0) = false ∧ (f == 4) = true ∧ mostC f = 65534 ∧ mostG f = 65535) ∨ ((f == 0) = false ∧ (f == 4) = false ∧ (f == 6) = true ∧ mostC f = 65535 ∧ mostG f = 65535) ∨ ((f == 0) = false ∧ (f == 4) = false ∧ (f == 6) = false ∧ mostC f = 1114111 ∧ mostG f = 65535) := by
    unfold mostC mostG
    by_cases h0 : f = 0
    · subst h0; simp
    · by_cases h4 : f = 4
      · subst h4; simp
      · by_cases h6 : f = 6
        · subst h6; simp
        · simp [h0, h4, h6]
  rcases hcs with ⟨e0, hc, hg⟩ | ⟨e0, e4, hc, hg⟩ | ⟨e0, e4, e6, hc, hg⟩ | ⟨e0, e4, e6, hc, hg⟩
  all_goals
    rw [hc, hg]
    clear hc hg
    go_enter Try.func59, Try.ntmps59
    go_wp2_with fail
    go_ret2
    exact ⟨rfl, rfl⟩
set_option maxRecDepth 20000 in
set_option maxHeartbeats 4000000 in
theorem mayMake_any {w : World} {A : Option Addr} {n c : Nat} {l : List Pr} (f : Int) (h : RowsAt w A n 2 (l.map prC)) (hn : n ≤ 1000000) :
    Calls Try.prog 34 #[.int .i64 f, .slice A n c] w fun e w' => e = .returned (.bool (mayS f l)) ∧ Below w.heap.size w w' := by
  have hl := h.len
  rw [List.length_map] at hl
  subst hl
  have hv : mayS f l = mayL (mostC f) (mostG f) (-1) l := rfl
  have hm := most_any f
  have hbc : mostC f ≤ 1114111 := by unfold mostC; split <;> (try split) <;> (try split) <;> omega
  have hbg : mostG f ≤ 65535 := by unfold mostG; split <;> omega
  generalize mostC f = lc at hv hm hbc
  generalize mostG f = lg at hv hm hbg
  have HV := Lib.hid hv
  have HM := Lib.hid hm
  have H := Lib.hid h
  clear hv hm h
  go_enter Try.func34, Try.ntmps34
  go_wp2_with (first | (go_at_call 59; (with_reducible refine (HM.out _).mono ?_); rintro e w1 ⟨rfl, rfl⟩) | fail)
  go_loopw [7, 17] (fun la i wr => ∃ (k : Nat) (z : Int), k ≤ l.length ∧ i = .int .i64 k ∧ la = .int .i64 z ∧ Hid (mayL lc lg (-1) (l.take k) = true ∧ lastP (-1) (l.take k) = z) ∧ Hid (Below w.heap.size w wr) ∧ (-1 ≤ z ∧ z ≤ 1114111)) (fun _ i _ => l.length - (intOf i).toNat)
  case atStart => exact ⟨0, -1, Nat.zero_le _, rfl, rfl, Lib.hid ⟨rfl, rfl⟩, Lib.hid (Below.refl _ _), by omega, by omega⟩
  case round =>
    obtain ⟨k, z, hk, rfl, rfl, HE, HB, hz0, hz1⟩ := hrel
    by_cases hlt : k < l.length
    · obtain ⟨⟨p1, p2⟩, hp⟩ := get_some' hlt
      obtain ⟨b, o, rfl, hb, hc⟩ := H.out.at_ (i := k) (r := prC (p1, p2)) (by rw [List.getElem?_map, hp]; rfl)
      have r0 : wr.cell? ⟨b, o + k * 2, none⟩ = some (.int .i64 p1) := (HB.out.cell (p := ⟨b, _, none⟩) hb).trans (hc 0 _ rfl)
      have r1 : wr.cell? ⟨b, o + k * 2 + 1, none⟩ = some (.int .i64 p2) := (HB.out.cell (p := ⟨b, _, none⟩) hb).trans (hc 1 _ rfl)
      have hkl : (k : Int) < l.length := by omega
      have hts := take_snoc' hp
      have hzs := HB.out.size
      have hall : ¬ (z < p1 ∧ p1 ≤ lc ∧ 1 ≤ p2 ∧ p2 ≤ lg) → mayS f l = false := fun h => by
        rw [HV.out, ← List.take_append_drop (k + 1) l, hts, mayL_append, mayL_append, HE.out.2, mayL_one, decide_eq_false h]
        simp
      have HALL := Lib.hid hall
      have HTS := Lib.hid hts
      clear hc hp hts hall
      by_cases hok : z < p1 ∧ p1 ≤ lc ∧ 1 ≤ p2 ∧ p2 ≤ lg
      · obtain ⟨o1, o2, o3, o4⟩ := hok
        have o1' : ¬ p1 ≤ z := by omega
        have o3' : ¬ p2 < 1 := by omega
        clear HALL
        go_wp2_with fail
        go_roundw
        case rel => exact ⟨k + 1, p1, by omega, by go_num, rfl, Lib.hid ⟨by rw [HTS.out, mayL_append, HE.out.1, HE.out.2, mayL_one, decide_eq_true ⟨o1, o2, o3, o4⟩]; rfl, by rw [HTS.out, lastP_snoc]⟩, Lib.hid (HB.out.trans ((bel_alloc bel_refl).below.mono hzs)), by omega, by omega⟩
        case measure => simp [intOf]; omega
      · have HNO := Lib.hid (HALL.out hok)
        have hcs : p1 ≤ z ∨ (¬ p1 ≤ z ∧ ¬ p1 ≤ lc) ∨ (¬ p1 ≤ z ∧ p1 ≤ lc ∧ p2 < 1) ∨ (¬ p1 ≤ z ∧ p1 ≤ lc ∧ ¬ p2 < 1 ∧ ¬ p2 ≤ lg) := by omega
        clear HALL hok
        rcases hcs with o1 | ⟨o1, o2⟩ | ⟨o1, o2, o3⟩ | ⟨o1, o2, o3, o4⟩
        all_goals
          go_wp2_with fail
          go_ret
          exact ⟨by rw [HNO.out]; rfl, HB.out.trans ((bel_alloc bel_refl).below.mono hzs)⟩
    · obtain rfl : k = l.length := by omega
      have hfin := HE.out.1
      rw [List.take_length, ← HV.out] at hfin
      have HF := Lib.hid hfin
      clear hfin
      go_wp2_with fail
      go_ret
      exact ⟨by rw [HF.out]; rfl, HB.out⟩
end Go.Proofs.Ytlbfefdmbdjjcaa
