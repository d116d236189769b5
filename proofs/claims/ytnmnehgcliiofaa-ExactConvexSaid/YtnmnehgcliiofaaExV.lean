/-
  A tally by the lines nearby is the document's.
-/
import Derived.Test.YtnmnehgcliiofaaExU
import Derived.Test.YtnmnehgcliiofaaExT
namespace Go.Proofs.Ytnmnehgcliiofaa
open Go.RowKit Go.Shelf

theorem foldl_mem {α β : Type} {f g : α → β → α} : ∀ (l : List β) (a : α), (∀ a, ∀ b ∈ l, f a b = g a b) → l.foldl f a = l.foldl g a
  | [], _, _ => rfl
  | b :: l, a, h => by
    rw [List.foldl_cons, List.foldl_cons, h a b (List.mem_cons_self ..)]
    exact foldl_mem l _ fun a b' hb => h a b' (List.mem_cons_of_mem _ hb)
theorem near_enough {ls : List (List Dt)} {x y : Int} {p : Int × Int} (hp : p ∈ sqs x y) : touchL p.1 p.2 (p.1 + 4) (p.2 + 4) (nearL ls x y) = touchL p.1 p.2 (p.1 + 4) (p.2 + 4) (segs ls) := by
  have hb := sqs_mem hp
  unfold nearL touchL
  rw [List.filter_filter]
  refine List.filter_congr fun s _ => ?_
  rcases Bool.eq_false_or_eq_true (touchS p.1 p.2 (p.1 + 4) (p.2 + 4) s) with h | h
  · rw [h, Bool.true_and]
    exact touchB_mono (by omega) (by omega) (by omega) (by omega) (by omega) (by omega) h
  · rw [h]; rfl
theorem tally_eq {ls : List (List Dt)} {x y : Int} (hm : mayL ls = true) (hx : -16384 ≤ x ∧ x ≤ 16384) (hy : -16384 ≤ y ∧ y ≤ 16384) : tallyT ls x y = rTally ls x y := by
  have hl : cntT (64 * x - 4) (64 * y - 4) (64 * x + 68) (64 * y + 68) (segs ls) = (nearL ls x y).length := by
    rw [cntT_eq hm (by omega) (by omega) (by omega) (by omega) (by omega) (by omega)]
    unfold nearL
    rw [show x * 64 - 4 = 64 * x - 4 by omega, show y * 64 - 4 = 64 * y - 4 by omega, show x * 64 + 64 + 4 = 64 * x + 68 by omega, show y * 64 + 64 + 4 = 64 * y + 68 by omega]
  unfold tallyT rTally tyFold rFold
  rw [hl]
  refine foldl_mem _ _ fun t p hp => ?_
  have hb := sqs_mem hp
  unfold tyStep rStep
  rw [near_enough hp, cntT_eq hm (by omega) (by omega) (by omega) (by omega) (by omega) (by omega)]

end Go.Proofs.Ytnmnehgcliiofaa
