/-
  Layer 22, plain: what a line leaves, as a list of additions; what cancels; how far down a row goes.
-/
import Derived.Test.YtbjggiihbdhmbaaCpB
namespace Go.Proofs.Ytbjggiihbdhmbaa
open Go.RowKit

abbrev Op3 := Nat × Int × Int
def upd (cs : List Ce) (o : Op3) : List Ce := cs.modify o.1 (addC o.2.1 o.2.2)
def bitO (b : B4) (sg row : Int) (t : Bt) : Option Op3 := if placeB b t.col row = true then some ((placeN b t.col row).toNat, bitD sg t, bitE sg t) else none
def pieceO (b : B4) (sg : Int) (p : Pc) : List Op3 := (bitsR p.A p.B p.A.1 p.A.2).filterMap (bitO b sg p.row)
def lineO (b : B4) (a d : Dt) : List Op3 := (rowsR (dnA a d) (dnB a d) (dnA a d)).flatMap (pieceO b (dnS a d))
theorem pieceO_eq (b : B4) (sg : Int) (p : Pc) (cs : List Ce) : pieceC b sg cs p = (pieceO b sg p).foldl upd cs := by
  unfold pieceC pieceO
  generalize bitsR p.A p.B p.A.1 p.A.2 = l
  induction l generalizing cs with
  | nil => rfl
  | cons t l ih =>
    rw [List.foldl_cons, ih]
    unfold bitC bitO
    by_cases h : placeB b t.col p.row = true
    · rw [if_pos h, List.filterMap_cons, if_pos h]
      rfl
    · rw [if_neg h, List.filterMap_cons, if_neg h]
theorem lineO_eq (b : B4) (a d : Dt) (cs : List Ce) : lineC b cs a d = (lineO b a d).foldl upd cs := by
  unfold lineC lineO
  generalize rowsR (dnA a d) (dnB a d) (dnA a d) = l
  induction l generalizing cs with
  | nil => rfl
  | cons p l ih => rw [List.foldl_cons, ih, List.flatMap_cons, List.foldl_append, pieceO_eq]
theorem wrap_zero : wrap64 0 = 0 := IntWalk.wrap64_in _ (by omega)
theorem wrap_add (x y : Int) : wrap64 (wrap64 x + y) = wrap64 (x + y) := by
  unfold wrap64
  omega
theorem wrap_add2 (x y : Int) : wrap64 (wrap64 x + wrap64 y) = wrap64 (x + y) := by
  unfold wrap64
  omega
theorem addC_add (d e d' e' : Int) (c : Ce) : addC d e (addC d' e' c) = addC (d' + d) (e' + e) c := by
  unfold addC
  simp only [wrap_add, Int.add_assoc]
def sumAt (f : Op3 → Int) (i : Nat) (l : List Op3) : Int := (l.map fun o => if o.1 = i then f o else 0).sum
def InR (c : Ce) : Prop := wrap64 c.1 = c.1 ∧ wrap64 c.2 = c.2
theorem addC_zero {c : Ce} (h : InR c) : addC 0 0 c = c := by
  unfold addC
  rw [Int.add_zero, Int.add_zero, h.1, h.2]
theorem fold_at (l : List Op3) (cs : List Ce) (h : ∀ c ∈ cs, InR c) (i : Nat) : (l.foldl upd cs)[i]? = cs[i]?.map (addC (sumAt (fun o => o.2.1) i l) (sumAt (fun o => o.2.2) i l)) := by
  have key : ∀ (l : List Op3) (cs : List Ce) (D E : Int) (bs : List Ce), cs[i]? = bs[i]?.map (addC D E) → (l.foldl upd cs)[i]? = bs[i]?.map (addC (D + sumAt (fun o => o.2.1) i l) (E + sumAt (fun o => o.2.2) i l)) := by
    intro l
    induction l with
    | nil => intro cs D E bs hc; simpa [sumAt] using hc
    | cons o l ih =>
      intro cs D E bs hc
      rw [List.foldl_cons]
      have h1 : (upd cs o)[i]? = bs[i]?.map (addC (D + if o.1 = i then o.2.1 else 0) (E + if o.1 = i then o.2.2 else 0)) := by
        unfold upd
        rw [List.getElem?_modify, hc]
        by_cases he : o.1 = i
        · simp only [if_pos he]
          cases bs[i]? with
          | none => rfl
          | some c =>
            show some (addC o.2.1 o.2.2 (addC D E c)) = some (addC (D + o.2.1) (E + o.2.2) c)
            rw [addC_add]
        · simp only [if_neg he, Int.add_zero]
          cases bs[i]? <;> rfl
      rw [ih _ _ _ _ h1]
      simp only [sumAt, List.map_cons, List.sum_cons, Int.add_assoc]
  have h0 : cs[i]? = cs[i]?.map (addC 0 0) := by
    cases hc : cs[i]? with
    | none => rfl
    | some c => rw [Option.map_some, addC_zero (h c (List.mem_of_getElem? hc))]
  have := key l cs 0 0 cs h0
  simpa using this
theorem zer_in (n : Nat) : ∀ c ∈ zerC n, InR c := by
  intro c hc
  obtain ⟨_, rfl⟩ := List.mem_replicate.1 hc
  exact ⟨wrap_zero, wrap_zero⟩
theorem upd_in {cs : List Ce} (h : ∀ c ∈ cs, InR c) (l : List Op3) : ∀ c ∈ l.foldl upd cs, InR c := by
  intro c hc
  obtain ⟨i, hi⟩ := List.getElem?_of_mem hc
  rw [fold_at l cs h] at hi
  cases h2 : cs[i]? with
  | none => rw [h2] at hi; cases hi
  | some q =>
    rw [h2, Option.map_some] at hi
    injection hi with hi
    rw [← hi]
    unfold InR addC wrap64
    constructor <;> simp only <;> omega

/-! ### There and back -/
def negO (o : Op3) : Op3 := (o.1, -o.2.1, -o.2.2)
theorem bitO_neg (b : B4) (sg row : Int) (t : Bt) : bitO b (-sg) row t = (bitO b sg row t).map negO := by
  unfold bitO bitE bitD negO
  by_cases h : placeB b t.col row = true
  · simp only [if_pos h, Option.map_some, Int.neg_mul]
  · simp only [if_neg h, Option.map_none]
theorem pieceO_neg (b : B4) (sg : Int) (p : Pc) : pieceO b (-sg) p = (pieceO b sg p).map negO := by
  unfold pieceO
  rw [List.map_filterMap]
  congr 1
  funext t
  exact bitO_neg b sg p.row t
theorem lineO_back (b : B4) (a d : Dt) : lineO b d a = (lineO b a d).map negO := by
  unfold lineO
  rcases Int.lt_trichotomy a.2 d.2 with h | h | h
  · have e1 : dnA d a = dnA a d := by unfold dnA; rw [if_pos h, if_neg (by omega)]
    have e2 : dnB d a = dnB a d := by unfold dnB; rw [if_pos h, if_neg (by omega)]
    have e3 : dnS d a = -dnS a d := by unfold dnS; rw [if_pos h, if_neg (by omega)]
    rw [e1, e2, e3, List.map_flatMap]
    congr 1
    funext p
    exact pieceO_neg b _ p
  · have e1 : rowsR (dnA d a) (dnB d a) (dnA d a) = [] := rowsR_end (by unfold dnA dnB; split <;> omega)
    have e2 : rowsR (dnA a d) (dnB a d) (dnA a d) = [] := rowsR_end (by unfold dnA dnB; split <;> omega)
    rw [e1, e2]
    rfl
  · have e1 : dnA d a = dnA a d := by unfold dnA; rw [if_neg (by omega), if_pos h]
    have e2 : dnB d a = dnB a d := by unfold dnB; rw [if_neg (by omega), if_pos h]
    have e3 : dnS d a = -dnS a d := by unfold dnS; rw [if_neg (by omega), if_pos h]; rfl
    rw [e1, e2, e3, List.map_flatMap]
    congr 1
    funext p
    exact pieceO_neg b _ p
theorem sumAt_append (f : Op3 → Int) (i : Nat) (l m : List Op3) : sumAt f i (l ++ m) = sumAt f i l + sumAt f i m := by simp [sumAt]
theorem sumAt_neg1 (i : Nat) (l : List Op3) : sumAt (fun o => o.2.1) i (l.map negO) = -sumAt (fun o => o.2.1) i l := by
  induction l with
  | nil => rfl
  | cons o l ih =>
    simp only [sumAt, List.map_cons, List.sum_cons, negO] at ih ⊢
    rw [ih]
    split <;> omega
theorem sumAt_neg2 (i : Nat) (l : List Op3) : sumAt (fun o => o.2.2) i (l.map negO) = -sumAt (fun o => o.2.2) i l := by
  induction l with
  | nil => rfl
  | cons o l ih =>
    simp only [sumAt, List.map_cons, List.sum_cons, negO] at ih ⊢
    rw [ih]
    split <;> omega
theorem line_back (b : B4) (cs : List Ce) (h : ∀ c ∈ cs, InR c) (a d : Dt) : lineC b (lineC b cs a d) d a = cs := by
  rw [lineO_eq, lineO_eq, ← List.foldl_append, lineO_back]
  apply List.ext_getElem?
  intro i
  rw [fold_at _ _ h, sumAt_append, sumAt_append, sumAt_neg1, sumAt_neg2, Int.add_left_neg, Int.add_left_neg]
  cases hc : cs[i]? with
  | none => rfl
  | some c => rw [Option.map_some, addC_zero (h c (List.mem_of_getElem? hc))]
theorem cells_zero (b : B4) (n : Nat) : cellsA b (zerC n) = [] := by
  unfold cellsA cellsN
  rw [List.filterMap_eq_nil_iff]
  intro i _
  unfold clAt
  have : (zerC n).getD i (0, 0) = (0, 0) := by
    unfold zerC
    rw [List.getD_eq_getElem?_getD, List.getElem?_replicate]
    split <;> rfl
  rw [if_pos this]

/-! ### How far down in a row -/
/-- All Covers of a row, up to the n-th pixel. -/
def rowSum (cs : List Ce) (r : Nat) : Nat → Int
  | 0 => 0
  | n + 1 => wrap64 (rowSum cs r n + (cs.getD (r + n) (0, 0)).1)
def sumIn (r n : Nat) (l : List Op3) : Int := (l.map fun o => if r ≤ o.1 ∧ o.1 < r + n then o.2.1 else 0).sum
theorem sumIn_succ (r n : Nat) (l : List Op3) : sumIn r (n + 1) l = sumIn r n l + sumAt (fun o => o.2.1) (r + n) l := by
  induction l with
  | nil => rfl
  | cons o l ih =>
    simp only [sumIn, sumAt, List.map_cons, List.sum_cons] at ih ⊢
    rw [ih]
    by_cases h : o.1 = r + n
    · rw [if_pos (by omega), if_neg (by omega), if_pos h]; omega
    · by_cases h2 : r ≤ o.1 ∧ o.1 < r + n
      · rw [if_pos (by omega), if_pos h2, if_neg h]; omega
      · rw [if_neg (by omega), if_neg h2, if_neg h]; omega
theorem rowSum_eq (N : Nat) (l : List Op3) (r : Nat) : ∀ n, r + n ≤ N → rowSum (l.foldl upd (zerC N)) r n = wrap64 (sumIn r n l)
  | 0, _ => by
    have : sumIn r 0 l = 0 := by
      unfold sumIn
      induction l with
      | nil => rfl
      | cons o l ih => rw [List.map_cons, List.sum_cons, ih, if_neg (by omega)]; rfl
    rw [this]
    exact wrap_zero.symm
  | n + 1, h => by
    rw [rowSum, rowSum_eq N l r n (by omega), sumIn_succ]
    have hg : ((l.foldl upd (zerC N)).getD (r + n) (0, 0)).1 = wrap64 (sumAt (fun o => o.2.1) (r + n) l) := by
      rw [List.getD_eq_getElem?_getD, fold_at l _ (zer_in N)]
      unfold zerC
      rw [List.getElem?_replicate, if_pos (by omega)]
      simp [addC]
    rw [hg, wrap_add2]
theorem sumIn_append (r n : Nat) (l m : List Op3) : sumIn r n (l ++ m) = sumIn r n l + sumIn r n m := by simp [sumIn]
theorem place_row {b : B4} (hb : BoxOk b) {r : Nat} {col row : Int} (h : placeB b col row = true) : (r * widN b ≤ (placeN b col row).toNat ∧ (placeN b col row).toNat < r * widN b + widN b) ↔ row = b.y0 + r := by
  obtain ⟨p1, p2, -, -⟩ := place_bd hb h
  unfold placeB at h
  rw [Bool.and_eq_true, withinB_true, withinB_true] at h
  obtain ⟨⟨h1, h2⟩, h3, h4⟩ := h
  have hw := wid_cast hb
  have hwd : widB b = b.x1 - b.x0 + 1 := rfl
  obtain ⟨q, hq⟩ : ∃ q : Nat, row - b.y0 = q := ⟨(row - b.y0).toNat, by omega⟩
  have hpn : placeN b col row = ((q * widN b : Nat) : Int) + (col - b.x0) := by
    unfold placeN
    rw [hq, ← hw, Int.natCast_mul]
    omega
  rw [hpn] at p1 p2 ⊢
  have e : row = b.y0 + (r : Int) ↔ q = r := by omega
  rw [e]
  rcases Nat.lt_trichotomy q r with g | g | g
  · have h5 : (q + 1) * widN b ≤ r * widN b := Nat.mul_le_mul_right _ g
    rw [Nat.add_mul] at h5
    omega
  · subst g; omega
  · have h5 : (r + 1) * widN b ≤ q * widN b := Nat.mul_le_mul_right _ g
    rw [Nat.add_mul] at h5
    omega
theorem piece_row {b : B4} (hb : BoxOk b) (r : Nat) (sg : Int) (p : Pc) (hpl : ∀ t ∈ bitsR p.A p.B p.A.1 p.A.2, placeB b t.col p.row = true) : sumIn (r * widN b) (widN b) (pieceO b sg p) = if p.row = b.y0 + r then sg * (p.B.2 - p.A.2) else 0 := by
  have hs := bitsR_sum p.A p.B p.A.1 p.A.2
  unfold pieceO
  rw [← hs]
  generalize bitsR p.A p.B p.A.1 p.A.2 = l at hpl
  induction l with
  | nil => simp [sumIn]
  | cons t l ih =>
    have h1 := hpl t (by simp)
    have h2 := ih (fun t ht => hpl t (by simp [ht]))
    have h3 := place_row hb (r := r) h1
    have h4 : bitO b sg p.row t = some ((placeN b t.col p.row).toNat, bitD sg t, bitE sg t) := if_pos h1
    simp only [List.filterMap_cons, h4, List.map_cons, List.sum_cons]
    rw [show sumIn (r * widN b) (widN b) (((placeN b t.col p.row).toNat, bitD sg t, bitE sg t) :: List.filterMap (bitO b sg p.row) l) = (if r * widN b ≤ (placeN b t.col p.row).toNat ∧ (placeN b t.col p.row).toNat < r * widN b + widN b then bitD sg t else 0) + sumIn (r * widN b) (widN b) (List.filterMap (bitO b sg p.row) l) from rfl, h2]
    by_cases h5 : p.row = b.y0 + r
    · rw [if_pos (h3.2 h5), if_pos h5, if_pos h5]
      unfold bitD
      rw [Int.mul_add]
    · rw [if_neg (fun h => h5 (h3.1 h)), if_neg h5, if_neg h5]
      rfl
theorem line_row {b : B4} (hb : BoxOk b) (r : Nat) {a d : Dt} (ha : inB b a = true) (hd : inB b d = true) : sumIn (r * widN b) (widN b) (lineO b a d) = clampY (b.y0 + r) d.2 - clampY (b.y0 + r) a.2 := by
  obtain ⟨iA, iB⟩ := dn_in ha hd
  have hle := dn_le a d
  have hpl := line_places hb iA iB hle
  have hsum := rowsR_sum (b.y0 + r) hle
  have hfin : dnS a d * (clampY (b.y0 + r) (dnB a d).2 - clampY (b.y0 + r) (dnA a d).2) = clampY (b.y0 + r) d.2 - clampY (b.y0 + r) a.2 := by
    unfold dnS dnA dnB
    split <;> omega
  rw [← hfin, ← hsum]
  unfold lineO
  generalize dnS a d = sg
  generalize rowsR (dnA a d) (dnB a d) (dnA a d) = l at hpl
  induction l with
  | nil => simp [sumIn]
  | cons p l ih =>
    rw [List.flatMap_cons, sumIn_append, ih (fun p hp => hpl p (by simp [hp])), piece_row hb r sg p (hpl p (by simp)), List.map_cons, List.sum_cons, Int.mul_add]
    split <;> simp
end Go.Proofs.Ytbjggiihbdhmbaa
