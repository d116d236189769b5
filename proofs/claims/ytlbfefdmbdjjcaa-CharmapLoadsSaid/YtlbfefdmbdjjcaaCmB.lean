/-
  Layer 08: segments in memory; the place of a code point.
-/
import Derived.Test.YtlbfefdmbdjjcaaCmA
namespace Go.Proofs.Ytlbfefdmbdjjcaa
open Go.RowKit

/-- A segment, its list by where it lies. -/
structure Sg where
  f : Int
  l : Int
  g : Int
  rn : Bool
  A : Option Addr
  c : Nat
  xs : List Int
  d : Int
def sgC (v : Sg) : List Value := [.int .i64 v.f, .int .i64 v.l, .int .i64 v.g, .bool v.rn, .slice v.A v.xs.length v.c, .int .i64 v.d]
/-- A segment, plainly. -/
structure Sv where
  f : Int
  l : Int
  g : Int
  rn : Bool
  ls : Option (List Int)
  d : Int
def sgV (v : Sg) : Sv := ⟨v.f, v.l, v.g, v.rn, if v.A.isSome = true then some v.xs else none, v.d⟩
structure SvOk (s : Sv) : Prop where
  f0 : 0 ≤ s.f
  fl : s.f ≤ s.l
  l1 : s.l ≤ 1114111
  g0 : 0 ≤ s.g
  g1 : s.g ≤ 8589934592
  d0 : 0 ≤ s.d
  d1 : s.d ≤ 65535
  ls : ∀ xs, s.ls = some xs → (xs.length : Int) = s.l - s.f + 1 ∧ ∀ x ∈ xs, 0 ≤ x ∧ x ≤ 65535
/-- A code point's glyph, of a segment in which it is. -/
def atV (s : Sv) (code : Int) : Int := match s.ls with
  | none => if s.rn = true then (s.g + code - s.f) % 65536 else s.g + code - s.f
  | some xs => let v := xs.getD (code - s.f).toNat 0; if v = 0 then 0 else (v + s.d) % 65536
/-- Segments rise. -/
def SvRise (l : List Sv) : Prop := (∀ s ∈ l, SvOk s) ∧ ∀ (i j : Nat) (a b : Sv), l[i]? = some a → l[j]? = some b → i < j → a.l < b.f
structure SgL (w : World) (A : Option Addr) (n : Nat) (es : List Sg) : Prop where
  rows : RowsAt w A n 6 (es.map sgC)
  lists : ∀ v ∈ es, SlAt w v.A v.xs.length (v.xs.map (Value.int .i64))
theorem SgL.keep {w w' : World} {A : Option Addr} {n : Nat} {es : List Sg} (h : SgL w A n es) (hb : Below w.heap.size w w') : SgL w' A n es := ⟨h.rows.keep hb, fun v hv => (h.lists v hv).keep hb⟩
theorem SgL.len {w : World} {A : Option Addr} {n : Nat} {es : List Sg} (h : SgL w A n es) : es.length = n := by have := h.rows.len; simpa using this
theorem SgL.at_ {w : World} {A : Option Addr} {n : Nat} {es : List Sg} (h : SgL w A n es) {k : Nat} {v : Sg} (hv : es[k]? = some v) : ∃ b o, A = some ⟨b, o, none⟩ ∧ b < w.heap.size ∧ w.cell? ⟨b, o + k * 6, none⟩ = some (.int .i64 v.f) ∧ w.cell? ⟨b, o + k * 6 + 1, none⟩ = some (.int .i64 v.l) ∧ w.cell? ⟨b, o + k * 6 + 2, none⟩ = some (.int .i64 v.g) ∧ w.cell? ⟨b, o + k * 6 + 3, none⟩ = some (.bool v.rn) ∧ w.cell? ⟨b, o + k * 6 + 4, none⟩ = some (.slice v.A v.xs.length v.c) ∧ w.cell? ⟨b, o + k * 6 + 5, none⟩ = some (.int .i64 v.d) := by
  obtain ⟨b, o, hA, hb, hc⟩ := h.rows.at_ (i := k) (r := sgC v) (by rw [List.getElem?_map, hv]; rfl)
  exact ⟨b, o, hA, hb, hc 0 _ rfl, hc 1 _ rfl, hc 2 _ rfl, hc 3 _ rfl, hc 4 _ rfl, hc 5 _ rfl⟩
theorem rise_at {es : List Sg} (h : SvRise (es.map sgV)) {i j : Nat} {a b : Sg} (ha : es[i]? = some a) (hb : es[j]? = some b) (hij : i < j) : a.l < b.f :=
  h.2 i j (sgV a) (sgV b) (by rw [List.getElem?_map, ha]; rfl) (by rw [List.getElem?_map, hb]; rfl) hij
theorem rise_ok {es : List Sg} (h : SvRise (es.map sgV)) {i : Nat} {a : Sg} (ha : es[i]? = some a) : SvOk (sgV a) := h.1 _ (List.mem_map.2 ⟨a, List.mem_of_getElem? ha, rfl⟩)
def cmpI (x y : Int) : Int := if x < y then -1 else if y < x then 1 else 0
theorem cmp_any (x y : Int) (w : World) : Calls Try.prog 57 #[.int .i64 x, .int .i64 y] w fun e w' => e = .returned (.int .i64 (cmpI x y)) ∧ w = w' := by
  have hN : ∀ (z : Int) (w : World), Calls Try.prog 82 #[.int .i64 z] w fun e w' => e = .returned (.bool false) ∧ w = w' := by
    intro z w
    go_enter Try.func82, Try.ntmps82
    go_wp2_with fail
    go_ret
    exact ⟨by simp, rfl⟩
  have key : (x < y ∧ cmpI x y = -1) ∨ (¬ x < y ∧ y < x ∧ cmpI x y = 1) ∨ (¬ x < y ∧ ¬ y < x ∧ cmpI x y = 0) := by
    unfold cmpI
    by_cases h1 : x < y
    · exact .inl ⟨h1, if_pos h1⟩
    · by_cases h2 : y < x
      · exact .inr (.inl ⟨h1, h2, by rw [if_neg h1, if_pos h2]⟩)
      · exact .inr (.inr ⟨h1, h2, by rw [if_neg h1, if_neg h2]⟩)
  rcases key with ⟨h1, hv⟩ | ⟨h1, h2, hv⟩ | ⟨h1, h2, hv⟩
  all_goals
    rw [hv]
    clear hv
    go_enter Try.func57, Try.ntmps57
    go_wp2_with (first | (go_at_call 82; (with_reducible refine (hN _ _).mono ?_); rintro e w1 ⟨rfl, rfl⟩) | fail)
    go_ret
    exact ⟨rfl, rfl⟩
theorem cmpI_neg {x y : Int} : cmpI x y < 0 ↔ x < y := by
  unfold cmpI
  split
  · simp; assumption
  · split
    · simp; omega
    · simp; omega
theorem find1_any (v : Sg) (code : Int) (w : World) : Calls Try.prog 56 #[.agg #[.int .i64 v.f, .int .i64 v.l, .int .i64 v.g, .bool v.rn, .slice v.A v.xs.length v.c, .int .i64 v.d], .int .i64 code] w fun e w' => e = .returned (.int .i64 (cmpI v.l code)) ∧ Below w.heap.size w w' := by
  go_enter Try.func56, Try.ntmps56
  go_wp2_with (first | (go_at_call 57; (with_reducible refine (cmp_any _ _ _).mono ?_); rintro e w1 ⟨rfl, rfl⟩) | fail)
  go_ret
  exact ⟨rfl, (bel_alloc bel_refl).below⟩
/-- The first segment that does not end ahead of a code point. -/
structure FindI (es : List Sg) (code : Int) (i : Nat) : Prop where
  le : i ≤ es.length
  lo : ∀ k v, es[k]? = some v → k < i → v.l < code
  hi : ∀ k v, es[k]? = some v → i ≤ k → code ≤ v.l
def BsR (es : List Sg) (code : Int) (w : World) (e : Ending) (w' : World) : Prop := (∃ i b, e = .returned (.tuple #[.int .i64 (i : Nat), .bool b]) ∧ FindI es code i) ∧ Below w.heap.size w w'
set_option maxRecDepth 20000 in
set_option maxHeartbeats 4000000 in
theorem bsearch_any {w : World} {A : Option Addr} {n c : Nat} {es : List Sg} (code : Int) (h : SgL w A n es) (hr : SvRise (es.map sgV)) (hn : n ≤ 1114112) :
    Calls Try.prog 55 #[.slice A n c, .int .i64 code, .func (.func 56) #[] #[]] w (BsR es code w) := by
  have hl := h.len
  subst hl
  have H := Lib.hid h
  have HR := Lib.hid hr
  clear h hr
  go_enter Try.func55, Try.ntmps55
  go_wp2_with fail
  go_loopw [9, 10] (fun a b wr => ∃ i j : Nat, i ≤ j ∧ j ≤ es.length ∧ a = .int .i64 i ∧ b = .int .i64 j ∧ Hid ((∀ k v, es[k]? = some v → k < i → v.l < code) ∧ (∀ k v, es[k]? = some v → j ≤ k → code ≤ v.l)) ∧ Hid (Below w.heap.size w wr)) (fun a b _ => (intOf b).toNat - (intOf a).toNat)
  case atStart => exact ⟨0, es.length, Nat.zero_le _, Nat.le_refl _, rfl, rfl, Lib.hid ⟨fun k v _ hk => absurd hk (by omega), fun k v hv hk => by have := (List.getElem?_eq_some_iff.1 hv).1; omega⟩, Lib.hid (Below.refl _ _)⟩
  case round =>
    obtain ⟨i, j, hij, hj, rfl, rfl, HI, HB⟩ := hrel
    have hsz := HB.out.size
    by_cases hlt : i < j
    · obtain ⟨m, hm⟩ : ∃ m : Nat, (i + j) / 2 = m := ⟨_, rfl⟩
      have hm1 : i ≤ m ∧ m < j := by omega
      obtain ⟨hm1, hm2⟩ := hm1
      obtain ⟨v, hv⟩ := get_some' (l := es) (k := m) (by omega)
      obtain ⟨b, o, rfl, hb, q0, q1, q2, q3, q4, q5⟩ := H.out.at_ hv
      have p0 := (HB.out.cell (p := ⟨b, _, none⟩) hb).trans q0
      have p1 := (HB.out.cell (p := ⟨b, _, none⟩) hb).trans q1
      have p2 := (HB.out.cell (p := ⟨b, _, none⟩) hb).trans q2
      have p3 := (HB.out.cell (p := ⟨b, _, none⟩) hb).trans q3
      have p4 := (HB.out.cell (p := ⟨b, _, none⟩) hb).trans q4
      have p5 := (HB.out.cell (p := ⟨b, _, none⟩) hb).trans q5
      have hw1 : IntKind.u64.wrap ((i : Int) + j) = (i : Int) + j := by rw [IntKind.wrap_u64]; omega
      have hw2 : ((i : Int) + j) / 2 = m := by omega
      have HV := Lib.hid hv
      have hlt' : (i : Int) < j := by omega
      have hme : (m : Int) < es.length := by omega
      clear q0 q1 q2 q3 q4 q5 hm hv
      by_cases hc : v.l < code
      · have hc' : cmpI v.l code < 0 := cmpI_neg.2 hc
        have HN : Hid ((∀ k u, es[k]? = some u → k < m + 1 → u.l < code) ∧ (∀ k u, es[k]? = some u → j ≤ k → code ≤ u.l)) := Lib.hid ⟨fun k u hu hk => by
          rcases Nat.lt_or_ge k m with h1 | h1
          · have h2 := rise_at HR.out hu HV.out h1
            have h3 := (rise_ok HR.out HV.out).fl
            dsimp only [sgV] at h3
            omega
          · obtain rfl : k = m := by omega
            have := hu.symm.trans HV.out
            injection this with this
            subst this
            exact hc, HI.out.2⟩
        clear hc
        go_wp2_with (first | (go_at_call 56; (with_reducible refine (find1_any v code _).mono ?_); rintro e w1 ⟨rfl, hb1⟩; have HB1 := Lib.hid (HB.out.trans (hb1.mono hsz)); clear hb1) | fail)
        go_roundw
        case rel => exact ⟨m + 1, j, by omega, hj, by go_num, rfl, HN, HB1⟩
        case measure => simp [intOf]; omega
      · have hc' : ¬ cmpI v.l code < 0 := fun h => hc (cmpI_neg.1 h)
        have HN : Hid ((∀ k u, es[k]? = some u → k < i → u.l < code) ∧ (∀ k u, es[k]? = some u → m ≤ k → code ≤ u.l)) := Lib.hid ⟨HI.out.1, fun k u hu hk => by
          rcases Nat.lt_or_ge m k with h1 | h1
          · have h2 := rise_at HR.out HV.out hu h1
            have h3 := (rise_ok HR.out hu).fl
            dsimp only [sgV] at h3
            omega
          · obtain rfl : k = m := by omega
            have := hu.symm.trans HV.out
            injection this with this
            subst this
            omega⟩
        clear hc
        go_wp2_with (first | (go_at_call 56; (with_reducible refine (find1_any v code _).mono ?_); rintro e w1 ⟨rfl, hb1⟩; have HB1 := Lib.hid (HB.out.trans (hb1.mono hsz)); clear hb1) | fail)
        go_roundw
        case rel => exact ⟨i, m, by omega, by omega, rfl, by go_num, HN, HB1⟩
        case measure => simp [intOf]; omega
    · obtain rfl : i = j := by omega
      have hfi : FindI es code i := ⟨hj, HI.out.1, HI.out.2⟩
      have HF := Lib.hid hfi
      clear hfi
      by_cases hie : i < es.length
      · obtain ⟨v, hv⟩ := get_some' hie
        obtain ⟨b, o, rfl, hb, q0, q1, q2, q3, q4, q5⟩ := H.out.at_ hv
        have p0 := (HB.out.cell (p := ⟨b, _, none⟩) hb).trans q0
        have p1 := (HB.out.cell (p := ⟨b, _, none⟩) hb).trans q1
        have p2 := (HB.out.cell (p := ⟨b, _, none⟩) hb).trans q2
        have p3 := (HB.out.cell (p := ⟨b, _, none⟩) hb).trans q3
        have p4 := (HB.out.cell (p := ⟨b, _, none⟩) hb).trans q4
        have p5 := (HB.out.cell (p := ⟨b, _, none⟩) hb).trans q5
        have hie' : (i : Int) < es.length := by omega
        clear q0 q1 q2 q3 q4 q5 hv
        go_wp2_with (first | (go_at_call 56; (with_reducible refine (find1_any v code _).mono ?_); rintro e w1 ⟨rfl, hb1⟩; have HB1 := Lib.hid (HB.out.trans (hb1.mono hsz)); clear hb1) | fail)
        go_ret2
        exact ⟨⟨_, _, rfl, HF.out⟩, HB1.out⟩
      · have hie' : ¬ (i : Int) < es.length := by omega
        go_wp2_with fail
        go_ret2
        exact ⟨⟨_, _, rfl, HF.out⟩, HB.out⟩
end Go.Proofs.Ytlbfefdmbdjjcaa
