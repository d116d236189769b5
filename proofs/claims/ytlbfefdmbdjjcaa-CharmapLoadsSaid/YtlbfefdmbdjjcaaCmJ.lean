/-
  Layer 08: what a loader's segments are, plainly.
-/
import Derived.Test.YtlbfefdmbdjjcaaCmI
namespace Go.Proofs.Ytlbfefdmbdjjcaa
open Go.RowKit

theorem upB_cons {lim last : Int} {s : Sv} {l : List Sv} (h : upB lim last (s :: l) = true) : (s.f ≤ s.l ∧ last < s.f ∧ s.l ≤ lim) ∧ upB lim s.l l = true := by
  have h' : (decide (s.f ≤ s.l ∧ last < s.f ∧ s.l ≤ lim) && upB lim s.l l) = true := h
  rw [Bool.and_eq_true, decide_eq_true_eq] at h'
  exact h'
theorem upB_all {lim : Int} : ∀ {l : List Sv} {last : Int}, upB lim last l = true → ∀ s ∈ l, s.f ≤ s.l ∧ last < s.f ∧ s.l ≤ lim
  | [], _, _, _, hs => (List.not_mem_nil hs).elim
  | a :: l, last, h, s, hs => by
    obtain ⟨h1, h2⟩ := upB_cons h
    rcases List.mem_cons.1 hs with rfl | hs
    · exact h1
    · have := upB_all h2 s hs
      omega
theorem upB_pair {lim : Int} : ∀ {l : List Sv} {last : Int}, upB lim last l = true → ∀ (i j : Nat) (a b : Sv), l[i]? = some a → l[j]? = some b → i < j → a.l < b.f
  | [], _, _, _, _, _, _, ha, _, _ => by simp at ha
  | x :: l, last, h, i, j, a, b, ha, hb, hij => by
    obtain ⟨h1, h2⟩ := upB_cons h
    obtain ⟨j', rfl⟩ : ∃ j', j = j' + 1 := ⟨j - 1, by omega⟩
    rw [List.getElem?_cons_succ] at hb
    cases i with
    | zero =>
      simp only [List.getElem?_cons_zero, Option.some.injEq] at ha
      subst ha
      have := upB_all h2 b (List.mem_of_getElem? hb)
      omega
    | succ i =>
      rw [List.getElem?_cons_succ] at ha
      exact upB_pair h2 i j' a b ha hb (by omega)
theorem upB_rise {lim : Int} {l : List Sv} (h : upB lim (-1) l = true) (hl : lim ≤ 1114111) (ho : ∀ s ∈ l, 0 ≤ s.g ∧ s.g ≤ 8589934592 ∧ 0 ≤ s.d ∧ s.d ≤ 65535 ∧ ∀ xs, s.ls = some xs → (xs.length : Int) = s.l - s.f + 1 ∧ ∀ x ∈ xs, 0 ≤ x ∧ x ≤ 65535) : SvRise l := by
  refine ⟨fun s hs => ?_, upB_pair h⟩
  have h1 := upB_all h s hs
  obtain ⟨o1, o2, o3, o4, o5⟩ := ho s hs
  exact ⟨by omega, by omega, by omega, o1, o2, o3, o4, o5⟩
theorem seg4_ok {bs : List UInt8} {n i : Nat} {s : Sv} (h : seg4 bs n i = some s) (hf : be16 bs (16 + 2 * n + 2 * i) ≤ be16 bs (14 + 2 * i)) : s.f = be16 bs (16 + 2 * n + 2 * i) ∧ s.l = be16 bs (14 + 2 * i) ∧ 0 ≤ s.g ∧ s.g ≤ 8589934592 ∧ 0 ≤ s.d ∧ s.d ≤ 65535 ∧ ∀ xs, s.ls = some xs → (xs.length : Int) = s.l - s.f + 1 ∧ ∀ x ∈ xs, 0 ≤ x ∧ x ≤ 65535 := by
  have be := be16_bd bs (14 + 2 * i)
  have bf := be16_bd bs (16 + 2 * n + 2 * i)
  have bd := be16_bd bs (16 + 4 * n + 2 * i)
  unfold seg4 at h
  dsimp only at h
  split at h
  · injection h with h
    subst h
    refine ⟨rfl, rfl, by dsimp only; omega, by dsimp only; omega, bd.1, bd.2, fun xs hx => by cases hx⟩
  · unfold lisS at h
    split at h
    · cases h
    · split at h
      · cases h
      · injection h with h
        subst h
        refine ⟨rfl, rfl, by dsimp only; omega, by dsimp only; omega, bd.1, bd.2, fun xs hx => ?_⟩
        injection hx with hx
        subst hx
        refine ⟨by rw [wL_len]; dsimp only; omega, wL_bd _ _ _⟩
theorem segs4_up {bs : List UInt8} {n : Nat} : ∀ (i : Nat) (l : List Sv), segs4 bs n i = some l → l.length = i ∧ upB 65535 (-1) l = true ∧ ∀ s ∈ l, 0 ≤ s.g ∧ s.g ≤ 8589934592 ∧ 0 ≤ s.d ∧ s.d ≤ 65535 ∧ ∀ xs, s.ls = some xs → (xs.length : Int) = s.l - s.f + 1 ∧ ∀ x ∈ xs, 0 ≤ x ∧ x ≤ 65535
  | 0, l, h => by
    injection h with h
    subst h
    exact ⟨rfl, rfl, fun _ hs => (List.not_mem_nil hs).elim⟩
  | i + 1, l, h => by
    unfold segs4 at h
    obtain ⟨l', h1, h2⟩ := Option.bind_eq_some_iff.1 h
    obtain ⟨a1, a2, a3⟩ := segs4_up i l' h1
    split at h2
    · cases h2
    · obtain ⟨s, h3, rfl⟩ := Option.map_eq_some_iff.1 h2
      obtain ⟨e1, e2, e3⟩ := seg4_ok h3 (by omega)
      have be := be16_bd bs (14 + 2 * i)
      refine ⟨by rw [List.length_append, a1]; rfl, ?_, fun t ht => ?_⟩
      · rw [upB_append, a2, upB_one, e1, e2]
        simp
        omega
      · rcases List.mem_append.1 ht with ht | ht
        · exact a3 t ht
        · rw [List.mem_singleton] at ht
          subst ht
          exact e3
def loadS (bs : List UInt8) (fmt : Int) : Option (List Sv) := if fmt = 0 then load0S bs else if fmt = 4 then load4S bs else if fmt = 6 then load6S bs else load12S bs
theorem ints_bd (bs : List UInt8) : ∀ x ∈ ints bs, 0 ≤ x ∧ x ≤ 65535 := fun x hx => by
  obtain ⟨u, _, rfl⟩ := List.mem_map.1 hx
  have := u.toNat_lt
  omega
theorem rise_one {s : Sv} (h : SvOk s) : SvRise [s] := by
  refine ⟨fun t ht => by rw [List.mem_singleton] at ht; subst ht; exact h, fun i j a b ha hb hij => ?_⟩
  have := (List.getElem?_eq_some_iff.1 hb).1
  simp at this
  omega
theorem loadS_rise {bs : List UInt8} {fmt : Int} {l : List Sv} (h : loadS bs fmt = some l) (hm : bs.length ≤ 1000000) : SvRise l ∧ l.length ≤ 1114112 := by
  unfold loadS at h
  split at h
  · unfold load0S at h
    split at h
    · cases h
    · injection h with h
      subst h
      refine ⟨rise_one ⟨by simp, by simp, by simp, by simp, by simp, by simp, by simp, fun xs hx => ?_⟩, by simp⟩
      injection hx with hx
      subst hx
      refine ⟨?_, ints_bd _⟩
      unfold ints
      rw [List.length_map, List.length_take, List.length_drop]
      simp only
      omega
  · split at h
    · unfold load4S at h
      split at h
      · cases h
      · split at h
        · cases h
        · obtain ⟨l', h1, h2⟩ := Option.bind_eq_some_iff.1 h
          split at h2
          · injection h2 with h2
            subst h2
            obtain ⟨a1, a2, a3⟩ := segs4_up _ _ h1
            refine ⟨upB_rise a2 (by omega) a3, ?_⟩
            have := be16_bd bs 6
            omega
          · cases h2
    · split at h
      · have bf := be16_bd bs 6
        have bk := be16_bd bs 8
        unfold load6S at h
        split at h
        · cases h
        · split at h
          · cases h
          · split at h
            · injection h with h
              subst h
              exact ⟨⟨fun _ hs => (List.not_mem_nil hs).elim, fun i j a b ha => by simp at ha⟩, by simp⟩
            · injection h with h
              subst h
              refine ⟨rise_one ⟨bf.1, by dsimp only; omega, by dsimp only; omega, by simp, by simp, by simp, by simp, fun xs hx => ?_⟩, by simp⟩
              injection hx with hx
              subst hx
              refine ⟨?_, wL_bd _ _ _⟩
              rw [wL_len]
              dsimp only
              omega
      · unfold load12S at h
        split at h
        · cases h
        · split at h
          · cases h
          · split at h
            · rename_i h3
              injection h with h
              subst h
              refine ⟨upB_rise h3 (by omega) fun s hs => ?_, ?_⟩
              · obtain ⟨i, _, rfl⟩ := List.mem_map.1 hs
                have b := be32_bd bs (24 + 12 * i)
                refine ⟨b.1, by show be32 bs (24 + 12 * i) ≤ _; omega, by simp [seg12], by simp [seg12], fun xs hx => by cases hx⟩
              · unfold segs12
                rw [List.length_map, List.length_range]
                omega
            · cases h
/-- What Load says: a number of an error, or a format and its segments. -/
inductive LdV
  | err (x : Int)
  | ok (fmt : Int) (l : List Sv)
def ldM (o : Option (List Sv)) (f : Int) : LdV := match o with
  | none => .err 80
  | some l => .ok f l
def ldV (bs : List UInt8) (n : Int) : LdV :=
  if n < 1 ∨ 65535 < n then .err 1
  else if bs.length < 2 then .err 80
  else if isFmtB (be16 bs 0) = false then .err 81
  else if sizeS bs (be16 bs 0) < 0 ∨ (bs.length : Int) < sizeS bs (be16 bs 0) then .err 80
  else ldM (loadS (bs.take (sizeS bs (be16 bs 0)).toNat) (be16 bs 0)) (be16 bs 0)
end Go.Proofs.Ytlbfefdmbdjjcaa
