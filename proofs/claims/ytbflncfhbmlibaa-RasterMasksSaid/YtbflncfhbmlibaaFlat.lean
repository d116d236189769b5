/-
  Arguments opened, whatever their types: a type of integers, bools, strings, slices, structs and arrays laid out as a list of kinds of cells; what Trod says, cell by cell.
-/
import Derived.Test.YtbflncfhbmlibaaOpen
import Derived.Deep.Slices
import Derived.SizedLaws
namespace Go.Proofs.Ytbflncfhbmlibaa
open Go.ChangeShapes Go.WideShapes Go.ChangeAt Go.RowKit Go.WideElems Go.Deep

inductive CK where
  | int (k : IntKind)
  | bool
  | str
  | sl (eb : Nat) (ks : List CK)

mutual
def CellOk (w : World) : CK → Value → Prop
  | .int k, v => ∃ n, v = .int k n ∧ (Lit.int k n).wf = true
  | .bool, v => ∃ b, v = .bool b
  | .str, v => ∃ s : ByteArray, v = .string s ∧ s.size ≤ 140737488351232
  | .sl eb ks, v => ∃ A n c, v = .slice A n c ∧ n ≤ c ∧ c ≤ maxLen ∧ n * eb ≤ 140737488351232 ∧ ∀ i, i < n → ∃ b o, A = some ⟨b, o, none⟩ ∧ b < w.heap.size ∧ CellsOk w ks (fun j => w.cell? ⟨b, o + (i * ks.length + j), none⟩)
def CellsOk (w : World) : List CK → (Nat → Option Value) → Prop
  | [], _ => True
  | k :: ks, f => (∃ v, f 0 = some v ∧ CellOk w k v) ∧ CellsOk w ks (fun j => f (j + 1))
end

theorem CellsOk.congr {w : World} : ∀ {ks : List CK} {f g : Nat → Option Value}, CellsOk w ks f → (∀ j, j < ks.length → f j = g j) → CellsOk w ks g
  | [], _, _, _, _ => by simp [CellsOk]
  | k :: ks, f, g, h, he => by
    simp only [CellsOk] at h ⊢
    refine ⟨?_, CellsOk.congr h.2 (fun j hj => he (j + 1) (by simpa using hj))⟩
    rw [← he 0 (by simp)]
    exact h.1
theorem CellsOk.append {w : World} : ∀ {ks ls : List CK} {f : Nat → Option Value}, CellsOk w ks f → CellsOk w ls (fun j => f (ks.length + j)) → CellsOk w (ks ++ ls) f
  | [], _, _, _, h => by simpa using h
  | k :: ks, ls, f, h, h2 => by
    simp only [CellsOk, List.cons_append] at h ⊢
    exact ⟨h.1, CellsOk.append h.2 (h2.congr fun j _ => by congr 1; simp; omega)⟩

def flatFs (P : Program) (r : TypeId → Option (List CK)) : List Field → Nat → Option (List CK)
  | [], _ => some []
  | f :: fs, off => match r f.type with
    | some ks => if f.offset = off ∧ P.cellsOf f.type = ks.length then (flatFs P r fs (off + ks.length)).map (ks ++ ·) else none
    | none => none
def flat (P : Program) : Nat → TypeId → Option (List CK)
  | 0, _ => none
  | f + 1, t => match P.underlying t with
    | some (.int k) => some [.int k]
    | some .bool => some [.bool]
    | some .string => some [.str]
    | some (.slice e) => match flat P f e with
      | some (k :: ks) => if P.cellsOf e = (k :: ks).length then some [.sl (P.bytesOf e) (k :: ks)] else none
      | _ => none
    | some (.struct fs) => flatFs P (flat P f) fs.toList 0
    | some (.array n e) => match flat P f e with
      | some ks => if P.cellsOf e = ks.length then some (List.replicate n ks).flatten else none
      | none => none
    | _ => none

section
variable {P : Program} {H : Type} {enc : TypeId × Value → H} {w : World} {base : Nat} {spare : Nat → Bool} {held : Bool}
theorem weightsAll_mem {e : TypeId} : ∀ {l : List (DataW H)} {d : DataW H}, d ∈ l → ∀ n ∈ d.weights P e, n ∈ DataW.weightsAll P e l
  | x :: l, d, h, n, hn => by
    simp only [DataW.weightsAll, List.mem_append]
    rcases List.mem_cons.1 h with rfl | h
    · exact .inl hn
    · exact .inr (weightsAll_mem h n hn)
theorem flatFs_ok {r : TypeId → Option (List CK)} (hr : ∀ t ks, r t = some ks → ∀ fuel cs x, DataW.trod enc P w base spare held fuel t cs = some x → (∀ n ∈ x.1.weights P t, n ≤ reachBytes) → CellsOk w ks (fun j => cs[j]?)) (cs : List Value) :
    ∀ (fs : List Field) (off : Nat) (ks : List CK), flatFs P r fs off = some ks → (∀ f ∈ fs, ∃ fuel x, DataW.trod enc P w base spare held fuel f.type ((cs.drop f.offset).take (P.cellsOf f.type)) = some x ∧ ∀ n ∈ x.1.weights P f.type, n ≤ reachBytes) →
      CellsOk w ks (fun j => cs[off + j]?)
  | [], off, ks, h, _ => by
    simp only [flatFs, Option.some.injEq] at h
    subst h
    simp [CellsOk]
  | f :: fs, off, ks, h, hall => by
    simp only [flatFs] at h
    cases h1 : r f.type with
    | none => simp [h1] at h
    | some k1 =>
      simp only [h1] at h
      split at h
      · rename_i hc
        obtain ⟨k2, h2, rfl⟩ := Option.map_eq_some_iff.1 h
        obtain ⟨fuel, x, hx, hwx⟩ := hall f (by simp)
        refine CellsOk.append ((hr _ _ h1 _ _ _ hx hwx).congr fun j hj => ?_) ((flatFs_ok hr cs fs (off + k1.length) k2 h2 (fun f' hf' => hall f' (by simp [hf']))).congr fun j _ => by rw [Nat.add_assoc])
        rw [List.getElem?_take, if_pos (by omega), List.getElem?_drop, hc.1]
      · cases h

theorem flat_ok (f : Nat) : ∀ (t : TypeId) (ks : List CK), flat P f t = some ks → ∀ fuel cs x, DataW.trod enc P w base spare held fuel t cs = some x → (∀ n ∈ x.1.weights P t, n ≤ reachBytes) → CellsOk w ks (fun j => cs[j]?) := by
  induction f with
  | zero => intro t ks h; simp [flat] at h
  | succ f ih =>
    intro t ks h fuel cs x hx hwt
    unfold flat at h
    cases hu : P.underlying t with
    | none => simp [hu] at h
    | some d =>
      rw [hu] at h
      cases d with
      | int k =>
        simp only [Option.some.injEq] at h
        subst h
        obtain ⟨n, rfl, _, hw⟩ := DataW.trod_int hu hx
        simp only [CellsOk, CellOk]
        exact ⟨⟨_, rfl, n, rfl, hw⟩, trivial⟩
      | bool =>
        simp only [Option.some.injEq] at h
        subst h
        obtain ⟨b, rfl, _⟩ := DataW.trod_bool hu hx
        simp only [CellsOk, CellOk]
        exact ⟨⟨_, rfl, b, rfl⟩, trivial⟩
      | string =>
        simp only [Option.some.injEq] at h
        subst h
        obtain ⟨s, rfl, hxs, _⟩ := DataW.trod_string hu hx
        have hb := hwt s.data.toList.length (by rw [hxs]; dsimp only; unfold DataW.weights; exact List.mem_singleton.2 rfl)
        have hz : s.data.toList.length = s.size := Array.length_toList
        rw [hz] at hb
        simp only [CellsOk, CellOk]
        exact ⟨⟨_, rfl, s, rfl, hb⟩, trivial⟩
      | slice e =>
        simp only at h
        cases he : flat P f e with
        | none => simp [he] at h
        | some l =>
          rw [he] at h
          cases l with
          | nil => simp at h
          | cons k1 k2 =>
            simp only at h
            split at h
            · rename_i hc
              simp only [Option.some.injEq] at h
              subst h
              simp only [CellsOk, CellOk, and_true]
              rcases open_slice hu hx with ⟨rfl, _⟩ | ⟨a, len, cap, m, n, D, Pl, rfl, hb, hl, hm, hmm, rfl, hel⟩
              · exact ⟨_, rfl, none, 0, 0, rfl, Nat.le_refl _, Nat.zero_le _, by simp, fun i hi => absurd hi (Nat.not_lt_zero _)⟩
              · have hlm : len ≤ m := by rw [hmm]; split <;> omega
                have hsz : len * P.bytesOf e ≤ 140737488351232 := by
                  have := hwt ((len + (m - len)) * P.bytesOf e) (by simp [DataW.weights, hu])
                  have h4 : len * P.bytesOf e ≤ (len + (m - len)) * P.bytesOf e := Nat.mul_le_mul_right _ (by omega)
                  exact Nat.le_trans h4 this
                have hwe : ∀ i, i < len → ∀ n ∈ (D i).weights P e, n ≤ reachBytes := by
                  intro i hi n hn
                  refine hwt n ?_
                  simp only [DataW.weights, hu, List.mem_cons, List.mem_append]
                  exact .inr (.inl (weightsAll_mem (List.mem_map.2 ⟨i, by simpa using hi, rfl⟩) n hn))
                refine ⟨_, rfl, some a, len, cap, rfl, hl, hm, hsz, fun i hi => ?_⟩
                have key : ∀ i, i < len → ∃ cs' : List Value, P.cellsOf e = (k1 :: k2).length ∧ (∀ j, j < P.cellsOf e → w.cell? ((a.add (i * P.cellsOf e)).add j) = cs'[j]?) ∧ CellsOk w (k1 :: k2) (fun j => cs'[j]?) := by
                  intro i hi
                  obtain ⟨cs', hcs, ht⟩ := hel i (by omega)
                  obtain ⟨_, _, hcc⟩ := World.cells?_some hcs
                  exact ⟨cs', hc, hcc, ih _ _ he _ _ _ ht (hwe i hi)⟩
                obtain ⟨cs0, _, h0, h0'⟩ := key 0 (by omega)
                obtain ⟨b, off, spot⟩ := a
                have hspot : spot = none := by
                  simp only [CellsOk] at h0'
                  obtain ⟨⟨v, hv, _⟩, _⟩ := h0'
                  have := h0 0 (by rw [hc]; simp)
                  rw [hv] at this
                  have h3 := World.cell?_spot this
                  simpa [Addr.add] using h3
                subst hspot
                obtain ⟨cs1, _, h1, h1'⟩ := key i hi
                have hadd : ∀ j, ((⟨b, off, none⟩ : Addr).add (i * P.cellsOf e)).add j = ⟨b, off + (i * (k1 :: k2).length + j), none⟩ := by
                  intro j
                  rw [add_of_add, ← hc]
                  unfold Addr.add
                  split <;> simp [*]
                refine ⟨b, off, rfl, ?_, ?_⟩
                · simp only [CellsOk] at h1'
                  obtain ⟨⟨v, hv, _⟩, _⟩ := h1'
                  have := h1 0 (by rw [hc]; simp)
                  rw [hv, hadd] at this
                  exact cell_lt this
                · have h2 := h1'.congr (g := fun j => w.cell? ⟨b, off + (i * (k1 :: k2).length + j), none⟩) fun j hj => by rw [← hadd, h1 j (by omega)]
                  simp only [CellsOk] at h2
                  exact h2
            · cases h
      | struct fs =>
        simp only at h
        obtain ⟨xs, n, _, rfl, _, hlen, hf⟩ := DataW.trod_struct hu hx
        have := flatFs_ok (cs := cs) ih fs.toList 0 ks h (fun g hg => by
          obtain ⟨i, hi⟩ := List.getElem?_of_mem hg
          have hi' : fs[i]? = some g := by simpa using hi
          have hil : i < fs.size := (Array.getElem?_eq_some_iff.1 hi').1
          refine ⟨n, xs[i]'(by omega), by rw [hf i g hi', List.getElem?_eq_getElem (by omega)], fun q hq => hwt q ?_⟩
          simp only [DataW.weights, hu]
          exact DataW.weights_mem_each (j := i) (by simp [hi']) (by simp [List.getElem?_eq_getElem (show i < xs.length by omega)]) q hq)
        simpa using this
      | array n e =>
        simp only at h
        cases he : flat P f e with
        | none => simp [he] at h
        | some l =>
          simp only [he] at h
          split at h
          · rename_i hc
            simp only [Option.some.injEq] at h
            subst h
            obtain ⟨xs, m, _, rfl, _, hlen, hf⟩ := DataW.trod_array hu hx
            have gen : ∀ k s, s + k = n → CellsOk w (List.replicate k l).flatten (fun j => cs[s * l.length + j]?) := by
              intro k
              induction k with
              | zero => intro s _; simp [CellsOk]
              | succ k ihk =>
                intro s hs
                rw [List.replicate_succ, List.flatten_cons]
                have h1 := hf s (by omega)
                rw [List.getElem?_eq_getElem (by omega)] at h1
                refine CellsOk.append ((ih _ _ he _ _ _ h1 (fun q hq => hwt q (by simp only [DataW.weights, hu]; exact weightsAll_mem (List.mem_map.2 ⟨_, List.getElem_mem (by omega), rfl⟩) q hq))).congr fun j hj => ?_) ((ihk (s + 1) (by omega)).congr fun j _ => ?_)
                · rw [List.getElem?_take, if_pos (by omega), List.getElem?_drop, hc]
                · congr 1; rw [Nat.add_mul]; omega
            have := gen n 0 (by omega)
            simpa using this
          · cases h
      | _ => simp at h

/-- A slice that came in. -/
theorem open_sl {r : Reach} {b0 eb : Nat} {t e : TypeId} {v : Value} {d : DataW H} {p : List MemPlace} {ks : List CK} (ht : P.underlying t = some (.slice e)) (hfl : flat P 8 t = some [.sl eb ks])
    (hv : Value.okWide P w r b0 t v) (h : DataW.Trod enc P w base spare held t v d p) (hwt : ∀ n ∈ d.weights P t, n ≤ reachBytes) :
    ∃ A n c, v = .slice A n c ∧ n ≤ c ∧ c ≤ maxLen ∧ n * eb ≤ 140737488351232 ∧ ∀ i, i < n → ∃ b o, A = some ⟨b, o, none⟩ ∧ b < w.heap.size ∧ CellsOk w ks (fun j => w.cell? ⟨b, o + (i * ks.length + j), none⟩) := by
  obtain ⟨A, n, c, rfl⟩ := okWide_slice ht hv
  obtain ⟨fuel, hf⟩ := h
  have := flat_ok 8 t _ hfl _ _ _ hf hwt
  simp only [CellsOk, CellOk, and_true] at this
  obtain ⟨v, h1, A', n', c', rfl, h2⟩ := this
  simp [Value.cells] at h1
  obtain ⟨rfl, rfl, rfl⟩ := h1
  exact ⟨_, _, _, rfl, h2⟩
/-- A struct that came in by value. -/
theorem open_st {r : Reach} {b0 : Nat} {t : TypeId} {fs : Array Field} {v : Value} {d : DataW H} {p : List MemPlace} {ks : List CK} (ht : P.underlying t = some (.struct fs)) (hfl : flat P 8 t = some ks) (hc : P.cellsOf t = ks.length)
    (hv : Value.okWide P w r b0 t v) (h : DataW.Trod enc P w base spare held t v d p) (hwt : ∀ n ∈ d.weights P t, n ≤ reachBytes) :
    ∃ cs : List Value, v = .agg cs.toArray ∧ cs.length = ks.length ∧ CellsOk w ks (fun j => cs[j]?) := by
  obtain ⟨cs, rfl, hsz⟩ := okWide_struct ht hv
  obtain ⟨fuel, hf⟩ := h
  have := flat_ok 8 t _ hfl _ _ _ hf hwt
  exact ⟨cs.toList, by simp, by simpa using hsz.trans hc, by simpa [Value.cells] using this⟩
end

theorem reach_all {H : Type} {P : Program} {ts ts' : List TypeId} {ds gs : List (DataW H)} (hts : ts' = ts) (h : (DataW.weightsEach P ts' (ds ++ gs)).all (· ≤ reachBytes) = true) {j : Nat} {t : TypeId} {d : DataW H} (ht : ts[j]? = some t) (hd : ds[j]? = some d) :
    ∀ n ∈ d.weights P t, n ≤ reachBytes := by
  intro n hn
  subst hts
  have hd' : (ds ++ gs)[j]? = some d := by rw [List.getElem?_append_left (List.getElem?_eq_some_iff.1 hd).1]; exact hd
  simpa using List.all_eq_true.1 h n (DataW.weights_mem_each ht hd' n hn)

/-- One thing for each number: a list of them. -/
theorem list_of {α : Type} {p : Nat → α → Prop} : ∀ (n : Nat), (∀ i, i < n → ∃ x, p i x) → ∃ l : List α, l.length = n ∧ ∀ i x, l[i]? = some x → p i x
  | 0, _ => ⟨[], rfl, fun i x h => by simp at h⟩
  | n + 1, h => by
    obtain ⟨l, hl, hp⟩ := list_of n (fun i hi => h i (by omega))
    obtain ⟨x, hx⟩ := h n (by omega)
    refine ⟨l ++ [x], by simp [hl], fun i y hy => ?_⟩
    rcases Nat.lt_or_ge i l.length with h1 | h1
    · rw [List.getElem?_append_left h1] at hy; exact hp i y hy
    · rw [List.getElem?_append_right h1] at hy
      have h2 : i - l.length = 0 := by
        rcases Nat.eq_zero_or_pos (i - l.length) with h3 | h3
        · exact h3
        · rw [List.getElem?_eq_none (by simp; omega)] at hy; cases hy
      rw [h2] at hy
      simp at hy
      subst hy
      rwa [show i = n by omega]

end Go.Proofs.Ytbflncfhbmlibaa
