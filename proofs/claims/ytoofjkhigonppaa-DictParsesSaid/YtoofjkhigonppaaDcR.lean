/-
  Layer 15: what must come of every program.
-/
import Derived.Test.YtoofjkhigonppaaDcQ
namespace Go.Proofs.Ytoofjkhigonppaa
open Go.RowKit

/-- No number of two words is asked for. -/
theorem divL_small {f : Fl} (h : f.m.toNat < 281474976710656) : DivL f := fun _ k hk _ => by
  have hle : cutM f.m.toNat (expF f) ≤ f.m.toNat := by
    unfold cutM
    split
    · exact Nat.div_le_self _ _
    · exact Nat.le_refl _
  have hp := pow17 hk
  exact div_small (by omega) (by omega) (Nat.pow_pos (by omega))
theorem takeF_dig (f : Fl) (d : Int) : (takeF f d).digits ≤ f.digits + 1 := by
  unfold takeF
  split
  · simp only; omega
  split
  · unfold digitF
    split <;> simp only <;> omega
  split
  · simp only; omega
  split
  · simp only; omega
  split
  · simp only; omega
  · simp only; omega
theorem fl_dig : ∀ (l : List Int) (f : Fl), (l.foldl takeF f).digits ≤ f.digits + l.length
  | [], f => by simp
  | d :: l, f => by
    have h1 := takeF_dig f d
    have h2 := fl_dig l (takeF f d)
    rw [List.foldl_cons, List.length_cons]
    omega
theorem realS_half : ∀ {b : List UInt8} {l : List Int} {n : Nat}, realS b = some (l, n) → l.length + 1 ≤ 2 * n ∧ n ≤ b.length ∧ ∀ d ∈ l, 0 ≤ d
  | [], _, _, h => by cases h
  | c :: t, l, n, h => by
    have hh : 0 ≤ hi4 c := by unfold hi4; omega
    have hl : 0 ≤ lo4 c := by unfold lo4; omega
    unfold realS at h
    split at h
    · injection h with h; injection h with h1 h2; subst h1 h2; simp
    split at h
    · injection h with h; injection h with h1 h2; subst h1 h2; simp; exact hh
    · cases hr : realS t with
      | none => rw [hr] at h; cases h
      | some y =>
        obtain ⟨l', n'⟩ := y
        rw [hr] at h
        obtain ⟨i1, i2, i3⟩ := realS_half hr
        injection h with h; injection h with h1 h2
        subst h1 h2
        dsimp only
        refine ⟨by simp; omega, by simp; omega, fun d hd => ?_⟩
        rcases List.mem_cons.1 hd with rfl | hd
        · exact hh
        rcases List.mem_cons.1 hd with rfl | hd
        · exact hl
        · exact i3 d hd
theorem divP_short {bs : List UInt8} (h : bs.length ≤ 8) : DivP bs := fun p l n hp hr => by
  obtain ⟨h1, h2, h3⟩ := realS_half hr
  rw [List.length_drop] at h2
  have hok := fld_ok l fl0 fl0_ok h3
  have hd := fl_dig l fl0
  have hm := hok.m1
  have h4 := p10 (show (l.foldl takeF fl0).digits.toNat ≤ 13 by unfold fl0 at *; simp only at hd; omega)
  have h5 : (10 : Int) ^ 13 = 10000000000000 := by decide
  exact divL_small (by unfold fldF; omega)
theorem p1 : parseS [30, 226, 162, 95, 5] = some [(5, [-147456])] := by decide +kernel
theorem p2 : parseS [139] = none := by decide +kernel
theorem p3 : putS [(17, [19660800])] = [247, 192, 17] := by decide +kernel
theorem p4 : [((17 : Int), [(19660800 : Int)])].all mayB = true := by decide +kernel
/-- What Parse gives of bytes that are one entry. -/
theorem parse_lit {w : World} {bs : List UInt8} {A : Option Addr} {c n : Nat} {op : Int} {xs : List Int} (hp : parseS bs = some [(op, xs)]) (hn : bs.length = n) (hl : n ≤ 8) (hs : SlAt w A n (bs.map byteV)) (hc : n ≤ c) (hA : ∀ k, rowOf A = some k → k < w.heap.size) :
    Calls Try.prog 9 #[.slice A n c] w fun e w' => ∃ A1 c1 A2 c2, e = .returned (.tuple #[.slice A1 1 c1, .int .i64 0]) ∧ EnL w' A1 1 [⟨op, A2, c2, xs⟩] ∧ Below w.heap.size w w' :=
  by
  subst hn
  exact (parse_any hs hc (by omega) hA (divP_short hl)).mono fun e w' h => by
      unfold ParseR at h
      rw [hp] at h
      obtain ⟨⟨A1, k, c1, es, rfl, he, hL⟩, hb⟩ := h
      have hk : es.length = k := by have := hL.rows.len; simpa using this
      match es, he, hk, hL with
      | [v], he, hk, hL =>
        simp only [List.map_cons, List.map_nil, List.cons.injEq, and_true] at he
        obtain ⟨vo, vA, vc, vx⟩ := v
        unfold enV at he
        injection he with h1 h2
        dsimp only at h1 h2
        subst h1 h2
        simp only [List.length_cons, List.length_nil, Nat.zero_add] at hk
        subst hk
        exact ⟨_, _, _, _, rfl, hL, hb⟩
theorem parse_none {w : World} {bs : List UInt8} {A : Option Addr} {c n : Nat} (hp : parseS bs = none) (hn : bs.length = n) (hl : n ≤ 8) (hs : SlAt w A n (bs.map byteV)) (hc : n ≤ c) (hA : ∀ k, rowOf A = some k → k < w.heap.size) :
    Calls Try.prog 9 #[.slice A n c] w fun e w' => e = .returned (.tuple #[.slice none 0 0, .int .i64 150]) ∧ Below w.heap.size w w' :=
  by
  subst hn
  exact (parse_any hs hc (by omega) hA (divP_short hl)).mono fun e w' h => by
      unfold ParseR at h
      rw [hp] at h
      exact h
/-- The entry that is written out. -/
def litE (g : Nat) : En := ⟨17, some ⟨g, 0, none⟩, 1, [19660800]⟩
theorem lit_at (W : World) : EnL ((W.alloc (.cells #[.int .i64 19660800] 3)).alloc (.cells #[.int .i64 17, .slice (some ⟨W.heap.size, 0, none⟩) 1 1] 42)) (some ⟨W.heap.size + 1, 0, none⟩) 1 [litE W.heap.size] := by
  refine ⟨?_, fun v hv => ?_, fun v hv => ?_⟩
  · exact RowsAt.of_blk (rows := [enC (litE W.heap.size)]) (Blk.newAt (n := W.heap.size + 1) _ _ (enC (litE W.heap.size)) (by simp)) (fun r hr => by rw [List.mem_singleton] at hr; subst hr; rfl)
  · rw [List.mem_singleton] at hv
    subst hv
    exact (slat_int W 19660800).keep (bel_alloc bel_refl).below
  · rw [List.mem_singleton] at hv
    subst hv
    simp [litE]
theorem lit_in (g : Nat) : EnIn [litE g] := fun v hv => by
  rw [List.mem_singleton] at hv
  subst hv
  refine ⟨by simp [litE], fun x hx => ?_⟩
  simp only [litE, List.mem_singleton] at hx
  subst hx
  omega
theorem put_lit {w : World} {A : Option Addr} {c g : Nat} (h : EnL w A 1 [litE g]) : Calls Try.prog 14 #[.slice A 1 c] w fun e w' => ∃ A1 c1, e = .returned (.tuple #[.slice A1 3 c1, .int .i64 0]) ∧ SlAt w' A1 3 (([247, 192, 17] : List UInt8).map byteV) ∧ Below w.heap.size w w' :=
  (put_any h (lit_in g) (by omega)).mono fun e w' h => by
    unfold PutR at h
    obtain ⟨h, hb⟩ := h
    have e1 : [litE g].map enV = [((17 : Int), [(19660800 : Int)])] := rfl
    rw [e1, if_pos p4, p3] at h
    obtain ⟨A1, c1, rfl, hs⟩ := h
    exact ⟨A1, c1, rfl, hs.sl, hb⟩
theorem get_lit {w : World} {A A2 : Option Addr} {c c2 : Nat} {op : Int} {xs : List Int} (h : EnL w A 1 [⟨op, A2, c2, xs⟩]) : Calls Try.prog 19 #[.slice A 1 c, .int .i64 op] w fun e w' => ∃ A1 c1, e = .returned (.tuple #[.slice A1 xs.length c1, .bool true]) ∧ Below w.heap.size w w' :=
  (get_any op h (by omega)).mono fun e w' h => by
    unfold GetR at h
    obtain ⟨h, hb⟩ := h
    have hg : getV [⟨op, A2, c2, xs⟩] op = some ⟨op, A2, c2, xs⟩ := by unfold getV; simp
    rw [hg] at h
    obtain ⟨A1, c1, rfl, _⟩ := h
    exact ⟨A1, c1, rfl, hb⟩
theorem num_lit {w : World} {A : Option Addr} {c g : Nat} (h : EnL w A 1 [litE g]) : Calls Try.prog 20 #[.slice A 1 c, .int .i64 17, .int .i64 0] w fun e w' => e = .returned (.tuple #[.int .i64 300, .int .i64 0]) ∧ Below w.heap.size w w' :=
  numberE_any 17 0 h (by omega) (lit_in g)
theorem num_nil {w : World} : Calls Try.prog 20 #[.slice none 0 0, .int .i64 17, .int .i64 9] w fun e w' => e = .returned (.tuple #[.int .i64 9, .int .i64 0]) ∧ Below w.heap.size w w' :=
  numberE_any (es := []) 17 9 ⟨RowsAt.nil _ _ _, fun _ h => (List.not_mem_nil h).elim, fun _ h => (List.not_mem_nil h).elim⟩ (by omega) (fun _ h => (List.not_mem_nil h).elim)
end Go.Proofs.Ytoofjkhigonppaa
