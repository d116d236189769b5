/-
  Layer 22, plain: the pieces of a line, the bits of a piece; where they lie; how far down they go. No program in sight.
-/
import Derived.Test.YtbflncfhbmlibaaBase
namespace Go.Proofs.Ytbflncfhbmlibaa

abbrev Dt := Int × Int
def near (a b : Int) : Int := (2 * a + b) / (2 * b)
/-- The end of the piece that begins at 'last', of the line from a down to d. -/
def nextD (a d last : Dt) : Dt :=
  if 64 * (last.2 / 64 + 1) < d.2 then (a.1 + near ((d.1 - a.1) * (64 * (last.2 / 64 + 1) - a.2)) (d.2 - a.2), 64 * (last.2 / 64 + 1)) else d
structure Pc where
  row : Int
  A : Dt
  B : Dt
def rowsN (a d : Dt) : Nat → Dt → List Pc
  | 0, _ => []
  | n + 1, last => if last.2 < d.2 then ⟨last.2 / 64, last, nextD a d last⟩ :: rowsN a d n (nextD a d last) else []
def rowsL (a d : Dt) : List Pc := rowsN a d (d.2 - a.2).toNat a
theorem nextD_up {a d last : Dt} (h : last.2 < d.2) : last.2 < (nextD a d last).2 ∧ (nextD a d last).2 ≤ d.2 := by
  unfold nextD
  split <;> simp <;> omega
theorem rowsN_more {a d : Dt} : ∀ (n : Nat) (last : Dt), (d.2 - last.2).toNat ≤ n → rowsN a d n last = rowsN a d (n + 1) last
  | 0, last, h => by
    unfold rowsN
    rw [if_neg (by omega)]
  | n + 1, last, h => by
    rw [rowsN]
    conv => rhs; rw [rowsN]
    by_cases h1 : last.2 < d.2
    · rw [if_pos h1, if_pos h1, rowsN_more n _ (by have := nextD_up (a := a) h1; omega)]
    · rw [if_neg h1, if_neg h1]
theorem rowsN_eq {a d : Dt} {last : Dt} {n : Nat} (h : (d.2 - last.2).toNat ≤ n) : rowsN a d n last = rowsN a d (d.2 - last.2).toNat last := by
  obtain ⟨k, rfl⟩ : ∃ k, n = (d.2 - last.2).toNat + k := ⟨n - (d.2 - last.2).toNat, by omega⟩
  induction k with
  | zero => rfl
  | succ k ih => rw [← Nat.add_assoc, ← rowsN_more _ _ (by omega)]; exact ih (by omega)
/-- What is left of the pieces from 'last' on. -/
def rowsR (a d last : Dt) : List Pc := rowsN a d (d.2 - last.2).toNat last
theorem rowsR_step {a d last : Dt} (h : last.2 < d.2) : rowsR a d last = ⟨last.2 / 64, last, nextD a d last⟩ :: rowsR a d (nextD a d last) := by
  have hn := nextD_up (a := a) h
  unfold rowsR
  rw [show (d.2 - last.2).toNat = ((d.2 - last.2).toNat - 1) + 1 by omega, rowsN, if_pos h]
  rw [rowsN_eq (last := nextD a d last) (by omega)]
theorem rowsR_end {a d last : Dt} (h : d.2 ≤ last.2) : rowsR a d last = [] := by
  unfold rowsR
  rw [show (d.2 - last.2).toNat = 0 by omega]
  rfl

/-! ### A piece's bits -/
structure Bt where
  u : Int
  v : Int
  w : Int
  z : Int
def Bt.col (b : Bt) : Int := min b.u b.w / 64
/-- The next multiple of 64 on the way from u to x; x, if none is ahead of it. -/
def stepX (u x : Int) : Int :=
  if u < x then (if 64 * (u / 64 + 1) < x then 64 * (u / 64 + 1) else x)
  else if x < u then (if x < -64 * (-u / 64 + 1) then -64 * (-u / 64 + 1) else x) else x
def sizeI (x : Int) : Int := if x < 0 then -x else x
def zAt (a b : Dt) (x : Int) : Int := a.2 + near ((b.2 - a.2) * sizeI (x - a.1)) (sizeI (b.1 - a.1))
def bitsN (a b : Dt) : Nat → Int → Int → List Bt
  | 0, u, v => [⟨u, v, b.1, b.2⟩]
  | n + 1, u, v => if stepX u b.1 = b.1 then [⟨u, v, b.1, b.2⟩] else ⟨u, v, stepX u b.1, zAt a b (stepX u b.1)⟩ :: bitsN a b n (stepX u b.1) (zAt a b (stepX u b.1))
theorem stepX_near {u x : Int} (h : stepX u x ≠ x) : (sizeI (x - stepX u x)).toNat < (sizeI (x - u)).toNat := by
  unfold stepX at *
  unfold sizeI
  split at h
  · split at h
    · rename_i h1 h2
      rw [if_pos h1, if_pos h2]
      split <;> split <;> omega
    · exact absurd rfl h
  · split at h
    · split at h
      · rename_i h1 h2 h3
        rw [if_neg h1, if_pos h2, if_pos h3]
        split <;> split <;> omega
      · exact absurd rfl h
    · exact absurd rfl h
theorem bitsN_more {a b : Dt} : ∀ (n : Nat) (u v : Int), (sizeI (b.1 - u)).toNat ≤ n → bitsN a b n u v = bitsN a b (n + 1) u v
  | 0, u, v, h => by
    have hu : u = b.1 := by unfold sizeI at h; split at h <;> omega
    subst hu
    unfold bitsN
    rw [if_pos (by simp [stepX])]
  | n + 1, u, v, h => by
    rw [bitsN]
    conv => rhs; rw [bitsN]
    by_cases h1 : stepX u b.1 = b.1
    · rw [if_pos h1, if_pos h1]
    · rw [if_neg h1, if_neg h1, bitsN_more n _ _ (by have := stepX_near h1; omega)]
def bitsR (a b : Dt) (u v : Int) : List Bt := bitsN a b (sizeI (b.1 - u)).toNat u v
theorem bitsN_eq {a b : Dt} {u v : Int} {n : Nat} (h : (sizeI (b.1 - u)).toNat ≤ n) : bitsN a b n u v = bitsR a b u v := by
  obtain ⟨k, rfl⟩ : ∃ k, n = (sizeI (b.1 - u)).toNat + k := ⟨n - (sizeI (b.1 - u)).toNat, by omega⟩
  induction k with
  | zero => rfl
  | succ k ih => rw [← Nat.add_assoc, ← bitsN_more _ _ _ (by omega)]; exact ih (by omega)
theorem bitsR_step {a b : Dt} {u v : Int} (h : stepX u b.1 ≠ b.1) : bitsR a b u v = ⟨u, v, stepX u b.1, zAt a b (stepX u b.1)⟩ :: bitsR a b (stepX u b.1) (zAt a b (stepX u b.1)) := by
  have hn := stepX_near h
  unfold bitsR
  rw [show (sizeI (b.1 - u)).toNat = ((sizeI (b.1 - u)).toNat - 1) + 1 by omega, bitsN, if_neg h, bitsN_eq (by omega)]
  rfl
theorem bitsR_end {a b : Dt} {u v : Int} (h : stepX u b.1 = b.1) : bitsR a b u v = [⟨u, v, b.1, b.2⟩] := by
  unfold bitsR
  cases (sizeI (b.1 - u)).toNat with
  | zero => rfl
  | succ n => rw [bitsN, if_pos h]

/-! ### Where pieces and bits lie -/
def btw (a b x : Int) : Prop := (a ≤ x ∧ x ≤ b) ∨ (b ≤ x ∧ x ≤ a)
theorem near_btw {w p q : Int} (hp : 0 ≤ p) (hq : p ≤ q) (h0 : 0 < q) : btw 0 w (near (w * p) q) := by
  unfold near btw
  have hq2 : 0 < 2 * q := by omega
  rcases Int.le_total 0 w with hw | hw
  · left
    have h1 : 0 ≤ w * p := Int.mul_nonneg hw hp
    have h2 : w * p ≤ w * q := Int.mul_le_mul_of_nonneg_left hq hw
    constructor
    · exact Int.ediv_nonneg (by omega) (by omega)
    · rw [← Int.lt_add_one_iff, Int.ediv_lt_iff_lt_mul hq2, Int.add_mul]
      have : w * (2 * q) = 2 * (w * q) := by rw [Int.mul_left_comm]
      omega
  · right
    have h1 : w * p ≤ 0 := Int.mul_nonpos_of_nonpos_of_nonneg hw hp
    have h2 : w * q ≤ w * p := Int.mul_le_mul_of_nonpos_left hw hq
    constructor
    · rw [Int.le_ediv_iff_mul_le hq2]
      have : w * (2 * q) = 2 * (w * q) := by rw [Int.mul_left_comm]
      omega
    · rw [← Int.lt_add_one_iff, Int.ediv_lt_iff_lt_mul hq2]
      omega
/-- A place on the way of a line that goes down from a to d. -/
def onWay (a d p : Dt) : Prop := a.2 ≤ p.2 ∧ p.2 ≤ d.2 ∧ btw a.1 d.1 p.1
theorem btw_l (a b : Int) : btw a b a := by unfold btw; omega
theorem btw_r (a b : Int) : btw a b b := by unfold btw; omega
theorem btw_add {a b x : Int} (h : btw 0 (b - a) x) : btw a b (a + x) := by unfold btw at *; omega
theorem btw_tr {a b u v x : Int} (hu : btw a b u) (hv : btw a b v) (h : btw u v x) : btw a b x := by unfold btw at *; omega
theorem nextD_way {a d last : Dt} (h : onWay a d last) (hl : last.2 < d.2) : onWay a d (nextD a d last) := by
  obtain ⟨h1, h2, h3⟩ := h
  unfold nextD
  split
  · rename_i h4
    refine ⟨by simp only; omega, by simp only; omega, ?_⟩
    exact btw_add (near_btw (by omega) (by omega) (by omega))
  · exact ⟨by omega, Int.le_refl _, btw_r _ _⟩
/-- A piece that lies within a row, on the way from a to d. -/
structure PcOk (a d : Dt) (p : Pc) : Prop where
  A : onWay a d p.A
  B : onWay a d p.B
  row : p.row = p.A.2 / 64
  lt : p.A.2 < d.2
  up : p.A.2 ≤ p.B.2
  top : p.B.2 ≤ 64 * p.row + 64
theorem nextD_top {a d last : Dt} : (nextD a d last).2 ≤ 64 * (last.2 / 64) + 64 := by
  unfold nextD
  split
  · simp only; omega
  · omega
theorem rowsN_ok {a d : Dt} : ∀ (n : Nat) (last : Dt), onWay a d last → ∀ p ∈ rowsN a d n last, PcOk a d p
  | 0, _, _, p, hp => by simp [rowsN] at hp
  | n + 1, last, h, p, hp => by
    rw [rowsN] at hp
    split at hp
    · rename_i hl
      rcases List.mem_cons.1 hp with rfl | hp
      · exact ⟨h, nextD_way h hl, rfl, hl, Int.le_of_lt (nextD_up hl).1, nextD_top⟩
      · exact rowsN_ok n _ (nextD_way h hl) p hp
    · simp at hp
theorem rowsR_ok {a d last : Dt} (h : onWay a d last) : ∀ p ∈ rowsR a d last, PcOk a d p := rowsN_ok _ _ h
theorem onWay_start {a d : Dt} (h : a.2 ≤ d.2) : onWay a d a := ⟨Int.le_refl _, h, btw_l _ _⟩

theorem stepX_btw (u x : Int) : btw u x (stepX u x) := by
  unfold stepX btw
  split
  · split <;> omega
  · split
    · split <;> omega
    · omega
theorem stepX_btw' {a x u : Int} (h : btw a x u) : btw a x (stepX u x) := btw_tr h (btw_r _ _) (stepX_btw u x)
theorem zAt_btw {a b : Dt} {x : Int} (h : btw a.1 b.1 x) (hne : a.1 ≠ b.1) : btw a.2 b.2 (zAt a b x) := by
  unfold zAt
  refine btw_add (near_btw ?_ ?_ ?_) <;> unfold sizeI <;> unfold btw at h <;> (repeat' split) <;> omega
structure BtOk (a b : Dt) (t : Bt) : Prop where
  u : btw a.1 b.1 t.u
  w : btw a.1 b.1 t.w
  v : btw a.2 b.2 t.v
  z : btw a.2 b.2 t.z
theorem stepX_ne {u x : Int} (h : stepX u x ≠ x) : u ≠ x := fun e => h (by subst e; simp [stepX])
theorem bitsN_ok {a b : Dt} : ∀ (n : Nat) (u v : Int), btw a.1 b.1 u → btw a.2 b.2 v → ∀ t ∈ bitsN a b n u v, BtOk a b t
  | 0, u, v, hu, hv, t, ht => by
    simp only [bitsN, List.mem_cons, List.not_mem_nil, or_false] at ht
    subst ht
    exact ⟨hu, btw_r _ _, hv, btw_r _ _⟩
  | n + 1, u, v, hu, hv, t, ht => by
    rw [bitsN] at ht
    split at ht
    · simp only [List.mem_cons, List.not_mem_nil, or_false] at ht
      subst ht
      exact ⟨hu, btw_r _ _, hv, btw_r _ _⟩
    · rename_i hs
      have hx := stepX_btw' hu
      have hne : a.1 ≠ b.1 := fun e => stepX_ne hs (by unfold btw at hu; omega)
      have hz := zAt_btw hx hne
      rcases List.mem_cons.1 ht with rfl | ht
      · exact ⟨hu, hx, hv, hz⟩
      · exact bitsN_ok n _ _ hx hz t ht
theorem bitsR_ok {a b : Dt} : ∀ t ∈ bitsR a b a.1 a.2, BtOk a b t := bitsN_ok _ _ _ (btw_l _ _) (btw_l _ _)

/-! ### How far down -/
theorem bitsN_sum {a b : Dt} : ∀ (n : Nat) (u v : Int), ((bitsN a b n u v).map fun t => t.z - t.v).sum = b.2 - v
  | 0, u, v => by simp [bitsN]
  | n + 1, u, v => by
    rw [bitsN]
    split
    · simp
    · rw [List.map_cons, List.sum_cons, bitsN_sum n]
      simp only
      omega
theorem bitsR_sum (a b : Dt) (u v : Int) : ((bitsR a b u v).map fun t => t.z - t.v).sum = b.2 - v := bitsN_sum _ _ _
def clampY (y t : Int) : Int := if t < 64 * y then 64 * y else if 64 * y + 64 < t then 64 * y + 64 else t
theorem rowsN_sum {a d : Dt} (y : Int) : ∀ (n : Nat) (last : Dt), onWay a d last → (d.2 - last.2).toNat ≤ n →
    ((rowsN a d n last).map fun p => if p.row = y then p.B.2 - p.A.2 else 0).sum = clampY y d.2 - clampY y last.2
  | 0, last, h, hn => by
    have : d.2 = last.2 := by have := h.2.1; omega
    simp [rowsN, this]
  | n + 1, last, h, hn => by
    rw [rowsN]
    split
    · rename_i hl
      have h1 := nextD_up (a := a) hl
      have h2 := nextD_top (a := a) (d := d) (last := last)
      rw [List.map_cons, List.sum_cons, rowsN_sum y n _ (nextD_way h hl) (by omega)]
      simp only
      unfold clampY
      (repeat' split) <;> omega
    · rename_i hl
      have : d.2 = last.2 := by have := h.2.1; omega
      simp [this]
theorem rowsR_sum {a d : Dt} (y : Int) (h : a.2 ≤ d.2) : ((rowsR a d a).map fun p => if p.row = y then p.B.2 - p.A.2 else 0).sum = clampY y d.2 - clampY y a.2 :=
  rowsN_sum y _ _ (onWay_start h) (Nat.le_refl _)

end Go.Proofs.Ytbflncfhbmlibaa
