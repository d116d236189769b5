/-
  An Index in memory: Len, Size, list, At, All.
-/
import Derived.Test.YtbmflgcahbkdeaaBs
import Derived.Test.YtbmflgcahbkdeaaWireD
import Derived.Test.YtbmflgcahbkdeaaTail
import Derived.Test.YtbmflgcahbkdeaaRead
namespace Go.Proofs.Ytbmflgcahbkdeaa
open Go.RowKit

def intV (x : Nat) : Value := .int .i64 x
/-- Block g is an Index of lists. -/
structure Ix (w : World) (g : Nat) (ls : List (List UInt8)) (size : Nat) (Ab : Option Addr) (cb : Nat) (ds : List UInt8) (Ao : Option Addr) (co : Nat) (os : List Nat) : Prop where
  blk : Blk w g 83 [.slice Ab ds.length cb, .slice Ao os.length co, .int .i64 size]
  bs : Bs w Ab ds cb
  so : SlAt w Ao os.length (os.map intV)
  len : os.length = ls.length + 1
  small : os.length ≤ 70000
  size_le : size ≤ 140737488355328
  lo : ∀ i, i < os.length → 1 ≤ os[i]?.getD 0
  step : ∀ i, i < ls.length → os[i]?.getD 0 ≤ os[i + 1]?.getD 0
  hi : ∀ i, i < os.length → os[i]?.getD 0 ≤ ds.length + 1
  at_ : ∀ i, i < ls.length → ls[i]? = some ((ds.drop (os[i]?.getD 0 - 1)).take (os[i + 1]?.getD 0 - os[i]?.getD 0))
section
variable {w w' : World} {g : Nat} {ls : List (List UInt8)} {size : Nat} {Ab : Option Addr} {cb : Nat} {ds : List UInt8} {Ao : Option Addr} {co : Nat} {os : List Nat}
theorem Ix.keep (h : Ix w g ls size Ab cb ds Ao co os) (hb : Below w.heap.size w w') : Ix w' g ls size Ab cb ds Ao co os :=
  ⟨h.blk.keepB hb, h.bs.keep hb, h.so.keep hb, h.len, h.small, h.size_le, h.lo, h.step, h.hi, h.at_⟩

set_option maxHeartbeats 1000000 in
theorem ixLen (h : Ix w g ls size Ab cb ds Ao co os) : Calls Try.prog 21 #[.pointer (some ⟨g, 0, none⟩)] w fun e w' => e = .returned (.int .i64 ls.length) ∧ w = w' := by
  have k1 : w.cell? ⟨g, 1, none⟩ = some (.slice Ao os.length co) := by rw [h.blk.cell 1]; rfl
  have hl := h.len
  have hs := h.small
  have HL := Lib.hid hl
  clear h hl
  go_enter Try.func21, Try.ntmps21
  go_wp2
  go_ret
  exact ⟨ret_int (by have := HL.out; omega), rfl⟩
set_option maxHeartbeats 1000000 in
theorem ixSize (h : Ix w g ls size Ab cb ds Ao co os) : Calls Try.prog 22 #[.pointer (some ⟨g, 0, none⟩)] w fun e w' => e = .returned (.int .i64 size) ∧ w = w' := by
  have k1 : w.cell? ⟨g, 2, none⟩ = some (.int .i64 size) := by rw [h.blk.cell 2]; rfl
  clear h
  go_enter Try.func22, Try.ntmps22
  go_wp2
  go_ret
  exact ⟨rfl, rfl⟩
set_option maxHeartbeats 1000000 in
theorem ixList (h : Ix w g ls size Ab cb ds Ao co os) (i : Nat) (l : List UInt8) (hi : ls[i]? = some l) :
    Calls Try.prog 58 #[.pointer (some ⟨g, 0, none⟩), .int .i64 i] w fun e w' => ∃ A' c', e = .returned (.slice A' l.length c') ∧ SlAt w' A' l.length (l.map byteV) ∧ Below w.heap.size w w' := by
  have hlt : i < ls.length := (List.getElem?_eq_some_iff.1 hi).1
  have h0 : i < os.length := by have := h.len; omega
  have h1 : i + 1 < os.length := by have := h.len; omega
  have k0 : w.cell? ⟨g, 0, none⟩ = some (.slice Ab ds.length cb) := by rw [h.blk.cell 0]; rfl
  have k1 : w.cell? ⟨g, 1, none⟩ = some (.slice Ao os.length co) := by rw [h.blk.cell 1]; rfl
  obtain ⟨b, o, hA, hb, e0⟩ := h.so.2 i h0
  obtain ⟨b', o', hA', _, e1⟩ := h.so.2 (i + 1) h1
  rw [hA] at hA'
  injection hA' with hA'
  injection hA' with hb' ho'
  subst hb' ho' hA
  have l0 := h.lo i h0
  have l1 := h.lo (i + 1) h1
  have s0 := h.step i hlt
  have t1 := h.hi (i + 1) h1
  have hat := h.at_ i hlt
  rw [hi] at hat
  injection hat with hat
  obtain ⟨x, hx⟩ : ∃ x, os[i]?.getD 0 = x := ⟨_, rfl⟩
  obtain ⟨y, hy⟩ : ∃ y, os[i + 1]?.getD 0 = y := ⟨_, rfl⟩
  have e0' : w.cell? ⟨b, o + i, none⟩ = some (.int .i64 x) := by
    rw [e0, List.getElem?_map, List.getElem?_eq_getElem h0, ← hx, List.getElem?_eq_getElem h0]; rfl
  have e1' : w.cell? ⟨b, o + (i + 1), none⟩ = some (.int .i64 y) := by
    rw [e1, List.getElem?_map, List.getElem?_eq_getElem h1, ← hy, List.getElem?_eq_getElem h1]; rfl
  rw [hx] at l0 s0 hat
  rw [hy] at l1 s0 t1 hat
  have hds := h.bs.small
  have hcap := h.bs.cap
  have hsm := h.small
  have hll : l.length = y - x := by rw [hat]; simp; omega
  have HLL := Lib.hid hll
  have HAT := Lib.hid hat
  have HB := Lib.hid h.bs
  clear hi hat hll e0 e1 hx hy h
  have w0 : IntKind.i64.wrap ((x : Int) - 1) = (x : Int) - 1 := IntWalk.i64_in _ (by omega)
  have w1 : IntKind.i64.wrap ((y : Int) - 1) = (y : Int) - 1 := IntWalk.i64_in _ (by omega)
  have w2 : IntKind.i64.wrap ((i : Int) + 1) = (i : Int) + 1 := IntWalk.i64_in _ (by omega)
  have n0 : ((x : Int) - 1).toNat = x - 1 := by omega
  have n1 : ((y : Int) - 1).toNat = y - 1 := by omega
  have n2 : ((i : Int) + 1).toNat = i + 1 := by omega
  go_enter Try.func58, Try.ntmps58
  go_wp2_with fail
  go_quiet (fail)
  go_wp2
  · go_ret
    have e : y - 1 - (x - 1) = 0 := by omega
    have e' : l.length = 0 := by have := HLL.out; omega
    have e2 := List.eq_nil_of_length_eq_zero e'
    subst e2
    rw [e]
    exact ⟨_, ⟨_, rfl⟩, SlAt.nil _ _, (bel_drewN bel_refl).below⟩
  · go_ret
    have e : y - 1 - (x - 1) = l.length := by have := HLL.out; omega
    rw [e]
    refine ⟨_, ⟨_, rfl⟩, ?_, (bel_drewN bel_refl).below⟩
    have hs := (HB.out.sl.keep (bel_drewN (n := nq) bel_refl).below).sub (x - 1) l.length (by have := HLL.out; omega)
    rw [← List.map_drop, ← List.map_take] at hs
    rw [HLL.out, ← HAT.out] at hs
    rw [HLL.out]
    exact hs

theorem ixAt_no (h : Ix w g ls size Ab cb ds Ao co os) (i : Int) (hi : i < 0 ∨ (ls.length : Int) ≤ i) :
    Calls Try.prog 20 #[.pointer (some ⟨g, 0, none⟩), .int .i64 i] w fun e w' => e = .returned (.tuple #[.slice none 0 0, .int .i64 4]) ∧ Below w.heap.size w w' := by
  have HL := ixLen h
  clear h
  rcases hi with hi | hi
  · go_enter Try.func20, Try.ntmps20
    go_wp2_with (first | (go_at_call 21; (with_reducible refine HL.mono ?_); rintro e w1 ⟨rfl, rfl⟩))
    go_ret2
    exact ⟨rfl, bel_refl.below⟩
  · have h0 : ¬ i < 0 := by omega
    go_enter Try.func20, Try.ntmps20
    go_wp2_with (first | (go_at_call 21; (with_reducible refine HL.mono ?_); rintro e w1 ⟨rfl, rfl⟩))
    go_ret2
    exact ⟨rfl, bel_refl.below⟩

theorem ixAt_ok (h : Ix w g ls size Ab cb ds Ao co os) (i : Nat) (l : List UInt8) (hi : ls[i]? = some l) :
    Calls Try.prog 20 #[.pointer (some ⟨g, 0, none⟩), .int .i64 i] w fun e w' => ∃ A' c', e = .returned (.tuple #[.slice A' l.length c', .int .i64 0]) ∧ SlAt w' A' l.length (l.map byteV) ∧ Below w.heap.size w w' := by
  have HL := ixLen h
  have hlt : i < ls.length := (List.getElem?_eq_some_iff.1 hi).1
  have HI := ixList h i l hi
  have hll : l.length ≤ 140737488355328 := by
    have := h.at_ i hlt
    rw [hi] at this
    injection this with this
    rw [this]
    have := h.bs.small
    simp
    omega
  clear h hi
  go_enter Try.func20, Try.ntmps20
  go_wp2_with (first
    | (go_at_call 21; (with_reducible refine HL.mono ?_); rintro e w1 ⟨rfl, rfl⟩)
    | (go_at_call 58; (with_reducible refine HI.mono ?_); rintro e w2 ⟨A2, c2, rfl, hs2, hb2⟩; have HS2 := Lib.hid hs2; have HB2 := Lib.hid hb2; clear hs2 hb2)
    | (go_at_call 57; (with_reducible refine (clone_any _ _ _ _ _ HS2.out hll).mono ?_); rintro e w3 ⟨A3, c3, rfl, hs3, hb3, _⟩; have HS3 := Lib.hid hs3; have HB3 := Lib.hid (HB2.out.trans (hb3.mono HB2.out.size)); clear hs3 hb3))
  go_ret2
  exact ⟨A3, c3, rfl, HS3.out, HB3.out⟩

theorem ixAll (w : World) (p : Option Addr) : Calls Try.prog 19 #[.pointer p] w fun e w' => e = .returned (.func (.func 56) #[] #[.pointer (some ⟨w.heap.size, 0, none⟩)]) ∧ w.alloc (.cells #[.pointer p] 24) = w' := by
  go_enter Try.func19, Try.ntmps19
  go_wp2
  go_ret
  exact ⟨rfl, rfl⟩

end
end Go.Proofs.Ytbmflgcahbkdeaa
