/-
  Layer 15: an operator's number.
-/
import Derived.Test.YtoofjkhigonppaaDcP
namespace Go.Proofs.Ytoofjkhigonppaa
open Go.RowKit

/-- An operator's number, and what went wrong. -/
def numE (g : Option (List Int)) (other : Int) : Int × Int := match g with
  | none => (other, 0)
  | some [x] => if x % 65536 = 0 then (x / 65536, 0) else (0, 150)
  | some _ => (0, 150)
def getL (es : List En) (op : Int) : Option (List Int) := (getV es op).map (·.xs)
def NumR (r : Int × Int) (w : World) (e : Ending) (w' : World) : Prop := e = .returned (.tuple #[.int .i64 r.1, .int .i64 r.2]) ∧ Below w.heap.size w w'
theorem num_is {r : Int × Int} {w w' : World} {a b : Int} (h : r = (a, b)) (hb : Below w.heap.size w w') : NumR r w (.returned (.tuple #[.int .i64 a, .int .i64 b])) w' := by
  subst h; exact ⟨rfl, hb⟩
set_option maxRecDepth 20000 in
set_option maxHeartbeats 4000000 in
theorem numberE_any {w : World} {A : Option Addr} {n c : Nat} {es : List En} (op other : Int) (h : EnL w A n es) (hn : n ≤ 4398046511104) (hi : EnIn es) :
    Calls Try.prog 20 #[.slice A n c, .int .i64 op, .int .i64 other] w (NumR (numE (getL es op) other) w) := by
  have HG := get_any (c := c) op h hn
  cases hg : getV es op with
  | none =>
    have hv : numE (getL es op) other = (other, 0) := by unfold getL; rw [hg]; rfl
    have HP := Lib.hid (HG.mono fun e w' h => (show e = .returned (.tuple #[.slice none 0 0, .bool false]) ∧ Below w.heap.size w w' by unfold GetR at h; rw [hg] at h; exact h))
    have HV := Lib.hid hv
    clear HG hg hv h hi
    go_enter Try.func20, Try.ntmps20
    go_wp2_with (first | (go_at_call 19; (with_reducible refine HP.out.mono ?_); rintro e w1 ⟨rfl, hb1⟩) | fail)
    go_ret2
    exact num_is HV.out hb1
  | some v =>
    have hmem : v ∈ es := by
      have := List.mem_of_find?_eq_some hg
      simpa using this
    have hin := (hi v hmem).2
    have HP := Lib.hid (HG.mono fun e w' h => (show ∃ A c, e = .returned (.tuple #[.slice A v.xs.length c, .bool true]) ∧ SlAt w' A v.xs.length (v.xs.map (Value.int .i64)) ∧ Below w.heap.size w w' by
      unfold GetR at h
      rw [hg] at h
      obtain ⟨⟨A, c, rfl, hs⟩, hb⟩ := h
      exact ⟨A, c, rfl, hs, hb⟩))
    have hgl : getL es op = some v.xs := by unfold getL; rw [hg]; rfl
    rw [hgl]
    obtain ⟨xs, hxs⟩ : ∃ xs, v.xs = xs := ⟨_, rfl⟩
    rw [hxs] at HP hin ⊢
    clear HG hg hgl h hi hmem hxs
    by_cases h1 : xs.length = 1
    · obtain ⟨x, rfl⟩ := List.length_eq_one_iff.1 h1
      obtain ⟨x0, x1⟩ := hin x (by simp)
      have htd := tdm x
      obtain ⟨q, hq⟩ : ∃ q, x.tdiv 65536 = q := ⟨_, rfl⟩
      obtain ⟨m, hm⟩ : ∃ m, x.tmod 65536 = m := ⟨_, rfl⟩
      have hqb : -140737488355328 ≤ q ∧ q ≤ 140737488355328 := by omega
      have key : (m = 0 ∧ x % 65536 = 0 ∧ x / 65536 = q) ∨ ((m != 0) = true ∧ x % 65536 ≠ 0) := by
        rw [bne_iff_ne]
        omega
      have hw : wrap64 q = q := IntWalk.wrap64_in _ ⟨by omega, by omega⟩
      have hne : numE (some [x]) other = if x % 65536 = 0 then (x / 65536, 0) else (0, 150) := rfl
      have HNE := Lib.hid hne
      clear htd hne h1
      have arm : ∀ (w1 : World) (A1 : Option Addr), SlAt w1 A1 1 [Value.int .i64 x] → ∃ b o, A1 = some ⟨b, o, none⟩ ∧ b < w1.heap.size ∧ w1.cell? ⟨b, o, none⟩ = some (.int .i64 x) := fun _ _ h => by
        obtain ⟨b, o, hA, hb, hc⟩ := h.2 0 (by omega)
        exact ⟨b, o, hA, hb, hc⟩
      have HARM := Lib.hid arm
      clear arm
      rcases key with ⟨rfl, k2, k3⟩ | ⟨k1, k2⟩
      · have HV : Hid (numE (some [x]) other = (q, 0)) := Lib.hid (by rw [HNE.out, if_pos k2, k3])
        clear k2 k3 HNE
        go_enter Try.func20, Try.ntmps20
        go_wp2_with (first | (go_at_call 19; (with_reducible refine HP.out.mono ?_); rintro e w1 ⟨A1, c1, rfl, hs1, hb1⟩; obtain ⟨b, o, rfl, hbl, hcl⟩ := HARM.out _ _ hs1; have HB1 := Lib.hid hb1; clear hb1 hs1) | fail)
        go_ret2
        exact num_is HV.out HB1.out
      · have HV : Hid (numE (some [x]) other = (0, 150)) := Lib.hid (by rw [HNE.out, if_neg k2])
        clear k2 HNE
        go_enter Try.func20, Try.ntmps20
        go_wp2_with (first | (go_at_call 19; (with_reducible refine HP.out.mono ?_); rintro e w1 ⟨A1, c1, rfl, hs1, hb1⟩; obtain ⟨b, o, rfl, hbl, hcl⟩ := HARM.out _ _ hs1; have HB1 := Lib.hid hb1; clear hb1 hs1) | fail)
        go_ret2
        exact num_is HV.out HB1.out
    · have hv : numE (some xs) other = (0, 150) := by
        unfold numE
        split
        · rename_i hh; cases hh
        · rename_i hh; injection hh with hh; subst hh; simp at h1
        · rfl
      have HV := Lib.hid hv
      have h1' : ((xs.length : Int) != 1) = true := by rw [bne_iff_ne]; omega
      clear hv
      go_enter Try.func20, Try.ntmps20
      go_wp2_with (first | (go_at_call 19; (with_reducible refine HP.out.mono ?_); rintro e w1 ⟨A1, c1, rfl, hs1, hb1⟩; have HB1 := Lib.hid hb1; clear hb1 hs1) | fail)
      go_ret2
      exact num_is HV.out HB1.out
end Go.Proofs.Ytoofjkhigonppaa
