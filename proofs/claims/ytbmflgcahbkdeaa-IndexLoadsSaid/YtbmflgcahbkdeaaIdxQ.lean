/-
  The iterator of an Index: what it hands over.
-/
import Derived.Test.YtbmflgcahbkdeaaIdxN
import Derived.Test.YtbmflgcahbkdeaaRound
namespace Go.Proofs.Ytbmflgcahbkdeaa
open Go.RowKit Go.Shelf

theorem AbidesFrom.below {β : Type} {B : Nat} {J : β → World → Prop} (h : AbidesFrom B J) {s : β} {W W' : World} (hs : J s W) (hb : Below W.heap.size W W') : J s W' :=
  h s W W' none hs ⟨hb.os, hb.tape, hb.output, hb.size, fun k hk _ => hb.block k hk⟩ (fun r e => by cases e)

/-- What the iterator hands over: a number, a slice. -/
structure Item where
  i : Nat
  A : Option Addr
  l : List UInt8
  c : Nat
def itemV (x : Item) : Array Value := #[.int .i64 x.i, .slice x.A x.l.length x.c]
def ItemG (ls : List (List UInt8)) (pre : List Item) (x : Item) (W : World) : Prop := x.i = pre.length ∧ ls[pre.length]? = some x.l ∧ SlAt W x.A x.l.length (x.l.map byteV)

attribute [local go_sem] Oper.semAt_some
set_option maxRecDepth 20000 in
set_option maxHeartbeats 2000000 in
theorem all_gives {w : World} {g : Nat} {ls : List (List UInt8)} {size : Nat} {Ab : Option Addr} {cb : Nat} {ds : List UInt8} {Ao : Option Addr} {co : Nat} {os : List Nat} (n b : Nat)
    (hx : Ix w g ls size Ab cb ds Ao co os) (hb : b < w.heap.size) (hc : w.cell? ⟨b, 0, none⟩ = some (.pointer (some ⟨g, 0, none⟩))) :
    Gives n Try.prog 56 #[.pointer (some ⟨b, 0, none⟩)] itemV (Below w.heap.size) (ItemG ls) (fun xs => xs.length = ls.length) (fun pre => pre.length ≤ ls.length) w := by
  intro l J Jx W hW hJ hJx hY h0
  have HL := callsIn_wide (n := n - 1).2 (ixLen (hx.keep hW))
  have hc' : W.cell? ⟨b, 0, none⟩ = some (.pointer (some ⟨g, 0, none⟩)) := (hW.cell (p := ⟨b, 0, none⟩) hb).trans hc
  have hll : ls.length ≤ 70000 := by have := hx.len; have := hx.small; omega
  have HX := Lib.hid hx
  have HJ : Hid (∀ pre A B, J pre A → Below A.heap.size A B → J pre B) := Lib.hid fun pre A B h hb => (AbidesFrom.below hJ h hb)
  have HW := Lib.hid hW
  have HY := Lib.hid hY
  have H0 := Lib.hid h0
  have HC := Lib.hid hc
  clear hx hc hJ hJx hW hY h0
  refine callsIn_of_wp Try.func56 rfl trivial ?_ rfl
  simp only [Try.ntmps56, List.size_toArray, List.length_cons, List.length_nil, Nat.reduceAdd, Nat.reduceSub, Array.replicate_succ, Array.replicate_zero, List.push_toArray, List.append_toArray, List.nil_append, List.cons_append]
  gi_wp2_with (refine ⟨trivial, fun he => (by cases he), ?_⟩; (with_reducible refine HL.mono ?_); rintro e w1 ⟨rfl, rfl⟩)
  gi_loopw [6] (fun i wr => ∃ pre : List Item, pre.length ≤ ls.length ∧ i = .int .i64 (pre.length : Nat) ∧ Hid (J pre wr) ∧ Hid (Below w.heap.size w wr)) (fun i _ => ls.length - (intOf i).toNat)
  case atStart => exact ⟨[], Nat.zero_le _, rfl, H0, HW⟩
  case round =>
    obtain ⟨pre, hp, rfl, HJ1, HB⟩ := hrel
    rcases Nat.lt_or_ge pre.length ls.length with hlt | hlt
    · obtain ⟨x, hx⟩ := ls_get hlt
      obtain ⟨k, hk⟩ : ∃ k, pre.length = k := ⟨_, rfl⟩
      have HX1 := Lib.hid (HX.out.keep HB.out)
      have k0 : wr.cell? ⟨b, 0, none⟩ = some (.pointer (some ⟨g, 0, none⟩)) := (HB.out.cell (p := ⟨b, 0, none⟩) hb).trans HC.out
      rw [hk] at hx hlt ⊢
      have HI := Lib.hid (callsIn_wide (n := n - 1).2 (ixList HX1.out k x hx))
      have hxl : x.length ≤ 140737488355328 := by
        have h1 := HX1.out.at_ k hlt
        rw [hx] at h1
        injection h1 with h1
        have := HX1.out.bs.small
        rw [h1]
        simp
        omega
      have HXX := Lib.hid hx
      have HK := Lib.hid hk
      clear hx hk
      gi_wp2_with (first
        | (refine ⟨trivial, fun he => (by cases he), ?_⟩; (with_reducible refine HI.out.mono ?_); rintro e w2 ⟨A2, c2, rfl, hs2, hb2⟩; have HS2 := Lib.hid hs2; have HB2 := Lib.hid hb2; clear hs2 hb2)
        | (refine ⟨trivial, fun he => (by cases he), ?_⟩; (with_reducible refine (callsIn_wide.2 (clone_any _ _ _ _ _ HS2.out hxl)).mono ?_); rintro e w3 ⟨A3, c3, rfl, hs3, hb3, _⟩
           have HB3 := Lib.hid (HB2.out.trans (hb3.mono HB2.out.size))
           have HJ3 := HJ.out pre _ w3 HJ1.out HB3.out
           obtain ⟨fn, tmps, assign, body, hy, hR⟩ := HY.out pre ⟨k, A3, x, c3⟩ w3 HJ3 ⟨HK.out.symm, by rw [HK.out]; exact HXX.out, hs3⟩
           have HR := Lib.hid hR
           dsimp only [itemV] at hy
           clear hs3 hb3 hR HJ3))
      refine ⟨fun he => (by cases he), HR.out.mono ?_⟩
      rintro e W4 (⟨rfl, hJ4, hk4⟩ | ⟨rfl, hJx4⟩)
      · have HJ4 := Lib.hid hJ4
        have HB4 := Lib.hid ((HB.out.trans (HB3.out.mono HB.out.size)).trans hk4)
        clear hJ4 hk4
        gi_wp2
        go_roundw
        case rel => exact ⟨pre ++ [⟨k, A3, x, c3⟩], by simp; have := HK.out; omega, by rw [List.length_append, HK.out]; go_num, HJ4, HB4⟩
        case measure => simp [intOf]; omega
      · have HJ4 := Lib.hid hJx4
        clear hJx4
        gi_wp2
        refine bodyPost_ret (results_none rfl _ _ _) rfl ?_
        exact ⟨⟨_, rfl⟩, .inr ⟨pre ++ [⟨k, A3, x, c3⟩], by simp; have := HK.out; omega, HJ4.out⟩⟩
    · obtain ⟨k, hk⟩ : ∃ k, pre.length = k := ⟨_, rfl⟩
      have HK := Lib.hid hk
      rw [hk] at hlt hp ⊢
      clear hk
      gi_wp2
      with_reducible refine bodyPost_end (v := .tuple #[]) (by simp [results, Try.results56]) rfl ?_
      exact ⟨⟨_, rfl⟩, .inl ⟨pre, by have := HK.out; omega, HJ1.out⟩⟩

end Go.Proofs.Ytbmflgcahbkdeaa
