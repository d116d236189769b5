/-
  The dots of closed lines, gone over by an iterator; flatten.May.
-/
import Derived.Test.YtbflncfhbmlibaaCqA
import Derived.Test.YtbflncfhbmlibaaRound

namespace Go.Proofs.Ytbflncfhbmlibaa

open Go.RowKit Go.Shelf

theorem AbidesFrom.below {β : Type} {B : Nat} {J : β → World → Prop} (h : AbidesFrom B J) {s : β} {W W' : World} (hs : J s W) (hb : Below W.heap.size W W') : J s W' :=
  h s W W' none hs ⟨hb.os, hb.tape, hb.output, hb.size, fun k hk _ => hb.block k hk⟩ (fun r e => by cases e)

theorem keepsOthers_drewN (W : World) (m : Nat) : KeepsOthers W (W.drewN m) := ⟨Nat.le_refl _, fun _ _ h _ => h⟩

theorem flat_snoc {α : Type} {ls : List (List α)} {k : Nat} {l : List α} (h : ls[k]? = some l) : (ls.take (k + 1)).flatten = (ls.take k).flatten ++ l := by
  rw [List.take_add_one, h]
  simp

theorem take_snoc {α : Type} {l : List α} {k : Nat} {x : α} (h : l[k]? = some x) : l.take (k + 1) = l.take k ++ [x] := by
  rw [List.take_add_one, h]
  simp

theorem mem_flat {α : Type} {ls : List (List α)} {k j : Nat} {l : List α} {x : α} (h : ls[k]? = some l) (hx : l[j]? = some x) : x ∈ ls.flatten :=
  List.mem_flatten.2 ⟨l, List.mem_of_getElem? h, List.mem_of_getElem? hx⟩

def dotV (d : Dt) : Array Value := #[.agg #[.int .i64 d.1, .int .i64 d.2]]

theorem flatAll_any (w : World) (A : Option Addr) (n c : Nat) : Calls Try.prog 49 #[.slice A n c] w fun e w' => e = .returned (.func (.func 76) #[] #[.pointer (some ⟨w.heap.size, 0, none⟩)]) ∧ w.alloc (.cells #[.slice A n c] 22) = w' := by
  go_enter Try.func49, Try.ntmps49
  go_wp2
  go_ret
  exact ⟨rfl, rfl⟩

attribute [local go_sem] Oper.semAt_some

set_option maxRecDepth 20000 in
set_option maxHeartbeats 2000000 in
theorem dots_gives {w : World} {A : Option Addr} {c : Nat} {ls : List (List Dt)} (n b : Nat) (hd : Dl w A ls) (hn : ls.length ≤ 1000) (hb : b < w.heap.size) (hc : w.cell? ⟨b, 0, none⟩ = some (.slice A ls.length c)) :
    Gives n Try.prog 76 #[.pointer (some ⟨b, 0, none⟩)] dotV (Below w.heap.size) (fun _ x _ => x ∈ ls.flatten) (fun xs => xs = ls.flatten) (fun _ => True) w := by
  intro l J Jx W hW hJ hJx hY h0
  have hc' : W.cell? ⟨b, 0, none⟩ = some (.slice A ls.length c) := (hW.cell (p := ⟨b, 0, none⟩) hb).trans hc
  have HJ : Hid (∀ pre A B, J pre A → Below A.heap.size A B → J pre B) := Lib.hid fun pre A B h hb => (AbidesFrom.below hJ h hb)
  have HD := Lib.hid hd
  have HW := Lib.hid hW
  have HY := Lib.hid hY
  have H0 := Lib.hid h0
  clear hd hc hJ hJx hW hY h0
  refine callsIn_of_wp Try.func76 rfl trivial ?_ rfl
  simp only [Try.ntmps76, List.size_toArray, List.length_cons, List.length_nil, Nat.reduceAdd, Nat.reduceSub, Array.replicate_succ, Array.replicate_zero, List.push_toArray, List.append_toArray, List.nil_append, List.cons_append]
  gi_wp2
  clear hc'
  gi_loopw [9] (fun i wr => ∃ k : Nat, k ≤ ls.length ∧ i = .int .i64 k ∧ Hid (J (ls.take k).flatten wr) ∧ Hid (Below w.heap.size w wr)) (fun i _ => ls.length - (intOf i).toNat)
  case atStart => exact ⟨0, Nat.zero_le _, rfl, H0, HW⟩
  case round =>
    obtain ⟨k, hk, rfl, HJ1, HB⟩ := hrel
    rcases Nat.lt_or_ge k ls.length with hlt | hlt
    · obtain ⟨cl, hcl⟩ := get_some hlt
      obtain ⟨b1, o1, A1, c1, rfl, hb1, hc0, hd1, hs1⟩ := HD.out k cl hcl
      have hc1 : wr.cell? ⟨b1, o1 + k, none⟩ = some (.slice A1 cl.length c1) := (HB.out.cell (p := ⟨b1, _, none⟩) hb1).trans hc0
      have HC := Lib.hid hcl
      have HD1 := Lib.hid hd1
      clear hcl hd1 hc0
      gi_wp2
      gi_loopw [15] (fun i wq => ∃ j : Nat, j ≤ cl.length ∧ i = .int .i64 j ∧ Hid (J ((ls.take k).flatten ++ cl.take j) wq) ∧ Hid (Below w.heap.size w wq)) (fun i _ => cl.length - (intOf i).toNat)
      case atStart => exact ⟨0, Nat.zero_le _, rfl, by simpa using HJ1, HB⟩
      case round =>
        obtain ⟨j, hj, rfl, HJ2, HB2⟩ := hrel
        rcases Nat.lt_or_ge j cl.length with hlt2 | hlt2
        · obtain ⟨⟨x, y⟩, hx⟩ := get_some hlt2
          obtain ⟨b2, o2, rfl, hb2, hx2, hy2⟩ := (HD1.out.keep HB2.out) j _ hx
          dsimp only at hx2 hy2
          obtain ⟨fn, tmps, assign, body, hy, hR⟩ := HY.out _ (x, y) (wr.alloc (.cells #[.int .i64 x, .int .i64 y] 37)) (HJ.out _ _ _ HJ2.out (bel_alloc bel_refl).below) (mem_flat HC.out hx)
          have HR := Lib.hid hR
          have HX := Lib.hid hx
          dsimp only [dotV] at hy
          clear hx hR
          gi_wp2
          refine ⟨fun he => (by cases he), HR.out.mono ?_⟩
          rintro e W4 (⟨rfl, hJ4, hk4⟩ | ⟨rfl, hJx4⟩)
          · have HJ4 := Lib.hid hJ4
            have HB4 := Lib.hid (HB2.out.trans (((bel_alloc bel_refl).below.mono HB2.out.size).trans hk4))
            clear hJ4 hk4
            gi_wp2
            go_roundw
            case rel => exact ⟨j + 1, by omega, by go_num, by rw [take_snoc HX.out, ← List.append_assoc]; exact HJ4, HB4⟩
            case measure => simp [intOf]; omega
          · have HJ4 := Lib.hid hJx4
            clear hJx4
            gi_wp2
            refine bodyPost_ret (results_none rfl _ _ _) rfl ?_
            exact ⟨⟨_, rfl⟩, .inr ⟨_, trivial, HJ4.out⟩⟩
        · obtain rfl : j = cl.length := by omega
          have HJ3 : Hid (J (ls.take (k + 1)).flatten wr) := Lib.hid (by
            have := HJ2.out
            rw [List.take_of_length_le (Nat.le_refl _)] at this
            rw [flat_snoc HC.out]
            exact this)
          clear hj hlt2 HJ2
          gi_wp2
          go_roundw
          case rel => exact ⟨k + 1, by omega, by go_num, HJ3, HB2⟩
          case measure => simp [intOf]; omega
    · obtain rfl : k = ls.length := by omega
      have HJ3 : Hid (J ls.flatten wr) := Lib.hid (by
        have := HJ1.out
        rwa [List.take_of_length_le (Nat.le_refl _)] at this)
      clear HJ1
      gi_wp2
      with_reducible refine bodyPost_end (v := .tuple #[]) (by simp [results, Try.results76]) rfl ?_
      exact ⟨⟨_, rfl⟩, .inl ⟨_, rfl, HJ3.out⟩⟩

end Go.Proofs.Ytbflncfhbmlibaa
