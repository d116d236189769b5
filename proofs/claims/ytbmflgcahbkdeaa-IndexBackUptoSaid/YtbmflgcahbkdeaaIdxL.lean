/-
  index.Put and index.Load of anything; lives of law 14.
-/
import Derived.Test.YtbmflgcahbkdeaaIdxF
import Derived.Test.YtbmflgcahbkdeaaIdxK
import Derived.Lib.SlBytesConst
namespace Go.Proofs.Ytbmflgcahbkdeaa
open Go.RowKit

def ixFit (ls : List (List UInt8)) : Bool := decide (ls.length ≤ 65535) && (ls.isEmpty || decide ((ixB ls).length ≤ 1048576))
def ixOut (ls : List (List UInt8)) : List UInt8 := if ls.isEmpty then [0, 0] else ixB ls
def PutAll (ls : List (List UInt8)) (w : World) (e : Ending) (w' : World) : Prop :=
  Below w.heap.size w w' ∧ ((ixFit ls = true ∧ ∃ A' c', e = .returned (.tuple #[.slice A' (ixOut ls).length c', .int .i64 0]) ∧ SlAt w' A' (ixOut ls).length ((ixOut ls).map byteV) ∧ (ixOut ls).length ≤ c') ∨
    (ixFit ls = false ∧ e = .returned (.tuple #[.slice none 0 0, .int .i64 3])))
def rPutAll (ls : List (List UInt8)) (w : World) (e : Ending) (w' : World) : Prop :=
  Below w.heap.size w w' ∧ ((ixFit ls = true ∧ ∃ A' c', e = .returned (.tuple #[.slice A' (ixOut ls).length c', .bool true]) ∧ SlAt w' A' (ixOut ls).length ((ixOut ls).map byteV)) ∨
    (ixFit ls = false ∧ e = .returned (.tuple #[.slice none 0 0, .bool false])))
theorem ixFit_long {ls : List (List UInt8)} (h : 65535 < ls.length) : ixFit ls = false := by
  rw [ixFit, decide_eq_false (by omega)]; rfl
theorem ixFit_cons {ls : List (List UInt8)} (h : ls.length ≤ 65535) (h0 : 0 < ls.length) : ixFit ls = decide ((ixB ls).length ≤ 1048576) ∧ ixOut ls = ixB ls := by
  have e : ls.isEmpty = false := by cases ls with
    | nil => cases h0
    | cons _ _ => rfl
  rw [ixFit, ixOut, decide_eq_true h, e]
  exact ⟨by rw [Bool.true_and, Bool.false_or], rfl⟩
theorem Put_any (w : World) (A : Option Addr) (c : Nat) (ls : List (List UInt8)) (h : Ls w A ls) :
    Calls Try.prog 17 #[.slice A ls.length c] w (PutAll ls w) := by
  rcases Nat.lt_or_ge 65535 ls.length with h1 | h1
  · exact (Put_long w A ls.length c (by omega)).mono fun _ _ ⟨he, hb⟩ => ⟨hb, .inr ⟨ixFit_long h1, he⟩⟩
  · rcases Nat.eq_zero_or_pos ls.length with h0 | h0
    · obtain rfl := List.eq_nil_of_length_eq_zero h0
      exact (Put_nil w A c).mono fun _ _ ⟨A', c', he, hs, hc, hb⟩ => ⟨hb, .inl ⟨rfl, A', c', he, hs, hc⟩⟩
    · obtain ⟨e1, e2⟩ := ixFit_cons h1 h0
      show Calls _ _ _ _ (fun e w' => PutAll ls w e w')
      simp only [PutAll, e1, e2]
      rcases Nat.lt_or_ge 1048575 (lsSum ls) with h2 | h2
      · refine (Put_big w A c ls h h1 h0 (by omega)).mono fun _ _ ⟨he, hb⟩ => ⟨hb, .inr ⟨decide_eq_false ?_, he⟩⟩
        rw [ixB_len]
        have : 1 ≤ (ls.length + 1) * ixZ ls := Nat.mul_pos (by omega) (ixW_bd _).1
        omega
      · refine (Put_walk w A c ls h h1 h0 (by omega)).mono ?_
        rintro _ _ ⟨⟨hf, A', c', he, hs, hc⟩ | ⟨hf, he⟩, hb⟩
        · exact ⟨hb, .inl ⟨decide_eq_true (by omega), A', c', he, hs, hc⟩⟩
        · exact ⟨hb, .inr ⟨decide_eq_false (by omega), he⟩⟩
theorem rPut_any (w : World) (A : Option Addr) (c : Nat) (ls : List (List UInt8)) (h : Ls w A ls) :
    Calls Try.prog 18 #[.slice A ls.length c] w (rPutAll ls w) := by
  rcases Nat.lt_or_ge 65535 ls.length with h1 | h1
  · exact (rPut_long w A ls.length c (by omega)).mono fun _ _ ⟨he, hb⟩ => ⟨hb, .inr ⟨ixFit_long h1, he⟩⟩
  · rcases Nat.eq_zero_or_pos ls.length with h0 | h0
    · obtain rfl := List.eq_nil_of_length_eq_zero h0
      exact (rPut_nil w A c).mono fun _ _ ⟨A', c', he, hs, hb⟩ => ⟨hb, .inl ⟨rfl, A', c', he, hs⟩⟩
    · obtain ⟨e1, e2⟩ := ixFit_cons h1 h0
      show Calls _ _ _ _ (fun e w' => rPutAll ls w e w')
      simp only [rPutAll, e1, e2]
      refine (rPut_walk w A c ls h h1 h0).mono ?_
      rintro _ _ ⟨⟨hf, A', c', he, hs⟩ | ⟨hf, he⟩, hb⟩
      · exact ⟨hb, .inl ⟨decide_eq_true (by omega), A', c', he, hs⟩⟩
      · exact ⟨hb, .inr ⟨decide_eq_false (by omega), he⟩⟩
theorem Load_any (w : World) (A : Option Addr) (bs : List UInt8) (c : Nat) (h : Bs w A bs c) : Calls Try.prog 13 #[.slice A bs.length c] w (IxPost bs w) := by
  rcases Nat.lt_or_ge bs.length 2 with h1 | h1
  · exact Load_short w A bs c h h1
  · by_cases h0 : ixN bs = 0
    · exact Load_zero w A bs c h h1 h0
    · rcases Bool.eq_false_or_eq_true (ixHeadOk bs) with h2 | h2
      · exact Load_rest w A bs c h h0 h2
      · exact Load_head w A bs c h h1 h0 h2

def LeM (n : Nat) (s k : Int) : Prop := 0 ≤ k ∧ k ≤ n ∧ k ≤ 70000 ∧ 0 ≤ s ∧ s ≤ 2097152 * k
def SomeB (w : World) (e : Ending) (w' : World) : Prop := ∃ b, e = .returned (.bool b) ∧ w = w'
set_option maxHeartbeats 1000000 in
theorem large_any (w : World) (A : Option Addr) (c : Nat) (ls : List (List UInt8)) (h : Ls w A ls) :
    Calls Try.prog 16 #[.slice A ls.length c] w (SomeB w) := by
  obtain ⟨n, hn'⟩ : ∃ n, ls.length = n := ⟨_, rfl⟩
  rw [hn']
  have HN := Lib.hid hn'
  clear hn'
  go_enter Try.func16, Try.ntmps16
  go_wp2
  go_loop [3, 4] (fun e i => ∃ k s : Int, LeM n s k ∧ i = .int .i64 k ∧ e = .int .i64 s) (fun _ i => n - (intOf i).toNat)
  case atStart => exact ⟨0, 0, ⟨by omega, by omega, by omega, by omega, by omega⟩, rfl, rfl⟩
  case round =>
    obtain ⟨k, s, hle, rfl, rfl⟩ := hrel
    have HLE := Lib.hid hle
    obtain ⟨hk0, hk, hk2, hs0, hs⟩ := hle
    have hs2 : s ≤ 146800640000 := by omega
    clear hs
    by_cases hlt : k < n ∧ k ≤ 69999
    · obtain ⟨hlt, hk3⟩ := hlt
      obtain ⟨l, hl⟩ := ls_get (ls := ls) (k := k.toNat) (by rw [HN.out]; omega)
      obtain ⟨b, o, Ai, ci, rfl, hb', hc, hB⟩ := h k.toNat l hl
      have hsm := hB.small
      obtain ⟨m, hm⟩ : ∃ m, l.length = m := ⟨_, rfl⟩
      rw [hm] at hc hsm
      clear hl hB hm
      go_wp2
      · go_ret
        exact ⟨_, rfl, rfl⟩
      · refine ⟨⟨k + 1, s + m, ?_, rfl, rfl⟩, by simp [intOf]; omega⟩
        have := HLE.out
        unfold LeM at this ⊢
        omega
    · rcases Int.lt_or_le k n with h1 | h1
      · obtain rfl : k = 70000 := by omega
        clear hlt
        go_wp2
        all_goals
          go_ret
          exact ⟨_, rfl, rfl⟩
      · obtain rfl : k = n := by omega
        clear hlt
        go_wp2
        all_goals
          go_ret
          exact ⟨_, rfl, rfl⟩


@[go_sem ↓] theorem eql_fn (W : World) (F : Fn) (a b : Array Value) : (binOp .eql 40 (.func F a b) .nilFunc).run Try.prog W = .ok (.bool false) W := by kernel_rfl
/-! ### lives -/
def ab : List (List UInt8) := [[97, 98], []]
theorem ab_fit : ixFit ab = true := by decide +kernel
theorem ab_out : ixOut ab = [0, 2, 1, 1, 3, 3, 97, 98] := by decide +kernel
theorem ab_ok : ixOk [0, 2, 1, 1, 3, 3, 97, 98] = true := by decide +kernel
theorem ab_lists : ixLists [0, 2, 1, 1, 3, 3, 97, 98] = ab := by decide +kernel
theorem ab_bytes : ixBytes [0, 2, 1, 1, 3, 3, 97, 98] = 8 := by decide +kernel
theorem zero_no : ixOk [0] = false := by decide +kernel
theorem live_put (w : World) (A : Option Addr) (c : Nat) (h : Ls w A ab) :
    Calls Try.prog 17 #[.slice A 2 c] w fun e w' => ∃ A' c', e = .returned (.tuple #[.slice A' 8 c', .int .i64 0]) ∧ SlAt w' A' 8 (([0, 2, 1, 1, 3, 3, 97, 98] : List UInt8).map byteV) ∧ 8 ≤ c' ∧ Below w.heap.size w w' := by
  refine (Put_any w A c ab h).mono ?_
  rintro e w' ⟨hb, ⟨hf, A', c', he, hs, hc⟩ | ⟨hf, he⟩⟩
  · rw [ab_out] at he hs hc
    exact ⟨A', c', he, hs, hc, hb⟩
  · rw [ab_fit] at hf
    cases hf
theorem live_load (w : World) (A : Option Addr) (c : Nat) (h : Bs w A [0, 2, 1, 1, 3, 3, 97, 98] c) :
    Calls Try.prog 13 #[.slice A 8 c] w fun e w' => ∃ g Ab cb ds Ao co os, e = .returned (.tuple #[.pointer (some ⟨g, 0, none⟩), .int .i64 0]) ∧ Ix w' g ab 8 Ab cb ds Ao co os ∧ Below w.heap.size w w' := by
  refine (Load_any w A _ c h).mono ?_
  rintro e w' ⟨hb, ⟨hf, g, Ab, cb, ds, Ao, co, os, he, hx⟩ | ⟨hf, he⟩⟩
  · rw [ab_lists, ab_bytes] at hx
    exact ⟨g, Ab, cb, ds, Ao, co, os, he, hx, hb⟩
  · rw [ab_ok] at hf
    cases hf
theorem live_no (w : World) (A : Option Addr) (c : Nat) (h : Bs w A [0] c) :
    Calls Try.prog 13 #[.slice A 1 c] w fun e w' => e = .returned (.tuple #[.pointer none, .int .i64 140]) ∧ Below w.heap.size w w' := by
  refine (Load_any w A _ c h).mono ?_
  rintro e w' ⟨hb, ⟨hf, _⟩ | ⟨_, he⟩⟩
  · rw [zero_no] at hf
    cases hf
  · exact ⟨he, hb⟩

theorem slat_marked (w : World) (cs : List Value) (t : TypeId) (f : Nat × Nat) {n : Nat} (hn : cs.length = n) : SlAt (w.alloc (.cells cs.toArray t f)) (some ⟨w.heap.size, 0, none⟩) n cs :=
  ⟨hn, fun k _ => ⟨w.heap.size, 0, rfl, by simp, by
    simp only [World.cell?, heap_alloc_new, Nat.zero_add]
    simp⟩⟩
theorem ab_ls (w W1 W2 : World) (h1 : w.alloc (.cells #[.int .u8 97, .int .u8 98] 5 (2, 3)) = W1) (h2 : W1.alloc (.cells #[.slice (some ⟨w.heap.size, 0, none⟩) 2 2, .slice none 0 0] 22) = W2) : Ls W2 (some ⟨W1.heap.size, 0, none⟩) ab := by
  have hB : SlAt W1 (some ⟨w.heap.size, 0, none⟩) 2 [.int .u8 97, .int .u8 98] := by rw [← h1]; exact slat_marked w [.int .u8 97, .int .u8 98] _ _ rfl
  have hb : Below W1.heap.size W1 W2 := by rw [← h2]; exact (bel_alloc bel_refl).below
  have hN : Blk W2 W1.heap.size 22 [.slice (some ⟨w.heap.size, 0, none⟩) 2 2, .slice none 0 0] := by rw [← h2]; exact Blk.new W1 _ _
  intro i l hl
  match i, hl with
  | 0, hl =>
    obtain rfl : l = [97, 98] := by simpa [ab] using hl.symm
    exact ⟨W1.heap.size, 0, some ⟨w.heap.size, 0, none⟩, 2, rfl, hN.lt, hN.cell 0, (Bs.of_sl rfl (by decide) (hB.keep hb) (by decide) (by decide)).bw⟩
  | 1, hl =>
    obtain rfl : l = [] := by simpa [ab] using hl.symm
    exact ⟨W1.heap.size, 0, none, 0, rfl, hN.lt, hN.cell 1, (Bs.nil _).bw⟩
  | k + 2, hl => simp [ab] at hl

section
variable {w : World} {g : Nat} {Ab Ao : Option Addr} {cb co : Nat} {ds : List UInt8} {os : List Nat}
theorem live_at0 (h : Ix w g ab 8 Ab cb ds Ao co os) : Calls Try.prog 20 #[.pointer (some ⟨g, 0, none⟩), .int .i64 0] w fun e w' => ∃ A' c', e = .returned (.tuple #[.slice A' 2 c', .int .i64 0]) ∧ SlAt w' A' 2 (([97, 98] : List UInt8).map byteV) ∧ Below w.heap.size w w' :=
  ixAt_ok h 0 [97, 98] rfl
theorem live_len (h : Ix w g ab 8 Ab cb ds Ao co os) : Calls Try.prog 21 #[.pointer (some ⟨g, 0, none⟩)] w fun e w' => e = .returned (.int .i64 2) ∧ w = w' := ixLen h
theorem live_size (h : Ix w g ab 8 Ab cb ds Ao co os) : Calls Try.prog 22 #[.pointer (some ⟨g, 0, none⟩)] w fun e w' => e = .returned (.int .i64 8) ∧ w = w' := ixSize h
theorem live_at2 (h : Ix w g ab 8 Ab cb ds Ao co os) : Calls Try.prog 20 #[.pointer (some ⟨g, 0, none⟩), .int .i64 2] w fun e w' => e = .returned (.tuple #[.slice none 0 0, .int .i64 4]) ∧ Below w.heap.size w w' :=
  ixAt_no h 2 (.inr (by decide))
end
theorem bs_zero (w : World) : Bs (w.alloc (.cells #[.int .u8 0] 5)) (some ⟨w.heap.size, 0, none⟩) [0] 1 :=
  Bs.of_sl rfl (by decide) (slat_blk (Blk.new w 5 [.int .u8 0]) rfl) (by decide) (by decide)
set_option maxHeartbeats 4000000 in
theorem lives14_any (w : World) : Calls Try.prog 12 #[] w fun e w' => e = .returned (.bool true) ∧ Below w.heap.size w w' := by
  obtain ⟨W1, hW1⟩ : ∃ W1, w.alloc (.cells #[.int .u8 97, .int .u8 98] 5 (2, 3)) = W1 := ⟨_, rfl⟩
  obtain ⟨W2, hW2⟩ : ∃ W2, W1.alloc (.cells #[.slice (some ⟨w.heap.size, 0, none⟩) 2 2, .slice none 0 0] 22) = W2 := ⟨_, rfl⟩
  have HLS := Lib.hid (ab_ls w W1 W2 hW1 hW2)
  have HB2 : Hid (Bel w.heap.size w W2) := Lib.hid (by rw [← hW2, ← hW1]; exact bel_alloc (bel_alloc bel_refl))
  have H1 := Lib.hid hW1
  have H2 := Lib.hid hW2
  clear hW1 hW2
  have kc := fun (w : World) (C : Array Value) (n c : Nat) => Lib.run_convert_bytes_const (P := Try.prog) w 22 5 C n c Try.underlying22 Try.underlying5
  go_enter Try.func12, Try.ntmps12
  go_wp2_with (first
    | ((with_reducible refine wpList_of_run (o := ⟨some 14, _, _, _, _, _⟩) rfl (w' := W2) (.slice (some ⟨W1.heap.size, 0, none⟩) 2 2) ?_ ?_); (· rw [← H2.out, ← H1.out]; kernel_rfl))
    | (go_at_call 17; (with_reducible refine (live_put W2 _ _ HLS.out).mono ?_); rintro e w3 ⟨A3, c3, rfl, hs3, hc3, hb3⟩
       have HS3 := Lib.hid (Bs.of_sl rfl (by decide) hs3 hc3 (by decide))
       have HB3 := Lib.hid (bel_call hb3 HB2.out)
       clear hs3 hb3 hc3)
    | (go_at_call 13; (with_reducible refine (live_load _ _ _ HS3.out).mono ?_); rintro e w4 ⟨g, Ab, cb, ds, Ao, co, os, rfl, hx4, hb4⟩
       have HX4 := Lib.hid hx4
       have HB4 := Lib.hid (bel_call hb4 HB3.out)
       have HS4 := Lib.hid (HS3.out.keep hb4)
       have HZ4 := Lib.hid (bs_zero w4)
       clear hx4 hb4)
    | (go_at_call 13; (with_reducible refine (live_no _ _ _ HZ4.out).mono ?_); rintro e w5 ⟨rfl, hb5⟩
       have hb5' := (bel_alloc (o := .cells #[.int .u8 0] 5) (bel_refl (a := w4))).below.trans (hb5.mono (by simp))
       have HX5 := Lib.hid (HX4.out.keep hb5')
       have HB5 := Lib.hid (bel_call hb5' HB4.out)
       have hs5 := HS4.out.keep hb5'
       have hq : ∀ c, (convert 22 9 (.slice A3 8 c)).run Try.prog w5 = .ok (.string (strB [0, 2, 1, 1, 3, 3, 97, 98])) w5 := fun c => run_str (P := Try.prog) hs5.sl Try.underlying22 Try.underlying5 Try.underlying9 c
       clear hb5 hb5' hs5)
    | (go_at_call 19; (with_reducible refine (ixAll _ _).mono ?_); rintro e w6 ⟨rfl, rfl⟩
       have HX6 := Lib.hid (HX5.out.keep (bel_alloc (o := .cells #[.pointer (some ⟨g, 0, none⟩)] 24) (bel_refl (a := w5))).below)
       have HB6 := Lib.hid (bel_alloc (o := .cells #[.pointer (some ⟨g, 0, none⟩)] 24) HB5.out))
    | (go_at_call 20; (with_reducible refine (live_at0 HX6.out).mono ?_); rintro e w7 ⟨A7, c7, rfl, hs7, hb7⟩
       have HX7 := Lib.hid (HX6.out.keep hb7)
       have HB7 := Lib.hid (bel_call hb7 HB6.out)
       have HS7 := Lib.hid hs7
       clear hs7 hb7)
    | (go_at_call 20; (with_reducible refine (live_at2 HX7.out).mono ?_); rintro e w8 ⟨rfl, hb8⟩
       have HX8 := Lib.hid (HX7.out.keep hb8)
       have HB8 := Lib.hid (bel_call hb8 HB7.out)
       have hs8 := HS7.out.keep hb8
       have hq8 : ∀ c, (convert 22 9 (.slice A7 2 c)).run Try.prog w8 = .ok (.string (strB [97, 98])) w8 := fun c => run_str (P := Try.prog) hs8 Try.underlying22 Try.underlying5 Try.underlying9 c
       clear hb8 hs8)
    | (go_at_call 21; (with_reducible refine (live_len HX8.out).mono ?_); rintro e w9 ⟨rfl, rfl⟩)
    | (go_at_call 22; (with_reducible refine (live_size HX8.out).mono ?_); rintro e w9 ⟨rfl, rfl⟩))
  go_ret
  exact ⟨rfl, HB8.out.below⟩

end Go.Proofs.Ytbmflgcahbkdeaa
