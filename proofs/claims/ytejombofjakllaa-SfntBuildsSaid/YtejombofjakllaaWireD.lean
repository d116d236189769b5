/-
  Contracts of wire's writer: To, Len, Done; slices.Clone of bytes.
-/
import Derived.Test.YtejombofjakllaaWireC
import Derived.Lib.SliceRun
import Derived.Test.YtejombofjakllaaSlice
namespace Go.Proofs.Ytejombofjakllaa
open Go.RowKit

set_option maxHeartbeats 1000000 in
theorem to_W (w : World) (room : Int) :
    Calls Try.prog 24 #[.int .i64 room] w fun e w' =>
      e = .returned (.pointer (some ⟨w.heap.size, 0, none⟩)) ∧ Below w.heap.size w w' ∧ Wr 74 w' w.heap.size [] (max room 0) false none 0 := by
  have hm : ∀ x : Int, Wr 74 (w.alloc (.cells #[.slice none 0 0, .int .i64 x, .bool false] 74)) w.heap.size [] x false none 0 := fun x => ⟨heap_alloc_new w _, World.ownsRow_nil _ _ _ _, by intro e; cases e⟩
  go_enter Try.func24, Try.ntmps24
  go_wp2
  · go_ret
    rw [Int.max_eq_right (by omega)]
    exact ⟨rfl, (bel_alloc bel_refl).below, hm 0⟩
  · go_ret
    rw [Int.max_eq_left (by omega)]
    exact ⟨rfl, (bel_alloc bel_refl).below, hm room⟩

@[go_sem] theorem eqlB_nil (A : Option Addr) (l c : Nat) (w : World) : (binOp .eql 25 (.slice A l c) (.slice none 0 0)).run Try.prog w = .ok (.bool A.isNone) w := Lib.run_eql_slice_nil w _ _ A l c 0 0 Try.underlying25

set_option maxHeartbeats 1000000 in
theorem clone_c (w : World) (A : Option Addr) (n c : Nat) (bs : List UInt8) (h : SlAt w A n (bs.map byteV)) (hn : n ≤ 140737488355328) :
    Calls Try.prog 42 #[.slice A n c] w fun e w' => ∃ A' c', e = .returned (.slice A' n c') ∧ SlAt w' A' n (bs.map byteV) ∧ Below w.heap.size w w' ∧ (∀ k, rowOf A' = some k → w.heap.size ≤ k) ∧ n ≤ c' := by
  obtain ⟨i0, hi0, hz0, hz1, hz2⟩ := info_parts u8_info
  rcases A with _ | a
  · have hn0 : n = 0 := by
      rcases Nat.eq_zero_or_pos n with h0 | h0
      · exact h0
      · obtain ⟨b, o, hA, _⟩ := h.2 0 h0
        cases hA
    subst hn0
    have HS := Lib.hid h
    clear h
    go_enter Try.func42, Try.ntmps42
    go_wp2
    go_ret
    exact ⟨none, 0, rfl, HS.out, bel_refl.below, (by intro k hk; cases hk), Nat.le_refl _⟩
  · have HS := Lib.hid h
    clear h
    go_enter Try.func42, Try.ntmps42
    have HR := Lib.hid ((HS.out.keep (w' := w.alloc (.cells #[] 5)) (bel_alloc bel_refl).below).reads)
    go_wp2_with (at_builtin; refine wpList_append_any _ (by rfl) (.tmp 5) (.tmp 6) _ (by rfl) w.heap.size 5 i0 _ 1 1 Try.underlying25 hi0 hz0 hz1 hz2 rfl (by omega) _ 0 [] (by rfl) (own_empty w _) _ _ _ _ _ (by rfl) HR.out (bytes_one _) (by unfold maxLen; omega) (by omega) (by simp) ?_; intro v' w' hown hgrow hat)
    obtain ⟨A', c', rfl, hs, hge, hcap⟩ := of_ownC hown
    go_ret
    rw [Nat.zero_add] at *
    refine ⟨A', c', rfl, hs, ?_, fun k hk => ?_, hcap⟩
    · exact (bel_alloc bel_refl).below.trans ⟨hgrow.os, hgrow.tape, hgrow.output, hgrow.size, fun k hk => hgrow.block k (by simp; omega) (by simp [Value.ownBlock]; omega)⟩
    · cases A' with
      | none => cases hk
      | some ad => injection hk with hk; subst hk; exact hge _ rfl

theorem clone_any (w : World) (A : Option Addr) (n c : Nat) (bs : List UInt8) (h : SlAt w A n (bs.map byteV)) (hn : n ≤ 140737488355328) :
    Calls Try.prog 42 #[.slice A n c] w fun e w' => ∃ A' c', e = .returned (.slice A' n c') ∧ SlAt w' A' n (bs.map byteV) ∧ Below w.heap.size w w' ∧ (∀ k, rowOf A' = some k → w.heap.size ≤ k) :=
  (clone_c w A n c bs h hn).mono fun _ _ ⟨A', c', he, hs, hb, hr, _⟩ => ⟨A', c', he, hs, hb, hr⟩

set_option maxHeartbeats 1000000 in
theorem done_c (w : World) (g : Nat) (bs : List UInt8) (room : Int) (A : Option Addr) (c : Nat) (h : Wr 74 w g bs room false A c) (hn : bs.length ≤ 140737488355328) :
    Calls Try.prog 29 #[.pointer (some ⟨g, 0, none⟩)] w fun e w' => ∃ A' c', e = .returned (.tuple #[.slice A' bs.length c', .int .i64 0]) ∧ SlAt w' A' bs.length (bs.map byteV) ∧ Below w.heap.size w w' ∧ (∀ k, rowOf A' = some k → w.heap.size ≤ k) ∧ bs.length ≤ c' := by
  have k0 : w.cell? ⟨g, 0, none⟩ = some (.slice A bs.length c) := by rw [h.blk.cell 0]; rfl
  have k2 : w.cell? ⟨g, 2, none⟩ = some (.bool false) := by rw [h.blk.cell 2]; rfl
  have HS := Lib.hid h.sl
  clear h
  go_enter Try.func29, Try.ntmps29
  go_wp2_with (go_at_call 42; refine (clone_c _ _ _ _ bs HS.out hn).mono ?_; rintro e w1 ⟨A', c', rfl, hs, hb, hrow, hcap⟩)
  go_ret2
  exact ⟨A', c', rfl, hs, hb, hrow, hcap⟩

theorem done_W (w : World) (g : Nat) (bs : List UInt8) (room : Int) (A : Option Addr) (c : Nat) (h : Wr 74 w g bs room false A c) (hn : bs.length ≤ 140737488355328) :
    Calls Try.prog 29 #[.pointer (some ⟨g, 0, none⟩)] w fun e w' => ∃ A' c', e = .returned (.tuple #[.slice A' bs.length c', .int .i64 0]) ∧ SlAt w' A' bs.length (bs.map byteV) ∧ Below w.heap.size w w' ∧ (∀ k, rowOf A' = some k → w.heap.size ≤ k) :=
  (done_c w g bs room A c h hn).mono fun _ _ ⟨A', c', he, hs, hb, hr, _⟩ => ⟨A', c', he, hs, hb, hr⟩

set_option maxHeartbeats 1000000 in
theorem done_full (w : World) (g : Nat) (bs : List UInt8) (room : Int) (A : Option Addr) (c : Nat) (h : Wr 74 w g bs room true A c) :
    Calls Try.prog 29 #[.pointer (some ⟨g, 0, none⟩)] w fun e w' => e = .returned (.tuple #[.slice none 0 0, .int .i64 2]) ∧ w = w' := by
  have k2 : w.cell? ⟨g, 2, none⟩ = some (.bool true) := by rw [h.blk.cell 2]; rfl
  clear h
  go_enter Try.func29, Try.ntmps29
  go_wp2
  go_ret2
  exact ⟨rfl, rfl⟩

end Go.Proofs.Ytejombofjakllaa
