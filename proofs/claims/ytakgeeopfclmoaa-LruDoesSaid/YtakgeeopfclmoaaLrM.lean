/-
  Layer 25: Drop, Len, Held, New, Resize.
-/
import Derived.Test.YtakgeeopfclmoaaLrL
namespace Go.Proofs.Ytakgeeopfclmoaa
open Go.RowKit Go.Maps

section
variable {B : Bz} {g : Nat} {w : World} {budget : Int} {L : List En}
def DropR (w : World) (g : Nat) (B : Bz) (budget : Int) (k : K4) (L : List En) (e : Ending) (w' : World) : Prop :=
  e = .returned (.bool (decide (k ∈ L.map (·.1)))) ∧ LruH w' g B (heldL (dropL k L)) budget (dropL k L) ∧ KeepT B w w'
set_option maxRecDepth 20000 in
set_option maxHeartbeats 2000000 in
theorem Drop_any (h : LruH w g B (heldL L) budget L) (hbig : heldL L ≤ 4611686018427387904) (k : K4) (hk : k.wf) :
    Calls Try.prog 20 #[.pointer (some ⟨g, 0, none⟩), .agg #[.int .i64 k.g, .int .i64 k.p, .int .i64 k.x, .int .i64 k.y]] w (DropR w g B budget k L) := by
  have hB := h.le
  obtain ⟨Y, S, l, fr, h, ok⟩ := h
  have g1 : w.cell? ⟨g, 1, none⟩ = some (.map (some Y.mb)) := by rw [h.blk.cell 1]; rfl
  have hgl := h.blk.lt
  have hal := h.alloc (.cells #[.int .i64 k.g, .int .i64 k.p, .int .i64 k.x, .int .i64 k.y] 24)
  have hkp := (KeepT.refl hB).alloc (.cells #[.int .i64 k.g, .int .i64 k.p, .int .i64 k.x, .int .i64 k.y] 24)
  by_cases hm : k ∈ L.map (·.1)
  · obtain ⟨xs, ys, i, s, hl, hs, hsk, hL, hki, hk1, hk2⟩ := ok_find ok hm
    have hrun : ∀ n, (Instr.lookup 63 (.map (some Y.mb)) (.agg #[.int .i64 k.g, .int .i64 k.p, .int .i64 k.x, .int .i64 k.y]) true).run Try.prog ((w.alloc (.cells #[.int .i64 k.g, .int .i64 k.p, .int .i64 k.x, .int .i64 k.y] 24)).drewN n) = .ok (.tuple #[.int .i64 i, .bool true]) ((w.alloc (.cells #[.int .i64 k.g, .int .i64 k.p, .int .i64 k.x, .int .i64 k.y] 24)).drewN n) :=
      fun n => look_yes (hal.drewN n) hki
    have hdr : dropL k L = ents S.ss xs ++ ents S.ss ys := by rw [hL, hsk]; exact dropL_mid hk1
    have hhd : heldL L - costM s.m = heldL (dropL k L) := by rw [hdr, hL, heldL_mid]; simp only []; omega
    subst hl
    have hrem := fun n => remove_any (hal.drewN n) ok hs (by have := heldL_nonneg L; omega) hbig
    rw [hhd, ← hdr] at hrem
    have HR := Lib.hid hrem
    have HK := Lib.hid hkp
    have HM := Lib.hid hm
    clear h ok hal hkp hs hsk hL hki hk1 hk2 hdr hhd hrem hm hbig hB hk
    go_enter Try.func20, Try.ntmps20
    go_wp2_with fail
    go_quiet (fail)
    go_wp2_with (go_at_call 33; (with_reducible refine (HR.out _).mono ?_); rintro e w1 ⟨rfl, h1, k1⟩; have H1 := Lib.hid h1; have K1 := Lib.hid k1; clear h1 k1)
    go_ret
    exact ⟨by rw [decide_eq_true HM.out]; rfl, H1.out, (HK.out.drewN _).trans K1.out⟩
  · have hE : k ∉ (keysE S.ss l).map (·.1) := by rw [keysE_fst, ok.ents]; exact hm
    have hrun : ∀ n, (Instr.lookup 63 (.map (some Y.mb)) (.agg #[.int .i64 k.g, .int .i64 k.p, .int .i64 k.x, .int .i64 k.y]) true).run Try.prog ((w.alloc (.cells #[.int .i64 k.g, .int .i64 k.p, .int .i64 k.x, .int .i64 k.y] 24)).drewN n) = .ok (.tuple #[.int .i64 0, .bool false]) ((w.alloc (.cells #[.int .i64 k.g, .int .i64 k.p, .int .i64 k.x, .int .i64 k.y] 24)).drewN n) :=
      fun n => look_no (hal.drewN n) hk hE
    have H := Lib.hid (⟨Y, S, l, fr, hal, ok⟩ : LruH _ g B (heldL L) budget L)
    have HK := Lib.hid hkp
    have HM := Lib.hid hm
    clear h ok hal hkp hm hE hbig hB hk
    go_enter Try.func20, Try.ntmps20
    go_wp2_with fail
    go_quiet (fail)
    go_wp2_with fail
    go_ret
    exact ⟨by rw [decide_eq_false HM.out]; rfl, by rw [dropL_none HM.out]; exact LruH.keep H.out (bel_drewN bel_refl).below, HK.out.drewN _⟩

set_option maxRecDepth 20000 in
set_option maxHeartbeats 1000000 in
theorem Held_any {held : Int} (h : LruH w g B held budget L) : Calls Try.prog 19 #[.pointer (some ⟨g, 0, none⟩)] w fun e w' => e = .returned (.int .i64 held) ∧ w = w' := by
  obtain ⟨Y, S, l, fr, h, ok⟩ := h
  have g5 : w.cell? ⟨g, 5, none⟩ = some (.int .i64 held) := by rw [h.blk.cell 5]; rfl
  clear h ok
  go_enter Try.func19, Try.ntmps19
  go_wp2_with fail
  go_ret
  exact ⟨rfl, rfl⟩
set_option maxRecDepth 20000 in
set_option maxHeartbeats 1000000 in
theorem Len_any {held : Int} (h : LruH w g B held budget L) : Calls Try.prog 18 #[.pointer (some ⟨g, 0, none⟩)] w fun e w' => e = .returned (.int .i64 L.length) ∧ w = w' := by
  obtain ⟨Y, S, l, fr, h, ok⟩ := h
  have g1 : w.cell? ⟨g, 1, none⟩ = some (.map (some Y.mb)) := by rw [h.blk.cell 1]; rfl
  have hlen : Maps.size (mapD (keysE S.ss l)) = L.length := by rw [mapD_size, ok.lenL]; simp [keysE]
  have H := Lib.hid h.map
  have HL := Lib.hid hlen
  clear h ok hlen
  go_enter Try.func18, Try.ntmps18
  go_wp2_with (at_len; refine wpList_len_own _ rfl _ 63 rfl 24 3 Try.underlying63 _ Y.mb _ _ rfl H.out ?_)
  go_ret
  exact ⟨by rw [HL.out]; rfl, rfl⟩

/-- A cache that a pointer leads nowhere to. -/
theorem Drop_nil (k : K4) : Calls Try.prog 20 #[.pointer none, .agg #[.int .i64 k.g, .int .i64 k.p, .int .i64 k.x, .int .i64 k.y]] w fun e w' => e = .returned (.bool false) ∧ Below w.heap.size w w' := by
  go_enter Try.func20, Try.ntmps20
  go_wp2_with fail
  go_ret
  refine ⟨rfl, Bel.below ?_⟩
  repeat (first | with_reducible exact bel_refl | with_reducible apply bel_alloc | with_reducible apply bel_drewN | with_reducible apply bel_drew | (with_reducible refine bel_set ?_ ?_; rotate_left; · first | (simp; done) | (simp; omega) | omega) | with_reducible refine bel_call (by assumption) ?_)
theorem Held_nil : Calls Try.prog 19 #[.pointer none] w fun e w' => e = .returned (.int .i64 0) ∧ w = w' := by
  go_enter Try.func19, Try.ntmps19
  go_wp2_with fail
  go_ret
  exact ⟨rfl, rfl⟩
theorem Len_nil : Calls Try.prog 18 #[.pointer none] w fun e w' => e = .returned (.int .i64 0) ∧ w = w' := by
  go_enter Try.func18, Try.ntmps18
  go_wp2_with fail
  go_ret
  exact ⟨rfl, rfl⟩

def budB (n : Int) : Bool := decide (0 ≤ n) && decide (n ≤ 16777216)
theorem budB_true {n : Int} : budB n = true ↔ 0 ≤ n ∧ n ≤ 16777216 := by simp [budB]
theorem mayBud_any (n : Int) (w : World) : Calls Try.prog 24 #[.int .i64 n] w fun e w' => e = .returned (.bool (budB n)) ∧ w = w' := by
  have e : budB n = (decide (0 ≤ n) && decide (n ≤ 16777216)) := rfl
  rcases Int.lt_or_le n 0 with h | h
  · rw [e, decide_eq_false (by omega)]
    go_enter Try.func24, Try.ntmps24
    go_wp2
    go_ret
    exact ⟨rfl, rfl⟩
  · rw [e, decide_eq_true h]
    rcases Int.lt_or_le 16777216 n with h2 | h2
    · rw [decide_eq_false (by omega)]
      go_enter Try.func24, Try.ntmps24
      go_wp2
      go_ret
      first | exact ⟨rfl, rfl⟩ | (refine ⟨ret_bool ?_, rfl⟩; simp; done) | (refine ⟨ret_bool ?_, rfl⟩; simp; omega)
    · rw [decide_eq_true h2]
      go_enter Try.func24, Try.ntmps24
      go_wp2
      go_ret
      first | exact ⟨rfl, rfl⟩ | (refine ⟨ret_bool ?_, rfl⟩; simp; done) | (refine ⟨ret_bool ?_, rfl⟩; simp; omega)
theorem rMayBud_any (n : Int) (w : World) : Calls Try.prog 10 #[.int .i64 n] w fun e w' => e = .returned (.bool (budB n)) ∧ w = w' := by
  have e : budB n = (decide (0 ≤ n) && decide (n ≤ 16777216)) := rfl
  rcases Int.lt_or_le n 0 with h | h
  · rw [e, decide_eq_false (by omega)]
    go_enter Try.func10, Try.ntmps10
    go_wp2
    go_ret
    exact ⟨rfl, rfl⟩
  · rw [e, decide_eq_true h]
    rcases Int.lt_or_le 16777216 n with h2 | h2
    · rw [decide_eq_false (by omega)]
      go_enter Try.func10, Try.ntmps10
      go_wp2
      go_ret
      first | exact ⟨rfl, rfl⟩ | (refine ⟨ret_bool ?_, rfl⟩; simp; done) | (refine ⟨ret_bool ?_, rfl⟩; simp; omega)
    · rw [decide_eq_true h2]
      go_enter Try.func10, Try.ntmps10
      go_wp2
      go_ret
      first | exact ⟨rfl, rfl⟩ | (refine ⟨ret_bool ?_, rfl⟩; simp; done) | (refine ⟨ret_bool ?_, rfl⟩; simp; omega)

theorem New_no (n : Int) (hn : budB n = false) : Calls Try.prog 8 #[.int .i64 n] w fun e w' => e = .returned (.tuple #[.pointer none, .int .i64 1]) ∧ w = w' := by
  have KB := fun w => mayBud_any n w
  rw [hn] at KB
  have HK := Lib.hid KB
  clear KB hn
  go_enter Try.func8, Try.ntmps8
  go_wp2_with (first | (go_at_call 24; refine (HK.out _).mono ?_; rintro e w1 ⟨rfl, rfl⟩))
  go_ret2
  exact ⟨rfl, rfl⟩
/-- A new cache. -/
def NewR (w : World) (n : Int) (e : Ending) (w' : World) : Prop := ∃ g, e = .returned (.tuple #[.pointer (some ⟨g, 0, none⟩), .int .i64 0]) ∧ LruH w' g (bz w.heap.size) 0 n [] ∧ Below w.heap.size w w'
set_option maxRecDepth 20000 in
set_option maxHeartbeats 1000000 in
theorem New_yes (n : Int) (hn : budB n = true) : Calls Try.prog 8 #[.int .i64 n] w (NewR w n) := by
  have KB := fun w => mayBud_any n w
  rw [hn] at KB
  have HK := Lib.hid KB
  have hmm := @run_makeMap Try.prog
  clear KB hn
  go_enter Try.func8, Try.ntmps8
  go_wp2_with (first | (go_at_call 24; refine (HK.out _).mono ?_; rintro e w1 ⟨rfl, rfl⟩))
  go_ret2
  refine ⟨w.heap.size + 1, rfl, ⟨⟨none, 0, w.heap.size, none, 0⟩, ⟨[], -1, -1⟩, [], [], ⟨?_, World.ownsRow_nil _ _ _ _, fun s hs => by simp at hs, World.ownsRow_nil _ _ _ _, (World.ownsMap_made w Try.prog 24 (plainElem Try.prog 3)).alloc _, ⟨Nat.le_succ _, Nat.le_refl _⟩, ⟨by simp [keysE], by simp [keysE], by simp [keysE]⟩⟩,
    ⟨⟨trivial, rfl, rfl, List.nodup_nil⟩, List.Perm.refl _, rfl, List.nodup_nil, Nat.zero_le _⟩⟩, (bel_alloc (bel_alloc bel_refl)).below⟩
  exact Blk.newAt _ _ [_, _, _, _, _, _, _] (by simp)
end
end Go.Proofs.Ytakgeeopfclmoaa
