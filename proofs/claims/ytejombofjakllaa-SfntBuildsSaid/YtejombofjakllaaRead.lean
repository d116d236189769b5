/-
  Contracts of wire's reader.
-/
import Derived.Test.YtejombofjakllaaWireB
namespace Go.Proofs.Ytejombofjakllaa
open Go.RowKit

/-- Block r is a reader of bs that stands at pos. -/
structure Rd (w : World) (r : Nat) (bs : List UInt8) (pos : Nat) (bad : Bool) (A : Option Addr) (c : Nat) : Prop where
  blk : Blk w r 84 [.slice A bs.length c, .int .i64 pos, .bool bad]
  sl : SlAt w A bs.length (bs.map byteV)
  apart : rowOf A ≠ some r
  cap : bs.length ≤ c
  pos_le : pos ≤ bs.length
  small : bs.length ≤ 140737488355328

section
variable {w w' : World} {r : Nat} {bs : List UInt8} {pos : Nat} {bad : Bool} {A : Option Addr} {c : Nat}
theorem Rd.keep (h : Rd w r bs pos bad A c) (hb : Below w.heap.size w w') : Rd w' r bs pos bad A c :=
  ⟨h.blk.below hb h.blk.lt, h.sl.keep hb, h.apart, h.cap, h.pos_le, h.small⟩
theorem Rd.drewN (h : Rd w r bs pos bad A c) (n : Nat) : Rd (w.drewN n) r bs pos bad A c := h.keep (bel_drewN bel_refl).below
end

theorem Rd.moved {w : World} {r : Nat} {bs : List UInt8} {pos : Nat} {A : Option Addr} {c : Nat} (h : Rd w r bs pos false A c) (k n : Nat) (hn : pos + n ≤ bs.length) :
    Rd ((w.drewN k).setCell ⟨r, 1, none⟩ (.int .i64 ((pos : Int) + n))) r bs (pos + n) false A c ∧ Turn w ((w.drewN k).setCell ⟨r, 1, none⟩ (.int .i64 ((pos : Int) + n))) r none := by
  have ht : Turn w ((w.drewN k).setCell ⟨r, 1, none⟩ (.int .i64 ((pos : Int) + n))) r none := ((Turn.refl _ _ _).drewN _).set _ _
  exact ⟨⟨Blk.to ((h.blk.drewN k).set 1 _) (by simp), h.sl.turn ht h.apart (fun _ _ e => by cases e), h.apart, h.cap, hn, h.small⟩, ht⟩
theorem SlAt.sub {w : World} {A : Option Addr} {m : Nat} {vs : List Value} (h : SlAt w A m vs) (pos n : Nat) (hn : pos + n ≤ m) : SlAt w (Option.map (fun x => x.add pos) A) n ((vs.drop pos).take n) := by
  refine ⟨by have := h.1; simp; omega, fun k hk => ?_⟩
  obtain ⟨b, o, rfl, hlt, hc⟩ := h.2 (pos + k) (by omega)
  refine ⟨b, o + pos, by simp [Addr.add_lit], hlt, ?_⟩
  rw [Nat.add_assoc, hc, List.getElem?_take, if_pos hk, List.getElem?_drop]
theorem row_map (A : Option Addr) (pos : Nat) : rowOf (Option.map (fun x => x.add pos) A) = rowOf A := by
  cases A with
  | none => rfl
  | some a => simp [rowOf, Addr.add]; split <;> rfl

set_option maxHeartbeats 1000000 in
theorem wrong_W (w : World) (r : Nat) (bad : Bool) (hk : w.cell? ⟨r, 2, none⟩ = some (.bool bad)) :
    Calls Try.prog 75 #[.pointer (some ⟨r, 0, none⟩)] w fun e w' => e = .returned (.bool bad) ∧ w = w' := by
  go_enter Try.func75, Try.ntmps75
  go_wp2
  go_ret
  exact ⟨rfl, rfl⟩

set_option maxHeartbeats 1000000 in
theorem spoil_W (w : World) (r : Nat) (bs : List UInt8) (pos : Nat) (bad : Bool) (A : Option Addr) (c : Nat) (h : Rd w r bs pos bad A c) :
    Calls Try.prog 76 #[.pointer (some ⟨r, 0, none⟩)] w fun e w' => e = .returned (.tuple #[]) ∧ Rd w' r bs pos true A c ∧ Turn w w' r none := by
  have k2 : w.cell? ⟨r, 2, none⟩ = some (.bool bad) := by rw [h.blk.cell 2]; rfl
  have f2 := h.blk.frozen 2
  have H := Lib.hid h
  clear h
  go_enter Try.func76, Try.ntmps76
  go_wp2
  with_reducible refine bodyPost_end (v := .tuple #[]) (by simp [results, Try.results76]) rfl ?_
  have ht : Turn w (w.setCell ⟨r, 2, none⟩ (.bool true)) r none := (Turn.refl _ _ _).set _ _
  exact ⟨rfl, ⟨Blk.to (H.out.blk.set 2 _) rfl, H.out.sl.turn ht H.out.apart (fun _ _ e => by cases e), H.out.apart, H.out.cap, H.out.pos_le, H.out.small⟩, ht⟩

set_option maxHeartbeats 1000000 in
theorem next_bad (w : World) (r : Nat) (bs : List UInt8) (pos : Nat) (bad : Bool) (A : Option Addr) (c : Nat) (n : Nat) (h : Rd w r bs pos bad A c) (hbad : bad = true ∨ bs.length < pos + n) :
    Calls Try.prog 57 #[.pointer (some ⟨r, 0, none⟩), .int .i64 n] w fun e w' => e = .returned (.slice none 0 0) ∧ Rd w' r bs pos true A c ∧ Turn w w' r none := by
  have k0 : w.cell? ⟨r, 0, none⟩ = some (.slice A bs.length c) := by rw [h.blk.cell 0]; rfl
  have k1 : w.cell? ⟨r, 1, none⟩ = some (.int .i64 pos) := by rw [h.blk.cell 1]; rfl
  have k2 : w.cell? ⟨r, 2, none⟩ = some (.bool bad) := by rw [h.blk.cell 2]; rfl
  have b1 := h.pos_le
  have b2 := h.small
  have H := Lib.hid h
  clear h
  cases bad with
  | true =>
    go_enter Try.func57, Try.ntmps57
    go_wp2_with fail
    go_quiet (first | (go_at_call 75; exact Calls.q_left (wrong_W _ _ _ k2)) | fail)
    go_wp2_with (go_at_call 76; refine (spoil_W _ _ _ _ _ _ _ (H.out.drewN _)).mono ?_; rintro e w1 ⟨rfl, h1, ht1⟩)
    go_ret
    exact ⟨rfl, h1, (((Turn.refl w r none).drewN _).trans ht1 (.inl rfl))⟩
  | false =>
    have hd : decide ((bs.length : Int) - pos < n) = true := by simp at hbad ⊢; omega
    have hw0 : IntKind.i64.wrap ((bs.length : Int) - pos) = (bs.length : Int) - pos := IntWalk.i64_in _ (by omega)
    have hd0 : decide ((n : Int) < 0) = false := by simp
    clear hbad
    go_enter Try.func57, Try.ntmps57
    go_wp2_with fail
    go_quiet (first | (go_at_call 75; exact Calls.q_left (wrong_W _ _ _ k2)) | fail)
    go_wp2_with (go_at_call 76; refine (spoil_W _ _ _ _ _ _ _ (H.out.drewN _)).mono ?_; rintro e w1 ⟨rfl, h1, ht1⟩)
    go_ret
    exact ⟨rfl, h1, (((Turn.refl w r none).drewN _).trans ht1 (.inl rfl))⟩

set_option maxHeartbeats 1000000 in
theorem next_ok (w : World) (r : Nat) (bs : List UInt8) (pos : Nat) (A : Option Addr) (c : Nat) (n : Nat) (h : Rd w r bs pos false A c) (hn : pos + n ≤ bs.length) :
    Calls Try.prog 57 #[.pointer (some ⟨r, 0, none⟩), .int .i64 n] w fun e w' => ∃ A' c', e = .returned (.slice A' n c') ∧ SlAt w' A' n (((bs.drop pos).take n).map byteV) ∧ n ≤ c' ∧ (rowOf A' = none ∨ rowOf A' = rowOf A) ∧ Rd w' r bs (pos + n) false A c ∧ Turn w w' r none := by
  have k0 : w.cell? ⟨r, 0, none⟩ = some (.slice A bs.length c) := by rw [h.blk.cell 0]; rfl
  have k1 : w.cell? ⟨r, 1, none⟩ = some (.int .i64 pos) := by rw [h.blk.cell 1]; rfl
  have k2 : w.cell? ⟨r, 2, none⟩ = some (.bool false) := by rw [h.blk.cell 2]; rfl
  have f1 := h.blk.frozen 1
  have b1 := h.pos_le
  have b2 := h.small
  have b3 := h.cap
  have H := Lib.hid h
  clear h
  have hd : decide ((bs.length : Int) - pos < n) = false := by simp; omega
  have hw0 : IntKind.i64.wrap ((bs.length : Int) - pos) = (bs.length : Int) - pos := IntWalk.i64_in _ (by omega)
  have hd0 : decide ((n : Int) < 0) = false := by simp
  have hw1 : IntKind.i64.wrap ((pos : Int) + n) = (pos : Int) + n := IntWalk.i64_in _ (by omega)
  have htn : ((pos : Int) + n).toNat = pos + n := by omega
  go_enter Try.func57, Try.ntmps57
  go_wp2_with fail
  go_quiet (first | (go_at_call 75; exact Calls.q_left (wrong_W _ _ _ k2)) | fail)
  go_wp2_with fail
  go_quiet (fail)
  go_wp2
  · go_ret
    obtain rfl : n = 0 := by omega
    subst h
    exact ⟨A, 0, rfl, by rw [List.take_zero]; exact SlAt.nil _ _, Nat.le_refl _, .inr rfl, (H.out.moved _ 0 hn).1, (H.out.moved _ 0 hn).2⟩
  · go_ret
    refine ⟨_, c - pos, rfl, ?_, by omega, .inr (row_map A pos), (H.out.moved _ n hn).1, (H.out.moved _ n hn).2⟩
    exact (H.out.sl.turn (H.out.moved _ n hn).2 H.out.apart (fun _ _ e => by cases e)).sub pos n hn

end Go.Proofs.Ytejombofjakllaa
