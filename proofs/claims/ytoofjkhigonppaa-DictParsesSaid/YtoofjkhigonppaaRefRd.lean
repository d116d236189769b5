/-
  The document's reader: Take, U, I16.
-/
import Derived.Test.YtoofjkhigonppaaRdU
import Derived.Test.YtoofjkhigonppaaWireE
namespace Go.Proofs.Ytoofjkhigonppaa
open Go.RowKit

/-- Block r is a reader of the document's. -/
structure Rx (w : World) (r : Nat) (bs : List UInt8) (pos : Nat) (bad : Bool) (A : Option Addr) (c : Nat) : Prop where
  blk : Blk w r 71 [.slice A bs.length c, .int .i64 pos, .bool bad]
  sl : SlAt w A bs.length (bs.map byteV)
  apart : 0 < bs.length → rowOf A ≠ some r
  cap : bs.length ≤ c
  pos_le : pos ≤ bs.length
  small : bs.length ≤ 140737488355328

section
variable {w w' : World} {r : Nat} {bs : List UInt8} {pos : Nat} {bad : Bool} {A : Option Addr} {c : Nat}
theorem Rx.keep (h : Rx w r bs pos bad A c) (hb : Below w.heap.size w w') : Rx w' r bs pos bad A c :=
  ⟨h.blk.below hb h.blk.lt, h.sl.keep hb, h.apart, h.cap, h.pos_le, h.small⟩
theorem Rx.drewN (h : Rx w r bs pos bad A c) (n : Nat) : Rx (w.drewN n) r bs pos bad A c := h.keep (bel_drewN bel_refl).below
theorem Rx.moved (h : Rx w r bs pos false A c) (k n : Nat) (hn : pos + n ≤ bs.length) :
    Rx ((w.drewN k).setCell ⟨r, 1, none⟩ (.int .i64 ((pos : Int) + n))) r bs (pos + n) false A c ∧ Turn w ((w.drewN k).setCell ⟨r, 1, none⟩ (.int .i64 ((pos : Int) + n))) r none := by
  have ht : Turn w ((w.drewN k).setCell ⟨r, 1, none⟩ (.int .i64 ((pos : Int) + n))) r none := ((Turn.refl _ _ _).drewN _).set _ _
  exact ⟨⟨Blk.to ((h.blk.drewN k).set 1 _) (by simp), h.sl.turn0 ht h.apart, h.apart, h.cap, hn, h.small⟩, ht⟩
theorem Rx.spoiled (h : Rx w r bs pos bad A c) (k : Nat) :
    Rx ((w.drewN k).setCell ⟨r, 2, none⟩ (.bool true)) r bs pos true A c ∧ Turn w ((w.drewN k).setCell ⟨r, 2, none⟩ (.bool true)) r none := by
  have ht : Turn w ((w.drewN k).setCell ⟨r, 2, none⟩ (.bool true)) r none := ((Turn.refl _ _ _).drewN _).set _ _
  exact ⟨⟨Blk.to ((h.blk.drewN k).set 2 _) rfl, h.sl.turn0 ht h.apart, h.apart, h.cap, h.pos_le, h.small⟩, ht⟩
end

set_option maxHeartbeats 1000000 in
theorem xTake_bad (w : World) (r : Nat) (bs : List UInt8) (pos : Nat) (bad : Bool) (A : Option Addr) (c : Nat) (n : Nat) (h : Rx w r bs pos bad A c) (hbad : bad = true ∨ bs.length < pos + n) :
    Calls Try.prog 58 #[.pointer (some ⟨r, 0, none⟩), .int .i64 n] w fun e w' => e = .returned (.slice none 0 0) ∧ Rx w' r bs pos true A c ∧ Turn w w' r none := by
  have k0 : w.cell? ⟨r, 0, none⟩ = some (.slice A bs.length c) := by rw [h.blk.cell 0]; rfl
  have k1 : w.cell? ⟨r, 1, none⟩ = some (.int .i64 pos) := by rw [h.blk.cell 1]; rfl
  have k2 : w.cell? ⟨r, 2, none⟩ = some (.bool bad) := by rw [h.blk.cell 2]; rfl
  have f2 := h.blk.frozen 2
  have b1 := h.pos_le
  have b2 := h.small
  have H := Lib.hid h
  clear h
  cases bad with
  | true =>
    go_enter Try.func58, Try.ntmps58
    go_wp2_with fail
    go_quiet (fail)
    go_wp2_with fail
    go_ret
    exact ⟨rfl, (H.out.spoiled _).1, (H.out.spoiled _).2⟩
  | false =>
    have hd : decide ((bs.length : Int) - pos < n) = true := by simp at hbad ⊢; omega
    have hw0 : IntKind.i64.wrap ((bs.length : Int) - pos) = (bs.length : Int) - pos := IntWalk.i64_in _ (by omega)
    have hd0 : decide ((n : Int) < 0) = false := by simp
    clear hbad
    go_enter Try.func58, Try.ntmps58
    go_wp2_with fail
    go_quiet (fail)
    go_wp2_with fail
    go_ret
    exact ⟨rfl, (H.out.spoiled _).1, (H.out.spoiled _).2⟩

theorem new_at (w : World) (o : Obj) (n : Nat) (h : w.heap.size = n) : (w.alloc o).heap[n]? = some o := by
  subst h
  exact heap_alloc_new w o
theorem below_new {w w' : World} {o : Obj} {n : Nat} (h : w.heap.size = n) (hb : Below n (w.alloc o) w') : Below w.heap.size w w' := by
  subst h
  exact (bel_alloc bel_refl).below.trans hb
theorem SlAt.sub_if {w : World} {A : Option Addr} {m c : Nat} {vs : List Value} (h : SlAt w A m vs) (hc : m ≤ c) (pos n : Nat) (hn : pos + n ≤ m) : SlAt w (if c = pos then A else Option.map (fun x => x.add pos) A) n ((vs.drop pos).take n) := by
  split
  · obtain rfl : n = 0 := by omega
    rw [List.take_zero]
    exact SlAt.nil _ _
  · exact h.sub pos n hn

set_option maxHeartbeats 1000000 in
theorem xTake_ok (w : World) (r : Nat) (bs : List UInt8) (pos : Nat) (A : Option Addr) (c : Nat) (n : Nat) (h : Rx w r bs pos false A c) (hn : pos + n ≤ bs.length) :
    Calls Try.prog 58 #[.pointer (some ⟨r, 0, none⟩), .int .i64 n] w fun e w' => ∃ A' c', e = .returned (.slice A' n c') ∧ SlAt w' A' n (((bs.drop pos).take n).map byteV) ∧ Rx w' r bs (pos + n) false A c ∧ Turn w w' r none ∧ (∀ k, rowOf A' = some k → w.heap.size ≤ k) := by
  obtain ⟨i0, hi0, hz0, hz1, hz2⟩ := info_parts u8_info
  have k0 : w.cell? ⟨r, 0, none⟩ = some (.slice A bs.length c) := by rw [h.blk.cell 0]; rfl
  have k1 : w.cell? ⟨r, 1, none⟩ = some (.int .i64 pos) := by rw [h.blk.cell 1]; rfl
  have k2 : w.cell? ⟨r, 2, none⟩ = some (.bool false) := by rw [h.blk.cell 2]; rfl
  have f1 := h.blk.frozen 1
  have b1 := h.pos_le
  have b2 := h.small
  have b3 := h.cap
  have H := Lib.hid h
  clear h
  have hd : decide ((bs.length : Int) - pos < n) = false := by simp; omega
  have hw0 : IntKind.i64.wrap ((bs.length : Int) - pos) = (bs.length : Int) - pos := IntWalk.i64_in _ (by omega)
  have hd0 : decide ((n : Int) < 0) = false := by simp
  have hw1 : IntKind.i64.wrap ((pos : Int) + n) = (pos : Int) + n := IntWalk.i64_in _ (by omega)
  have htn : ((pos : Int) + n).toNat = pos + n := by omega
  have HM := fun k => Lib.hid (H.out.moved k n hn)
  have hg : r < w.heap.size := H.out.blk.lt
  have HS := fun k => Lib.hid ((((H.out.sl.turn0 (HM k).out.2 H.out.apart).sub_if b3 pos n hn)).keep (w' := ((w.drewN k).setCell ⟨r, 1, none⟩ (.int .i64 ((pos : Int) + n))).alloc (.cells #[] 5)) (bel_alloc bel_refl).below)
  go_enter Try.func58, Try.ntmps58
  go_wp2_with fail
  go_quiet (fail)
  go_wp2_with fail
  go_quiet (fail)
  obtain ⟨A1, hA1⟩ : ∃ A1, (if c = pos then A else Option.map (fun x => x.add pos) A) = A1 := ⟨_, rfl⟩
  rw [hA1] at HS ⊢
  clear hA1
  have hl : ((bs.drop pos).take n).length = n := by simp; omega
  rw [← List.map_drop, ← List.map_take] at HS
  go_wp2_with (first | (at_builtin; refine wpList_append_fresh (by rfl) (.tmp 55) (.tmp 56) _ (by rfl) 5 i0 _ 1 Try.underlying22 hi0 hz0 hz1 hz2 rfl w.heap.size (by rfl) (new_at _ _ _ (by simp [World.setCell])) A1 n _ _ (by rfl) (HS _).out (bytes_one _) (by unfold maxLen; omega) (by omega) ?_; intro A2 c2 w2 hs2 hb2 hl2))
  go_ret
  have hb3 := below_new (by simp [World.setCell]) hb2
  refine ⟨A2, c2, rfl, hs2, (HM _).out.1.keep hb3, (HM _).out.2.trans (Turn.of_below hb3) (.inl rfl), fun k hk => ?_⟩
  cases A2 with
  | none => cases hk
  | some ad => injection hk with hk; subst hk; exact hl2 _ rfl

theorem xTake_any (w : World) (r : Nat) (bs : List UInt8) (s : Nat × Bool) (A : Option Addr) (c : Nat) (n : Nat) (h : Rx w r bs s.1 s.2 A c) :
    Calls Try.prog 58 #[.pointer (some ⟨r, 0, none⟩), .int .i64 n] w fun e w' => ∃ A' c', e = .returned (.slice A' (takF bs s n).length c') ∧ SlAt w' A' (takF bs s n).length ((takF bs s n).map byteV) ∧
      Rx w' r bs (advF bs s n).1 (advF bs s n).2 A c ∧ Turn w w' r none ∧ (∀ k, rowOf A' = some k → w.heap.size ≤ k) := by
  obtain ⟨p, b⟩ := s
  simp only at h
  by_cases hb : badF bs (p, b) n = true
  · rw [show takF bs (p, b) n = [] by simp [takF, hb], show advF bs (p, b) n = (p, true) by simp [advF, hb]]
    exact (xTake_bad w r bs p b A c n h (by simpa [badF] using hb)).mono fun e w' ⟨he, hr, ht⟩ => ⟨none, 0, he, SlAt.nil _ _, hr, ht, fun k hk => by cases hk⟩
  · simp only [Bool.not_eq_true] at hb
    have h2 := hb
    simp [badF] at h2
    obtain ⟨rfl, h2⟩ := h2
    have hl : ((bs.drop p).take n).length = n := by simp; omega
    rw [takF_ok h2, advF_ok h2, hl]
    exact xTake_ok w r bs p A c n h h2

set_option maxHeartbeats 1000000 in
theorem xU_any (w : World) (r : Nat) (bs : List UInt8) (s : Nat × Bool) (A : Option Addr) (c : Nat) (n : Nat) (h : Rx w r bs s.1 s.2 A c) (hn : n ≤ 4) :
    Calls Try.prog 42 #[.pointer (some ⟨r, 0, none⟩), .int .i64 n] w fun e w' => e = .returned (.int .i64 (numF bs s n)) ∧ Rx w' r bs (advF bs s n).1 (advF bs s n).2 A c ∧ Turn w w' r none := by
  have hN := xTake_any w r bs s A c n h
  have hle := takF_len bs s n
  unfold numF
  generalize takF bs s n = l at hN hle
  go_enter Try.func42, Try.ntmps42
  go_wp2_with (go_at_call 58; refine hN.mono ?_; rintro e w1 ⟨A1, c1, rfl, hs, hr, ht, hrow⟩)
  clear hN hrow
  go_loop [5, 7] (fun x i => ∃ k : Nat, k ≤ l.length ∧ i = .int .i64 k ∧ x = .int .i64 (numB (l.take k))) (fun _ i => l.length - (intOf i).toNat)
  case atStart => exact ⟨0, Nat.zero_le _, rfl, rfl⟩
  case round =>
    obtain ⟨k, hk, rfl, rfl⟩ := hrel
    by_cases hlt : k < l.length
    · obtain ⟨b, o, rfl, hblt, hcell⟩ := hs.2 k hlt
      obtain ⟨u, hu⟩ : ∃ u, l[k]? = some u := ⟨l[k]'(by omega), List.getElem?_eq_getElem (by omega)⟩
      rw [List.getElem?_map, hu] at hcell
      have hcell' : w1.cell? ⟨b, o + k, none⟩ = some (.int .u8 u.toNat) := hcell
      have hx : (numB (l.take k)) < 256 ^ 3 := by
        have := numB_lt (l.take k)
        refine Nat.lt_of_lt_of_le this (Nat.pow_le_pow_right (by omega) ?_)
        simp; omega
      have hnext : numB (l.take (k + 1)) = numB (l.take k) * 256 + u.toNat := by
        rw [List.take_add_one, hu]; exact numB_snoc _ _
      have HN := Lib.hid hnext
      generalize numB (l.take k) = x at hx HN
      clear hcell hnext
      have hu8 := u.toNat_lt
      have hwu : IntKind.i64.wrap (u.toNat : Int) = (u.toNat : Int) := IntWalk.i64_in _ (by omega)
      have HU := Lib.hid hu
      have HS := Lib.hid hs
      clear hu hs
      go_wp2
      exact ⟨⟨k + 1, by omega, by go_num, by rw [HN.out]; exact congrArg (Value.int .i64) (by omega)⟩, by simp [intOf]; omega⟩
    · obtain rfl : l.length = k := by omega
      rw [List.take_of_length_le (by omega)]
      go_wp2
      go_ret
      exact ⟨rfl, hr, ht⟩

set_option maxHeartbeats 1000000 in
theorem xI16_any (w : World) (r : Nat) (bs : List UInt8) (s : Nat × Bool) (A : Option Addr) (c : Nat) (h : Rx w r bs s.1 s.2 A c) :
    Calls Try.prog 43 #[.pointer (some ⟨r, 0, none⟩)] w fun e w' => e = .returned (.int .i64 (sgn16 (numF bs s 2))) ∧ Rx w' r bs (advF bs s 2).1 (advF bs s 2).2 A c ∧ Turn w w' r none := by
  have hlt : numF bs s 2 < 65536 := numF_lt bs s 2
  have hN := xU_any w r bs s A c 2 h (by omega)
  obtain ⟨y, hy, hy0, hy1⟩ : ∃ y : Int, (numF bs s 2 : Int) = y ∧ 0 ≤ y ∧ y ≤ 65535 := ⟨_, rfl, by omega, by omega⟩
  rw [hy] at hN ⊢
  clear hy hlt
  have HN := Lib.hid hN
  clear hN
  by_cases hx : y < 32768
  · have HE := Lib.hid (show sgn16 y = y by unfold sgn16; rw [if_neg (by omega)])
    go_enter Try.func43, Try.ntmps43
    go_wp2_with (go_at_call 42; refine HN.out.mono ?_; rintro e w1 ⟨rfl, hr, ht⟩; have HR := Lib.hid hr; clear hr)
    go_ret
    exact ⟨ret_int HE.out.symm, HR.out, ht⟩
  · have HE := Lib.hid (show sgn16 y = y - 65536 by unfold sgn16; rw [if_pos (by omega)])
    have hx' : 32768 ≤ y := by omega
    clear hx
    go_enter Try.func43, Try.ntmps43
    go_wp2_with (go_at_call 42; refine HN.out.mono ?_; rintro e w1 ⟨rfl, hr, ht⟩; have HR := Lib.hid hr; clear hr)
    go_ret
    exact ⟨ret_int HE.out.symm, HR.out, ht⟩

end Go.Proofs.Ytoofjkhigonppaa
