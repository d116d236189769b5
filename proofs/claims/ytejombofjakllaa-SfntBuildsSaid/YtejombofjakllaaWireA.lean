/-
  Contracts of wire's writer: fits, number.
-/
import Derived.Test.YtejombofjakllaaWire
import Derived.Test.YtejombofjakllaaTail
import Derived.BigRegion
import Derived.Deep.RegionLaw
namespace Go.Proofs.Ytejombofjakllaa
open Go.RowKit

theorem Wr.appendedL {T : TypeId} {w w' : World} {g : Nat} {bs news : List UInt8} {room : Int} {full : Bool} {A A' : Option Addr} {c c' : Nat} (h : Wr T w g bs room full A c) (L m : Nat) (hL : bs.length = L) (hm : news.length = m)
    (hown : w'.ownsRow 0 5 1 (.slice A' (L + m) c') (L + m) ((bs ++ news).map byteV)) (hgrow : w.grownBy w' (rowOf A)) (hat : rowOf A' = rowOf A ∨ rowOf A' = some w.heap.size) :
    Wr T (w'.setCell ⟨g, 0, none⟩ (.slice A' (L + m) c')) g (bs ++ news) room full A' c' ∧ Turn w (w'.setCell ⟨g, 0, none⟩ (.slice A' (L + m) c')) g (rowOf A) ∧ (rowOf A' = rowOf A ∨ ∀ k, rowOf A' = some k → w.heap.size ≤ k) := by
  subst hL hm
  exact h.appended hown hgrow hat
theorem Turn.drew {w w' : World} {g : Nat} {row : Option Nat} (h : Turn w w' g row) : Turn w w'.drew g row := ⟨h.os, h.tape, h.output, h.size, h.block⟩
theorem Turn.drewL {w w' : World} {g : Nat} {row : Option Nat} (h : Turn w.drew w' g row) : Turn w w' g row := ⟨h.os, h.tape, h.output, h.size, h.block⟩
/-- Row after row: each is the one before, or new. -/
theorem row_trans {w w' : World} {g : Nat} {row a b : Option Nat} (h : Turn w w' g row) (h1 : a = row ∨ ∀ k, a = some k → w.heap.size ≤ k) (h2 : b = a ∨ ∀ k, b = some k → w'.heap.size ≤ k) : b = row ∨ ∀ k, b = some k → w.heap.size ≤ k := by
  rcases h2 with rfl | h2
  · exact h1
  · exact .inr fun k hk => Nat.le_trans h.size (h2 k hk)

def fullF (bs : List UInt8) (room : Int) (full : Bool) (n : Int) : Bool := full || decide (room - bs.length < n)

set_option maxHeartbeats 1000000 in
theorem fits_W (w : World) (g : Nat) (bs : List UInt8) (room : Int) (full : Bool) (A : Option Addr) (c : Nat) (n : Int) (h : Wr 74 w g bs room full A c)
    (hr : 0 ≤ room) (hr2 : room ≤ 4611686018427387904) (hl : (bs.length : Int) ≤ 4611686018427387904) :
    Calls Try.prog 49 #[.pointer (some ⟨g, 0, none⟩), .int .i64 n] w fun e w' =>
      e = .returned (.bool (!fullF bs room full n)) ∧ Wr 74 w' g bs room (fullF bs room full n) A c ∧ Turn w w' g none := by
  have c0 := h.blk.cell 0
  have c1 := h.blk.cell 1
  have c2 := h.blk.cell 2
  have f2 := h.blk.frozen 2
  simp at c0 c1 c2
  have HW := Lib.hid h
  clear h
  cases full with
  | true =>
    have hA := Lib.hid (show fullF bs room true n = true by simp [fullF])
    go_enter Try.func49, Try.ntmps49
    go_wp2_with fail
    refine wp_region_drew_tail 21 (by kernel_rfl) (by kernel_rfl) ?_
    simp only [List.take_succ_cons, List.take_zero, List.drop_succ_cons, List.drop_zero]
    repeat (go_big_quiet_step (fail))
    refine wpQuiet_nil ?_
    rintro _ ⟨nq, rfl⟩
    go_wp2
    go_ret
    rw [hA.out]
    exact ⟨rfl, (HW.out.drewN _).full_ _, ((Turn.refl _ _ _).drewN _).set _ _⟩
  | false =>
    by_cases hd : room - bs.length < n
    · have hA := Lib.hid (show fullF bs room false n = true by simp [fullF, hd])
      go_enter Try.func49, Try.ntmps49
      go_wp2_with fail
      refine wp_region_drew_tail 21 (by kernel_rfl) (by kernel_rfl) ?_
      simp only [List.take_succ_cons, List.take_zero, List.drop_succ_cons, List.drop_zero]
      repeat (go_big_quiet_step (fail))
      refine wpQuiet_nil ?_
      rintro _ ⟨nq, rfl⟩
      go_wp2
      go_ret
      rw [hA.out]
      exact ⟨rfl, (HW.out.drewN _).full_ _, ((Turn.refl _ _ _).drewN _).set _ _⟩
    · have hA := Lib.hid (show fullF bs room false n = false by simp [fullF]; omega)
      have hdd : decide (room - (bs.length : Int) < n) = false := by simp; omega
      go_enter Try.func49, Try.ntmps49
      go_wp2_with fail
      refine wp_region_drew_tail 21 (by kernel_rfl) (by kernel_rfl) ?_
      simp only [List.take_succ_cons, List.take_zero, List.drop_succ_cons, List.drop_zero]
      repeat (go_big_quiet_step (fail))
      refine wpQuiet_nil ?_
      rintro _ ⟨nq, rfl⟩
      go_wp2
      go_ret
      rw [hA.out]
      exact ⟨rfl, (HW.out.drewN _).full_ _, ((Turn.refl _ _ _).drewN _).set _ _⟩

/-- byte number i of n, the highest first. -/
def byteAt (n i : Nat) (x : Int) : UInt8 := UInt8.ofNat (x / 2 ^ (8 * (n - 1 - i)) % 256).toNat
def beB (n : Nat) (x : Int) : List UInt8 := (List.range n).map fun i => byteAt n i x
theorem beB_length (n : Nat) (x : Int) : (beB n x).length = n := by simp [beB]
theorem beB_take (n k : Nat) (x : Int) (h : k < n) : (beB n x).take (k + 1) = (beB n x).take k ++ [byteAt n k x] := by
  rw [List.take_succ_eq_append_getElem (by simpa [beB] using h)]
  simp [beB]

theorem shr_run {P : Program} (x : Int) (y : Int) (k : Nat) (hy : y = k) (hk : k ≤ 64) (w : World) : (Op.shift .shr .i64 x .i64 y).run P w = .ok (.int .i64 (x / 2 ^ k)) w := by
  subst hy
  unfold Op.shift
  rw [if_neg (by omega)]
  simp only [Int.toNat_natCast, IntKind.bits, Nat.min_eq_left hk]
  rw [Int.fdiv_eq_ediv_of_nonneg x (Int.pow_nonneg (by decide))]
  rfl
theorem byteV_of (y : Int) : Value.int .u8 (y % 256) = byteV (UInt8.ofNat (y % 256).toNat) := by
  unfold byteV
  congr 1
  simp
  omega

set_option maxHeartbeats 1000000 in
theorem number_fit (w : World) (g : Nat) (bs : List UInt8) (room : Int) (A : Option Addr) (c n : Nat) (x : Int) (h : Wr 74 w g bs room false A c)
    (hr : 0 ≤ room) (hr2 : room ≤ 1099511627776) (hn : n ≤ 8) (hfit : (bs.length : Int) + n ≤ room) :
    Calls Try.prog 50 #[.pointer (some ⟨g, 0, none⟩), .int .i64 n, .int .i64 x] w fun e w' =>
      e = .returned (.pointer (some ⟨g, 0, none⟩)) ∧ ∃ A' c', Wr 74 w' g (bs ++ beB n x) room false A' c' ∧ Turn w w' g (rowOf A) ∧ (rowOf A' = rowOf A ∨ ∀ k, rowOf A' = some k → w.heap.size ≤ k) := by
  have hf : fullF bs room false n = false := by simp [fullF]; omega
  go_enter Try.func50, Try.ntmps50
  go_wp2_with (go_at_call 49; refine (fits_W _ _ _ _ _ _ _ _ h hr (by omega) (by omega)).mono ?_; rw [hf]; rintro e w1 ⟨rfl, hw1, ht1⟩)
  go_loopw [12] (fun i wr => ∃ k : Nat, k ≤ n ∧ i = .int .i64 k ∧ ∃ A' c', Wr 74 wr g (bs ++ (beB n x).take k) room false A' c' ∧ Turn w wr g (rowOf A) ∧ (rowOf A' = rowOf A ∨ ∀ k, rowOf A' = some k → w.heap.size ≤ k)) (fun i _ => n - (intOf i).toNat)
  case atStart => exact ⟨0, Nat.zero_le _, rfl, A, c, by simpa using hw1, ht1.wide, .inl rfl⟩
  case round =>
    obtain ⟨k, hk, rfl, A', c', hw, ht, hrow⟩ := hrel
    by_cases hlt : k < n
    · obtain ⟨L, hL⟩ : ∃ L : Nat, (bs ++ (beB n x).take k).length = L := ⟨_, rfl⟩
      have hLk : L = bs.length + k := by rw [← hL]; simp [beB]; omega
      have hL2 : L + 1 ≤ 1099511627776 := by omega
      have c0 : wr.cell? ⟨g, 0, none⟩ = some (.slice A' L c') := by rw [hw.blk.cell 0, ← hL]; rfl
      have f0 := hw.blk.frozen 0
      have hgl : g < wr.heap.size := hw.blk.lt
      have HL := Lib.hid hL
      clear hL hLk
      have HW := Lib.hid hw
      have HT := Lib.hid ht
      have HR := Lib.hid hrow
      clear hw ht hrow hw1 ht1 h
      have hsh := fun W => shr_run (P := Try.prog) x (8 * ((n : Int) - 1 - (k : Int))) (8 * (n - 1 - k)) (by omega) (by omega) W
      have hw1 : IntKind.i64.wrap ((n : Int) - 1) = (n : Int) - 1 := IntWalk.i64_in _ (by omega)
      have hw2 : IntKind.i64.wrap ((n : Int) - 1 - k) = (n : Int) - 1 - k := IntWalk.i64_in _ (by omega)
      have hw3 : IntKind.i64.wrap (8 * ((n : Int) - 1 - k)) = 8 * ((n : Int) - 1 - k) := IntWalk.i64_in _ (by omega)
      go_wp2_with fail
      have hsn : (8 * ((n : Int) - 1 - (k : Int))).toNat = 8 * (n - 1 - k) := by omega
      have hvv : [Value.int .u8 (IntKind.u8.wrap (x / 2 ^ (8 * ((n : Int) - 1 - (k : Int))).toNat))] = [byteAt n k x].map byteV := by rw [hsn]; exact congrArg (fun v => [v]) (byteV_of _)
      have HV := Lib.hid hvv
      clear hvv hsn
      go_region_law (refine step_append_wr ?_ (.tmp 19) (.tmp 28) _ ?_ Try.underlying25 ((HW.out.alloc _).drew) L HL.out ?_ (news := [byteAt n k x]) _ _ 1 1 ?_ _ HV.out ((reads_one _ _ _)) ?_ ?_; (· rfl); (· rfl); (· rfl); (· rfl); (· omega); intro A2 c2 w2 hown hgrow hat hc2 hf2)
      all_goals
        obtain ⟨hW2, hT2, hR2⟩ := Wr.appendedL ((HW.out.alloc _).drew) L 1 HL.out rfl hown hgrow hat
        have hT3 := ((HT.out.alloc (.cells #[Value.int .u8 (IntKind.u8.wrap (x / 2 ^ (8 * ((n : Int) - 1 - (k : Int))).toNat))] 5)).drew)
        have HW2 := Lib.hid hW2
        have HT4 := Lib.hid (hT3.trans hT2 HR.out)
        have HR2 := Lib.hid (row_trans hT3 HR.out hR2)
        clear hW2 hT2 hR2 hT3 hown hgrow hat hw1 hw2 hw3
        go_wp2_with fail
        go_roundw
        case rel =>
          refine ⟨k + 1, by omega, by go_num, A2, c2, ?_, HT4.out, HR2.out⟩
          rw [beB_take n k x hlt, ← List.append_assoc]
          exact HW2.out
        case measure => simp [intOf]; omega
    · obtain rfl : n = k := by omega
      have HT := Lib.hid ht
      have HR := Lib.hid hrow
      rw [List.take_of_length_le (by rw [beB_length]; exact Nat.le_refl _)] at hw
      have HW := Lib.hid hw
      clear hw ht hrow hw1 ht1 h
      go_wp2
      go_ret
      exact ⟨rfl, A', c', HW.out, HT.out, HR.out⟩

set_option maxHeartbeats 1000000 in
theorem number_full (w : World) (g : Nat) (bs : List UInt8) (room : Int) (full : Bool) (A : Option Addr) (c n : Nat) (x : Int) (h : Wr 74 w g bs room full A c)
    (hr : 0 ≤ room) (hr2 : room ≤ 1099511627776) (hl : (bs.length : Int) ≤ room) (hf : fullF bs room full n = true) :
    Calls Try.prog 50 #[.pointer (some ⟨g, 0, none⟩), .int .i64 n, .int .i64 x] w fun e w' =>
      e = .returned (.pointer (some ⟨g, 0, none⟩)) ∧ Wr 74 w' g bs room true A c ∧ Turn w w' g none := by
  go_enter Try.func50, Try.ntmps50
  go_wp2_with (go_at_call 49; refine (fits_W _ _ _ _ _ _ _ _ h hr (by omega) (by omega)).mono ?_; rw [hf]; rintro e w1 ⟨rfl, hw1, ht1⟩)
  go_wp2
  go_ret
  exact ⟨rfl, hw1, ht1⟩

/-- What a writer is behind 'news'. -/
def putF (room : Int) (s : List UInt8 × Bool) (news : List UInt8) : List UInt8 × Bool := if fullF s.1 room s.2 news.length then (s.1, true) else (s.1 ++ news, false)

/-- A writer of state s in memory, with what a call may have turned. -/
structure WrS (T : TypeId) (w0 w : World) (g : Nat) (s : List UInt8 × Bool) (room : Int) (row0 : Option Nat) (A : Option Addr) (c : Nat) : Prop where
  wr : Wr T w g s.1 room s.2 A c
  turn : Turn w0 w g row0
  row : rowOf A = row0 ∨ ∀ k, rowOf A = some k → w0.heap.size ≤ k
  fit : (s.1.length : Int) ≤ room

theorem number_W (w : World) (g : Nat) (s : List UInt8 × Bool) (room : Int) (A : Option Addr) (c n : Nat) (x : Int) (h : Wr 74 w g s.1 room s.2 A c)
    (hr : 0 ≤ room) (hr2 : room ≤ 1099511627776) (hn : n ≤ 8) (hl : (s.1.length : Int) ≤ room) :
    Calls Try.prog 50 #[.pointer (some ⟨g, 0, none⟩), .int .i64 n, .int .i64 x] w fun e w' =>
      e = .returned (.pointer (some ⟨g, 0, none⟩)) ∧ ∃ A' c', WrS 74 w w' g (putF room s (beB n x)) room (rowOf A) A' c' := by
  obtain ⟨bs, full⟩ := s
  simp only at h hl
  have hb := beB_length n x
  rcases Bool.eq_false_or_eq_true (fullF bs room full n) with hf | hf
  · refine (number_full w g bs room full A c n x h hr hr2 hl hf).mono ?_
    rintro e w1 ⟨rfl, hw, ht⟩
    have e : putF room (bs, full) (beB n x) = (bs, true) := by simp [putF, hb, hf]
    rw [e]
    exact ⟨rfl, A, c, hw, ht.wide, .inl rfl, hl⟩
  · have h2 := hf
    simp only [fullF, Bool.or_eq_false_iff, decide_eq_false_iff_not] at h2
    obtain ⟨rfl, h2⟩ := h2
    refine (number_fit w g bs room A c n x h hr hr2 hn (by omega)).mono ?_
    rintro e w1 ⟨rfl, A', c', hw, ht, hrow⟩
    have e : putF room (bs, false) (beB n x) = (bs ++ beB n x, false) := by simp [putF, hb, hf]
    rw [e]
    exact ⟨rfl, A', c', hw, ht, hrow, by simp [hb]; omega⟩

set_option maxHeartbeats 1000000 in
theorem u16_W (w : World) (g : Nat) (s : List UInt8 × Bool) (room : Int) (A : Option Addr) (c : Nat) (x : Int) (h : Wr 74 w g s.1 room s.2 A c)
    (hr : 0 ≤ room) (hr2 : room ≤ 1099511627776) (hl : (s.1.length : Int) ≤ room) :
    Calls Try.prog 48 #[.pointer (some ⟨g, 0, none⟩), .int .i64 x] w fun e w' =>
      e = .returned (.pointer (some ⟨g, 0, none⟩)) ∧ ∃ A' c', WrS 74 w w' g (putF room s (beB 2 x)) room (rowOf A) A' c' := by
  go_enter Try.func48, Try.ntmps48
  go_wp2_with (go_at_call 50; refine (number_W _ _ _ _ _ _ 2 _ h hr hr2 (by omega) hl).mono ?_; rintro e w1 ⟨rfl, A', c', hw⟩)
  go_wp2
  go_ret
  exact ⟨rfl, A', c', hw⟩

set_option maxHeartbeats 1000000 in
theorem u32_W (w : World) (g : Nat) (s : List UInt8 × Bool) (room : Int) (A : Option Addr) (c : Nat) (x : Int) (h : Wr 74 w g s.1 room s.2 A c)
    (hr : 0 ≤ room) (hr2 : room ≤ 1099511627776) (hl : (s.1.length : Int) ≤ room) :
    Calls Try.prog 30 #[.pointer (some ⟨g, 0, none⟩), .int .i64 x] w fun e w' =>
      e = .returned (.pointer (some ⟨g, 0, none⟩)) ∧ ∃ A' c', WrS 74 w w' g (putF room s (beB 4 x)) room (rowOf A) A' c' := by
  go_enter Try.func30, Try.ntmps30
  go_wp2_with (go_at_call 50; refine (number_W _ _ _ _ _ _ 4 _ h hr hr2 (by omega) hl).mono ?_; rintro e w1 ⟨rfl, A', c', hw⟩)
  go_wp2
  go_ret
  exact ⟨rfl, A', c', hw⟩

end Go.Proofs.Ytejombofjakllaa
