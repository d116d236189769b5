/-
  Contracts of serifref03: Pad.
-/
import Derived.Test.YtejombofjakllaaWireF
namespace Go.Proofs.Ytejombofjakllaa
open Go.RowKit

set_option maxHeartbeats 1000000 in
theorem rpad_W (w : World) (g : Nat) (s : List UInt8 × Bool) (room : Int) (A : Option Addr) (c : Nat) (n : Int) (h : Wr 78 w g s.1 room s.2 A c)
    (hr : 0 ≤ room) (hr2 : room ≤ 1099511627776) (hl : (s.1.length : Int) ≤ room) (hn1 : -9223372036854775808 ≤ n) (hn2 : n ≤ 9223372036854775807) :
    Calls Try.prog 54 #[.pointer (some ⟨g, 0, none⟩), .int .i64 n] w fun e w' =>
      e = .returned (.tuple #[]) ∧ ∃ A' c', WrN 78 w w' g (padF room s n) room A A' c' := by
  obtain ⟨bs, full⟩ := s
  simp only at h hl
  have k0 : w.cell? ⟨g, 0, none⟩ = some (.slice A bs.length c) := by rw [h.blk.cell 0]; rfl
  have k1 : w.cell? ⟨g, 1, none⟩ = some (.int .i64 room) := by rw [h.blk.cell 1]; rfl
  have k2 : w.cell? ⟨g, 2, none⟩ = some (.bool full) := by rw [h.blk.cell 2]; rfl
  have f2 := h.blk.frozen 2
  have H := Lib.hid h
  clear h
  by_cases h1 : n < 1
  · have e : padF room (bs, full) n = (bs, full) := by simp [padF, h1]
    have hd : decide (n < 1) = true := by simpa using h1
    rw [e]
    go_enter Try.func54, Try.ntmps54
    go_wp2
    with_reducible refine bodyPost_ret (v := .tuple #[]) (by simp [results, Try.results54]) rfl ?_
    exact ⟨rfl, A, c, H.out, Turn.refl _ _ _, .inl rfl, hl⟩
  · have hd : decide (n < 1) = false := by simpa using h1
    have htm : (bs.length : Int).tmod n = (bs.length : Int) % n := Int.tmod_eq_emod_of_nonneg (by omega)
    by_cases h2 : (bs.length : Int) % n = 0
    · have e : padF room (bs, full) n = (bs, full) := by simp [padF, h2]
      rw [e]
      have hd2 : ((bs.length : Int).tmod n == 0) = true := by rw [htm]; simpa using h2
      go_enter Try.func54, Try.ntmps54
      go_wp2
      with_reducible refine bodyPost_ret (v := .tuple #[]) (by simp [results, Try.results54]) rfl ?_
      exact ⟨rfl, A, c, H.out, Turn.refl _ _ _, .inl rfl, hl⟩
    · obtain ⟨m, hm⟩ : ∃ m : Nat, (m : Int) = n - (bs.length : Int) % n := ⟨(n - (bs.length : Int) % n).toNat, by have := Int.emod_lt_of_pos (bs.length : Int) (show 0 < n by omega); omega⟩
      have hm0 : 0 < m := by have := Int.emod_lt_of_pos (bs.length : Int) (show 0 < n by omega); omega
      have hmn : (m : Int) ≤ n := by have := Int.emod_nonneg (bs.length : Int) (show n ≠ 0 by omega); omega
      have e : padF room (bs, full) n = putF room (bs, full) (List.replicate m 0) := by
        have : (n - (bs.length : Int) % n).toNat = m := by omega
        simp [padF, h1, h2, this]
      rw [e]
      have hd2 : ((bs.length : Int).tmod n == 0) = false := by rw [htm]; simpa using h2
      have hw1 : IntKind.i64.wrap (n - (bs.length : Int) % n) = m := by rw [← hm]; exact IntWalk.i64_in _ (by omega)
      have HM := Lib.hid hm
      clear hm
      rcases Bool.eq_false_or_eq_true (fullF bs room full m) with hf | hf
      · have e : putF room (bs, full) (List.replicate m 0) = (bs, true) := by simp [putF, hf]
        rw [e]
        clear e
        cases full with
        | true =>
          go_enter Try.func54, Try.ntmps54
          go_wp2_with fail
          go_quiet (fail)
          go_wp2
          with_reducible refine bodyPost_ret (v := .tuple #[]) (by simp [results, Try.results54]) rfl ?_
          exact ⟨rfl, A, c, (H.out.drewN _).full_ _, ((Turn.refl _ _ _).drewN _).set _ _, .inl rfl, hl⟩
        | false =>
          have hd : decide (room - (bs.length : Int) < m) = true := by simpa [fullF] using hf
          go_enter Try.func54, Try.ntmps54
          go_wp2_with fail
          go_quiet (fail)
          go_wp2
          with_reducible refine bodyPost_ret (v := .tuple #[]) (by simp [results, Try.results54]) rfl ?_
          exact ⟨rfl, A, c, (H.out.drewN _).full_ _, ((Turn.refl _ _ _).drewN _).set _ _, .inl rfl, hl⟩
      · have h2 := hf
        simp only [fullF, Bool.or_eq_false_iff] at h2
        obtain ⟨rfl, hd⟩ := h2
        have HL : m ≤ 140737488355328 := by simp at hd; omega
        go_enter Try.func54, Try.ntmps54
        go_wp2_with fail
        go_quiet (fail)
        have hmk := make_bytes m HL (w.drewN nq)
        have hB : Blk ((w.drewN nq).alloc (.cells ((List.replicate m (0 : UInt8)).map byteV).toArray 5)) w.heap.size 5 ((List.replicate m (0 : UInt8)).map byteV) := Blk.new _ _ _
        have hb : Below w.heap.size w ((w.drewN nq).alloc (.cells ((List.replicate m (0 : UInt8)).map byteV).toArray 5)) := (bel_alloc (bel_drewN bel_refl)).below
        generalize (w.drewN nq).alloc (.cells ((List.replicate m (0 : UInt8)).map byteV).toArray 5) = W at hmk hB hb
        have H1 := Lib.hid (H.out.keep hb)
        have HS := Lib.hid (show SlAt W (some ⟨w.heap.size, 0, none⟩) (List.replicate m (0 : UInt8)).length ((List.replicate m (0 : UInt8)).map byteV) from ⟨by simp, fun j _ => ⟨w.heap.size, 0, rfl, hB.lt, by rw [Nat.zero_add]; exact hB.cell j⟩⟩)
        have HBL := Lib.hid hb
        clear hB hb
        have hlm : (List.replicate m (0 : UInt8)).length = m := List.length_replicate
        go_wp2_with (go_at_call 52; have hc := rdata_W W g (bs, false) room A c (List.replicate m 0) (some ⟨w.heap.size, 0, none⟩) m H1.out hr hr2 hl HS.out; rw [hlm] at hc; refine hc.mono ?_; rintro e w2 ⟨rfl, A2, c2, h2⟩; clear hc)
        with_reducible refine bodyPost_end (v := .tuple #[]) (by simp [results, Try.results54]) rfl ?_
        exact ⟨rfl, A2, c2, h2.before HBL.out⟩

end Go.Proofs.Ytejombofjakllaa
