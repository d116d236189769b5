/-
  Contracts of serifref03: Bytes, U.
-/
import Derived.Test.YtejombofjakllaaWireE
import Derived.Deep.OwnRows
namespace Go.Proofs.Ytejombofjakllaa
open Go.RowKit

/-- The bytes behind k rounds: the last k are there. -/
def stepB (n : Nat) (x : Int) (k : Nat) : List UInt8 := (List.range n).map fun j => if j < n - k then 0 else byteAt n j x
theorem stepB_length (n : Nat) (x : Int) (k : Nat) : (stepB n x k).length = n := by simp [stepB]
theorem stepB_zero (n : Nat) (x : Int) : stepB n x 0 = List.replicate n 0 := by
  apply List.ext_getElem
  · simp [stepB]
  · intro i h1 h2
    simp [stepB] at h1 ⊢
    omega
theorem stepB_all (n : Nat) (x : Int) : stepB n x n = beB n x := by simp [stepB, beB]
theorem stepB_next (n : Nat) (x : Int) (k : Nat) (h : k < n) : stepB n x (k + 1) = (stepB n x k).set (n - 1 - k) (byteAt n (n - 1 - k) x) := by
  apply List.ext_getElem
  · simp [stepB]
  · intro i h1 h2
    simp [stepB] at h1 ⊢
    rw [List.getElem_set]
    by_cases hi : n - 1 - k = i
    · subst hi
      simp
      omega
    · simp [hi]
      by_cases hlt : i < n - (k + 1)
      · rw [if_pos hlt, if_pos (by omega)]
      · rw [if_neg hlt, if_neg (by omega)]

theorem make_bytes (n : Nat) (h : n ≤ 140737488355328) (w : World) : (Instr.makeSlice 25 (.int .i64 n) (.int .i64 n)).run Try.prog w =
    .ok (.slice (some ⟨w.heap.size, 0, none⟩) n n) (w.alloc (.cells ((List.replicate n (0 : UInt8)).map byteV).toArray 5)) := by
  rw [run_make_row' 25 5 (.int .u8 0) 1 Try.underlying25 u8_info rfl .i64 .i64 n (by omega) (by omega) w]
  congr 3
  apply Array.ext
  · simp [madeCells]
  · intro i h1 h2
    simp [madeCells, byteV, Nat.mod_one]

set_option maxHeartbeats 1000000 in
theorem bytes_O (w : World) (n : Nat) (x : Int) (hn : 0 < n) (hn8 : n ≤ 8) :
    Calls Try.prog 55 #[.int .i64 n, .int .i64 x] w fun e w' => ∃ g, w.heap.size ≤ g ∧ e = .returned (.slice (some ⟨g, 0, none⟩) n n) ∧ Blk w' g 5 ((beB n x).map byteV) ∧ Below w.heap.size w w' := by
  have hmk := make_bytes n (by omega) w
  have hB := Blk.new w 5 ((List.replicate n (0 : UInt8)).map byteV)
  have hb : Below w.heap.size w (w.alloc (.cells ((List.replicate n (0 : UInt8)).map byteV).toArray 5)) := (bel_alloc bel_refl).below
  generalize hW : w.alloc (.cells ((List.replicate n (0 : UInt8)).map byteV).toArray 5) = W at hmk hB hb
  obtain ⟨g, hg⟩ : ∃ g, w.heap.size = g := ⟨_, rfl⟩
  rw [hg] at hmk hB hb ⊢
  go_enter Try.func55, Try.ntmps55
  go_wp2
  go_loopw [6] (fun i wr => ∃ k : Nat, k ≤ n ∧ i = .int .i64 k ∧ Blk wr g 5 ((stepB n x k).map byteV) ∧ Below g w wr) (fun i _ => n - (intOf i).toNat)
  case atStart => exact ⟨0, Nat.zero_le _, rfl, by rw [stepB_zero]; exact hB, hb⟩
  case round =>
    obtain ⟨k, hk, rfl, hB, hb⟩ := hrel
    have HB := Lib.hid hB
    have HBE := Lib.hid hb
    clear hb
    by_cases hlt : k < n
    · have c1 : wr.cell? ⟨g, n - 1 - k, none⟩ = some (byteV (((stepB n x k).getD (n - 1 - k) 0))) := by
        rw [hB.cell, List.getElem?_map, List.getD_eq_getElem?_getD, List.getElem?_eq_getElem (by rw [stepB_length]; omega)]
        rfl
      have f1 := hB.frozen (n - 1 - k)
      clear hB
      have hsn : (8 * (k : Int)).toNat = 8 * k := by omega
      have hidx : ((n : Int) - 1 - (k : Int)).toNat = n - 1 - k := by omega
      have hw1 : IntKind.i64.wrap ((n : Int) - 1) = (n : Int) - 1 := IntWalk.i64_in _ (by omega)
      have hw2 : IntKind.i64.wrap ((n : Int) - 1 - k) = (n : Int) - 1 - k := IntWalk.i64_in _ (by omega)
      have hw3 : IntKind.i64.wrap (8 * (k : Int)) = 8 * (k : Int) := IntWalk.i64_in _ (by omega)
      go_wp2
      refine ⟨⟨k + 1, by omega, by go_num, ?_, ?_⟩, by simp [intOf]; omega⟩
      · have e : Value.int .u8 (x / 2 ^ (8 * k) % 256) = byteV (byteAt n (n - 1 - k) x) := by
          rw [byteV_of]
          unfold byteAt
          rw [show n - 1 - (n - 1 - k) = k by omega]
        rw [e, stepB_next n x k hlt, List.map_set]
        exact HB.out.set _ _
      · have h := HBE.out
        exact ⟨h.os, h.tape, h.output, by simpa [World.setCell] using h.size, fun j hj => (Below.heap_setCell wr ⟨g, n - 1 - k, none⟩ _ j (by simp only; omega)).trans (h.block j hj)⟩
    · obtain rfl : n = k := by omega
      rw [stepB_all] at hB
      clear HB
      have HB := Lib.hid hB
      clear hB
      go_wp2
      go_ret
      exact ⟨g, Nat.le_refl _, rfl, HB.out, HBE.out⟩
theorem bytes_W (w : World) (n : Nat) (x : Int) (hn : 0 < n) (hn8 : n ≤ 8) :
    Calls Try.prog 55 #[.int .i64 n, .int .i64 x] w fun e w' => ∃ A', e = .returned (.slice A' n n) ∧ SlAt w' A' n ((beB n x).map byteV) ∧ Below w.heap.size w w' :=
  (bytes_O w n x hn hn8).mono fun _ _ ⟨g, _, he, hB, hb⟩ => ⟨some ⟨g, 0, none⟩, he, ⟨by simp [beB_length], fun j _ => ⟨g, 0, rfl, hB.lt, by rw [Nat.zero_add]; exact hB.cell j⟩⟩, hb⟩

theorem WrN.before {T : TypeId} {w w1 w2 : World} {g : Nat} {s : List UInt8 × Bool} {room : Int} {A0 A : Option Addr} {c : Nat} (h : WrN T w1 w2 g s room A0 A c) (hb : Below w.heap.size w w1) : WrN T w w2 g s room A0 A c :=
  ⟨h.wr, (Turn.of_below hb).trans h.turn (.inl rfl), h.row.imp id (fun hr k hk => Nat.le_trans hb.size (hr k hk)), h.fit⟩

set_option maxHeartbeats 1000000 in
theorem u_W (w : World) (g : Nat) (s : List UInt8 × Bool) (room : Int) (A : Option Addr) (c n : Nat) (x : Int) (h : Wr 78 w g s.1 room s.2 A c)
    (hr : 0 ≤ room) (hr2 : room ≤ 1099511627776) (hl : (s.1.length : Int) ≤ room) (hn : 0 < n) (hn8 : n ≤ 8) :
    Calls Try.prog 51 #[.pointer (some ⟨g, 0, none⟩), .int .i64 n, .int .i64 x] w fun e w' =>
      e = .returned (.tuple #[]) ∧ ∃ A' c', WrN 78 w w' g (putF room s (beB n x)) room A A' c' := by
  have hlen := beB_length n x
  go_enter Try.func51, Try.ntmps51
  go_wp2_with (first | (go_at_call 55; refine (bytes_W _ _ _ hn hn8).mono ?_; rintro e w1 ⟨A1, rfl, hs1, hb1⟩; have h1 := h.keep hb1) | (go_at_call 52; have hs2 := (by rw [hlen]; exact hs1 : SlAt w1 A1 (beB n x).length ((beB n x).map byteV)); refine (hlen ▸ rdata_W _ _ _ _ _ _ (beB n x) A1 n h1 hr hr2 hl hs2).mono ?_; rintro e w2 ⟨rfl, A2, c2, h2⟩))
  with_reducible refine bodyPost_end (v := .tuple #[]) (by simp [results, Try.results51]) rfl ?_
  exact ⟨rfl, A2, c2, h2.before hb1⟩

end Go.Proofs.Ytejombofjakllaa
