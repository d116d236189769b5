/-
  affine.Hull and serifref02.Hull: loops over two slices.
-/
import Derived.Test.YtbflncfhbmlibaaAffF
import Derived.Deep.Slices
import Derived.Test.YtbflncfhbmlibaaBlk
namespace Go.Proofs.Ytbflncfhbmlibaa
open Go.RowKit

def at0 (xs : List Int) (k : Nat) : Int := xs.getD k 0
/-- A slice of ints that reads as a list. -/
def IntsAt (w : World) (A : Option Addr) (n : Nat) (xs : List Int) : Prop :=
  xs.length = n ∧ ∀ k, k < n → ∃ b o, A = some ⟨b, o, none⟩ ∧ b < w.heap.size ∧ w.cell? ⟨b, o + k, none⟩ = some (.int .i64 (at0 xs k))

def hullStep (B : Bx) (x y : Int) : Bx := ⟨min B.x0 x, min B.y0 y, max B.x1 x, max B.y1 y⟩
/-- The hull of the first k points. -/
def hullTo (xs ys : List Int) : Nat → Bx
  | 0 => ⟨0, 0, 0, 0⟩
  | k + 1 => if k = 0 then hullStep ⟨at0 xs 0, at0 ys 0, at0 xs 0, at0 ys 0⟩ (at0 xs 0) (at0 ys 0) else hullStep (hullTo xs ys k) (at0 xs k) (at0 ys k)


def allMay (xs ys : List Int) : Nat → Bool
  | 0 => true
  | k + 1 => allMay xs ys k && (mayB (at0 xs k) && mayB (at0 ys k))
theorem allMay_le {xs ys : List Int} {k n : Nat} (hk : k ≤ n) (h : allMay xs ys n = true) : allMay xs ys k = true := by
  induction n with
  | zero => obtain rfl : k = 0 := by omega
            exact h
  | succ n ih =>
    rcases Nat.lt_or_ge n k with h' | h'
    · obtain rfl : k = n + 1 := by omega
      exact h
    · simp only [allMay, Bool.and_eq_true] at h
      exact ih h' h.1
theorem allMay_bad {xs ys : List Int} {k n : Nat} (hk : k < n) (h : (mayB (at0 xs k) && mayB (at0 ys k)) = false) : allMay xs ys n = false := by
  cases h2 : allMay xs ys n with
  | false => rfl
  | true =>
    have := allMay_le (k := k + 1) (by omega) h2
    simp [allMay, h] at this
def hullE (xs ys : List Int) (n : Nat) : Bx × Int := if allMay xs ys n = true then (hullTo xs ys n, 0) else (⟨0, 0, 0, 0⟩, 10)

set_option maxHeartbeats 1000000 in
theorem Hull_any (A C : Option Addr) (n ca cc : Nat) (xs ys : List Int) (w : World) (hn : n ≤ 5000) (hx : IntsAt w A n xs) (hy : IntsAt w C n ys) :
    Calls Try.prog 50 #[.slice A n ca, .slice C n cc] w fun e w' =>
      e = .returned (.tuple #[.agg #[.int .i64 (hullE xs ys n).1.x0, .int .i64 (hullE xs ys n).1.y0, .int .i64 (hullE xs ys n).1.x1, .int .i64 (hullE xs ys n).1.y1], .int .i64 (hullE xs ys n).2]) ∧ Below w.heap.size w w' := by
  go_enter Try.func50, Try.ntmps50
  go_wp2_with fail
  have hb0 : Below w.heap.size w ((w.alloc (.cells #[.int .i64 0, .int .i64 0, .int .i64 0, .int .i64 0] 26)).alloc (.cells #[.int .i64 0, .int .i64 0, .int .i64 0, .int .i64 0] 26)) := by
    refine Bel.below ?_
    repeat (first | with_reducible exact bel_refl | with_reducible apply bel_alloc | with_reducible apply bel_drewN | with_reducible apply bel_drew | (with_reducible refine bel_set ?_ ?_; rotate_left; · first | (simp; done) | (simp; omega) | omega) | with_reducible refine bel_call (by assumption) ?_)
  go_loopw [19] (fun i wr => ∃ k : Nat, k ≤ n ∧ i = .int .i64 k ∧ allMay xs ys k = true ∧ Blk wr w.heap.size 26 [.int .i64 0, .int .i64 0, .int .i64 0, .int .i64 0] ∧
      Blk wr (w.heap.size + 1) 26 [.int .i64 (hullTo xs ys k).x0, .int .i64 (hullTo xs ys k).y0, .int .i64 (hullTo xs ys k).x1, .int .i64 (hullTo xs ys k).y1] ∧ Below w.heap.size w wr) (fun i _ => n - (intOf i).toNat)
  case atStart => exact ⟨0, Nat.zero_le _, rfl, rfl, (Blk.new _ _ [_, _, _, _]).alloc _, by simpa [hullTo] using Blk.new (w.alloc (.cells #[.int .i64 0, .int .i64 0, .int .i64 0, .int .i64 0] 26)) 26 [.int .i64 0, .int .i64 0, .int .i64 0, .int .i64 0], hb0⟩
  case round =>
    obtain ⟨k, hk, rfl, hall, hB0, hB1, hbr⟩ := hrel
    have hz := hB1.lt
    have f0 := hB1.frozen
    have f1 := hB0.frozen
    have c0 := hB1.cell 0
    have c1 := hB1.cell 1
    have c2 := hB1.cell 2
    have c3 := hB1.cell 3
    have d0 := hB0.cell 0
    have d1 := hB0.cell 1
    have d2 := hB0.cell 2
    have d3 := hB0.cell 3
    have HALL := Lib.hid hall
    clear hall
    by_cases hlt : k < n
    · obtain ⟨b, o, rfl, hbl, hxc⟩ := hx.2 k hlt
      obtain ⟨b', o', rfl, hbl', hyc⟩ := hy.2 k hlt
      rw [← hbr.cell (p := ⟨b, o + k, none⟩) hbl] at hxc
      rw [← hbr.cell (p := ⟨b', o' + k, none⟩) hbl'] at hyc
      simp at c0 c1 c2 c3 d0 d1 d2 d3
      have HB0 := Lib.hid hB0
      have HB1 := Lib.hid hB1
      clear hB0 hB1
      rcases Bool.eq_false_or_eq_true (mayB (at0 xs k)) with m1 | m1
      rcases Bool.eq_false_or_eq_true (mayB (at0 ys k)) with m2 | m2
      rotate_left
      · have hA := Lib.hid (show hullE xs ys n = (⟨0, 0, 0, 0⟩, 10) by simp [hullE, allMay_bad hlt (show (mayB (at0 xs k) && mayB (at0 ys k)) = false by simp [m1, m2])])
        go_wp2_with fail
        go_quiet (fail)
        go_wp2_with (first | (go_at_call 77; refine (fmay_any _ _).mono ?_; rintro e w1 ⟨rfl, rfl⟩) | (with_reducible refine bodyPost_ret (v := .tuple #[.agg #[.int .i64 (hullE xs ys n).1.x0, .int .i64 (hullE xs ys n).1.y0, .int .i64 (hullE xs ys n).1.x1, .int .i64 (hullE xs ys n).1.y1], .int .i64 (hullE xs ys n).2]) ?_ rfl ?_; (focus (rw [hA.out]; simp [results, Try.results50, go_sem, *])); (focus (refine ⟨rfl, Bel.below ?_⟩; (repeat (first | with_reducible exact ⟨hbr, by omega⟩ | with_reducible apply bel_alloc | with_reducible apply bel_drewN | with_reducible apply bel_drew | (with_reducible refine bel_set ?_ ?_; rotate_left; · first | (simp; done) | (simp; omega) | omega) | with_reducible refine bel_call (by assumption) ?_))))))
      · have hA := Lib.hid (show hullE xs ys n = (⟨0, 0, 0, 0⟩, 10) by simp [hullE, allMay_bad hlt (show (mayB (at0 xs k) && mayB (at0 ys k)) = false by simp [m1])])
        go_wp2_with fail
        go_quiet (fail)
        go_wp2_with (first | (go_at_call 77; refine (fmay_any _ _).mono ?_; rintro e w1 ⟨rfl, rfl⟩) | (with_reducible refine bodyPost_ret (v := .tuple #[.agg #[.int .i64 (hullE xs ys n).1.x0, .int .i64 (hullE xs ys n).1.y0, .int .i64 (hullE xs ys n).1.x1, .int .i64 (hullE xs ys n).1.y1], .int .i64 (hullE xs ys n).2]) ?_ rfl ?_; (focus (rw [hA.out]; simp [results, Try.results50, go_sem, *])); (focus (refine ⟨rfl, Bel.below ?_⟩; (repeat (first | with_reducible exact ⟨hbr, by omega⟩ | with_reducible apply bel_alloc | with_reducible apply bel_drewN | with_reducible apply bel_drew | (with_reducible refine bel_set ?_ ?_; rotate_left; · first | (simp; done) | (simp; omega) | omega) | with_reducible refine bel_call (by assumption) ?_))))))
      · have HALL2 := Lib.hid (show allMay xs ys (k + 1) = true by simp [allMay, HALL.out, m1, m2])
        by_cases hk0 : k = 0
        · subst hk0
          simp [hullTo] at c0 c1 c2 c3 hxc hyc
          go_wp2_with fail
          go_quiet (fail)
          go_wp2_with (first | (go_at_call 77; refine (fmay_any _ _).mono ?_; rintro e w1 ⟨rfl, rfl⟩) | (go_at_call 68; refine (pair_lm _ _ _ _ _ _ _ _ _).mono ?_; rintro e w1 ⟨rfl, hb1⟩; obtain ⟨hc1, hf1, hz1⟩ := bcell hb1; (try simp at hz1)))
          go_roundw
          case rel =>
            refine ⟨1, by omega, by go_num, HALL2.out, ?_, ?_, Bel.below ?_⟩
            · have HB := HB0.out
              repeat (first | with_reducible assumption | with_reducible apply Blk.set | with_reducible apply Blk.drewN | with_reducible apply Blk.drew | with_reducible apply Blk.alloc | (with_reducible apply Blk.farI; (focus (first | (simp; done) | (simp; omega) | omega))) | (with_reducible apply Blk.belowI; (focus assumption); (focus (first | (simp; done) | (simp; omega) | omega))))
            · have HB := HB1.out
              apply Blk.to
              · repeat (first | with_reducible assumption | with_reducible apply Blk.set | with_reducible apply Blk.drewN | with_reducible apply Blk.drew | with_reducible apply Blk.alloc | (with_reducible apply Blk.farI; (focus (first | (simp; done) | (simp; omega) | omega))) | (with_reducible apply Blk.belowI; (focus assumption); (focus (first | (simp; done) | (simp; omega) | omega))))
              · simp [hullTo, hullStep]
            · repeat (first | with_reducible exact ⟨hbr, by omega⟩ | with_reducible apply bel_alloc | with_reducible apply bel_drewN | with_reducible apply bel_drew | (with_reducible refine bel_set ?_ ?_; rotate_left; · first | (simp; done) | (simp; omega) | omega) | with_reducible refine bel_call (by assumption) ?_)
          case measure => simp [intOf]; omega
        · have hk1 : ((k : Int) == 0) = false := by simp; omega
          go_wp2_with fail
          go_quiet (fail)
          go_wp2_with (first | (go_at_call 77; refine (fmay_any _ _).mono ?_; rintro e w1 ⟨rfl, rfl⟩) | (go_at_call 68; refine (pair_lm _ _ _ _ _ _ _ _ _).mono ?_; rintro e w1 ⟨rfl, hb1⟩; obtain ⟨hc1, hf1, hz1⟩ := bcell hb1; (try simp at hz1)))
          go_roundw
          case rel =>
            refine ⟨k + 1, by omega, by go_num, HALL2.out, ?_, ?_, Bel.below ?_⟩
            · have HB := HB0.out
              repeat (first | with_reducible assumption | with_reducible apply Blk.set | with_reducible apply Blk.drewN | with_reducible apply Blk.drew | with_reducible apply Blk.alloc | (with_reducible apply Blk.farI; (focus (first | (simp; done) | (simp; omega) | omega))) | (with_reducible apply Blk.belowI; (focus assumption); (focus (first | (simp; done) | (simp; omega) | omega))))
            · have HB := HB1.out
              apply Blk.to
              · repeat (first | with_reducible assumption | with_reducible apply Blk.set | with_reducible apply Blk.drewN | with_reducible apply Blk.drew | with_reducible apply Blk.alloc | (with_reducible apply Blk.farI; (focus (first | (simp; done) | (simp; omega) | omega))) | (with_reducible apply Blk.belowI; (focus assumption); (focus (first | (simp; done) | (simp; omega) | omega))))
              · simp [hullTo, hullStep, hk0]
            · repeat (first | with_reducible exact ⟨hbr, by omega⟩ | with_reducible apply bel_alloc | with_reducible apply bel_drewN | with_reducible apply bel_drew | (with_reducible refine bel_set ?_ ?_; rotate_left; · first | (simp; done) | (simp; omega) | omega) | with_reducible refine bel_call (by assumption) ?_)
          case measure => simp [intOf]; omega
    · obtain rfl : n = k := by omega
      have hA := Lib.hid (show hullE xs ys n = (hullTo xs ys n, 0) by rw [hullE, if_pos HALL.out])
      simp at c0 c1 c2 c3 d0 d1 d2 d3
      go_wp2_with (with_reducible refine bodyPost_ret (v := .tuple #[.agg #[.int .i64 (hullE xs ys n).1.x0, .int .i64 (hullE xs ys n).1.y0, .int .i64 (hullE xs ys n).1.x1, .int .i64 (hullE xs ys n).1.y1], .int .i64 (hullE xs ys n).2]) ?_ rfl ?_; (focus (rw [hA.out]; simp [results, Try.results50, go_sem, *])); (focus (refine ⟨rfl, Bel.below ?_⟩; (repeat (first | with_reducible exact ⟨hbr, by omega⟩ | with_reducible apply bel_alloc | with_reducible apply bel_drewN | with_reducible apply bel_drew | (with_reducible refine bel_set ?_ ?_; rotate_left; · first | (simp; done) | (simp; omega) | omega) | with_reducible refine bel_call (by assumption) ?_)))))

end Go.Proofs.Ytbflncfhbmlibaa
