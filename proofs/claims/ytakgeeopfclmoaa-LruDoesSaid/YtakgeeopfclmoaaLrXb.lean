/-
  Layer 25: LruLast, whatever the budget.
-/
import Derived.Test.YtakgeeopfclmoaaLrXa
namespace Go.Proofs.Ytakgeeopfclmoaa
open Go.RowKit Go.Maps

theorem key_of {w : World} {cs : List Value} (hl : cs.length = 4) (h : CellsOk w [.int .i64, .int .i64, .int .i64, .int .i64] (fun j => cs[j]?)) : ∃ k : K4, cs = [.int .i64 k.g, .int .i64 k.p, .int .i64 k.x, .int .i64 k.y] ∧ k.wf := by
  simp only [CellsOk, and_true, Nat.add_zero] at h
  obtain ⟨⟨u, hu, ku⟩, ⟨v, hv, kv⟩, ⟨s, hs, ks⟩, t, ht, kt⟩ := h
  simp only [CellOk] at ku kv ks kt
  obtain ⟨x, rfl, w1⟩ := ku
  obtain ⟨y, rfl, w2⟩ := kv
  obtain ⟨z, rfl, w3⟩ := ks
  obtain ⟨o, rfl, w4⟩ := kt
  match cs, hl with
  | [p, q, r, m], _ =>
    simp at hu hv hs ht
    exact ⟨⟨x, y, z, o⟩, by rw [hu, hv, hs, ht], ⟨w1, w2, w3, w4⟩⟩
theorem lruLast_any (budget : Int) {w : World} {A : Option Addr} {n c : Nat} {os : List Cq} (hl : os.length = n) (hA : CallsAt w A os) (hc : n ≤ c) (k : K4) (hkw : k.wf) :
    Calls Try.prog 3 #[.int .i64 budget, .slice A n c, .agg #[.int .i64 k.g, .int .i64 k.p, .int .i64 k.x, .int .i64 k.y]] w fun e w' => e = .returned (.bool true) ∧ Below w.heap.size w w' := by
  rcases Bool.eq_false_or_eq_true (budB budget) with hbud | hbud
  · exact lruLast_in budget hl hA hc k hkw hbud
  · have hmay := fun w => rMayBud_any budget w
    rw [hbud] at hmay
    have HM := Lib.hid hmay
    have HN := Lib.hid (fun w => New_no (w := w) budget hbud)
    clear hl hA hkw hmay hbud
    go_enter Try.func3, Try.ntmps3
    go_wp2_with (first
      | (go_at_call 8; (with_reducible refine (HN.out _).mono ?_); rintro e w1 ⟨rfl, rfl⟩)
      | (go_at_call 9; (with_reducible refine (lives_any _).mono ?_); rintro e w2 ⟨rfl, hb2⟩)
      | (go_at_call 10; (with_reducible refine (HM.out _).mono ?_); rintro e w3 ⟨rfl, rfl⟩))
    go_ret
    refine ⟨rfl, Bel.below ?_⟩
    repeat (first | with_reducible exact bel_refl | with_reducible apply bel_alloc | with_reducible apply bel_drewN | with_reducible apply bel_drew | (with_reducible refine bel_set ?_ ?_; rotate_left; · first | (simp; done) | (simp; omega) | omega) | with_reducible refine bel_call (by assumption) ?_)
end Go.Proofs.Ytakgeeopfclmoaa
