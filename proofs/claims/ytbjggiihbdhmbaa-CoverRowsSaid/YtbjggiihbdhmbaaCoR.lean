/-
  Layer 22: the pieces of a line that may not be: none.
-/
import Derived.Test.YtbjggiihbdhmbaaCoL
import Derived.Test.YtbjggiihbdhmbaaCoQ
namespace Go.Proofs.Ytbjggiihbdhmbaa
open Go.RowKit Go.Shelf

attribute [local go_sem] Oper.semAt_some
set_option maxRecDepth 20000 in
set_option maxHeartbeats 2000000 in
theorem rows_none {u : World} {a d : Dt} (n ba bd : Nat) (ha : Blk u ba 36 [.int .i64 a.1, .int .i64 a.2]) (hd : Blk u bd 36 [.int .i64 d.1, .int .i64 d.2]) (hno : (dotB a && dotB d) = false) {Kp : World → World → Prop} :
    GivesB n Try.prog 42 #[.pointer (some ⟨ba, 0, none⟩), .pointer (some ⟨bd, 0, none⟩)] pcV Kp (fun _ _ => False) (fun xs => xs = []) (fun _ => False) u := by
  intro l J Jx W hW hJ hJx hY h0
  have ha' := ha.keepB hW
  have hd' := hd.keepB hW
  have a0 : W.cell? ⟨ba, 0, none⟩ = some (.int .i64 a.1) := ha'.cell 0
  have a1 : W.cell? ⟨ba, 1, none⟩ = some (.int .i64 a.2) := ha'.cell 1
  have d0 : W.cell? ⟨bd, 0, none⟩ = some (.int .i64 d.1) := hd'.cell 0
  have d1 : W.cell? ⟨bd, 1, none⟩ = some (.int .i64 d.2) := hd'.cell 1
  have al := ha'.lt
  have dl := hd'.lt
  have hma := fun w => mayDot_any a w
  have hmd := fun w => mayDot_any d w
  have HJ := Lib.hid hJ
  have H0 := Lib.hid h0
  cases h1 : dotB a with
  | false =>
    rw [h1] at hma
    have HMA := Lib.hid hma
    clear ha hd hJ hJx hY h0 ha' hd' hma hmd h1 hno hW
    refine callsIn_of_wp Try.func42 rfl trivial ?_ rfl
    simp only [Try.ntmps42, List.size_toArray, List.length_cons, List.length_nil, Nat.reduceAdd, Nat.reduceSub, Array.replicate_succ, Array.replicate_zero, List.push_toArray, List.append_toArray, List.nil_append, List.cons_append]
    gi_wp2_with (first | (refine ⟨trivial, fun he => (by cases he), ?_⟩; (with_reducible refine (callsIn_wide.2 (HMA.out _)).mono ?_); rintro e w1 ⟨rfl, hb1⟩; obtain ⟨hc1, hf1, hz1⟩ := bcell hb1; (try simp at hz1); have HB1 := Lib.hid hb1; clear hb1) | refine ⟨trivial, ?_⟩)
    refine bodyPost_ret (results_none rfl _ _ _) rfl ?_
    exact ⟨⟨_, rfl⟩, .inl ⟨[], rfl, HJ.out _ _ _ H0.out HB1.out⟩⟩
  | true =>
    rw [h1] at hma
    rw [h1, Bool.true_and] at hno
    rw [hno] at hmd
    have HMA := Lib.hid hma
    have HMD := Lib.hid hmd
    clear ha hd hJ hJx hY h0 ha' hd' hma hmd h1 hno hW
    refine callsIn_of_wp Try.func42 rfl trivial ?_ rfl
    simp only [Try.ntmps42, List.size_toArray, List.length_cons, List.length_nil, Nat.reduceAdd, Nat.reduceSub, Array.replicate_succ, Array.replicate_zero, List.push_toArray, List.append_toArray, List.nil_append, List.cons_append]
    gi_wp2_with (first
      | (refine ⟨trivial, fun he => (by cases he), ?_⟩; (with_reducible refine (callsIn_wide.2 (HMA.out _)).mono ?_); rintro e w1 ⟨rfl, hb1⟩; obtain ⟨hc1, hf1, hz1⟩ := bcell hb1; (try simp at hz1); have HB1 := Lib.hid hb1; clear hb1)
      | (refine ⟨trivial, fun he => (by cases he), ?_⟩; (with_reducible refine (callsIn_wide.2 (HMD.out _)).mono ?_); rintro e w2 ⟨rfl, hb2⟩; obtain ⟨hc2, hf2, hz2⟩ := bcell hb2; (try simp at hz2); have HB2 := Lib.hid hb2; clear hb2))
    refine bodyPost_ret (results_none rfl _ _ _) rfl ?_
    exact ⟨⟨_, rfl⟩, .inl ⟨[], rfl, HJ.out _ _ _ H0.out (HB1.out.trans (HB2.out.mono HB1.out.size))⟩⟩
theorem rowsN_up (a d : Dt) : ∀ (n : Nat) (last : Dt), ∀ p ∈ rowsN a d n last, p.A.2 / 64 = p.row ∧ p.B.2 ≤ 64 * p.row + 64
  | 0, _, p, h => by cases h
  | n + 1, last, p, h => by
    unfold rowsN at h
    split at h
    · rcases List.mem_cons.1 h with rfl | h
      · refine ⟨rfl, ?_⟩
        show (nextD a d last).2 ≤ 64 * (last.2 / 64) + 64
        unfold nextD
        split
        · show 64 * (last.2 / 64 + 1) ≤ _
          omega
        · show d.2 ≤ _
          omega
      · exact rowsN_up a d n _ p h
    · cases h
end Go.Proofs.Ytbjggiihbdhmbaa
