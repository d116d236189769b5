/-
  Layer 25: a slot is put ahead of all others.
-/
import Derived.Test.YtakgeeopfclmoaaLrE
import Derived.BigRegion
namespace Go.Proofs.Ytakgeeopfclmoaa
open Go.RowKit Go.Maps

section
variable {B : Bz} {g : Nat} {w : World} {Y : Lay} {S : Lk} {fr : List Nat} {E : List (K4 × Nat)} {held budget : Int}
set_option maxRecDepth 20000 in
set_option maxHeartbeats 2000000 in
theorem lead_0 (h : Lr w g B Y S fr E held budget) {i : Nat} {s : Sl} (hs : S.ss[i]? = some s) (hf : S.first = -1) :
    Calls Try.prog 30 #[.pointer (some ⟨g, 0, none⟩), .int .i64 i] w fun e w' => e = .returned (.tuple #[]) ∧ Lr w' g B Y (leadS S i) fr E held budget ∧ KeepT B w w' := by
  have hi := (List.getElem?_eq_some_iff.1 hs).1
  have hi' : (i : Int) < S.ss.length := by omega
  obtain ⟨sb, hA, hB, hlt, hne, hot, hcap⟩ := h.slotA (by omega)
  have c9 : w.cell? ⟨sb, i * 11 + 9, none⟩ = some (.int .i64 s.ahead) := h.cell hA hs rfl
  have c10 : w.cell? ⟨sb, i * 11 + 10, none⟩ = some (.int .i64 s.next) := h.cell hA hs rfl
  have d9 := h.frz hA (i * 11 + 9)
  have d10 := h.frz hA (i * 11 + 10)
  have g0 : w.cell? ⟨g, 0, none⟩ = some (.slice (some ⟨sb, 0, none⟩) S.ss.length Y.c) := by rw [h.blk.cell 0, hA]; rfl
  have g2 : w.cell? ⟨g, 2, none⟩ = some (.int .i64 (-1)) := by rw [h.blk.cell 2, ← hf]; rfl
  have f2 := h.blk.frozen 2
  have g3 : w.cell? ⟨g, 3, none⟩ = some (.int .i64 S.last) := by rw [h.blk.cell 3]; rfl
  have f3 := h.blk.frozen 3
  have hgl := h.blk.lt
  have H := Lib.hid h
  have HY := Lib.hid hA
  have HT := Lib.hid hot
  have HU : Hid (leadS S i = { ss := (S.ss.modify i (setA (-1))).modify i (setN (-1)), first := i, last := i }) := Lib.hid (by unfold leadS; simp [hf])
  clear h hs hf hA hot
  generalize s.ahead = sa at *
  generalize s.next = sn at *
  go_enter Try.func30, Try.ntmps30
  go_wp2_with fail
  go_region
  all_goals
    go_wp2_with fail
    go_end0
    refine ⟨rfl, ?_⟩
    rw [HU.out]
    have HB : B ≤ w.heap.size := Nat.le_trans hB (Nat.le_of_lt hlt)
    refine ⟨?_, ?_⟩
    · have h1 := H.out.setS HY.out (f := setA (-1)) (i := i) (j := 9) (v := .int .i64 (-1)) (fun _ => rfl) (fun _ => ⟨rfl, rfl, rfl⟩) (by omega) hi
      have h2 := h1.setS HY.out (f := setN (-1)) (i := i) (j := 10) (v := .int .i64 (-1)) (fun _ => rfl) (fun _ => ⟨rfl, rfl, rfl⟩) (by omega) (by show i < (S.ss.modify i (setA (-1))).length; rw [List.length_modify]; exact hi)
      have h3 := (h2.setG (S' := { ss := (S.ss.modify i (setA (-1))).modify i (setN (-1)), first := S.first, last := i }) 3 (.int .i64 i) rfl rfl).setG (S' := { ss := (S.ss.modify i (setA (-1))).modify i (setN (-1)), first := i, last := i }) 2 (.int .i64 i) rfl rfl
      exact h3.drewN 1
    · (repeat (first | with_reducible exact KeepT.refl HB | with_reducible apply KeepT.alloc | with_reducible apply KeepT.drewN | with_reducible apply KeepT.drew | (with_reducible refine KeepT.set ?_ ?_ ?_ _; rotate_left; (focus (first | exact hB | exact H.out.base.1)); (focus (first | exact HT.out | exact H.out.hotg)))))
set_option maxRecDepth 20000 in
set_option maxHeartbeats 2000000 in
theorem lead_1 (h : Lr w g B Y S fr E held budget) {i j : Nat} {s : Sl} (hs : S.ss[i]? = some s) (hf : S.first = (j : Int)) (hj : j < S.ss.length) (hij : j ≠ i) :
    Calls Try.prog 30 #[.pointer (some ⟨g, 0, none⟩), .int .i64 i] w fun e w' => e = .returned (.tuple #[]) ∧ Lr w' g B Y (leadS S i) fr E held budget ∧ KeepT B w w' := by
  have hi := (List.getElem?_eq_some_iff.1 hs).1
  have hi' : (i : Int) < S.ss.length := by omega
  obtain ⟨sb, hA, hB, hlt, hne, hot, hcap⟩ := h.slotA (by omega)
  have c9 : w.cell? ⟨sb, i * 11 + 9, none⟩ = some (.int .i64 s.ahead) := h.cell hA hs rfl
  have c10 : w.cell? ⟨sb, i * 11 + 10, none⟩ = some (.int .i64 s.next) := h.cell hA hs rfl
  have d9 := h.frz hA (i * 11 + 9)
  have d10 := h.frz hA (i * 11 + 10)
  have g0 : w.cell? ⟨g, 0, none⟩ = some (.slice (some ⟨sb, 0, none⟩) S.ss.length Y.c) := by rw [h.blk.cell 0, hA]; rfl
  have g2 : w.cell? ⟨g, 2, none⟩ = some (.int .i64 j) := by rw [h.blk.cell 2, ← hf]; rfl
  have f2 := h.blk.frozen 2
  have cj : w.cell? ⟨sb, j * 11 + 9, none⟩ = some (.int .i64 S.ss[j].ahead) := h.cell hA (List.getElem?_eq_getElem hj) rfl
  have dj := h.frz hA (j * 11 + 9)
  have hj' : (j : Int) < S.ss.length := by omega
  have e1 : ((j : Int) == -1) = false := by simp
  generalize S.ss[j].ahead = ja at cj
  have g3 : w.cell? ⟨g, 3, none⟩ = some (.int .i64 S.last) := by rw [h.blk.cell 3]; rfl
  have f3 := h.blk.frozen 3
  have hgl := h.blk.lt
  have H := Lib.hid h
  have HY := Lib.hid hA
  have HT := Lib.hid hot
  have HU : Hid (leadS S i = { ss := ((S.ss.modify i (setA (-1))).modify i (setN j)).modify j (setA i), first := i, last := S.last }) := Lib.hid (by unfold leadS; simp [hf])
  clear h hs hf hA hot
  generalize s.ahead = sa at *
  generalize s.next = sn at *
  go_enter Try.func30, Try.ntmps30
  go_wp2_with fail
  go_region
  all_goals
    go_wp2_with fail
    refine wp_region_drew_tail 11 (by kernel_rfl) (by kernel_rfl) ?_
    simp only [List.take_succ_cons, List.take_zero, List.drop_succ_cons, List.drop_zero]
    repeat (go_big_quiet_step (fail))
    refine wpQuiet_nil ?_
    rintro _ ⟨nq, rfl⟩
    go_wp2_with fail
    go_end0
    refine ⟨rfl, ?_⟩
    rw [HU.out]
    have HB : B ≤ w.heap.size := Nat.le_trans hB (Nat.le_of_lt hlt)
    refine ⟨?_, ?_⟩
    · have h1 := H.out.setS HY.out (f := setA (-1)) (i := i) (j := 9) (v := .int .i64 (-1)) (fun _ => rfl) (fun _ => ⟨rfl, rfl, rfl⟩) (by omega) hi
      have h2 := h1.setS HY.out (f := setN j) (i := i) (j := 10) (v := .int .i64 j) (fun _ => rfl) (fun _ => ⟨rfl, rfl, rfl⟩) (by omega) (by show i < (S.ss.modify i (setA (-1))).length; rw [List.length_modify]; exact hi)
      have h3 := (h2.drewN (1 + nq)).setS HY.out (f := setA i) (i := j) (j := 9) (v := .int .i64 i) (fun _ => rfl) (fun _ => ⟨rfl, rfl, rfl⟩) (by omega) (by show j < ((S.ss.modify i (setA (-1))).modify i (setN j)).length; rw [List.length_modify, List.length_modify]; exact hj)
      have h4 := h3.setG (S' := { ss := ((S.ss.modify i (setA (-1))).modify i (setN j)).modify j (setA i), first := i, last := S.last }) 2 (.int .i64 i) rfl rfl
      exact h4
    · (repeat (first | with_reducible exact KeepT.refl HB | with_reducible apply KeepT.alloc | with_reducible apply KeepT.drewN | with_reducible apply KeepT.drew | (with_reducible refine KeepT.set ?_ ?_ ?_ _; rotate_left; (focus (first | exact hB | exact H.out.base.1)); (focus (first | exact HT.out | exact H.out.hotg)))))
theorem lead_any (h : Lr w g B Y S fr E held budget) {l : List Nat} {i : Nat} {s : Sl} (hl : Linked S l) (hs : S.ss[i]? = some s) (hi : i ∉ l) :
    Calls Try.prog 30 #[.pointer (some ⟨g, 0, none⟩), .int .i64 i] w fun e w' => e = .returned (.tuple #[]) ∧ Lr w' g B Y (leadS S i) fr E held budget ∧ KeepT B w w' := by
  have hlt := seg_lt hl.seg
  cases l with
  | nil => exact lead_0 h hs hl.first
  | cons j l => exact lead_1 h hs hl.first (hlt j (by simp)) (fun e => hi (by simp [e]))
end
end Go.Proofs.Ytakgeeopfclmoaa
