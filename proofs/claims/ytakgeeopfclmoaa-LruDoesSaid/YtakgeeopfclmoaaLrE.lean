/-
  Layer 25: a slot is taken out of the list, a slot is put ahead of all others.
-/
import Derived.Test.YtakgeeopfclmoaaLrD
namespace Go.Proofs.Ytakgeeopfclmoaa
open Go.RowKit Go.Maps

section
variable {B : Bz} {g : Nat} {w : World} {Y : Lay} {S : Lk} {fr : List Nat} {E : List (K4 × Nat)} {held budget : Int}
set_option maxRecDepth 20000 in
set_option maxHeartbeats 1000000 in
theorem unlink_00 (h : Lr w g B Y S fr E held budget) {i : Nat} {s : Sl} (hs : S.ss[i]? = some s) (ha : s.ahead = -1) (hn : s.next = -1) :
    Calls Try.prog 32 #[.pointer (some ⟨g, 0, none⟩), .int .i64 i] w fun e w' => e = .returned (.tuple #[]) ∧ Lr w' g B Y (unlinkS S s) fr E held budget ∧ KeepT B w w' := by
  have hi := (List.getElem?_eq_some_iff.1 hs).1
  obtain ⟨sb, hA, hB, hlt, hne, hot, hcap⟩ := h.slotA (by omega)
  have c0 : w.cell? ⟨sb, i * 11, none⟩ = some (.int .i64 s.k.g) := h.cell (j := 0) hA hs rfl
  have c1 : w.cell? ⟨sb, i * 11 + 1, none⟩ = some (.int .i64 s.k.p) := h.cell hA hs rfl
  have c2 : w.cell? ⟨sb, i * 11 + 2, none⟩ = some (.int .i64 s.k.x) := h.cell hA hs rfl
  have c3 : w.cell? ⟨sb, i * 11 + 3, none⟩ = some (.int .i64 s.k.y) := h.cell hA hs rfl
  have c4 : w.cell? ⟨sb, i * 11 + 4, none⟩ = some (.int .i64 s.m.box.a) := h.cell hA hs rfl
  have c5 : w.cell? ⟨sb, i * 11 + 5, none⟩ = some (.int .i64 s.m.box.b) := h.cell hA hs rfl
  have c6 : w.cell? ⟨sb, i * 11 + 6, none⟩ = some (.int .i64 s.m.box.c) := h.cell hA hs rfl
  have c7 : w.cell? ⟨sb, i * 11 + 7, none⟩ = some (.int .i64 s.m.box.d) := h.cell hA hs rfl
  have c8 : w.cell? ⟨sb, i * 11 + 8, none⟩ = some (.slice s.A s.m.bs.length s.c) := h.cell hA hs rfl
  have c9 : w.cell? ⟨sb, i * 11 + 9, none⟩ = some (.int .i64 (-1)) := (h.cell hA hs rfl).trans (by rw [ha])
  have c10 : w.cell? ⟨sb, i * 11 + 10, none⟩ = some (.int .i64 (-1)) := (h.cell hA hs rfl).trans (by rw [hn])
  have g0 : w.cell? ⟨g, 0, none⟩ = some (.slice (some ⟨sb, 0, none⟩) S.ss.length Y.c) := by rw [h.blk.cell 0, hA]; rfl
  have g2 : w.cell? ⟨g, 2, none⟩ = some (.int .i64 S.first) := by rw [h.blk.cell 2]; rfl
  have f2 := h.blk.frozen 2
  have g3 : w.cell? ⟨g, 3, none⟩ = some (.int .i64 S.last) := by rw [h.blk.cell 3]; rfl
  have f3 := h.blk.frozen 3
  have HU : Hid (unlinkS S s = { ss := S.ss, first := (-1), last := (-1) }) := Lib.hid (by unfold unlinkS unlinkB unlinkA; simp [ha, hn]; try omega)
  have hgl := h.blk.lt
  have H := Lib.hid h
  have HY := Lib.hid hA
  have HT := Lib.hid hot
  have HI := Lib.hid hs
  clear h ha hn hs hA hot
  generalize s.m.bs.length = nb at *
  go_enter Try.func32, Try.ntmps32
  go_wp2_with fail
  go_end0
  refine ⟨rfl, ?_⟩
  rw [HU.out]
  have HB : B ≤ w.heap.size := Nat.le_trans hB (Nat.le_of_lt hlt)
  refine ⟨?_, ?_⟩
  · exact (((H.out.setG (S' := { S with first := -1 }) 2 _ rfl rfl).setG (S' := { S with first := -1, last := -1 }) 3 _ rfl rfl).alloc _)
  · (repeat (first | with_reducible exact KeepT.refl HB | with_reducible apply KeepT.alloc | with_reducible apply KeepT.drewN | with_reducible apply KeepT.drew | (with_reducible refine KeepT.set ?_ ?_ ?_ _; rotate_left; (focus (first | exact hB | exact H.out.base.1)); (focus (first | exact HT.out | exact H.out.hotg)))))
set_option maxRecDepth 20000 in
set_option maxHeartbeats 1000000 in
theorem unlink_01 (h : Lr w g B Y S fr E held budget) {i q : Nat} {s : Sl} (hs : S.ss[i]? = some s) (ha : s.ahead = -1) (hn : s.next = (q : Int)) (hq : q < S.ss.length) :
    Calls Try.prog 32 #[.pointer (some ⟨g, 0, none⟩), .int .i64 i] w fun e w' => e = .returned (.tuple #[]) ∧ Lr w' g B Y (unlinkS S s) fr E held budget ∧ KeepT B w w' := by
  have hi := (List.getElem?_eq_some_iff.1 hs).1
  obtain ⟨sb, hA, hB, hlt, hne, hot, hcap⟩ := h.slotA (by omega)
  have c0 : w.cell? ⟨sb, i * 11, none⟩ = some (.int .i64 s.k.g) := h.cell (j := 0) hA hs rfl
  have c1 : w.cell? ⟨sb, i * 11 + 1, none⟩ = some (.int .i64 s.k.p) := h.cell hA hs rfl
  have c2 : w.cell? ⟨sb, i * 11 + 2, none⟩ = some (.int .i64 s.k.x) := h.cell hA hs rfl
  have c3 : w.cell? ⟨sb, i * 11 + 3, none⟩ = some (.int .i64 s.k.y) := h.cell hA hs rfl
  have c4 : w.cell? ⟨sb, i * 11 + 4, none⟩ = some (.int .i64 s.m.box.a) := h.cell hA hs rfl
  have c5 : w.cell? ⟨sb, i * 11 + 5, none⟩ = some (.int .i64 s.m.box.b) := h.cell hA hs rfl
  have c6 : w.cell? ⟨sb, i * 11 + 6, none⟩ = some (.int .i64 s.m.box.c) := h.cell hA hs rfl
  have c7 : w.cell? ⟨sb, i * 11 + 7, none⟩ = some (.int .i64 s.m.box.d) := h.cell hA hs rfl
  have c8 : w.cell? ⟨sb, i * 11 + 8, none⟩ = some (.slice s.A s.m.bs.length s.c) := h.cell hA hs rfl
  have c9 : w.cell? ⟨sb, i * 11 + 9, none⟩ = some (.int .i64 (-1)) := (h.cell hA hs rfl).trans (by rw [ha])
  have c10 : w.cell? ⟨sb, i * 11 + 10, none⟩ = some (.int .i64 q) := (h.cell hA hs rfl).trans (by rw [hn])
  have g0 : w.cell? ⟨g, 0, none⟩ = some (.slice (some ⟨sb, 0, none⟩) S.ss.length Y.c) := by rw [h.blk.cell 0, hA]; rfl
  have g2 : w.cell? ⟨g, 2, none⟩ = some (.int .i64 S.first) := by rw [h.blk.cell 2]; rfl
  have f2 := h.blk.frozen 2
  have cq : w.cell? ⟨sb, q * 11 + 9, none⟩ = some (.int .i64 S.ss[q].ahead) := h.cell hA (List.getElem?_eq_getElem hq) rfl
  have fq := h.frz hA (q * 11 + 9)
  have hq' : (q : Int) < S.ss.length := by omega
  generalize S.ss[q].ahead = qa at cq
  have e2 : ((q : Int) == -1) = false := by simp
  have HU : Hid (unlinkS S s = { ss := (S.ss).modify q (setA (-1)), first := q, last := S.last }) := Lib.hid (by unfold unlinkS unlinkB unlinkA; simp [ha, hn]; try omega)
  have hgl := h.blk.lt
  have H := Lib.hid h
  have HY := Lib.hid hA
  have HT := Lib.hid hot
  have HI := Lib.hid hs
  clear h ha hn hs hA hot
  generalize s.m.bs.length = nb at *
  go_enter Try.func32, Try.ntmps32
  go_wp2_with fail
  refine wp_region_drew_tail 10 (by kernel_rfl) (by kernel_rfl) ?_
  simp only [List.take_succ_cons, List.take_zero, List.drop_succ_cons, List.drop_zero]
  repeat (go_big_quiet_step (fail))
  refine wpQuiet_nil ?_
  rintro _ ⟨nq, rfl⟩
  go_wp2_with fail
  go_end0
  refine ⟨rfl, ?_⟩
  rw [HU.out]
  have HB : B ≤ w.heap.size := Nat.le_trans hB (Nat.le_of_lt hlt)
  refine ⟨?_, ?_⟩
  · exact ((((H.out.setG (S' := { S with first := q }) 2 _ rfl rfl).alloc _).drewN _).setS HY.out (f := setA (-1)) (j := 9) (fun _ => rfl) (fun _ => ⟨rfl, rfl, rfl⟩) (by omega) (by exact hq))
  · (repeat (first | with_reducible exact KeepT.refl HB | with_reducible apply KeepT.alloc | with_reducible apply KeepT.drewN | with_reducible apply KeepT.drew | (with_reducible refine KeepT.set ?_ ?_ ?_ _; rotate_left; (focus (first | exact hB | exact H.out.base.1)); (focus (first | exact HT.out | exact H.out.hotg)))))
set_option maxRecDepth 20000 in
set_option maxHeartbeats 1000000 in
theorem unlink_10 (h : Lr w g B Y S fr E held budget) {i p : Nat} {s : Sl} (hs : S.ss[i]? = some s) (ha : s.ahead = (p : Int)) (hp : p < S.ss.length) (hn : s.next = -1) :
    Calls Try.prog 32 #[.pointer (some ⟨g, 0, none⟩), .int .i64 i] w fun e w' => e = .returned (.tuple #[]) ∧ Lr w' g B Y (unlinkS S s) fr E held budget ∧ KeepT B w w' := by
  have hi := (List.getElem?_eq_some_iff.1 hs).1
  obtain ⟨sb, hA, hB, hlt, hne, hot, hcap⟩ := h.slotA (by omega)
  have c0 : w.cell? ⟨sb, i * 11, none⟩ = some (.int .i64 s.k.g) := h.cell (j := 0) hA hs rfl
  have c1 : w.cell? ⟨sb, i * 11 + 1, none⟩ = some (.int .i64 s.k.p) := h.cell hA hs rfl
  have c2 : w.cell? ⟨sb, i * 11 + 2, none⟩ = some (.int .i64 s.k.x) := h.cell hA hs rfl
  have c3 : w.cell? ⟨sb, i * 11 + 3, none⟩ = some (.int .i64 s.k.y) := h.cell hA hs rfl
  have c4 : w.cell? ⟨sb, i * 11 + 4, none⟩ = some (.int .i64 s.m.box.a) := h.cell hA hs rfl
  have c5 : w.cell? ⟨sb, i * 11 + 5, none⟩ = some (.int .i64 s.m.box.b) := h.cell hA hs rfl
  have c6 : w.cell? ⟨sb, i * 11 + 6, none⟩ = some (.int .i64 s.m.box.c) := h.cell hA hs rfl
  have c7 : w.cell? ⟨sb, i * 11 + 7, none⟩ = some (.int .i64 s.m.box.d) := h.cell hA hs rfl
  have c8 : w.cell? ⟨sb, i * 11 + 8, none⟩ = some (.slice s.A s.m.bs.length s.c) := h.cell hA hs rfl
  have c9 : w.cell? ⟨sb, i * 11 + 9, none⟩ = some (.int .i64 p) := (h.cell hA hs rfl).trans (by rw [ha])
  have c10 : w.cell? ⟨sb, i * 11 + 10, none⟩ = some (.int .i64 (-1)) := (h.cell hA hs rfl).trans (by rw [hn])
  have g0 : w.cell? ⟨g, 0, none⟩ = some (.slice (some ⟨sb, 0, none⟩) S.ss.length Y.c) := by rw [h.blk.cell 0, hA]; rfl
  have cp : w.cell? ⟨sb, p * 11 + 10, none⟩ = some (.int .i64 S.ss[p].next) := h.cell hA (List.getElem?_eq_getElem hp) rfl
  have fp := h.frz hA (p * 11 + 10)
  have hp' : (p : Int) < S.ss.length := by omega
  generalize S.ss[p].next = pn at cp
  have g3 : w.cell? ⟨g, 3, none⟩ = some (.int .i64 S.last) := by rw [h.blk.cell 3]; rfl
  have f3 := h.blk.frozen 3
  have e1 : ((p : Int) == -1) = false := by simp
  have HU : Hid (unlinkS S s = { ss := S.ss.modify p (setN (-1)), first := S.first, last := p }) := Lib.hid (by unfold unlinkS unlinkB unlinkA; simp [ha, hn]; try omega)
  have hgl := h.blk.lt
  have H := Lib.hid h
  have HY := Lib.hid hA
  have HT := Lib.hid hot
  have HI := Lib.hid hs
  clear h ha hn hs hA hot
  generalize s.m.bs.length = nb at *
  go_enter Try.func32, Try.ntmps32
  go_wp2_with fail
  refine wp_region_drew_tail 10 (by kernel_rfl) (by kernel_rfl) ?_
  simp only [List.take_succ_cons, List.take_zero, List.drop_succ_cons, List.drop_zero]
  repeat (go_big_quiet_step (fail))
  refine wpQuiet_nil ?_
  rintro _ ⟨nq, rfl⟩
  go_wp2_with fail
  go_end0
  refine ⟨rfl, ?_⟩
  rw [HU.out]
  have HB : B ≤ w.heap.size := Nat.le_trans hB (Nat.le_of_lt hlt)
  refine ⟨?_, ?_⟩
  · exact ((((H.out.alloc _).drewN _).setS HY.out (f := setN (-1)) (j := 10) (fun _ => rfl) (fun _ => ⟨rfl, rfl, rfl⟩) (by omega) (by exact hp)).setG (S' := { S with ss := S.ss.modify p (setN (-1)), last := p }) 3 _ rfl rfl)
  · (repeat (first | with_reducible exact KeepT.refl HB | with_reducible apply KeepT.alloc | with_reducible apply KeepT.drewN | with_reducible apply KeepT.drew | (with_reducible refine KeepT.set ?_ ?_ ?_ _; rotate_left; (focus (first | exact hB | exact H.out.base.1)); (focus (first | exact HT.out | exact H.out.hotg)))))
set_option maxRecDepth 20000 in
set_option maxHeartbeats 1000000 in
theorem unlink_11 (h : Lr w g B Y S fr E held budget) {i p q : Nat} {s : Sl} (hs : S.ss[i]? = some s) (ha : s.ahead = (p : Int)) (hp : p < S.ss.length) (hn : s.next = (q : Int)) (hq : q < S.ss.length) :
    Calls Try.prog 32 #[.pointer (some ⟨g, 0, none⟩), .int .i64 i] w fun e w' => e = .returned (.tuple #[]) ∧ Lr w' g B Y (unlinkS S s) fr E held budget ∧ KeepT B w w' := by
  have hi := (List.getElem?_eq_some_iff.1 hs).1
  obtain ⟨sb, hA, hB, hlt, hne, hot, hcap⟩ := h.slotA (by omega)
  have c0 : w.cell? ⟨sb, i * 11, none⟩ = some (.int .i64 s.k.g) := h.cell (j := 0) hA hs rfl
  have c1 : w.cell? ⟨sb, i * 11 + 1, none⟩ = some (.int .i64 s.k.p) := h.cell hA hs rfl
  have c2 : w.cell? ⟨sb, i * 11 + 2, none⟩ = some (.int .i64 s.k.x) := h.cell hA hs rfl
  have c3 : w.cell? ⟨sb, i * 11 + 3, none⟩ = some (.int .i64 s.k.y) := h.cell hA hs rfl
  have c4 : w.cell? ⟨sb, i * 11 + 4, none⟩ = some (.int .i64 s.m.box.a) := h.cell hA hs rfl
  have c5 : w.cell? ⟨sb, i * 11 + 5, none⟩ = some (.int .i64 s.m.box.b) := h.cell hA hs rfl
  have c6 : w.cell? ⟨sb, i * 11 + 6, none⟩ = some (.int .i64 s.m.box.c) := h.cell hA hs rfl
  have c7 : w.cell? ⟨sb, i * 11 + 7, none⟩ = some (.int .i64 s.m.box.d) := h.cell hA hs rfl
  have c8 : w.cell? ⟨sb, i * 11 + 8, none⟩ = some (.slice s.A s.m.bs.length s.c) := h.cell hA hs rfl
  have c9 : w.cell? ⟨sb, i * 11 + 9, none⟩ = some (.int .i64 p) := (h.cell hA hs rfl).trans (by rw [ha])
  have c10 : w.cell? ⟨sb, i * 11 + 10, none⟩ = some (.int .i64 q) := (h.cell hA hs rfl).trans (by rw [hn])
  have g0 : w.cell? ⟨g, 0, none⟩ = some (.slice (some ⟨sb, 0, none⟩) S.ss.length Y.c) := by rw [h.blk.cell 0, hA]; rfl
  have cp : w.cell? ⟨sb, p * 11 + 10, none⟩ = some (.int .i64 S.ss[p].next) := h.cell hA (List.getElem?_eq_getElem hp) rfl
  have fp := h.frz hA (p * 11 + 10)
  have hp' : (p : Int) < S.ss.length := by omega
  generalize S.ss[p].next = pn at cp
  have cq : w.cell? ⟨sb, q * 11 + 9, none⟩ = some (.int .i64 S.ss[q].ahead) := h.cell hA (List.getElem?_eq_getElem hq) rfl
  have fq := h.frz hA (q * 11 + 9)
  have hq' : (q : Int) < S.ss.length := by omega
  generalize S.ss[q].ahead = qa at cq
  have e1 : ((p : Int) == -1) = false := by simp
  have e2 : ((q : Int) == -1) = false := by simp
  have HU : Hid (unlinkS S s = { ss := (S.ss.modify p (setN q)).modify q (setA p), first := S.first, last := S.last }) := Lib.hid (by unfold unlinkS unlinkB unlinkA; simp [ha, hn]; try omega)
  have hgl := h.blk.lt
  have H := Lib.hid h
  have HY := Lib.hid hA
  have HT := Lib.hid hot
  have HI := Lib.hid hs
  clear h ha hn hs hA hot
  generalize s.m.bs.length = nb at *
  go_enter Try.func32, Try.ntmps32
  go_wp2_with fail
  refine wp_region_drew_tail 10 (by kernel_rfl) (by kernel_rfl) ?_
  simp only [List.take_succ_cons, List.take_zero, List.drop_succ_cons, List.drop_zero]
  repeat (go_big_quiet_step (fail))
  refine wpQuiet_nil ?_
  rintro _ ⟨nq, rfl⟩
  go_wp2_with fail
  refine wp_region_drew_tail 10 (by kernel_rfl) (by kernel_rfl) ?_
  simp only [List.take_succ_cons, List.take_zero, List.drop_succ_cons, List.drop_zero]
  repeat (go_big_quiet_step (fail))
  refine wpQuiet_nil ?_
  rintro _ ⟨nq, rfl⟩
  go_wp2_with fail
  go_end0
  refine ⟨rfl, ?_⟩
  rw [HU.out]
  have HB : B ≤ w.heap.size := Nat.le_trans hB (Nat.le_of_lt hlt)
  refine ⟨?_, ?_⟩
  · exact ((((H.out.alloc _).drewN _).setS HY.out (f := setN q) (j := 10) (fun _ => rfl) (fun _ => ⟨rfl, rfl, rfl⟩) (by omega) (by exact hp)).drewN _).setS HY.out (f := setA p) (j := 9) (fun _ => rfl) (fun _ => ⟨rfl, rfl, rfl⟩) (by omega) (by show q < (S.ss.modify p (setN q)).length; rw [List.length_modify]; exact hq)
  · (repeat (first | with_reducible exact KeepT.refl HB | with_reducible apply KeepT.alloc | with_reducible apply KeepT.drewN | with_reducible apply KeepT.drew | (with_reducible refine KeepT.set ?_ ?_ ?_ _; rotate_left; (focus (first | exact hB | exact H.out.base.1)); (focus (first | exact HT.out | exact H.out.hotg)))))

/-- A slot of a linked list is taken out. -/
theorem unlink_any (h : Lr w g B Y S fr E held budget) {xs ys : List Nat} {i : Nat} {s : Sl} (hl : Linked S (xs ++ i :: ys)) (hs : S.ss[i]? = some s) :
    Calls Try.prog 32 #[.pointer (some ⟨g, 0, none⟩), .int .i64 i] w fun e w' => e = .returned (.tuple #[]) ∧ Lr w' g B Y (unlinkS S s) fr E held budget ∧ KeepT B w w' := by
  obtain ⟨s', hs', ha, hn⟩ := linked_at hl
  rw [hs] at hs'
  injection hs' with hs'
  subst hs'
  have hlt := seg_lt hl.seg
  rcases List.eq_nil_or_concat xs with rfl | ⟨xs, p, rfl⟩
  · cases ys with
    | nil => exact unlink_00 h hs ha hn
    | cons q ys => exact unlink_01 h hs ha hn (hlt q (by simp))
  · rw [List.concat_eq_append] at *
    rw [lst_snoc] at ha
    cases ys with
    | nil => exact unlink_10 h hs ha (hlt p (by simp)) hn
    | cons q ys => exact unlink_11 h hs ha (hlt p (by simp)) hn (hlt q (by simp))
end
end Go.Proofs.Ytakgeeopfclmoaa
