/-
  Layer 25: the document's Drop.
-/
import Derived.Test.YtakgeeopfclmoaaLrYa
import Derived.Deep.DeepCutAuto
import Derived.Deep.RegionLaw
namespace Go.Proofs.Ytakgeeopfclmoaa
open Go.RowKit Go.Maps

def findR (k : K4) (R : List Re) : Option Re := R.find? (fun r => decide (r.k = k))
def dropR (k : K4) (R : List Re) : List Re := R.eraseP (fun r => decide (r.k = k))
def fR (k : K4) (R : List Re) : Re := match findR k R with | some r => r | none => zRe
def mvR (r : Re) : Value := .agg #[.int .i64 r.m.box.a, .int .i64 r.m.box.b, .int .i64 r.m.box.c, .int .i64 r.m.box.d, .slice r.A r.m.bs.length r.c]
theorem map_dropR (k : K4) (R : List Re) : (dropR k R).map Re.en = dropL k (R.map Re.en) := by
  induction R with
  | nil => rfl
  | cons r R ih =>
    unfold dropR dropL at *
    by_cases h : r.k = k
    · simp [h, Re.en]
    · simp [h, Re.en]
      simpa [Re.en] using ih
theorem find_mapR (k : K4) (R : List Re) : findL k (R.map Re.en) = (findR k R).map Re.en := by
  unfold findL findR
  rw [List.find?_map]
  rfl
theorem entry_info : (Try.prog.info? 60).map (fun i => (i.zero, i.size, i.bytes)) = some (some (.agg zRe.cells.toArray), 9, 88) := by kernel_rfl
theorem own_empty9 (w : World) (e : TypeId) (s : Nat) (B : Nat) (hB : B ≤ w.heap.size) : (w.alloc (.cells #[] e)).ownsRow B e s (.slice (some ⟨w.heap.size, 0, none⟩) 0 0) 0 [] :=
  ⟨by simp, .inr ⟨w.heap.size, 0, #[], rfl, hB, heap_alloc_new w _, Nat.le_refl _, Nat.zero_le _, by simp, by simp⟩⟩
section
variable {B x : Nat} {w w' : World} {budget : Int} {R : List Re} {A : Option Addr} {c : Nat}
/-- A piece of the entries, to be read. -/
theorem Rf.reads (h : Rf B w x budget R A c) (i m : Nat) (him : i + m ≤ R.length) (b : Nat) (hA : A = some ⟨b, 0, none⟩) : Reads w w.heap.size 9 (some ⟨b, i * 9, none⟩) m (((R.drop i).take m).flatMap Re.cells) := by
  have hlen : (((R.drop i).take m).flatMap Re.cells).length = m * 9 := by
    rw [List.flatMap_def, flatten_len 9 _ (fun q hq => by obtain ⟨s, _, rfl⟩ := List.mem_map.1 hq; rfl)]
    simp; omega
  refine ⟨hlen, fun hm => ⟨⟨b, i * 9, none⟩, rfl, ?_, fun q u hu => ?_⟩⟩
  · obtain ⟨b', h1, _, h2, _⟩ := h.slotA (by omega)
    rw [hA] at h1
    injection h1 with h1
    injection h1 with h1
    subst h1
    exact h2
  · have hq : q < m * 9 := by rw [← hlen]; exact (List.getElem?_eq_some_iff.1 hu).1
    have hj : q % 9 < 9 := Nat.mod_lt _ (by omega)
    have hqq : q / 9 * 9 + q % 9 = q := by rw [Nat.mul_comm]; exact Nat.div_add_mod q 9
    have hi : q / 9 < m := by omega
    obtain ⟨r, hr⟩ : ∃ r, R[i + q / 9]? = some r := ⟨_, List.getElem?_eq_getElem (by omega)⟩
    have hr2 : ((R.drop i).take m)[q / 9]? = some r := by rw [List.getElem?_take, if_pos hi, List.getElem?_drop]; exact hr
    have h2 := flat9 hr2 hj
    rw [hqq, hu] at h2
    have h3 := h.cell hA hr h2.symm
    rw [show (⟨b, i * 9, none⟩ : Addr).add q = ⟨b, i * 9 + q, none⟩ by unfold Addr.add; split <;> simp [*]]
    rw [show i * 9 + q = (i + q / 9) * 9 + q % 9 by omega]
    exact h3
theorem cells_one (l : List Re) : ∀ u ∈ l.flatMap Re.cells, u.oneCell' = true := by
  intro u hu
  obtain ⟨r, _, hr⟩ := List.mem_flatMap.1 hu
  simp only [Re.cells, List.mem_cons, List.not_mem_nil, or_false] at hr
  rcases hr with rfl | rfl | rfl | rfl | rfl | rfl | rfl | rfl | rfl <;> rfl
/-- The list of entries is another one, made by the call. -/
theorem Rf.setL (h : Rf B w x budget R A c) {R' : List Re} {A' : Option Addr} {c' : Nat} (hb : Below w.heap.size w w') (hown : w'.ownsRow B 60 9 (.slice A' R'.length c') R'.length (R'.flatMap Re.cells)) (har : ∀ r ∈ R', Ar B w' r.A r.m.bs r.c) :
    Rf B (w'.setCell ⟨x, 1, none⟩ (.slice A' R'.length c')) x budget R' A' c' ∧ Turn w (w'.setCell ⟨x, 1, none⟩ (.slice A' R'.length c')) x none := by
  have hx := h.blk.keepB hb
  have ht : Turn w' (w'.setCell ⟨x, 1, none⟩ (.slice A' R'.length c')) x none := (Turn.refl _ _ _).set 1 _
  refine ⟨⟨hx.set 1 _, own_keep hown fun k hk => Below.heap_setCell w' _ _ k fun e => ?_, fun r hr => (har r hr).turn ht hx h.base, h.base⟩, (Turn.of_below hb).set 1 _⟩
  have e' : k = x := e
  subst e'
  obtain ⟨cs, hc⟩ := own_typed' hown k hk
  unfold Blk at hx
  rw [hx] at hc
  injection hc with hc
  injection hc with _ hc _
  revert hc
  decide
end
theorem own_mono {w : World} {B base : Nat} {e : TypeId} {v : Value} {n : Nat} {xs : List Value} {size : Nat} (h : w.ownsRow base e size v n xs) (hB : B ≤ base) : w.ownsRow B e size v n xs := by
  obtain ⟨h1, h2 | ⟨g, cap, cur, h2, h3, h4⟩⟩ := h
  · exact ⟨h1, .inl h2⟩
  · exact ⟨h1, .inr ⟨g, cap, cur, h2, Nat.le_trans hB h3, h4⟩⟩
theorem Rf.maskW {B x : Nat} {w : World} {budget : Int} {R : List Re} {A : Option Addr} {c : Nat} (h : Rf B w x budget R A c) {b : Nat} {cs : List Value} (hb : Blk w b 35 cs) (hB : B ≤ b) (m : Ms) (A' : Option Addr) (c' : Nat) : Rf B (Proofs.Ytakgeeopfclmoaa.maskW w b m A' c') x budget R A c := by
  have hne : ∀ {k : Nat} {cs' : Array Value} {t : TypeId} {f : Nat × Nat}, w.heap[k]? = some (.cells cs' t f) → t ≠ 35 → (Proofs.Ytakgeeopfclmoaa.maskW w b m A' c').heap[k]? = w.heap[k]? := fun {k cs' t f} hk ht => maskW_heap _ _ _ _ _ _ fun e => by
    subst e
    unfold Blk at hb
    rw [hb] at hk
    injection hk with hk
    injection hk with _ hk _
    exact ht hk.symm
  refine ⟨(hne h.blk (by decide)).trans h.blk, own_keep h.own fun k hk => ?_, fun r hr => (h.ar r hr).maskW hb hB m A' c', h.base⟩
  obtain ⟨cs', hc⟩ := own_typed' h.own k hk
  exact hne hc (by decide)
theorem turn_below {w w' w'' : World} {r B : Nat} {row : Option Nat} (h : Turn w w' r row) (hb : Below B w' w'') (hB : w.heap.size ≤ B) : Turn w w'' r row :=
  ⟨hb.os.trans h.os, hb.tape.trans h.tape, hb.output.trans h.output, Nat.le_trans h.size hb.size, fun k hk h1 h2 => (hb.block k (by omega)).trans (h.block k hk h1 h2)⟩
theorem bel_maskW {B : Nat} {a w : World} {b : Nat} (h : Bel B a w) (hb : B ≤ b) (m : Ms) (A : Option Addr) (c : Nat) : Bel B a (maskW w b m A c) := bel_set (bel_set (bel_set (bel_set (bel_set h hb) hb) hb) hb) hb
theorem dropR_at {k : K4} {R : List Re} {j : Nat} {r : Re} (hr : R[j]? = some r) (hk : r.k = k) (hno : ∀ q ∈ R.take j, q.k ≠ k) : dropR k R = R.take j ++ R.drop (j + 1) ∧ findR k R = some r := by
  induction R generalizing j with
  | nil => simp at hr
  | cons a R ih =>
    cases j with
    | zero =>
      simp at hr
      subst hr
      simp [dropR, findR, hk]
    | succ j =>
      have ha : a.k ≠ k := hno a (by simp)
      obtain ⟨h1, h2⟩ := ih (by simpa using hr) (fun q hq => hno q (by simp [hq]))
      unfold dropR findR at *
      simp [ha, h1, h2]
theorem dropR_none {k : K4} {R : List Re} (hno : ∀ q ∈ R, q.k ≠ k) : dropR k R = R ∧ findR k R = none := by
  unfold dropR findR
  refine ⟨List.eraseP_of_forall_not fun q hq => by simpa using hno q hq, List.find?_eq_none.2 fun q hq => by simpa using hno q hq⟩
def DrpR (B x : Nat) (budget : Int) (R : List Re) (A : Option Addr) (c : Nat) (k : K4) (w : World) (q : Nat) (i : Value) (wr : World) : Prop :=
  q ≤ R.length ∧ i = .int .i64 ((R.length - q : Nat) : Int) ∧ (∀ r ∈ R.take (R.length - q), r.k ≠ k) ∧ Rf B wr x budget R A c ∧ Blk wr w.heap.size 24 [.int .i64 k.g, .int .i64 k.p, .int .i64 k.x, .int .i64 k.y] ∧
    Blk wr (w.heap.size + 1) 35 [.int .i64 0, .int .i64 0, .int .i64 0, .int .i64 0, .slice none 0 0] ∧ Below w.heap.size w wr
def RDrop (B x : Nat) (budget : Int) (R : List Re) (k : K4) (w : World) (e : Ending) (w' : World) : Prop :=
  e = .returned (.tuple #[mvR (fR k R), .bool (findR k R).isSome]) ∧ RfE B w' x budget (dropR k R) ∧ Turn w w' x none
section
variable {B x : Nat} {w w' : World} {budget : Int} {R : List Re} {A : Option Addr} {c : Nat}
set_option maxRecDepth 20000 in
set_option maxHeartbeats 4000000 in
theorem rDrop_any (h : Rf B w x budget R A c) (hlen : R.length ≤ 4294967296) (k : K4) :
    Calls Try.prog 36 #[.pointer (some ⟨x, 0, none⟩), .agg #[.int .i64 k.g, .int .i64 k.p, .int .i64 k.x, .int .i64 k.y]] w (RDrop B x budget R k w) := by
  obtain ⟨i0, hi0, hz0, hz1, hz2⟩ := info_parts entry_info
  have hal := bel_alloc (o := .cells #[.int .i64 0, .int .i64 0, .int .i64 0, .int .i64 0, .slice none 0 0] 35) (bel_alloc (o := .cells #[.int .i64 k.g, .int .i64 k.p, .int .i64 k.x, .int .i64 k.y] 24) (bel_refl (a := w)))
  have hst : DrpR B x budget R A c k w R.length (.int .i64 0) _ := ⟨Nat.le_refl _, by simp, by simp, h.keepB hal.below, (Blk.newAt w _ [_, _, _, _] rfl).alloc _, Blk.newAt _ _ [_, _, _, _, _] (by simp), hal.below⟩
  have hxl := h.blk.lt
  have HST := Lib.hid hst
  have HLT := Lib.hid h.lt
  clear h hst hal
  go_enter Try.func36, Try.ntmps36
  go_wp2_with fail
  go_loopg [6] R.length (fun q i wr => DrpR B x budget R A c k w q i wr)
  case atStart => exact HST.out
  case round =>
    obtain ⟨hq, rfl, hno, h', hkb, hrb, hbel⟩ := hrel
    obtain ⟨j, hj⟩ : ∃ j, R.length - gk = j := ⟨_, rfl⟩
    rw [hj] at hno ⊢
    have x1 : wr.cell? ⟨x, 1, none⟩ = some (.slice A R.length c) := h'.blk.cell 1
    by_cases hin : j < R.length
    · obtain ⟨b, hA, hBb, hlt, hne, hcap⟩ := h'.slotA (by omega)
      subst hA
      obtain ⟨r, hrr⟩ : ∃ r, R[j]? = some r := ⟨_, List.getElem?_eq_getElem hin⟩
      have c0 : wr.cell? ⟨b, j * 9, none⟩ = some (.int .i64 r.k.g) := h'.cell (j := 0) rfl hrr rfl
      have c1 : wr.cell? ⟨b, j * 9 + 1, none⟩ = some (.int .i64 r.k.p) := h'.cell rfl hrr rfl
      have c2 : wr.cell? ⟨b, j * 9 + 2, none⟩ = some (.int .i64 r.k.x) := h'.cell rfl hrr rfl
      have c3 : wr.cell? ⟨b, j * 9 + 3, none⟩ = some (.int .i64 r.k.y) := h'.cell rfl hrr rfl
      have kk0 : wr.cell? ⟨w.heap.size, 0, none⟩ = some (.int .i64 k.g) := hkb.cell 0
      have kk1 : wr.cell? ⟨w.heap.size, 1, none⟩ = some (.int .i64 k.p) := hkb.cell 1
      have kk2 : wr.cell? ⟨w.heap.size, 2, none⟩ = some (.int .i64 k.x) := hkb.cell 2
      have kk3 : wr.cell? ⟨w.heap.size, 3, none⟩ = some (.int .i64 k.y) := hkb.cell 3
      have hin' : (j : Int) < R.length := by omega
      obtain ⟨q, rfl⟩ : ∃ q, gk = q + 1 := ⟨gk - 1, by omega⟩
      by_cases hrk : r.k = k
      · have he : eq4 r.k.g r.k.p r.k.x r.k.y k.g k.p k.x k.y = true := keyEq_true.2 hrk
        have c4 : wr.cell? ⟨b, j * 9 + 4, none⟩ = some (.int .i64 r.m.box.a) := h'.cell rfl hrr rfl
        have c5 : wr.cell? ⟨b, j * 9 + 5, none⟩ = some (.int .i64 r.m.box.b) := h'.cell rfl hrr rfl
        have c6 : wr.cell? ⟨b, j * 9 + 6, none⟩ = some (.int .i64 r.m.box.c) := h'.cell rfl hrr rfl
        have c7 : wr.cell? ⟨b, j * 9 + 7, none⟩ = some (.int .i64 r.m.box.d) := h'.cell rfl hrr rfl
        have c8 : wr.cell? ⟨b, j * 9 + 8, none⟩ = some (.slice r.A r.m.bs.length r.c) := h'.cell rfl hrr rfl
        have H' := Lib.hid h'
        have HNO := Lib.hid hno
        have HRR := Lib.hid hrr
        have HRK := Lib.hid hrk
        have HRB := Lib.hid hrb
        have HBL := Lib.hid hbel
        have hwz := hrb.lt
        clear h' hno hrr hrk hrb hbel hkb hj hq
        go_wp2_with fail
        go_quiet (fail)
        go_upto_region 6 with fail
        have hal0 := bel_alloc (o := .cells #[.int .i64 0, .int .i64 0, .int .i64 0, .int .i64 0, .slice none 0 0] 35) (bel_drewN (n := nq) (bel_refl (a := wr)))
        have hal : Bel wr.heap.size wr (maskW ((wr.drewN nq).alloc (.cells #[.int .i64 0, .int .i64 0, .int .i64 0, .int .i64 0, .slice none 0 0] 35)) wr.heap.size r.m r.A r.c) :=
          bel_set (bel_set (bel_set (bel_set (bel_set hal0 (Nat.le_refl _)) (Nat.le_refl _)) (Nat.le_refl _)) (Nat.le_refl _)) (Nat.le_refl _)
        have h6 := H'.out.keepB hal.below
        have hrb6 := HRB.out.keepB hal.below
        have hmb6 := blk_maskW (Blk.newAt (wr.drewN nq) 35 [.int .i64 0, .int .i64 0, .int .i64 0, .int .i64 0, .slice none 0 0] (n := wr.heap.size) rfl) r.m r.A r.c
        have hbel6 := HBL.out.trans (hal.below.mono HBL.out.size)
        simp only [maskW] at h6 hrb6 hmb6 hbel6
        clear c0 c1 c2 c3 c4 c5 c6 c7 c8 kk0 kk1 kk2 kk3 x1 hal hal0 he H' HRB HBL hlt
        generalize (World.setCell (World.setCell _ _ _) ⟨wr.heap.size, 4, none⟩ _) = w6 at h6 hrb6 hmb6 hbel6 ⊢
        have x1 : w6.cell? ⟨x, 1, none⟩ = some (.slice (some ⟨b, 0, none⟩) R.length c) := h6.blk.cell 1
        have hxl6 := h6.blk.lt
        have fx1 := h6.blk.frozen 1
        have H6 := Lib.hid h6
        have HRB6 := Lib.hid hrb6
        have HMB6 := Lib.hid hmb6
        have HBL6 := Lib.hid hbel6
        have hwr : IntKind.i64.wrap ((j : Int) + 1) = (j : Int) + 1 := IntWalk.i64_in _ (by omega)
        clear h6 hrb6 hmb6 hbel6
        have hrd1 : c = j + 1 → ∀ u, Below w6.heap.size w6 u → Reads u u.heap.size 9 (some ⟨b, 0, none⟩) (R.length - (j + 1)) ((R.drop (j + 1)).flatMap Re.cells) := fun hc u _ => by
          have h0 : R.length - (j + 1) = 0 := by omega
          have h1 : R.drop (j + 1) = [] := List.drop_eq_nil_of_le (by omega)
          rw [h0, h1]
          exact ⟨rfl, fun h => absurd h (by omega)⟩
        have hrd2 : c ≠ j + 1 → ∀ u, Below w6.heap.size w6 u → Reads u u.heap.size 9 (some ⟨b, (j + 1) * 9, none⟩) (R.length - (j + 1)) ((R.drop (j + 1)).flatMap Re.cells) := fun _ u hu => by
          have h1 := (H6.out.keepB hu).reads (j + 1) (R.length - (j + 1)) (by omega) b rfl
          rwa [List.take_of_length_le (by simp)] at h1
        by_cases hcj : c = j + 1
        · have HRD2 := Lib.hid (hrd1 hcj)
          clear hrd1 hrd2
          have hjc : j ≤ c := by omega
          have hjc2 : j + 1 ≤ R.length := by omega
          have hjc3 : R.length ≤ c := by omega
          have hjc4 : (j : Int) + 1 ≤ R.length := by omega
          have hjc5 : (0 : Int) ≤ (j : Int) + 1 := by omega
          have hjc6 : (j : Int) ≤ (j : Int) + 1 := by omega
          go_region_law
            (first
              | (refine step_append_any _ (by rfl) (.tmp 36) (.tmp 42) _ (by rfl) w6.heap.size 60 i0 _ 9 88 Try.underlying54 hi0 hz0 hz1 hz2 rfl (by omega) _ 0 [] (by rfl) (own_empty9 w6 60 9 w6.heap.size (Nat.le_refl _)) _ _ j _ _ (by rfl) ((H6.out.keepB (bel_alloc bel_refl).below).reads 0 j (by omega) b rfl) (cells_one _) (by unfold maxLen; omega) (by omega) (by simp) ?_; intro v' w7 hown7 hgrow7 hat7
                 rw [Nat.zero_add, List.nil_append] at hown7
                 obtain ⟨A7, c7, rfl⟩ := own_slice hown7
                 have hb7 : Below w6.heap.size w6 w7 := by
                   refine Below.grown (?_ : Below w6.heap.size w6 _) hgrow7 ?_ ?_
                   · refine Bel.below ?_
                     repeat (first | with_reducible exact bel_refl | with_reducible apply bel_alloc | with_reducible apply bel_drewN | with_reducible apply bel_drew | (with_reducible refine bel_set ?_ ?_; rotate_left; · first | (simp; done) | (simp; omega) | omega) | with_reducible refine bel_call (by assumption) ?_)
                   · simp
                   · simp [Value.ownBlock]
                 have y1 : w7.cell? ⟨x, 1, none⟩ = some (.slice (some ⟨b, 0, none⟩) R.length c) := (hb7.cell (p := ⟨x, 1, none⟩) hxl6).trans x1
                 have HO7 := Lib.hid hown7
                 have HB7 := Lib.hid hb7
                 clear hown7 hgrow7 hat7 hb7)
              | (refine step_append_any _ (by rfl) (.tmp 43) (.tmp 50) _ (by rfl) w6.heap.size 60 i0 _ 9 88 Try.underlying54 hi0 hz0 hz1 hz2 rfl (by omega) _ j _ (by rfl) HO7.out _ _ _ _ _ (by rfl) (HRD2.out _ HB7.out) (cells_one _) (by unfold maxLen; omega) (by omega) HB7.out.size ?_; intro v' w8 hown8 hgrow8 hat8
                 obtain ⟨A8, c8, rfl⟩ := own_slice hown8
                 have hb8 : Below w6.heap.size w6 w8 := by
                   refine Below.grown HB7.out hgrow8 HB7.out.size ?_
                   intro k hk
                   exact (own_lt HO7.out k hk).1
                 have z1 : w8.cell? ⟨x, 1, none⟩ = some (.slice (some ⟨b, 0, none⟩) R.length c) := (hb8.cell (p := ⟨x, 1, none⟩) hxl6).trans x1
                 have zf : w8.frozen? ⟨x, 1, none⟩ = false := (hb8.frozen (p := ⟨x, 1, none⟩) hxl6).trans fx1
                 have HO8 := Lib.hid hown8
                 have HB8 := Lib.hid hb8
                 clear hown8 hgrow8 hat8 hb8))
          all_goals
            have hn8 : j + (R.length - (j + 1)) = (R.take j ++ R.drop (j + 1)).length := by simp; omega
            have hown8 := HO8.out
            rw [hn8, List.drop_zero, ← List.flatMap_append] at hown8
            have hown9 := own_mono hown8 (B := B) H6.out.lt
            have har8 : ∀ q ∈ R.take j ++ R.drop (j + 1), Ar B w8 q.A q.m.bs q.c := fun q hq => (H6.out.ar q (by
              rcases List.mem_append.1 hq with hq | hq
              · exact List.mem_of_mem_take hq
              · exact List.mem_of_mem_drop hq)).keepB HB8.out
            obtain ⟨hset1, hset2⟩ := H6.out.setL HB8.out hown9 har8
            have hmb8 := (HMB6.out.keepB HB8.out).far (p := ⟨x, 1, none⟩) (by simp; omega) (.slice A8 (R.take j ++ R.drop (j + 1)).length c8)
            have hrb8 := (HRB6.out.keepB HB8.out).far (p := ⟨x, 1, none⟩) (by simp; omega) (.slice A8 (R.take j ++ R.drop (j + 1)).length c8)
            rw [hn8]
            have HT9 := Lib.hid (Turn.trans (Turn.of_below (g := x) (row := none) HBL6.out) hset2 (.inl rfl))
            have HS9 := Lib.hid hset1
            clear HO8 HO7 HB7 HB8 hown8 hown9 har8 hset1 hset2 hn8 x1 y1 z1 zf
            generalize (World.setCell w8 _ _) = w9 at hmb8 hrb8 HT9 HS9 ⊢
            have g0 : w9.cell? ⟨wr.heap.size, 0, none⟩ = some (.int .i64 r.m.box.a) := hmb8.cell 0
            have g1 : w9.cell? ⟨wr.heap.size, 1, none⟩ = some (.int .i64 r.m.box.b) := hmb8.cell 1
            have g2 : w9.cell? ⟨wr.heap.size, 2, none⟩ = some (.int .i64 r.m.box.c) := hmb8.cell 2
            have g3 : w9.cell? ⟨wr.heap.size, 3, none⟩ = some (.int .i64 r.m.box.d) := hmb8.cell 3
            have g4 : w9.cell? ⟨wr.heap.size, 4, none⟩ = some (.slice r.A r.m.bs.length r.c) := hmb8.cell 4
            have r0 : w9.cell? ⟨w.heap.size + 1, 0, none⟩ = some (.int .i64 0) := hrb8.cell 0
            have r1 : w9.cell? ⟨w.heap.size + 1, 1, none⟩ = some (.int .i64 0) := hrb8.cell 1
            have r2 : w9.cell? ⟨w.heap.size + 1, 2, none⟩ = some (.int .i64 0) := hrb8.cell 2
            have r3 : w9.cell? ⟨w.heap.size + 1, 3, none⟩ = some (.int .i64 0) := hrb8.cell 3
            have r4 : w9.cell? ⟨w.heap.size + 1, 4, none⟩ = some (.slice none 0 0) := hrb8.cell 4
            have q0 := hrb8.frozen 0
            have q1 := hrb8.frozen 1
            have q2 := hrb8.frozen 2
            have q3 := hrb8.frozen 3
            have q4 := hrb8.frozen 4
            have hml := hmb8.lt
            have hrl := hrb8.lt
            have HRB9 := Lib.hid hrb8
            clear hmb8 hrb8
            go_wp2_with fail
            refine bodyPost_ret (v := .tuple #[mvR r, .bool true]) (by simp [results, Try.results36, go_sem, mvR, *]) rfl ?_
            obtain ⟨hd1, hd2⟩ := dropR_at HRR.out HRK.out HNO.out
            refine ⟨by unfold fR; rw [hd2]; rfl, ?_, ?_⟩
            · rw [hd1]
              exact ⟨_, _, HS9.out.maskW HRB9.out (by have := HLT.out; omega) r.m r.A r.c⟩
            · exact turn_below HT9.out (bel_maskW (B := w.heap.size) ⟨⟨rfl, rfl, rfl, Nat.le_refl _, fun _ _ => rfl⟩, by omega⟩ (by omega) r.m r.A r.c).below (Nat.le_refl _)
        · have HRD2 := Lib.hid (hrd2 hcj)
          clear hrd1 hrd2
          have hjc : j ≤ c := by omega
          have hjc2 : j + 1 ≤ R.length := by omega
          have hjc3 : R.length ≤ c := by omega
          have hjc4 : (j : Int) + 1 ≤ R.length := by omega
          have hjc5 : (0 : Int) ≤ (j : Int) + 1 := by omega
          have hjc6 : (j : Int) ≤ (j : Int) + 1 := by omega
          go_region_law
            (first
              | (refine step_append_any _ (by rfl) (.tmp 36) (.tmp 42) _ (by rfl) w6.heap.size 60 i0 _ 9 88 Try.underlying54 hi0 hz0 hz1 hz2 rfl (by omega) _ 0 [] (by rfl) (own_empty9 w6 60 9 w6.heap.size (Nat.le_refl _)) _ _ j _ _ (by rfl) ((H6.out.keepB (bel_alloc bel_refl).below).reads 0 j (by omega) b rfl) (cells_one _) (by unfold maxLen; omega) (by omega) (by simp) ?_; intro v' w7 hown7 hgrow7 hat7
                 rw [Nat.zero_add, List.nil_append] at hown7
                 obtain ⟨A7, c7, rfl⟩ := own_slice hown7
                 have hb7 : Below w6.heap.size w6 w7 := by
                   refine Below.grown (?_ : Below w6.heap.size w6 _) hgrow7 ?_ ?_
                   · refine Bel.below ?_
                     repeat (first | with_reducible exact bel_refl | with_reducible apply bel_alloc | with_reducible apply bel_drewN | with_reducible apply bel_drew | (with_reducible refine bel_set ?_ ?_; rotate_left; · first | (simp; done) | (simp; omega) | omega) | with_reducible refine bel_call (by assumption) ?_)
                   · simp
                   · simp [Value.ownBlock]
                 have y1 : w7.cell? ⟨x, 1, none⟩ = some (.slice (some ⟨b, 0, none⟩) R.length c) := (hb7.cell (p := ⟨x, 1, none⟩) hxl6).trans x1
                 have HO7 := Lib.hid hown7
                 have HB7 := Lib.hid hb7
                 clear hown7 hgrow7 hat7 hb7)
              | (refine step_append_any _ (by rfl) (.tmp 43) (.tmp 50) _ (by rfl) w6.heap.size 60 i0 _ 9 88 Try.underlying54 hi0 hz0 hz1 hz2 rfl (by omega) _ j _ (by rfl) HO7.out _ _ _ _ _ (by rfl) (HRD2.out _ HB7.out) (cells_one _) (by unfold maxLen; omega) (by omega) HB7.out.size ?_; intro v' w8 hown8 hgrow8 hat8
                 obtain ⟨A8, c8, rfl⟩ := own_slice hown8
                 have hb8 : Below w6.heap.size w6 w8 := by
                   refine Below.grown HB7.out hgrow8 HB7.out.size ?_
                   intro k hk
                   exact (own_lt HO7.out k hk).1
                 have z1 : w8.cell? ⟨x, 1, none⟩ = some (.slice (some ⟨b, 0, none⟩) R.length c) := (hb8.cell (p := ⟨x, 1, none⟩) hxl6).trans x1
                 have zf : w8.frozen? ⟨x, 1, none⟩ = false := (hb8.frozen (p := ⟨x, 1, none⟩) hxl6).trans fx1
                 have HO8 := Lib.hid hown8
                 have HB8 := Lib.hid hb8
                 clear hown8 hgrow8 hat8 hb8))
          all_goals
            have hn8 : j + (R.length - (j + 1)) = (R.take j ++ R.drop (j + 1)).length := by simp; omega
            have hown8 := HO8.out
            rw [hn8, List.drop_zero, ← List.flatMap_append] at hown8
            have hown9 := own_mono hown8 (B := B) H6.out.lt
            have har8 : ∀ q ∈ R.take j ++ R.drop (j + 1), Ar B w8 q.A q.m.bs q.c := fun q hq => (H6.out.ar q (by
              rcases List.mem_append.1 hq with hq | hq
              · exact List.mem_of_mem_take hq
              · exact List.mem_of_mem_drop hq)).keepB HB8.out
            obtain ⟨hset1, hset2⟩ := H6.out.setL HB8.out hown9 har8
            have hmb8 := (HMB6.out.keepB HB8.out).far (p := ⟨x, 1, none⟩) (by simp; omega) (.slice A8 (R.take j ++ R.drop (j + 1)).length c8)
            have hrb8 := (HRB6.out.keepB HB8.out).far (p := ⟨x, 1, none⟩) (by simp; omega) (.slice A8 (R.take j ++ R.drop (j + 1)).length c8)
            rw [hn8]
            have HT9 := Lib.hid (Turn.trans (Turn.of_below (g := x) (row := none) HBL6.out) hset2 (.inl rfl))
            have HS9 := Lib.hid hset1
            clear HO8 HO7 HB7 HB8 hown8 hown9 har8 hset1 hset2 hn8 x1 y1 z1 zf
            generalize (World.setCell w8 _ _) = w9 at hmb8 hrb8 HT9 HS9 ⊢
            have g0 : w9.cell? ⟨wr.heap.size, 0, none⟩ = some (.int .i64 r.m.box.a) := hmb8.cell 0
            have g1 : w9.cell? ⟨wr.heap.size, 1, none⟩ = some (.int .i64 r.m.box.b) := hmb8.cell 1
            have g2 : w9.cell? ⟨wr.heap.size, 2, none⟩ = some (.int .i64 r.m.box.c) := hmb8.cell 2
            have g3 : w9.cell? ⟨wr.heap.size, 3, none⟩ = some (.int .i64 r.m.box.d) := hmb8.cell 3
            have g4 : w9.cell? ⟨wr.heap.size, 4, none⟩ = some (.slice r.A r.m.bs.length r.c) := hmb8.cell 4
            have r0 : w9.cell? ⟨w.heap.size + 1, 0, none⟩ = some (.int .i64 0) := hrb8.cell 0
            have r1 : w9.cell? ⟨w.heap.size + 1, 1, none⟩ = some (.int .i64 0) := hrb8.cell 1
            have r2 : w9.cell? ⟨w.heap.size + 1, 2, none⟩ = some (.int .i64 0) := hrb8.cell 2
            have r3 : w9.cell? ⟨w.heap.size + 1, 3, none⟩ = some (.int .i64 0) := hrb8.cell 3
            have r4 : w9.cell? ⟨w.heap.size + 1, 4, none⟩ = some (.slice none 0 0) := hrb8.cell 4
            have q0 := hrb8.frozen 0
            have q1 := hrb8.frozen 1
            have q2 := hrb8.frozen 2
            have q3 := hrb8.frozen 3
            have q4 := hrb8.frozen 4
            have hml := hmb8.lt
            have hrl := hrb8.lt
            have HRB9 := Lib.hid hrb8
            clear hmb8 hrb8
            go_wp2_with fail
            refine bodyPost_ret (v := .tuple #[mvR r, .bool true]) (by simp [results, Try.results36, go_sem, mvR, *]) rfl ?_
            obtain ⟨hd1, hd2⟩ := dropR_at HRR.out HRK.out HNO.out
            refine ⟨by unfold fR; rw [hd2]; rfl, ?_, ?_⟩
            · rw [hd1]
              exact ⟨_, _, HS9.out.maskW HRB9.out (by have := HLT.out; omega) r.m r.A r.c⟩
            · exact turn_below HT9.out (bel_maskW (B := w.heap.size) ⟨⟨rfl, rfl, rfl, Nat.le_refl _, fun _ _ => rfl⟩, by omega⟩ (by omega) r.m r.A r.c).below (Nat.le_refl _)
      · have he : eq4 r.k.g r.k.p r.k.x r.k.y k.g k.p k.x k.y = false := keyEq_false hrk
        have hfin : ∀ n, DrpR B x budget R (some ⟨b, 0, none⟩) c k w q (.int .i64 ((j : Int) + 1)) (wr.drewN n) := fun n =>
          ⟨by omega, by rw [show R.length - q = j + 1 by omega]; rfl, by
            rw [show R.length - q = j + 1 by omega, List.take_add_one, hrr]
            intro r' hr'
            rcases List.mem_append.1 hr' with hr' | hr'
            · exact hno r' hr'
            · simp at hr'; subst hr'; exact hrk, h'.keepB (bel_drewN bel_refl).below, hkb.drewN n, hrb.drewN n, below_drewN hbel n⟩
        have HF := Lib.hid hfin
        clear h' hno hrr hrk hrb hbel hkb hj hq hfin
        go_wp2_with fail
        go_quiet (fail)
        go_wp2_with fail
        go_roundg q
        case rel => exact HF.out _
        case measure => omega
    · have hjj : j = R.length := by omega
      subst hjj
      have r0 : wr.cell? ⟨w.heap.size + 1, 0, none⟩ = some (.int .i64 0) := hrb.cell 0
      have r1 : wr.cell? ⟨w.heap.size + 1, 1, none⟩ = some (.int .i64 0) := hrb.cell 1
      have r2 : wr.cell? ⟨w.heap.size + 1, 2, none⟩ = some (.int .i64 0) := hrb.cell 2
      have r3 : wr.cell? ⟨w.heap.size + 1, 3, none⟩ = some (.int .i64 0) := hrb.cell 3
      have r4 : wr.cell? ⟨w.heap.size + 1, 4, none⟩ = some (.slice none 0 0) := hrb.cell 4
      have q0 := hrb.frozen 0
      have q1 := hrb.frozen 1
      have q2 := hrb.frozen 2
      have q3 := hrb.frozen 3
      have q4 := hrb.frozen 4
      have hrl := hrb.lt
      rw [List.take_length] at hno
      have HNO := Lib.hid hno
      have H' := Lib.hid h'
      have HRB := Lib.hid hrb
      have HBL := Lib.hid hbel
      clear h' hno hrb hbel hkb hj hq
      go_wp2_with fail
      refine bodyPost_ret (v := .tuple #[mvR zRe, .bool false]) (by simp [results, Try.results36, go_sem, mvR, zRe, zMs, zBq, *]) rfl ?_
      obtain ⟨hd1, hd2⟩ := dropR_none HNO.out
      refine ⟨by unfold fR; rw [hd2]; rfl, ?_, ?_⟩
      · rw [hd1]
        exact ⟨_, _, H'.out.maskW HRB.out (by have := HLT.out; omega) zMs none 0⟩
      · exact turn_below (Turn.of_below (g := x) (row := none) HBL.out) (bel_maskW (B := w.heap.size) ⟨⟨rfl, rfl, rfl, Nat.le_refl _, fun _ _ => rfl⟩, by omega⟩ (by omega) zMs none 0).below (Nat.le_refl _)
end
end Go.Proofs.Ytakgeeopfclmoaa
