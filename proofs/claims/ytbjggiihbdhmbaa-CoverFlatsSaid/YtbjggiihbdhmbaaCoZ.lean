/-
  Layer 22: the document: what a line leaves.
-/
import Derived.Test.YtbjggiihbdhmbaaCoY
namespace Go.Proofs.Ytbjggiihbdhmbaa
open Go.RowKit Go.Shelf

theorem inB_true {b : B4} {d : Dt} : inB b d = true ↔ (64 * b.x0 ≤ d.1 ∧ d.1 ≤ 64 * b.x1) ∧ (64 * b.y0 ≤ d.2 ∧ d.2 ≤ 64 * b.y1) := by
  unfold inB
  rw [Bool.and_eq_true, withinB_true, withinB_true]
theorem dn_in {b : B4} {a d : Dt} (ha : inB b a = true) (hd : inB b d = true) : inB b (dnA a d) = true ∧ inB b (dnB a d) = true := by
  unfold dnA dnB
  split
  · exact ⟨hd, ha⟩
  · exact ⟨ha, hd⟩
/-- All that a line within leaves lies within. -/
theorem place_ok {b : B4} (hb : BoxOk b) {a d : Dt} (ha : inB b a = true) (hd : inB b d = true) {p : Pc} (hp : PcOk a d p) {t : Bt} (ht : BtOk p.A p.B t) : placeB b t.col p.row = true := by
  have h1 := inB_true.1 ha
  have h2 := inB_true.1 hd
  obtain ⟨⟨_, _, a3⟩, ⟨_, _, b3⟩, hr, hlt, hu, ht'⟩ := hp
  obtain ⟨u, w, -, -⟩ := ht
  unfold placeB Bt.col
  rw [Bool.and_eq_true, withinB_true, withinB_true]
  unfold btw at *
  omega
theorem line_places {b : B4} (hb : BoxOk b) {a d : Dt} (ha : inB b a = true) (hd : inB b d = true) (hle : a.2 ≤ d.2) : ∀ p ∈ rowsR a d a, ∀ t ∈ bitsR p.A p.B p.A.1 p.A.2, placeB b t.col p.row = true :=
  fun p hp t ht => place_ok hb ha hd (rowsR_ok (onWay_start hle) p hp) (bitsR_ok t ht)
theorem pcs_rows (L : List Pc) : L.flatMap pcC = (L.map pcC).flatten := by rw [List.flatMap_def]
set_option maxRecDepth 100000 in
set_option maxHeartbeats 4000000 in
theorem rLine_any {w : World} {g kc ka : Nat} {b : B4} {cs : List Ce} (h : Rc w g kc ka b cs) (a d : Dt) (ha : inB b a = true) (hd : inB b d = true) :
    Calls Try.prog 16 #[.pointer (some ⟨g, 0, none⟩), .agg #[.int .i64 a.1, .int .i64 a.2], .agg #[.int .i64 d.1, .int .i64 d.2]] w (RBitR g kc ka b (lineC b cs a d) w) := by
  have fa := h.box.dot ha
  have fd := h.box.dot hd
  obtain ⟨gA, gB⟩ := dn_fit fa fd
  obtain ⟨iA, iB⟩ := dn_in ha hd
  have hle := dn_le a d
  have hpl := line_places h.box iA iB hle
  have hok := rowsR_ok (onWay_start hle)
  have hsg := dnS_one a d
  have HDN := Lib.hid (fun w => rDown_any a d w)
  have HRR := Lib.hid (fun w => rRows_any (dnA a d) (dnB a d) w gA gB hle)
  have hlin : lineC b cs a d = (rowsR (dnA a d) (dnB a d) (dnA a d)).foldl (pieceC b (dnS a d)) cs := rfl
  have hlen : (rowsR (dnA a d) (dnB a d) (dnA a d)).length ≤ 2097152 := by
    have h2 := rowsN_len (dnA a d) (dnB a d) ((dnB a d).2 - (dnA a d).2).toNat (dnA a d)
    have h3 := dotB_true.1 gA
    have h4 := dotB_true.1 gB
    unfold rowsR
    omega
  have hfit : ∀ p ∈ rowsR (dnA a d) (dnB a d) (dnA a d), dotB p.A = true ∧ dotB p.B = true := fun p hp => ⟨onWay_fit gA gB (hok p hp).A, onWay_fit gA gB (hok p hp).B⟩
  rw [hlin]
  generalize rowsR (dnA a d) (dnB a d) (dnA a d) = L at *
  generalize dnA a d = A at *
  generalize dnB a d = D at *
  generalize dnS a d = sg at *
  have H := Lib.hid h
  have HPL := Lib.hid hpl
  have HFI := Lib.hid hfit
  clear h ha hd fa fd gA gB iA iB hle hpl hok hlin hfit
  obtain ⟨A1, A2⟩ := A
  obtain ⟨D1, D2⟩ := D
  obtain ⟨a1, a2⟩ := a
  obtain ⟨d1, d2⟩ := d
  dsimp only at *
  go_enter Try.func16, Try.ntmps16
  go_wp2_with (first
    | (go_at_call 22; (with_reducible refine (HDN.out _).mono ?_); rintro e w5 ⟨rfl, hb5⟩; obtain ⟨hc5, hf5, hz5⟩ := bcell hb5; (try simp at hz5))
    | (go_at_call 23; (with_reducible refine (HRR.out _).mono ?_); rintro e w6 ⟨A0, c0, rfl, hown, hb6⟩; have HBW : Hid (Bel w.heap.size w w6) := Lib.hid (bel_call hb6 (by repeat (first | with_reducible exact bel_refl | with_reducible apply bel_alloc | with_reducible apply bel_drewN | with_reducible apply bel_drew | (with_reducible refine bel_set ?_ ?_; rotate_left; · first | (simp; done) | (simp; omega) | omega) | with_reducible refine bel_call (by assumption) ?_))); have HOW := Lib.hid hown; clear hb6 hown)
    | fail)
  obtain ⟨A1', c1', hA', hrows, hbase⟩ := RowsAt.of_own (rows := L.map pcC) (k := 5) HOW.out (by rw [List.flatMap_def]) (fun r hr => by obtain ⟨y, -, rfl⟩ := List.mem_map.1 hr; rfl) (by omega)
  injection hA' with e1 _ e2
  subst e1 e2
  have hkl := H.out.cov.lt
  have hal := H.out.are.lt
  have hbs : ∀ ad, A0 = some ad → w.heap.size ≤ ad.block := fun ad h => by have := hbase ad h; simp at this; omega
  have HRO := Lib.hid hrows
  have HBS := Lib.hid hbs
  have HRC := Lib.hid (H.out.keepB HBW.out.below)
  clear hc5 hf5 hz5 hb5 HOW hrows hbase hbs
  go_loopw [8] (fun i wr => ∃ j : Nat, j ≤ L.length ∧ i = .int .i64 j ∧ Hid (Rc wr g kc ka b ((L.take j).foldl (pieceC b sg) cs)) ∧ Hid (Tn (TwoB kc ka) w6 wr)) (fun i _ => L.length - (intOf i).toNat)
  case atStart => exact ⟨0, Nat.zero_le _, rfl, HRC, Lib.hid (Tn.refl _)⟩
  case round =>
    obtain ⟨j, hj, rfl, HR, HT⟩ := hrel
    by_cases hlt : j < L.length
    · obtain ⟨p, hp⟩ : ∃ p, L[j]? = some p := ⟨_, List.getElem?_eq_getElem hlt⟩
      have hmem := List.mem_of_getElem? hp
      have hrw : RowsAt wr A0 L.length 5 (L.map pcC) := HRO.out.stay HT.out.size fun q hq hA => HT.out.block q hq (fun e => by
        obtain ⟨ad, hA2⟩ : ∃ ad, A0 = some ad := by cases A0 with
          | none => cases hA
          | some ad => exact ⟨ad, rfl⟩
        have := HBS.out ad hA2
        rw [hA2] at hA
        have h3 : ad.block = q := by injection hA
        rcases e with rfl | rfl <;> omega)
      obtain ⟨ab, ao, hAe, hbl, hcl⟩ := hrw.at_ (i := j) (r := pcC p) (by rw [List.getElem?_map, hp]; rfl)
      have hpc := rpiece_any HR.out sg p hsg (HFI.out p hmem).1 (HFI.out p hmem).2 (HPL.out p hmem)
      have hnext : (L.take (j + 1)).foldl (pieceC b sg) cs = pieceC b sg ((L.take j).foldl (pieceC b sg) cs) p := by rw [List.take_add_one, hp, List.foldl_append]; rfl
      have HNX := Lib.hid hnext
      have HPC := Lib.hid hpc
      obtain ⟨row, ⟨a1', a2'⟩, ⟨b1', b2'⟩⟩ := p
      have q0 : wr.cell? ⟨ab, ao + j * 5, none⟩ = some (.int .i64 row) := hcl 0 _ rfl
      have q1 : wr.cell? ⟨ab, ao + j * 5 + 1, none⟩ = some (.int .i64 a1') := hcl 1 _ rfl
      have q2 : wr.cell? ⟨ab, ao + j * 5 + 2, none⟩ = some (.int .i64 a2') := hcl 2 _ rfl
      have q3 : wr.cell? ⟨ab, ao + j * 5 + 3, none⟩ = some (.int .i64 b1') := hcl 3 _ rfl
      have q4 : wr.cell? ⟨ab, ao + j * 5 + 4, none⟩ = some (.int .i64 b2') := hcl 4 _ rfl
      subst hAe
      clear hp hmem hrw hcl hnext hpc
      go_wp2_with (first
        | (go_at_call 38; (with_reducible refine HPC.out.mono ?_); rintro e w7 ⟨⟨v', rfl⟩, hc7, ht7⟩; have HC7 := Lib.hid hc7; have HT7 := Lib.hid ht7; clear hc7 ht7)
        | fail)
      go_roundw
      case rel => exact ⟨j + 1, by omega, by go_num, Lib.hid (by rw [HNX.out]; exact HC7.out), Lib.hid (HT.out.trans HT7.out)⟩
      case measure => simp [intOf]; omega
    · have hje : j = L.length := by omega
      have hfin : RBitR g kc ka b (L.foldl (pieceC b sg) cs) w (.returned (.tuple #[])) wr := by
        refine ⟨⟨_, rfl⟩, ?_, Tn.behind HBW.out.below HT.out⟩
        have := HR.out
        rw [hje, List.take_length] at this
        exact this
      have HF := Lib.hid hfin
      clear hfin hje
      go_wp2_with fail
      with_reducible refine bodyPost_end (v := .tuple #[]) (by simp [results, Try.results16]) rfl ?_
      exact HF.out
end Go.Proofs.Ytbjggiihbdhmbaa
