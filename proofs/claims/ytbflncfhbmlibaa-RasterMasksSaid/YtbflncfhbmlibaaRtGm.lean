/-
  Layer 23: the law's lives.
  Layer 23: the law's rectangle.
  Layer 23: Crop of a mask that may not be, by a box that may not be; Crop whole.
  Layer 23: what a box has of a mask: the program's Crop.
  Layer 23: a mask's pixel: the program's At; the sum of its bytes: Total.
  Layer 23: a mask's pixel: the program's place and At; its sum: Total.
  Layer 23: the program's Fill where there is no mask; Fill whole.
  Layer 23: the mask of a flat outline: the program's Fill.
  Layer 23, plainly: lines within their box; the walkers at each row; a row's bytes.
  Layer 23: the box of a flat outline: the program's flatten.Box.
-/
import Derived.Test.YtbflncfhbmlibaaRsGm
import Derived.Test.YtbflncfhbmlibaaAffG
import Derived.Test.YtbflncfhbmlibaaRange
import Derived.Test.YtbflncfhbmlibaaEqB
import Derived.Test.YtbflncfhbmlibaaRtBm
import Derived.Test.YtbflncfhbmlibaaAffE
import Derived.Test.YtbflncfhbmlibaaStr
namespace Go.Proofs.Ytbflncfhbmlibaa
open Go.RowKit Go.Shelf

theorem pre_flat {α : Type} {ls : List (List α)} {k j : Nat} {l : List α} {x : α} (h : ls[k]? = some l) (hx : l[j]? = some x) : ((ls.take k).flatten ++ l.take j) ++ [x] <+: ls.flatten := by
  rw [List.append_assoc, ← take_snoc hx]
  have h1 : (ls.take k).flatten ++ l.take (j + 1) <+: (ls.take k).flatten ++ l := (List.prefix_append_right_inj _).2 (List.take_prefix _ _)
  rw [← flat_snoc h] at h1
  refine h1.trans ⟨(ls.drop (k + 1)).flatten, ?_⟩
  rw [← List.flatten_append, List.take_append_drop]
theorem flat_len (ls : List (List Dt)) : ls.flatten.length = cnt ls := by rw [List.length_flatten]; rfl

set_option maxRecDepth 20000 in
set_option maxHeartbeats 2000000 in
/-- The dots, handed over one by one, whatever the rounds keep. -/
theorem dots_givesK {w0 w : World} {A : Option Addr} {c : Nat} {ls : List (List Dt)} {Kp : World → World → Prop} (n b : Nat) (hd : Dl w0 A ls) (hw0 : Below w0.heap.size w0 w) (hn : ls.length ≤ 1000) (hb : b < w.heap.size) (hc : w.cell? ⟨b, 0, none⟩ = some (.slice A ls.length c))
    (hKp : ∀ {A B}, Kp A B → Below w0.heap.size A B) :
    Gives n Try.prog 76 #[.pointer (some ⟨b, 0, none⟩)] dotV Kp (fun pre x _ => pre ++ [x] <+: ls.flatten) (fun xs => xs = ls.flatten) (fun _ => True) w := by
  intro l J Jx W hW hJ hJx hY h0
  have hc' : W.cell? ⟨b, 0, none⟩ = some (.slice A ls.length c) := (hW.cell (p := ⟨b, 0, none⟩) hb).trans hc
  have HJ : Hid (∀ pre A B, J pre A → Below A.heap.size A B → J pre B) := Lib.hid fun pre A B h hb => (AbidesFrom.below hJ h hb)
  have HD := Lib.hid hd
  have HW := Lib.hid (hw0.trans (hW.mono hw0.size))
  have HY := Lib.hid hY
  have H0 := Lib.hid h0
  have HKP : Hid (∀ {A B}, Kp A B → Below w0.heap.size A B) := Lib.hid hKp
  clear hd hc hJ hJx hW hY h0 hw0 hKp
  refine callsIn_of_wp Try.func76 rfl trivial ?_ rfl
  simp only [Try.ntmps76, List.size_toArray, List.length_cons, List.length_nil, Nat.reduceAdd, Nat.reduceSub, Array.replicate_succ, Array.replicate_zero, List.push_toArray, List.append_toArray, List.nil_append, List.cons_append]
  gi_wp2
  clear hc'
  gi_loopw [9] (fun i wr => ∃ k : Nat, k ≤ ls.length ∧ i = .int .i64 k ∧ Hid (J (ls.take k).flatten wr) ∧ Hid (Below w0.heap.size w0 wr)) (fun i _ => ls.length - (intOf i).toNat)
  case atStart => exact ⟨0, Nat.zero_le _, rfl, H0, HW⟩
  case round =>
    obtain ⟨k, hk, rfl, HJ1, HB⟩ := hrel
    rcases Nat.lt_or_ge k ls.length with hlt | hlt
    · obtain ⟨cl, hcl⟩ := get_some hlt
      obtain ⟨b1, o1, A1, c1, rfl, hb1, hc0, hd1, hs1⟩ := HD.out k cl hcl
      have hc1 : wr.cell? ⟨b1, o1 + k, none⟩ = some (.slice A1 cl.length c1) := (HB.out.cell (p := ⟨b1, _, none⟩) hb1).trans hc0
      have HC := Lib.hid hcl
      have HD1 := Lib.hid hd1
      clear hcl hd1 hc0
      gi_wp2
      gi_loopw [15] (fun i wq => ∃ j : Nat, j ≤ cl.length ∧ i = .int .i64 j ∧ Hid (J ((ls.take k).flatten ++ cl.take j) wq) ∧ Hid (Below w0.heap.size w0 wq)) (fun i _ => cl.length - (intOf i).toNat)
      case atStart => exact ⟨0, Nat.zero_le _, rfl, by simpa using HJ1, HB⟩
      case round =>
        obtain ⟨j, hj, rfl, HJ2, HB2⟩ := hrel
        rcases Nat.lt_or_ge j cl.length with hlt2 | hlt2
        · obtain ⟨⟨x, y⟩, hx⟩ := get_some hlt2
          obtain ⟨b2, o2, rfl, hb2, hx2, hy2⟩ := (HD1.out.keep HB2.out) j _ hx
          dsimp only at hx2 hy2
          obtain ⟨fn, tmps, assign, body, hy, hR⟩ := HY.out _ (x, y) (wr.alloc (.cells #[.int .i64 x, .int .i64 y] 37)) (HJ.out _ _ _ HJ2.out (bel_alloc bel_refl).below) (pre_flat HC.out hx)
          have HR := Lib.hid hR
          have HX := Lib.hid hx
          dsimp only [dotV] at hy
          clear hx hR
          gi_wp2
          refine ⟨fun he => (by cases he), HR.out.mono ?_⟩
          rintro e W4 (⟨rfl, hJ4, hk4⟩ | ⟨rfl, hJx4⟩)
          · have HJ4 := Lib.hid hJ4
            have HB4 := Lib.hid (HB2.out.trans (((bel_alloc bel_refl).below.mono HB2.out.size).trans (HKP.out hk4)))
            clear hJ4 hk4
            gi_wp2
            go_roundw
            case rel => exact ⟨j + 1, by omega, by go_num, by rw [take_snoc HX.out, ← List.append_assoc]; exact HJ4, HB4⟩
            case measure => simp [intOf]; omega
          · have HJ4 := Lib.hid hJx4
            clear hJx4
            gi_wp2
            refine bodyPost_ret (results_none rfl _ _ _) rfl ?_
            exact ⟨⟨_, rfl⟩, .inr ⟨_, trivial, HJ4.out⟩⟩
        · obtain rfl : j = cl.length := by omega
          have HJ3 : Hid (J (ls.take (k + 1)).flatten wr) := Lib.hid (by
            have := HJ2.out
            rw [List.take_of_length_le (Nat.le_refl _)] at this
            rw [flat_snoc HC.out]
            exact this)
          clear hj hlt2 HJ2
          gi_wp2
          go_roundw
          case rel => exact ⟨k + 1, by omega, by go_num, HJ3, HB2⟩
          case measure => simp [intOf]; omega
    · obtain rfl : k = ls.length := by omega
      have HJ3 : Hid (J ls.flatten wr) := Lib.hid (by
        have := HJ1.out
        rwa [List.take_of_length_le (Nat.le_refl _)] at this)
      clear HJ1
      gi_wp2
      with_reducible refine bodyPost_end (v := .tuple #[]) (by simp [results, Try.results76]) rfl ?_
      exact ⟨⟨_, rfl⟩, .inl ⟨_, rfl, HJ3.out⟩⟩

/-- What the rounds hold: the dots' numbers so far, in two lists. -/
def XysI (N bx bz : Nat) (w0 : World) (pre : List Dt) (W : World) : Prop :=
  ∃ vA vC, W.ownsRow N 3 1 vA pre.length ((pre.map (·.1)).map (.int .i64)) ∧ W.ownsRow N 3 1 vC pre.length ((pre.map (·.2)).map (.int .i64)) ∧ (∀ r, vA.ownBlock = some r → vC.ownBlock ≠ some r) ∧
    Blk W bx 76 [vA] ∧ Blk W bz 76 [vC] ∧ Below N w0 W
theorem xys_own {N bx bz B : Nat} {w0 : World} (h1 : N ≤ w0.heap.size) (h2 : N ≤ B) : OwnFrom B (XysI N bx bz w0) := by
  rintro pre W W' row ⟨vA, vC, hA, hC, hD, hb, hz, hk⟩ hg hr
  have far : ∀ {n s : Nat} {e : TypeId} {v : Value} {xs : List Value}, W.ownsRow N e s v n xs → W'.ownsRow N e s v n xs := fun h => own_keep h fun k hk2 => hg.block k (own_lt h k hk2).2 (fun e => by
    obtain ⟨cs, h2⟩ := own_typed h k hk2
    obtain ⟨_, o, ho, hc⟩ := hr k e.symm
    rw [ho] at h2
    injection h2 with h2
    rw [h2] at hc
    cases hc)
  exact ⟨vA, vC, far hA, far hC, hD, blk_own bx 76 (fun _ : Unit => [vA]) () W W' row hb hg (fun r e => (hr r e).2), blk_own bz 76 (fun _ : Unit => [vC]) () W W' row hz hg (fun r e => (hr r e).2), ownFrom_below (β := Unit) h1 h2 () W W' row hk hg hr⟩
def hullB (ds : List Dt) : Bx := hullTo (ds.map (·.1)) (ds.map (·.2)) ds.length
def boxF (ls : List (List Dt)) : B4 :=
  if emptyB ((hullB ls.flatten).x0 / 64) ((hullB ls.flatten).y0 / 64) (-(-(hullB ls.flatten).x1 / 64)) (-(-(hullB ls.flatten).y1 / 64)) = true then ⟨0, 0, 0, 0⟩
  else ⟨(hullB ls.flatten).x0 / 64, (hullB ls.flatten).y0 / 64, -(-(hullB ls.flatten).x1 / 64), -(-(hullB ls.flatten).y1 / 64)⟩
def boxR (ls : List (List Dt)) : B4 := if mayL ls = true then boxF ls else ⟨0, 0, 0, 0⟩
def b4V (b : B4) : Value := .agg #[.int .i64 b.x0, .int .i64 b.y0, .int .i64 b.x1, .int .i64 b.y1]

theorem ints_of_own {w : World} {N n c : Nat} {A : Option Addr} {xs : List Int} (h : w.ownsRow N 3 1 (.slice A n c) n (xs.map (.int .i64))) : IntsAt w A n xs := by
  have hl := h.1
  rw [List.length_map, Nat.mul_one] at hl
  refine ⟨hl, fun k hk => ?_⟩
  rcases h.2 with ⟨_, h0⟩ | ⟨g, cap, cur, e, _, hg, hn, _, hs, ht⟩
  · omega
  · injection e with e1 e2 e3
    subst e1
    have hlt : g < w.heap.size := by
      rcases Nat.lt_or_ge g w.heap.size with h' | h'
      · exact h'
      · rw [Array.getElem?_eq_none h'] at hg; cases hg
    refine ⟨g, 0, rfl, hlt, ?_⟩
    have hb : Blk w g 3 cur.toList := hg
    rw [hb.cell]
    have h2 : (cur.toList.take (n * 1))[k]? = cur.toList[k]? := by rw [List.getElem?_take, if_pos (by omega)]
    rw [Nat.zero_add, ← h2, ht, List.getElem?_map]
    unfold at0
    rw [List.getD_eq_getElem?_getD, List.getElem?_eq_getElem (by omega)]
    rfl
theorem hullTo_bd {xs ys : List Int} {m : Int} (hm : 0 ≤ m) : ∀ n, (∀ k, k < n → (-m ≤ at0 xs k ∧ at0 xs k ≤ m) ∧ (-m ≤ at0 ys k ∧ at0 ys k ≤ m)) →
    (-m ≤ (hullTo xs ys n).x0 ∧ (hullTo xs ys n).x0 ≤ m) ∧ (-m ≤ (hullTo xs ys n).y0 ∧ (hullTo xs ys n).y0 ≤ m) ∧ (-m ≤ (hullTo xs ys n).x1 ∧ (hullTo xs ys n).x1 ≤ m) ∧ (-m ≤ (hullTo xs ys n).y1 ∧ (hullTo xs ys n).y1 ≤ m)
  | 0, _ => by simp [hullTo]; omega
  | n + 1, h => by
    have ih := hullTo_bd hm n (fun k hk => h k (by omega))
    have h1 := h n (by omega)
    unfold hullTo
    split
    · rename_i h0
      subst h0
      unfold hullStep
      dsimp only
      omega
    · unfold hullStep
      dsimp only
      omega
theorem fit_at {ls : List (List Dt)} (h : mayL ls = true) : ∀ k, k < ls.flatten.length → (-1048576 ≤ at0 (ls.flatten.map (·.1)) k ∧ at0 (ls.flatten.map (·.1)) k ≤ 1048576) ∧ (-1048576 ≤ at0 (ls.flatten.map (·.2)) k ∧ at0 (ls.flatten.map (·.2)) k ≤ 1048576) := by
  intro k hk
  rw [mayL_flat, List.all_eq_true] at h
  have := h ls.flatten[k] (List.getElem_mem hk)
  unfold fitDt at this
  rw [Bool.and_eq_true, fitD_true, fitD_true] at this
  unfold at0
  rw [List.getD_eq_getElem?_getD, List.getD_eq_getElem?_getD, List.getElem?_map, List.getElem?_map, List.getElem?_eq_getElem hk]
  exact this
theorem hullB_bd {ls : List (List Dt)} (h : mayL ls = true) : (-1048576 ≤ (hullB ls.flatten).x0 ∧ (hullB ls.flatten).x0 ≤ 1048576) ∧ (-1048576 ≤ (hullB ls.flatten).y0 ∧ (hullB ls.flatten).y0 ≤ 1048576) ∧ (-1048576 ≤ (hullB ls.flatten).x1 ∧ (hullB ls.flatten).x1 ≤ 1048576) ∧ (-1048576 ≤ (hullB ls.flatten).y1 ∧ (hullB ls.flatten).y1 ≤ 1048576) :=
  hullTo_bd (by omega) _ (fit_at h)
theorem hullE_ok {ls : List (List Dt)} (h : mayL ls = true) : hullE (ls.flatten.map (·.1)) (ls.flatten.map (·.2)) ls.flatten.length = (hullB ls.flatten, 0) := by
  have ha : ∀ n, n ≤ ls.flatten.length → allMay (ls.flatten.map (·.1)) (ls.flatten.map (·.2)) n = true := by
    intro n
    induction n with
    | zero => intro _; rfl
    | succ n ih =>
      intro hn
      have := fit_at h n (by omega)
      unfold allMay mayB
      rw [ih (by omega), Bool.true_and, Bool.and_eq_true, Bool.and_eq_true, Bool.and_eq_true, decide_eq_true_eq, decide_eq_true_eq, decide_eq_true_eq, decide_eq_true_eq]
      omega
  unfold hullE
  rw [if_pos (ha _ (Nat.le_refl _))]
  rfl

attribute [local go_sem] Oper.semAt_some

set_option maxRecDepth 100000 in
set_option maxHeartbeats 4000000 in
theorem flatBox_any {w : World} {A : Option Addr} {c : Nat} {ls : List (List Dt)} (h : Dl w A ls) (hn : ls.length ≤ 1000) (hc : cnt ls ≤ 1000) :
    Calls Try.prog 31 #[.slice A ls.length c] w fun e w' => e = .returned (.tuple #[b4V (boxR ls), .int .i64 (mayE ls)]) ∧ Below w.heap.size w w' := by
  have HL := Lib.hid h
  have HC := Lib.hid hc
  have HN := Lib.hid hn
  have hb0 : Below w.heap.size w (w.alloc (.cells #[.int .i64 0, .int .i64 0, .int .i64 0, .int .i64 0] 26)) := (bel_alloc bel_refl).below
  have HM := Lib.hid (flatMay_any (c := c) (h.keep hb0) hn hc)
  have HB0 := Lib.hid hb0
  clear h hc hb0
  refine (callsIn_wide (n := 5)).1 (callsIn_of_wp_marks Try.func31 rfl trivial ?_ rfl)
  simp only [Try.ntmps31, List.size_toArray, List.length_cons, List.length_nil, Nat.reduceAdd, Nat.reduceSub, Array.replicate_succ, Array.replicate_zero, List.push_toArray, List.append_toArray, List.nil_append, List.cons_append]
  refine wpIn_wide.2 ?_
  rcases Bool.eq_false_or_eq_true (mayL ls) with hm | hm
  · have hme : mayE ls = 0 := by unfold mayE; rw [hm]; rfl
    rw [hme] at HM ⊢
    go_wp2_with (first
      | (go_at_call 48; (with_reducible refine HM.out.mono ?_); rintro e w1 ⟨rfl, hb1⟩; have HBB := Lib.hid hb1; have HB1 := Lib.hid (HB0.out.trans (hb1.mono HB0.out.size)); clear hb1)
      | (go_at_call 49; (with_reducible refine (flatAll_any _ _ _ _).mono ?_); rintro e w2 ⟨rfl, rfl⟩))
    obtain ⟨bx, hbx⟩ : ∃ bx, w1.heap.size = bx := ⟨_, rfl⟩
    obtain ⟨W1, hW1⟩ : ∃ W1, ((w1.alloc (.cells #[.slice none 0 0] 76)).alloc (.cells #[.slice none 0 0] 76)).alloc (.cells #[.slice A ls.length c] 22) = W1 := ⟨_, rfl⟩
    have hz1 : W1.heap.size = bx + 3 := by rw [← hW1, ← hbx]; simp
    have HBX : Hid (Blk W1 bx 76 [.slice none 0 0]) := Lib.hid (by rw [← hW1, ← hbx]; exact ((Blk.new w1 _ [_]).alloc _).alloc _)
    have HBZ : Hid (Blk W1 (bx + 1) 76 [.slice none 0 0]) := Lib.hid (by rw [← hW1, ← hbx]; exact (Blk.newAt _ _ [_] (by simp)).alloc _)
    have HBC : Hid (Blk W1 (bx + 1 + 1) 22 [.slice A ls.length c]) := Lib.hid (by rw [← hW1, ← hbx]; exact Blk.newAt _ _ [_] (by simp))
    have HBW : Hid (Below bx w1 W1) := Lib.hid (by rw [← hW1, ← hbx]; exact (((Below.refl _ _).alloc (Nat.le_refl _) _).alloc (by simp) _).alloc (by simp; omega) _)
    have HL1 := Lib.hid (HL.out.keep HB1.out)
    have hw1 : w.heap.size < bx := by rw [← hbx]; have := HBB.out.size; simp at this; omega
    rw [hW1, hbx]
    have HZB := Lib.hid hbx
    have HZ1 := Lib.hid hz1
    clear hW1 hbx hz1
    refine (wpIn_wide (n := 5)).1 ?_
    refine wpIn_range_box (P := Try.prog) (n := 5) (gf := 76) (lb := #[.pointer (some ⟨bx + 1 + 1, 0, none⟩)]) rfl (enters_of Try.func76 (by kernel_rfl) rfl)
      (dots_givesK 4 (bx + 1 + 1) HL1.out (by rw [HZB.out]; exact HBW.out) HN.out HBC.out.lt (HBC.out.cell 0) (Kp := Below bx) (fun h => by rw [HZB.out]; exact h)) belowK_t (belowK_b (by rw [HZ1.out]; omega)) (Below.refl _ _) (fun _ => rfl)
      (XysI bx bx (bx + 1) w1) (fun _ _ _ => False) (xys_own (by rw [HZB.out]; exact Nat.le_refl _) (by rw [HZ1.out]; omega)) (fun _ => ownFrom_pure _ (fun _ => False)) (ownFrom_pure _ (fun p : List Dt × Dt => p.1 ++ [p.2] <+: ls.flatten))
      ⟨.slice none 0 0, .slice none 0 0, World.ownsRow_nil _ _ _ _, World.ownsRow_nil _ _ _ _, fun r e => by simp [Value.ownBlock] at e, HBX.out, HBZ.out, HBW.out⟩ ?a1
      (fun d W => W.alloc (.cells #[.int .i64 d.1, .int .i64 d.2] 37)) (fun d W => (bel_alloc bel_refl).below) (fun d W hw => (bel_alloc bel_refl).below.mono (by rw [HZ1.out] at hw; omega)) ?assign ?body ?done ?stop
    case assign =>
      intro l x W K hK
      simp only [dotV, List.zip_toArray, List.zip_cons_cons, List.zip_nil_right, List.foldl_toArray, List.foldl_cons, List.foldl_nil, List.setIfInBounds_toArray, List.set_cons_succ, List.set_cons_zero]
      gi_wp2
      exact hK
    case body =>
      rintro l pre ⟨x, y⟩ W Wb hge hsz hcells ⟨vA, vC, hA, hC2, hD, hb, hz, hk⟩ hmem
      have hbd : Blk Wb W.heap.size 37 [.int .i64 x, .int .i64 y] := hcells _ _ (Blk.new W 37 [.int .i64 x, .int .i64 y]) rfl
      refine wpIn_block ?_
      refine box_region (free_round l) ⟨rfl, by kernel_rfl, ⟨_, rfl, rfl, rfl, rfl⟩, ⟨_, rfl, rfl, rfl, rfl⟩, ⟨_, rfl, rfl, rfl, rfl⟩, ⟨_, rfl, rfl, rfl, rfl⟩, ⟨_, rfl, rfl, rfl, rfl⟩, ⟨_, rfl, rfl, rfl, rfl⟩, ⟨_, rfl, rfl, rfl, rfl⟩, ⟨_, rfl, rfl, rfl, rfl⟩, ⟨_, rfl, rfl, rfl, rfl⟩, ⟨_, rfl, rfl, rfl, rfl⟩, ⟨_, rfl, rfl, rfl, rfl⟩, ⟨_, rfl, rfl, rfl, rfl⟩, by kernel_rfl, by kernel_rfl, by kernel_rfl, by kernel_rfl, by kernel_rfl, by kernel_rfl, by kernel_rfl, by kernel_rfl, by kernel_rfl, by kernel_rfl, by kernel_rfl, by kernel_rfl, by kernel_rfl⟩
        (by rfl) (by rfl) (by rfl) (by rfl) hA hC2 hD hb hz hbd (Nat.le_refl _) (Nat.le_succ _) (by omega) (by have := hmem.length_le; rw [flat_len, List.length_append] at this; have := HC.out; simp at *; omega) ?_
      intro a' w' v u h1 h2 h3 h4 h5 h6 h7
      exact ⟨h7, h6, v, u, by simpa using h1, by simpa using h2, h3, h4, h5, hk.trans h6⟩
    case' done =>
      rintro D xs W hD hxs ⟨vA, vC, hA, hC2, hDD, hb, hz, hk⟩ hK
      subst hxs
      obtain ⟨A1, c1, rfl⟩ := own_slice hA
      obtain ⟨A2, c2, rfl⟩ := own_slice hC2
      have HH := Lib.hid (Hull_any A1 A2 ls.flatten.length c1 c2 _ _ W (by rw [flat_len]; have := HC.out; omega) (ints_of_own hA) (ints_of_own hC2))
      rw [hullE_ok hm] at HH
      have hbd := hullB_bd hm
      have HM2 : Hid (boxR ls = boxF ls) := Lib.hid (by unfold boxR; rw [if_pos hm])
      have HBF : Hid (boxF ls = if emptyB ((hullB ls.flatten).x0 / 64) ((hullB ls.flatten).y0 / 64) (-(-(hullB ls.flatten).x1 / 64)) (-(-(hullB ls.flatten).y1 / 64)) = true then ⟨0, 0, 0, 0⟩ else ⟨(hullB ls.flatten).x0 / 64, (hullB ls.flatten).y0 / 64, -(-(hullB ls.flatten).x1 / 64), -(-(hullB ls.flatten).y1 / 64)⟩) := Lib.hid rfl
      obtain ⟨⟨H0, H1, H2, H3⟩, hH⟩ : ∃ H, hullB ls.flatten = H := ⟨_, rfl⟩
      rw [hH] at HH hbd HBF
      dsimp only at HH hbd HBF
      have b0 : W.cell? ⟨bx, 0, none⟩ = some (.slice A1 ls.flatten.length c1) := hb.cell 0
      have z0 : W.cell? ⟨bx + 1, 0, none⟩ = some (.slice A2 ls.flatten.length c2) := hz.cell 0
      obtain ⟨nf, hnf⟩ : ∃ nf, ls.flatten.length = nf := ⟨_, rfl⟩
      rw [hnf] at b0 z0 HH
      have hbl := hb.lt
      have hzl := hz.lt
      have HK := Lib.hid hK
      have HD := Lib.hid hD
      have HWK := Lib.hid hk
      have HMM := Lib.hid hm
      clear hA hC2 hDD hb hz hk hK hD hH hnf hm
      go_wp2_with (first
        | (go_at_call 50; (with_reducible refine HH.out.mono ?_); rintro e w3 ⟨rfl, hb3⟩; have HB3 := Lib.hid hb3; clear hb3 b0 z0 hbl hzl)
        | fail)
      obtain ⟨W4, hW4⟩ : ∃ W4, w3.alloc (.cells #[.int .i64 H0, .int .i64 H1, .int .i64 H2, .int .i64 H3] 26) = W4 := ⟨_, rfl⟩
      obtain ⟨bb, hbb⟩ : ∃ bb, w3.heap.size = bb := ⟨_, rfl⟩
      have hb4 : Blk W4 bb 26 [.int .i64 H0, .int .i64 H1, .int .i64 H2, .int .i64 H3] := by rw [← hW4, ← hbb]; exact Blk.new w3 _ [_, _, _, _]
      have hr0 : Blk w1 w.heap.size 26 [.int .i64 0, .int .i64 0, .int .i64 0, .int .i64 0] := (Blk.new w _ [_, _, _, _]).keepB HBB.out
      have hrW : Blk W w.heap.size 26 [.int .i64 0, .int .i64 0, .int .i64 0, .int .i64 0] := (HWK.out.block _ hw1).trans hr0
      have hr4 : Blk W4 w.heap.size 26 [.int .i64 0, .int .i64 0, .int .i64 0, .int .i64 0] := by rw [← hW4]; exact (hrW.keepB HB3.out).alloc _
      have HD4 : Hid (W4.heap[D]? = some (.deferred (some []))) := Lib.hid (by
        rw [← hW4]
        have hlt := (Array.getElem?_eq_some_iff.1 HK.out).1
        exact (Below.heap_alloc _ _ _ (Nat.lt_of_lt_of_le hlt HB3.out.size)).trans ((HB3.out.block _ hlt).trans HK.out))
      have hneq : w.heap.size ≠ bb := by rw [← hbb]; have h1 := hrW.lt; have h2 := HB3.out.size; omega
      have HBE : Hid (Below w.heap.size w W4) := Lib.hid (by
        rw [← hW4]
        have h1 : Below w.heap.size w W := (HB1.out.mono (by omega)).trans (HWK.out.mono (Nat.le_of_lt hw1))
        have h2 := h1.trans (HB3.out.mono (by have := hrW.lt; omega))
        exact h2.alloc (by have h1 := hrW.lt; have h2 := HB3.out.size; omega) _)
      rw [hW4, hbb]
      clear hW4 hbb HB3 HK hrW hr0
      have hblt := hb4.lt
      have k0 : ∀ u, Aft W4 u → u.cell? ⟨bb, 0, none⟩ = some (.int .i64 H0) := fun u hu => (hu.cell (p := ⟨bb, 0, none⟩) hblt).trans (hb4.cell 0)
      have k1 : ∀ u, Aft W4 u → u.cell? ⟨bb, 1, none⟩ = some (.int .i64 H1) := fun u hu => (hu.cell (p := ⟨bb, 1, none⟩) hblt).trans (hb4.cell 1)
      have k2 : ∀ u, Aft W4 u → u.cell? ⟨bb, 2, none⟩ = some (.int .i64 H2) := fun u hu => (hu.cell (p := ⟨bb, 2, none⟩) hblt).trans (hb4.cell 2)
      have k3 : ∀ u, Aft W4 u → u.cell? ⟨bb, 3, none⟩ = some (.int .i64 H3) := fun u hu => (hu.cell (p := ⟨bb, 3, none⟩) hblt).trans (hb4.cell 3)
      have kz : ∀ u, Aft W4 u → bb < u.heap.size := fun u hu => Nat.lt_of_lt_of_le hblt hu.size
      have HD0 : Hid (Aft W4 W4.drew) := Lib.hid aft_drew
      have HR4 := Lib.hid hr4
      clear hb4 hr4
      go_region_held3 (fun u => Aft W4 u) (repeat (first | (with_reducible exact aft_refl) | (with_reducible refine Aft.drew ?_) | (with_reducible refine Aft.alloc ?_ _))) (first
        | (go_at_call 51; (with_reducible refine (Floor26_any _ _).mono ?_); rintro e w5 ⟨rfl, rfl⟩)
        | (go_at_call 52; (with_reducible refine (Ceil26_any _ _ (by omega) (by omega)).mono ?_); rintro e w5 ⟨rfl, rfl⟩)
        | fail)
      all_goals
        obtain ⟨nb, hnb⟩ : ∃ nb, W4.heap.size = nb := ⟨_, rfl⟩
        obtain ⟨q0, hq0⟩ : ∃ q, H0 / 64 = q := ⟨_, rfl⟩
        obtain ⟨q1, hq1⟩ : ∃ q, H1 / 64 = q := ⟨_, rfl⟩
        obtain ⟨q2, hq2⟩ : ∃ q, -(-H2 / 64) = q := ⟨_, rfl⟩
        obtain ⟨q3, hq3⟩ : ∃ q, -(-H3 / 64) = q := ⟨_, rfl⟩
        rw [hq0, hq1, hq2, hq3] at HBF ⊢
        obtain ⟨W5, hW5⟩ : ∃ W5, (W4.alloc (.cells #[.int .i64 q0, .int .i64 q1, .int .i64 q2, .int .i64 q3] 26)).drew = W5 := ⟨_, rfl⟩
        have HN5 : Hid (Blk W5 nb 26 [.int .i64 q0, .int .i64 q1, .int .i64 q2, .int .i64 q3]) := Lib.hid (by rw [← hW5, ← hnb]; exact (Blk.new W4 _ [_, _, _, _]).drew)
        have HR5 : Hid (Blk W5 w.heap.size 26 [.int .i64 0, .int .i64 0, .int .i64 0, .int .i64 0]) := Lib.hid (by rw [← hW5]; exact (HR4.out.alloc _).drew)
        have HD5 : Hid (W5.heap[D]? = some (.deferred (some []))) := Lib.hid (by
          rw [← hW5]
          exact (Below.heap_alloc _ _ _ (Array.getElem?_eq_some_iff.1 HD4.out).1).trans HD4.out)
        have HBE5 : Hid (Below w.heap.size w W5) := Lib.hid (by
          rw [← hW5]
          have h1 := HBE.out.alloc (by have := HR4.out.lt; omega) (.cells #[.int .i64 q0, .int .i64 q1, .int .i64 q2, .int .i64 q3] 26)
          exact ⟨h1.os, h1.tape, h1.output, h1.size, h1.block⟩)
        have hrn : w.heap.size ≠ nb := by rw [← hnb]; have := HR4.out.lt; omega
        have c0 : W5.cell? ⟨nb, 0, none⟩ = some (.int .i64 q0) := HN5.out.cell 0
        have c1 : W5.cell? ⟨nb, 1, none⟩ = some (.int .i64 q1) := HN5.out.cell 1
        have c2 : W5.cell? ⟨nb, 2, none⟩ = some (.int .i64 q2) := HN5.out.cell 2
        have c3 : W5.cell? ⟨nb, 3, none⟩ = some (.int .i64 q3) := HN5.out.cell 3
        have cl := HN5.out.lt
        have HE := Lib.hid fun W => Empty_any q0 q1 q2 q3 W
        rw [hW5, hnb]
        clear hW5 hnb hq0 hq1 hq2 hq3 HBE HD4 HR4 k0 k1 k2 k3 kz hbd hneq
        rcases Bool.eq_false_or_eq_true (emptyB q0 q1 q2 q3) with he | he
        · rw [he] at HE HBF
          have HBF2 : Hid (boxF ls = ⟨0, 0, 0, 0⟩) := Lib.hid (by rw [HBF.out, if_pos rfl])
          clear he HBF
          go_wp2_with (first
            | (go_at_call 53; (with_reducible refine (HE.out _).mono ?_); rintro e w6 ⟨rfl, hb6⟩; have HB6 := Lib.hid hb6; have hr6 := HR5.out.keepB hb6; have HR6 := Lib.hid hr6; have d0 := hr6.cell 0; have d1 := hr6.cell 1; have d2 := hr6.cell 2; have d3 := hr6.cell 3; have f0 := hr6.frozen 0; have f1 := hr6.frozen 1; have f2 := hr6.frozen 2; have f3 := hr6.frozen 3; clear hb6 hr6 c0 c1 c2 c3 cl)
            | fail)
          generalize hWf : World.setCell _ _ _ = Wf
          have hDr : D ≠ w.heap.size := by have h1 := HD.out; have h2 := HZ1.out; omega
          have HRF : Hid (Blk Wf w.heap.size 26 [.int .i64 0, .int .i64 0, .int .i64 0, .int .i64 0]) := Lib.hid (by rw [← hWf]; exact (((HR6.out.set 0 _).set 1 _).set 2 _).set 3 _)
          have HDF : Hid (Wf.heap[D]? = some (.deferred (some []))) := Lib.hid (by
            rw [← hWf]
            rw [Below.heap_setCell _ _ _ _ hDr, Below.heap_setCell _ _ _ _ hDr, Below.heap_setCell _ _ _ _ hDr, Below.heap_setCell _ _ _ _ hDr]
            exact (HB6.out.block _ (Array.getElem?_eq_some_iff.1 HD5.out).1).trans HD5.out)
          have HBFf : Hid (Below w.heap.size w Wf) := Lib.hid (by
            rw [← hWf]
            exact ((((HBE5.out.trans (HB6.out.mono (by have := HR5.out.lt; omega))).setCell (Nat.le_refl _) _).setCell (Nat.le_refl _) _).setCell (Nat.le_refl _) _).setCell (Nat.le_refl _) _)
          clear hWf d0 d1 d2 d3 f0 f1 f2 f3
          have hk9 := fun i v (h : Wf.cell? ⟨w.heap.size, i, none⟩ = some v) => cell_kept h (grownBy_putObj' _ D (.deferred none)) (fun r e => (by cases e; exact ⟨_, HDF.out, rfl⟩))
          have e0 := hk9 0 _ (HRF.out.cell 0)
          have e1 := hk9 1 _ (HRF.out.cell 1)
          have e2 := hk9 2 _ (HRF.out.cell 2)
          have e3 := hk9 3 _ (HRF.out.cell 3)
          refine ⟨by simp, .inl ⟨_, _, rfl, run_takeDeferred HDF.out, ?_⟩⟩
          refine ⟨.tuple #[.agg #[.int .i64 0, .int .i64 0, .int .i64 0, .int .i64 0], .int .i64 0], ?_, by unfold b4V; rw [HM2.out, HBF2.out], HBFf.out.trans (belowK_b (w := W1) (by have := HZ1.out; omega) _ D _ _ HD.out HDF.out rfl rfl)⟩
          simp [results, Try.f31, go_sem, e0, e1, e2, e3]
        · rw [he] at HE HBF
          have HBF2 : Hid (boxF ls = ⟨q0, q1, q2, q3⟩) := Lib.hid (by rw [HBF.out, if_neg (by decide)])
          clear he HBF
          go_wp2_with (first
            | (go_at_call 53; (with_reducible refine (HE.out _).mono ?_); rintro e w6 ⟨rfl, hb6⟩; have HB6 := Lib.hid hb6; have hr6 := HR5.out.keepB hb6; have HR6 := Lib.hid hr6; have d0 := hr6.cell 0; have d1 := hr6.cell 1; have d2 := hr6.cell 2; have d3 := hr6.cell 3; have f0 := hr6.frozen 0; have f1 := hr6.frozen 1; have f2 := hr6.frozen 2; have f3 := hr6.frozen 3; clear hr6 c0 c1 c2 c3 cl; have hn6 := HN5.out.keepB hb6; have g0 : w6.cell? ⟨nb, 0, none⟩ = some (.int .i64 q0) := hn6.cell 0; have g1 : w6.cell? ⟨nb, 1, none⟩ = some (.int .i64 q1) := hn6.cell 1; have g2 : w6.cell? ⟨nb, 2, none⟩ = some (.int .i64 q2) := hn6.cell 2; have g3 : w6.cell? ⟨nb, 3, none⟩ = some (.int .i64 q3) := hn6.cell 3; clear hb6 hn6)
            | fail)
          generalize hWf : World.setCell _ _ _ = Wf
          have hDr : D ≠ w.heap.size := by have h1 := HD.out; have h2 := HZ1.out; omega
          have HRF : Hid (Blk Wf w.heap.size 26 [.int .i64 q0, .int .i64 q1, .int .i64 q2, .int .i64 q3]) := Lib.hid (by rw [← hWf]; exact (((HR6.out.set 0 _).set 1 _).set 2 _).set 3 _)
          have HDF : Hid (Wf.heap[D]? = some (.deferred (some []))) := Lib.hid (by
            rw [← hWf]
            rw [Below.heap_setCell _ _ _ _ hDr, Below.heap_setCell _ _ _ _ hDr, Below.heap_setCell _ _ _ _ hDr, Below.heap_setCell _ _ _ _ hDr]
            exact (HB6.out.block _ (Array.getElem?_eq_some_iff.1 HD5.out).1).trans HD5.out)
          have HBFf : Hid (Below w.heap.size w Wf) := Lib.hid (by
            rw [← hWf]
            exact ((((HBE5.out.trans (HB6.out.mono (by have := HR5.out.lt; omega))).setCell (Nat.le_refl _) _).setCell (Nat.le_refl _) _).setCell (Nat.le_refl _) _).setCell (Nat.le_refl _) _)
          clear hWf d0 d1 d2 d3 f0 f1 f2 f3
          have hk9 := fun i v (h : Wf.cell? ⟨w.heap.size, i, none⟩ = some v) => cell_kept h (grownBy_putObj' _ D (.deferred none)) (fun r e => (by cases e; exact ⟨_, HDF.out, rfl⟩))
          have e0 := hk9 0 _ (HRF.out.cell 0)
          have e1 := hk9 1 _ (HRF.out.cell 1)
          have e2 := hk9 2 _ (HRF.out.cell 2)
          have e3 := hk9 3 _ (HRF.out.cell 3)
          refine ⟨by simp, .inl ⟨_, _, rfl, run_takeDeferred HDF.out, ?_⟩⟩
          refine ⟨.tuple #[.agg #[.int .i64 q0, .int .i64 q1, .int .i64 q2, .int .i64 q3], .int .i64 0], ?_, by unfold b4V; rw [HM2.out, HBF2.out], HBFf.out.trans (belowK_b (w := W1) (by have := HZ1.out; omega) _ D _ _ HD.out HDF.out rfl rfl)⟩
          simp [results, Try.f31, go_sem, e0, e1, e2, e3]
    case' stop => exact fun D c pre W hD _ h => h.elim
  · have hme : mayE ls = 10 := by unfold mayE; rw [hm]; rfl
    have HM2 : Hid (boxR ls = ⟨0, 0, 0, 0⟩) := Lib.hid (by unfold boxR; rw [hm]; rfl)
    rw [hme] at HM ⊢
    have hr0 := Blk.new w 26 [.int .i64 0, .int .i64 0, .int .i64 0, .int .i64 0]
    have HR0 := Lib.hid hr0
    clear hr0 hme hm
    go_wp2_with (first
      | (go_at_call 48; (with_reducible refine HM.out.mono ?_); rintro e w1 ⟨rfl, hb1⟩; have HB1 := Lib.hid (HB0.out.trans (hb1.mono HB0.out.size)); have hr6 := HR0.out.keepB hb1; have HR6 := Lib.hid hr6; have d0 := hr6.cell 0; have d1 := hr6.cell 1; have d2 := hr6.cell 2; have d3 := hr6.cell 3; have f0 := hr6.frozen 0; have f1 := hr6.frozen 1; have f2 := hr6.frozen 2; have f3 := hr6.frozen 3; clear hb1 hr6)
      | fail)
    generalize hWf : World.setCell _ _ _ = Wf
    have HRF : Hid (Blk Wf w.heap.size 26 [.int .i64 0, .int .i64 0, .int .i64 0, .int .i64 0]) := Lib.hid (by rw [← hWf]; exact (((HR6.out.set 0 _).set 1 _).set 2 _).set 3 _)
    have HBFf : Hid (Below w.heap.size w Wf) := Lib.hid (by
      rw [← hWf]
      exact (((HB1.out.setCell (Nat.le_refl _) _).setCell (Nat.le_refl _) _).setCell (Nat.le_refl _) _).setCell (Nat.le_refl _) _)
    clear hWf d0 d1 d2 d3 f0 f1 f2 f3
    have e0 := HRF.out.cell 0
    have e1 := HRF.out.cell 1
    have e2 := HRF.out.cell 2
    have e3 := HRF.out.cell 3
    refine ⟨.tuple #[.agg #[.int .i64 0, .int .i64 0, .int .i64 0, .int .i64 0], .int .i64 10], ?_, by unfold b4V; rw [HM2.out], HBFf.out⟩
    simp [results, Try.f31, go_sem, e0, e1, e2, e3]
end Go.Proofs.Ytbflncfhbmlibaa

namespace Go.Proofs.Ytbflncfhbmlibaa
open Go.RowKit Go.Shelf

theorem hullTo_in {xs ys : List Int} : ∀ n k, k < n → ((hullTo xs ys n).x0 ≤ at0 xs k ∧ at0 xs k ≤ (hullTo xs ys n).x1) ∧ ((hullTo xs ys n).y0 ≤ at0 ys k ∧ at0 ys k ≤ (hullTo xs ys n).y1)
  | 0, k, h => by omega
  | n + 1, k, h => by
    unfold hullTo
    by_cases h0 : n = 0
    · subst h0
      obtain rfl : k = 0 := by omega
      rw [if_pos rfl]
      unfold hullStep
      dsimp only
      omega
    · rw [if_neg h0]
      unfold hullStep
      dsimp only
      by_cases hk : k = n
      · subst hk
        omega
      · have := hullTo_in (xs := xs) (ys := ys) n k (by omega)
        omega
theorem hullB_in {ds : List Dt} {d : Dt} (h : d ∈ ds) : ((hullB ds).x0 ≤ d.1 ∧ d.1 ≤ (hullB ds).x1) ∧ ((hullB ds).y0 ≤ d.2 ∧ d.2 ≤ (hullB ds).y1) := by
  obtain ⟨k, hk, rfl⟩ := List.getElem_of_mem h
  have := hullTo_in (xs := ds.map (·.1)) (ys := ds.map (·.2)) ds.length k hk
  unfold hullB
  unfold at0 at this
  rw [List.getD_eq_getElem?_getD, List.getD_eq_getElem?_getD, List.getElem?_map, List.getElem?_map, List.getElem?_eq_getElem hk] at this
  exact this
theorem box_in {ls : List (List Dt)} (hc : cellE (boxF ls).x0 (boxF ls).y0 (boxF ls).x1 (boxF ls).y1 = 0) {d : Dt} (h : d ∈ ls.flatten) : inB (boxF ls) d = true := by
  have h1 := hullB_in h
  have h2 := cellE_zero.1 hc
  rw [inB_true]
  unfold boxF at h2 ⊢
  split
  · rename_i he
    rw [if_pos he] at h2
    dsimp only at h2
    omega
  · dsimp only
    omega
theorem segs_mem {ls : List (List Dt)} {s : Sg} (h : s ∈ segs ls) : s.1 ∈ ls.flatten ∧ s.2 ∈ ls.flatten := by
  unfold segs at h
  obtain ⟨l, hl, hs⟩ := List.mem_flatten.1 h
  obtain ⟨c, hc, rfl⟩ := List.mem_map.1 hl
  unfold segsOf at hs
  obtain ⟨i, hi, rfl⟩ := List.mem_map.1 hs
  rw [List.mem_range] at hi
  have hm : (i + 1) % c.length < c.length := Nat.mod_lt _ (by omega)
  refine ⟨List.mem_flatten.2 ⟨c, hc, ?_⟩, List.mem_flatten.2 ⟨c, hc, ?_⟩⟩
  · dsimp only
    rw [List.getD_eq_getElem?_getD, List.getElem?_eq_getElem hi]
    exact List.getElem_mem hi
  · dsimp only
    rw [List.getD_eq_getElem?_getD, List.getElem?_eq_getElem hm]
    exact List.getElem_mem hm
theorem segs_in {ls : List (List Dt)} (hc : cellE (boxF ls).x0 (boxF ls).y0 (boxF ls).x1 (boxF ls).y1 = 0) : inLs (boxF ls) (segs ls) := fun _ hs =>
  ⟨box_in hc (segs_mem hs).1, box_in hc (segs_mem hs).2⟩
theorem segs_dot {ls : List (List Dt)} (h : mayL ls = true) : ∀ s ∈ segs ls, dotB s.1 = true ∧ dotB s.2 = true := by
  intro s hs
  rw [mayL_flat, List.all_eq_true] at h
  obtain ⟨h1, h2⟩ := segs_mem hs
  have e : ∀ d : Dt, fitDt d = true → dotB d = true := fun d hd => by
    unfold fitDt at hd
    rw [Bool.and_eq_true, fitD_true, fitD_true] at hd
    exact dotB_true.2 hd
  exact ⟨e _ (h _ h1), e _ (h _ h2)⟩
/-- A walker at a row y or below, within the box. -/
structure RowOk (b : B4) (y : Int) (x : Wk) : Prop where
  ok : WkOk x
  ge : y ≤ x.row
  a : inB b x.a = true
  d : inB b x.d = true
theorem segW_ok {b : B4} {g : Nat} {s : Sg} {k : Wk} (h : segW g s.1 s.2 = some k) (hi : inB b s.1 = true ∧ inB b s.2 = true) (hd : dotB s.1 = true ∧ dotB s.2 = true) : RowOk b b.y0 k := by
  unfold segW at h
  have i1 := inB_true.1 hi.1
  have i2 := inB_true.1 hi.2
  split at h
  · rename_i h1
    injection h with h
    subst h
    exact ⟨⟨hd.1, hd.2, onWay_start (Int.le_of_lt h1), h1⟩, by unfold Wk.row; dsimp only; omega, hi.1, hi.2⟩
  · split at h
    · rename_i h1
      injection h with h
      subst h
      exact ⟨⟨hd.2, hd.1, onWay_start (Int.le_of_lt h1), h1⟩, by unfold Wk.row; dsimp only; omega, hi.2, hi.1⟩
    · cases h
theorem start_inv {b : B4} {l : List Sg} {ws : List Wk} (hp : (ws.map bareW).Perm (segsW l)) (hin : inLs b l) (hd : ∀ s ∈ l, dotB s.1 = true ∧ dotB s.2 = true) : InvP (segsP l) b.y0 ws ∧ ∀ x ∈ ws, RowOk b b.y0 x := by
  have hall : ∀ x ∈ ws, RowOk b b.y0 x := fun x hx => by
    have h1 := hp.mem_iff.1 (List.mem_map_of_mem (f := bareW) hx)
    unfold segsW at h1
    obtain ⟨s, hs, he⟩ := List.mem_filterMap.1 h1
    have h2 := segW_ok (b := b) he (hin s hs) (hd s hs)
    exact ⟨⟨h2.ok.fa, h2.ok.fd, h2.ok.way, h2.ok.go⟩, h2.ge, h2.a, h2.d⟩
  refine ⟨?_, hall⟩
  have h1 : (ws.flatMap wkP).Perm (segsP l) := by
    rw [← bare_P, ← segsW_P]
    exact hp.flatMap_right _
  unfold InvP
  rw [filter_all (fun q hq => ?_)]
  · exact h1
  · obtain ⟨k, hk, hq⟩ := List.mem_flatMap.1 (h1.mem_iff.2 hq)
    have h2 := (hall k hk).ge
    have h3 := wkP_ge hq
    unfold fromP
    rw [decide_eq_true_eq]
    omega
theorem row_in {b : B4} {y : Int} {k : Wk} (h : RowOk b y k) (hy : k.row = y) : inB ⟨b.x0, y, b.x1, y + 1⟩ k.from' = true ∧ inB ⟨b.x0, y, b.x1, y + 1⟩ k.to' = true := by
  have hl := way_in h.a h.d h.ok.way
  have hn := way_in h.a h.d (nextD_way h.ok.way h.ok.go)
  have ht := nextD_top (a := k.a) (d := k.d) (last := k.l)
  have hu := (nextD_up (a := k.a) h.ok.go).1
  unfold Wk.row at hy
  have e1 : inB ⟨b.x0, y, b.x1, y + 1⟩ k.l = true := by
    rw [inB_true] at hl ⊢
    dsimp only at hl ⊢
    omega
  have e2 : inB ⟨b.x0, y, b.x1, y + 1⟩ (nextD k.a k.d k.l) = true := by
    rw [inB_true] at hn ⊢
    dsimp only at hn ⊢
    omega
  unfold Wk.from' Wk.to'
  split
  · exact ⟨e2, e1⟩
  · exact ⟨e1, e2⟩
theorem RwW.next {b : B4} {y : Int} {ws0 ws don : List Wk} (r : RwW y ws0 ws don []) (h : ∀ x ∈ ws0, RowOk b y x) (P : List SPc) (hI : InvP P y ws0) : InvP P (y + 1) ws ∧ (don.map firstP).Perm (P.filter (rowP y)) ∧ (∀ k ∈ don, WkOk k) ∧ ∀ x ∈ ws, RowOk b (y + 1) x := by
  obtain ⟨h1, h2, h3, h4⟩ := hI.step r
  refine ⟨h1, h2, fun k hk => (r.on_don hk).1, fun x hx => ?_⟩
  have hm := r.p2.mem_iff.1 hx
  rw [List.nil_append] at hm
  rcases List.mem_append.1 hm with hm | hm
  · have := h x (List.mem_filter.1 hm).1
    exact ⟨h3 x hx, h4 x hx, this.a, this.d⟩
  · obtain ⟨z, hz, hzx⟩ := List.mem_filterMap.1 hm
    obtain ⟨rfl, _⟩ := nextW_some hzx
    have hz0 : z ∈ ws0 := by
      have := r.p1.mem_iff.2 (List.mem_append_left _ hz)
      exact (List.mem_filter.1 this).1
    have := h z hz0
    exact ⟨h3 _ hx, h4 _ hx, this.a, this.d⟩
theorem row_box {b : B4} (hc : cellE b.x0 b.y0 b.x1 b.y1 = 0) {y : Int} (h1 : b.y0 ≤ y) (h2 : y < b.y1) : cellE b.x0 y b.x1 (y + 1) = 0 ∧ BoxOk ⟨b.x0, y, b.x1, y + 1⟩ := by
  obtain ⟨c1, c2, c3, c4, c5, c6, c7, c8⟩ := cellE_zero.1 hc
  have hm : (b.x1 - b.x0) * 1 ≤ (b.x1 - b.x0) * (b.y1 - b.y0) := Int.mul_le_mul_of_nonneg_left (by omega) (by omega)
  have e : (b.x1 - b.x0) * (y + 1 - y) = (b.x1 - b.x0) * 1 := by congr 1; omega
  have hle : (b.x1 - b.x0) * (y + 1 - y) ≤ 4194304 := by rw [e]; omega
  refine ⟨cellE_zero.2 ⟨?_, c2, by omega, c4, by omega, c6, by omega, hle⟩, by dsimp only; omega, by dsimp only; omega, c2, by dsimp only; omega, by dsimp only; omega, by dsimp only; omega, hle⟩
  unfold bB mayB
  simp only [Bool.and_eq_true, decide_eq_true_eq]
  omega
theorem wrap_id {x : Int} (h1 : -9007199254740992 ≤ x) (h2 : x ≤ 9007199254740992) : wrap64 x = x := IntWalk.wrap64_in _ (by omega)
/-- What the cells of a row hold. -/
theorem row_cells {b : B4} (hc : cellE b.x0 b.y0 b.x1 b.y1 = 0) (hx : b.x1 - b.x0 ≤ 100) {y : Int} (h1 : b.y0 ≤ y) (h2 : y < b.y1) {l : List Sg} (hi : inLs b l) (hl : l.length ≤ 1000) {don : List Wk} (hd : (don.map firstP).Perm ((segsP l).filter (rowP y))) (hok : ∀ k ∈ don, WkOk k) (x : Int) :
    atC ⟨b.x0, y, b.x1, y + 1⟩ (rowC ⟨b.x0, y, b.x1, y + 1⟩ don) x y = if b.x0 ≤ x ∧ x ≤ b.x1 then celF (segsP l) y x else (0, 0) := by
  have hb := (row_box hc h1 h2).2
  have bd := pix_bd hx hi hl x y
  unfold rowC
  rw [rowC_pcs _ hok]
  by_cases hp : b.x0 ≤ x ∧ x ≤ b.x1
  · rw [if_pos hp, pcs_at hb (by unfold placeB; rw [Bool.and_eq_true, withinB_true, withinB_true]; dsimp only; omega), pvs_perm hd, pvs_perm hd, pvs_row, pvs_row, wrap_id (by omega) (by omega), wrap_id (by omega) (by omega)]
    rfl
  · rw [if_neg hp, pcs_out]
    unfold placeB
    rw [Bool.and_eq_false_iff]
    left
    rw [← Bool.not_eq_true, withinB_true]
    exact hp
end Go.Proofs.Ytbflncfhbmlibaa

namespace Go.Proofs.Ytbflncfhbmlibaa
open Go.RowKit Go.Shelf

/-- A flat outline that is looked at whole. -/
structure SmL (ls : List (List Dt)) : Prop where
  n : ls.length ≤ 1000
  c : cnt ls ≤ 1000
  x : mayL ls = true → (boxF ls).x1 - (boxF ls).x0 ≤ 100
  y : mayL ls = true → (boxF ls).y1 - (boxF ls).y0 ≤ 100
def zeroB (b : B4) : Bool := eq4 b.x0 b.y0 b.x1 b.y1 0 0 0 0
def boxE (b : B4) : Int := cellE b.x0 b.y0 b.x1 b.y1
def fillE (ls : List (List Dt)) : Int := if mayL ls = true then (if zeroB (boxF ls) = true then 0 else if boxE (boxF ls) = 0 then 0 else 220) else 10
def fillB (ls : List (List Dt)) : B4 := if fillE ls = 0 then boxF ls else ⟨0, 0, 0, 0⟩
def fillR (ls : List (List Dt)) : List Int := if fillE ls = 0 ∧ zeroB (boxF ls) = false then maskM (boxF ls) (segsP (segs ls)) else []
def maskV (b : B4) (v : Value) : Value := .agg #[.int .i64 b.x0, .int .i64 b.y0, .int .i64 b.x1, .int .i64 b.y1, v]
section
variable {w w' : World} {B gq gs c : Nat} {ws : List Wk}
theorem Qm.grown {N n s : Nat} {e : TypeId} {v : Value} {xs : List Value} (h : Qm w B gq gs c ws) (hg : w.grownBy w' v.ownBlock) (ho : w.ownsRow N e s v n xs) (h1 : 83 ≠ e) (h2 : 84 ≠ e) (h3 : 86 ≠ e) : Qm w' B gq gs c ws :=
  ⟨grown_blk hg ho h.hd h1, let ⟨ex, hr⟩ := h.row; ⟨ex, grown_blk hg ho hr h2⟩, fun k hk => grown_blk hg ho (h.wk k hk) h3, h.nd, h.cap, h.big, h.bq, h.bs, h.bw⟩
theorem Qm.setFar {b i : Nat} {t : TypeId} {cs : List Value} (h : Qm w B gq gs c ws) (hb : Blk w b t cs) (v : Value) (h1 : 83 ≠ t) (h2 : 84 ≠ t) (h3 : 86 ≠ t) : Qm (w.setCell ⟨b, i, none⟩ v) B gq gs c ws :=
  ⟨h.hd.far (blk_ne_type h.hd hb h1) _, let ⟨ex, hr⟩ := h.row; ⟨ex, hr.far (blk_ne_type hr hb h2) _⟩, fun k hk => (h.wk k hk).far (blk_ne_type (h.wk k hk) hb h3) _, h.nd, h.cap, h.big, h.bq, h.bs, h.bw⟩
theorem KeepW.own {N n s : Nat} {e : TypeId} {v : Value} {xs : List Value} (h : KeepW B w w') (ho : w.ownsRow N e s v n xs) (he : ¬ (e = 83 ∨ e = 84 ∨ e = 86)) : w'.ownsRow N e s v n xs :=
  own_keep ho fun k hk => by
    obtain ⟨cs, h2⟩ := own_typed ho k hk
    exact h.block k (.inr (cool_blk (cs := cs.toList) (by unfold Blk; rw [h2]) he))
end
theorem reads_own {w : World} {N s n c : Nat} {e : TypeId} {A : Option Addr} {xs : List Value} (h : w.ownsRow N e s (.slice A n c) n xs) : Reads w w.heap.size s A n xs := by
  refine ⟨h.1, fun hn => ?_⟩
  rcases h.2 with ⟨_, h0⟩ | ⟨g, cap, cur, e1, _, hg, hnc, _, hs, ht⟩
  · omega
  · injection e1 with e1 e2 e3
    subst e1
    have hb : Blk w g e cur.toList := hg
    refine ⟨_, rfl, hb.lt, fun j u hu => ?_⟩
    have ea : (⟨g, 0, none⟩ : Addr).add j = ⟨g, j, none⟩ := by
      unfold Addr.add
      split
      · rename_i h0; rw [h0]
      · simp
    rw [ea, hb.cell]
    rw [← ht, List.getElem?_take] at hu
    split at hu
    · exact hu
    · cases hu
/-- What Fill's rounds hold. -/
structure FillI (w0 : World) (B gq gs c mb bb : Nat) (b : B4) (P : List SPc) (k : Nat) (wr : World) : Prop where
  q : ∃ ws, Qm wr B gq gs c ws ∧ HpK ws ws.length 0 ∧ InvP P (b.y0 + k) ws ∧ ∀ x ∈ ws, RowOk b (b.y0 + k) x
  m : ∃ v, Blk wr mb 29 [.int .i64 b.x0, .int .i64 b.y0, .int .i64 b.x1, .int .i64 b.y1, v] ∧ wr.ownsRow w0.heap.size 5 1 v (k * (b.x1 - b.x0).toNat) ((rowsM b P k).map (.int .u8))
  b : Blk wr bb 26 [.int .i64 b.x0, .int .i64 b.y0, .int .i64 b.x1, .int .i64 b.y1]
  r : Blk wr w0.heap.size 29 [.int .i64 0, .int .i64 0, .int .i64 0, .int .i64 0, .slice none 0 0]
  keep : Below w0.heap.size w0 wr
  le : B ≤ wr.heap.size
  ne : w0.heap.size < mb
theorem FillI.next {w0 wr w4 w5 w6 : World} {B gq gs c mb bb : Nat} {b : B4} {P : List SPc} {k n L : Nat} (F : FillI w0 B gq gs c mb bb b P k wr) (hk4 : KeepW B wr w4) (hB : w0.heap.size ≤ B) {ws' : List Wk} (hq : Qm w4 B gq gs c ws') (hp : HpK ws' ws'.length 0)
    (hi : InvP P (b.y0 + k + 1) ws') (hr : ∀ x ∈ ws', RowOk b (b.y0 + k + 1) x) {v v' : Value} (hm : Blk wr mb 29 [.int .i64 b.x0, .int .i64 b.y0, .int .i64 b.x1, .int .i64 b.y1, v]) (hown : wr.ownsRow w0.heap.size 5 1 v L ((rowsM b P k).map (.int .u8)))
    (hb5 : Below w4.heap.size w4 w5) (hg : w5.grownBy w6 v.ownBlock) (hown' : w6.ownsRow w0.heap.size 5 1 v' (L + n) ((rowsM b P k).map (.int .u8) ++ (rowPx (celF P (b.y0 + k)) b.x0 n).map (.int .u8))) (hL : L = k * n) (hn : (b.x1 - b.x0).toNat = n) :
    FillI w0 B gq gs c mb bb b P (k + 1) (w6.setCell ⟨mb, 4, none⟩ v') := by
  have ho5 := own_keep (hk4.own hown (by decide)) (fun r hr2 => hb5.block r (own_lt (hk4.own hown (by decide)) r hr2).2)
  have hm5 := (hk4.blk hm (by decide)).keepB hb5
  have hm6 := grown_blk hg ho5 hm5 (by decide)
  have hbb6 := grown_blk hg ho5 ((hk4.blk F.b (by decide)).keepB hb5) (by decide)
  have hr6 := grown_blk hg ho5 ((hk4.blk F.r (by decide)).keepB hb5) (by decide)
  have hmr : mb ≠ w0.heap.size := by have := F.ne; omega
  have hkeep : Below w0.heap.size w0 w6 := ((F.keep.trans (hk4.toBelow.mono hB)).trans (hb5.mono (by have := hk4.size; have := F.keep.size; omega))).trans (grown_low hg (by have := hb5.size; have := hk4.size; have := F.keep.size; omega) (fun r e => (own_lt ho5 r e).1))
  refine ⟨⟨ws', ((hq.keep hb5).grown hg ho5 (by decide) (by decide) (by decide)).setFar hm6 _ (by decide) (by decide) (by decide), hp, ?_, ?_⟩, ⟨v', hm6.set 4 _, ?_⟩, hbb6.far (blk_ne_type hbb6 hm6 (by decide)) _, hr6.far (fun e => hmr e.symm) _, Below.setOne hkeep (Nat.le_of_lt F.ne) _, ?_, F.ne⟩
  · rw [show b.y0 + ((k + 1 : Nat) : Int) = b.y0 + k + 1 by omega]
    exact hi
  · rw [show b.y0 + ((k + 1 : Nat) : Int) = b.y0 + k + 1 by omega]
    exact hr
  · rw [rowsM_succ, List.map_append, hn, Nat.succ_mul, ← hL]
    exact own_keep hown' fun r hr2 => Below.heap_setCell _ _ _ _ (fun e2 => own_blk_ne hown' hm6 (by decide) (by rw [hr2]; exact congrArg some e2))
  · have := F.le; have := hk4.size; have := hb5.size; have := hg.size
    simp [World.setCell]
    omega
/-- A call of a Go function, as one step of a region that draws. -/
theorem step_call_ret {P : Program} {ops : Array Oper} {o : Oper} {a : Act} {w : World} {K : Act → World → Prop} {Q : Exit → Act → World → Prop} {E : Prop} {f : FuncId} {args : Array Value} {R : Ending → World → Prop} (hg : o.guard = none)
    (hrun : (execOp a.eval o).run P w = .ok (.enter f args) w) (hc : Calls P f args w R) (h : ∀ e w', R e w' → ∃ v, e = .returned v ∧ K (a.put o.dst v) w') :
    if Region.wanted o (yielded ops a.tmps) = true then Oper.wp P o a w K Q else E := by
  have hw : Region.wanted o (yielded ops a.tmps) = true := by simp [Region.wanted, hg]
  rw [if_pos hw]
  unfold Oper.wp
  rw [hrun]
  refine hc.mono fun e w' he => ?_
  obtain ⟨v, rfl, hk⟩ := h e w' he
  exact hk
/-- What a round's last region reads. -/
def BxS (bb : Nat) (x0 y0 x1 y1 : Int) (u : World) : Prop := Blk u bb 26 [.int .i64 x0, .int .i64 y0, .int .i64 x1, .int .i64 y1]
def FillR (ls : List (List Dt)) (w : World) (e : Ending) (w' : World) : Prop :=
  ∃ v, e = .returned (.tuple #[maskV (fillB ls) v, .int .i64 (fillE ls)]) ∧ w'.ownsRow w.heap.size 5 1 v (fillR ls).length ((fillR ls).map (.int .u8)) ∧ Below w.heap.size w w'
set_option maxRecDepth 20000 in
set_option maxHeartbeats 4000000 in
theorem Fill_ok {w : World} {A : Option Addr} {c : Nat} {ls : List (List Dt)} (hd : Dl w A ls) (hs : SmL ls) (hm : mayL ls = true) (hz : zeroB (boxF ls) = false) (hc : boxE (boxF ls) = 0) : Calls Try.prog 12 #[.slice A ls.length c] w (FillR ls w) := by
  have hb0 : Below w.heap.size w (w.alloc (.cells #[.int .i64 0, .int .i64 0, .int .i64 0, .int .i64 0, .slice none 0 0] 29)) := (bel_alloc bel_refl).below
  have HBX := Lib.hid (flatBox_any (c := c) (hd.keep hb0) hs.n hs.c)
  have HL := Lib.hid hd
  have HS := Lib.hid hs
  have HB0 := Lib.hid hb0
  have HR0 := Lib.hid (Blk.new w 29 [.int .i64 0, .int .i64 0, .int .i64 0, .int .i64 0, .slice none 0 0])
  clear hd hs hb0
  have h1 : mayE ls = 0 := by unfold mayE; rw [hm]; rfl
  have h2 : boxR ls = boxF ls := by unfold boxR; rw [if_pos hm]
  rw [h1, h2] at HBX
  unfold b4V at HBX
  clear h1 h2
  obtain ⟨b, hb⟩ : ∃ b, boxF ls = b := ⟨_, rfl⟩
  have HSI := Lib.hid (segs_in hc)
  have HSD := Lib.hid (segs_dot hm)
  have HSX := Lib.hid (HS.out.x hm)
  have HSY := Lib.hid (HS.out.y hm)
  have HFE : Hid (fillE ls = 0) := Lib.hid (by unfold fillE; rw [if_pos hm, if_neg (by rw [hz]; decide), if_pos hc])
  have HFR : Hid (fillR ls = maskM (boxF ls) (segsP (segs ls))) := Lib.hid (by unfold fillR; rw [if_pos ⟨HFE.out, hz⟩])
  have HFB : Hid (fillB ls = boxF ls) := Lib.hid (by unfold fillB; rw [if_pos HFE.out])
  rw [hb] at HBX HSI HSX HSY HFR HFB hz hc
  obtain ⟨x0, y0, x1, y1⟩ := b
  unfold zeroB at hz
  unfold boxE at hc
  dsimp only at HBX hz hc HSX HSY
  have HC := Lib.hid hc
  have HRB := Lib.hid fun W => rasBox_any x0 y0 x1 y1 W
  rw [show cellB x0 y0 x1 y1 = true by unfold cellB; rw [hc]; rfl] at HRB
  obtain ⟨c1, c2, c3, c4, c5, c6, c7, c8⟩ := cellE_zero.1 hc
  have HNZ := Lib.hid hz
  clear hb hm hc c1 c8
  go_enter Try.func12, Try.ntmps12
  go_wp2_with (first
    | (go_at_call 31; (with_reducible refine HBX.out.mono ?_); rintro e w1 ⟨rfl, hb1⟩; have HB1 := Lib.hid hb1; clear hb1)
    | (go_at_call 32; (with_reducible refine (HRB.out _).mono ?_); rintro e w2 ⟨rfl, hb2⟩; have HB2 := Lib.hid hb2; clear hb2)
    | (go_at_call 33; have hk1 : Below w.heap.size w w1 := HB0.out.trans (HB1.out.mono (by simp)); have hk2 : Below w.heap.size w w2 := (hk1.alloc hk1.size (.cells #[.int .i64 x0, .int .i64 y0, .int .i64 x1, .int .i64 y1] 26)).trans (HB2.out.mono (by have := hk1.size; simp; omega)); have hbx := (Blk.new w1 26 [.int .i64 x0, .int .i64 y0, .int .i64 x1, .int .i64 y1]).keepB HB2.out; have hr2 := ((HR0.out.keepB HB1.out).alloc (.cells #[.int .i64 x0, .int .i64 y0, .int .i64 x1, .int .i64 y1] 26)).keepB HB2.out; (with_reducible refine (walkers_any (c := c) (HL.out.keep hk2) HS.out.n HS.out.c).mono ?_); rintro e w3 ⟨ws, gs, cq, rfl, h1, h2, h3, h4⟩; have HQ3 := Lib.hid h1; have HP3 := Lib.hid h2; have HW3 := Lib.hid h3; have HX3 := Lib.hid (hbx.keepB h4); have HR3 := Lib.hid (hr2.keepB h4); have HK3 := Lib.hid (hk2.trans (h4.mono hk2.size)); have HZ3 := Lib.hid h4.size; have HZ2 := Lib.hid hk2.size; clear h1 h2 h3 h4 hk1 hk2 hbx hr2; have c0 : w3.cell? ⟨w1.heap.size, 0, none⟩ = some (.int .i64 x0) := HX3.out.cell 0; have c1 : w3.cell? ⟨w1.heap.size, 1, none⟩ = some (.int .i64 y0) := HX3.out.cell 1; have c2 : w3.cell? ⟨w1.heap.size, 2, none⟩ = some (.int .i64 x1) := HX3.out.cell 2; have c3' : w3.cell? ⟨w1.heap.size, 3, none⟩ = some (.int .i64 y1) := HX3.out.cell 3; have cl := HX3.out.lt)
    | fail)
  obtain ⟨h, hh⟩ : ∃ h : Nat, (h : Int) = y1 - y0 := ⟨(y1 - y0).toNat, by omega⟩
  obtain ⟨n, hn⟩ : ∃ n : Nat, x0 + (n : Int) = x1 := ⟨(x1 - x0).toNat, by omega⟩
  obtain ⟨P, hP⟩ : ∃ P, segsP (segs ls) = P := ⟨_, rfl⟩
  obtain ⟨W3, hW3⟩ : ∃ W3, w3.alloc (.cells #[.int .i64 x0, .int .i64 y0, .int .i64 x1, .int .i64 y1, .slice none 0 0] 29) = W3 := ⟨_, rfl⟩
  obtain ⟨mb, hmb⟩ : ∃ mb, w3.heap.size = mb := ⟨_, rfl⟩
  have HF0 : Hid (FillI w w2.heap.size (w2.heap.size + 1) gs cq mb w1.heap.size ⟨x0, y0, x1, y1⟩ P 0 W3) := Lib.hid (by
    rw [← hW3, ← hmb, ← hP]
    obtain ⟨g1, g2⟩ := start_inv (b := ⟨x0, y0, x1, y1⟩) HW3.out HSI.out HSD.out
    refine ⟨⟨ws, HQ3.out.keep (by exact ((Below.refl _ _).alloc (Nat.le_refl _) _)), HP3.out, by simpa using g1, by simpa using g2⟩, ⟨_, Blk.new w3 _ [_, _, _, _, _], ?_⟩, HX3.out.alloc _, HR3.out.alloc _, HK3.out.alloc HK3.out.size _, ?_, ?_⟩
    · rw [Nat.zero_mul]
      exact World.ownsRow_nil _ _ _ _
    · have := HZ3.out
      simp
      omega
    · have := HR3.out.lt
      exact this)
  have HP := Lib.hid hP
  have HH := Lib.hid hh
  have HNN := Lib.hid hn
  have HSL : Hid ((segs ls).length ≤ 1000) := Lib.hid (by have e3 := flat_segs_len ls; rw [segs_flat] at e3; rw [e3]; exact HS.out.c)
  rw [hW3, hmb]
  clear hW3 hmb hP hh hn c0 c1 c2 c3' cl
  go_loopg [8] h (fun r y wr => ∃ k : Nat, r + k = h ∧ y = .int .i64 (y0 + k) ∧ Hid (FillI w w2.heap.size (w2.heap.size + 1) gs cq mb w1.heap.size ⟨x0, y0, x1, y1⟩ P k wr))
  case atStart => exact ⟨0, rfl, by simp, HF0⟩
  case round =>
    clear HF0
    obtain ⟨k, hk, rfl, HF⟩ := hrel
    have hbb := HF.out.b
    have b0 : wr.cell? ⟨w1.heap.size, 0, none⟩ = some (.int .i64 x0) := hbb.cell 0
    have b1 : wr.cell? ⟨w1.heap.size, 1, none⟩ = some (.int .i64 y0) := hbb.cell 1
    have b2 : wr.cell? ⟨w1.heap.size, 2, none⟩ = some (.int .i64 x1) := hbb.cell 2
    have b3 : wr.cell? ⟨w1.heap.size, 3, none⟩ = some (.int .i64 y1) := hbb.cell 3
    have bl := hbb.lt
    by_cases hlt : k < h
    · obtain ⟨ws1, hq, hp, hi, hr⟩ := HF.out.q
      have hrb := row_box (b := ⟨x0, y0, x1, y1⟩) HC.out (y := y0 + k) (by dsimp only; omega) (by have := HH.out; dsimp only; omega)
      have HROW := Lib.hid (row_any ⟨x0, y0, x1, y1⟩ (y0 + k) hq HF.out.le hp (fun x hx => (hr x hx).ok) (fun x hx => (hr x hx).ge) (by omega) (by have := HH.out; omega) hrb.1 (fun x hx he => row_in (hr x hx) he))
      have HRO := Lib.hid hr
      have hw1 : IntKind.i64.wrap (y0 + (k : Int) + 1) = y0 + k + 1 := IntWalk.i64_in _ (by have := HH.out; omega)
      have e1 : decide (y0 + (k : Int) < y1) = true := by rw [decide_eq_true_eq]; have := HH.out; omega
      have HI := Lib.hid hi
      clear hq hp hi hr hrb hbb
      go_wp2_with (first
        | (go_at_call 34; (with_reducible refine HROW.out.mono ?_); rintro e w4 ⟨g, ck, rfl, hrq, hg, hck⟩; have HRQ := Lib.hid hrq; clear hrq b0 b1 b2 b3 bl)
        | fail)
      obtain ⟨ws', don, todo, t0, hrw, hq4, hp4, hc4, hk4⟩ := HRQ.out
      obtain rfl := List.eq_nil_of_length_eq_zero t0
      obtain ⟨g1, g2, g3, g4⟩ := hrw.next HRO.out P HI.out
      have hfv := fun x => row_cells (b := ⟨x0, y0, x1, y1⟩) HC.out HSX.out (y := y0 + k) (by dsimp only; omega) (by have := HH.out; dsimp only; omega) HSI.out HSL.out (by rw [HP.out]; exact g2) g3 x
      rw [HP.out] at hfv
      have hbd := fun x => pix_bd (b := ⟨x0, y0, x1, y1⟩) HSX.out HSI.out HSL.out x (y0 + k)
      rw [HP.out] at hbd
      obtain ⟨cs, hcs⟩ : ∃ cs, rowC ⟨x0, y0 + (k : Int), x1, y0 + k + 1⟩ don = cs := ⟨_, rfl⟩
      dsimp only at hfv hc4
      rw [hcs] at hfv hc4
      have hb1 : ∀ x, -524288000 ≤ (atC ⟨x0, y0 + (k : Int), x1, y0 + k + 1⟩ cs x (y0 + k)).1 ∧ (atC ⟨x0, y0 + (k : Int), x1, y0 + k + 1⟩ cs x (y0 + k)).1 ≤ 524288000 := fun x => by
        rw [hfv x]
        split
        · exact (hbd x).1
        · dsimp only; omega
      have hb2 : ∀ x, -4294967296000 ≤ (atC ⟨x0, y0 + (k : Int), x1, y0 + k + 1⟩ cs x (y0 + k)).2 ∧ (atC ⟨x0, y0 + (k : Int), x1, y0 + k + 1⟩ cs x (y0 + k)).2 ≤ 4294967296000 := fun x => by
        rw [hfv x]
        split
        · exact (hbd x).2
        · dsimp only; omega
      have hpx : rowPx (fun x => atC ⟨x0, y0 + (k : Int), x1, y0 + k + 1⟩ cs x (y0 + k)) x0 n = rowPx (celF P (y0 + k)) x0 n := rowPx_same fun j hj => by
        rw [hfv, if_pos (by have := HNN.out; omega)]
      have HBY : Hid (∀ W, Cc W g ck ⟨x0, y0 + (k : Int), x1, y0 + k + 1⟩ cs → Calls Try.prog 35 #[.pointer (some ⟨g, 0, none⟩), .agg #[.int .i64 x0, .int .i64 y0, .int .i64 x1, .int .i64 y1], .int .i64 (y0 + k)] W fun e w' =>
        ∃ v, e = .returned v ∧ w'.ownsRow (W.heap.size + 1) 5 1 v n ((rowPx (celF P (y0 + k)) x0 n).map (.int .u8)) ∧ Below W.heap.size W w') := Lib.hid fun W hc => by
        have hn100 : (n : Int) ≤ 100 := by have := HSX.out; have := HNN.out; omega
        have h1 := bytes_any hc x0 y0 y1 (y0 + k) n (by omega) (by have := HNN.out; omega) (by omega)
          (fun j hj => by
            have h2 := sumD_bd _ x0 524288000 (by omega) hb1 j
            omega)
          (fun x => by have := hb2 x; omega)
        rw [hpx, HNN.out] at h1
        exact h1
      obtain ⟨v, hm, hown⟩ := HF.out.m
      dsimp only at hm hown
      have hn2 : (x1 - x0).toNat = n := by have := HNN.out; omega
      rw [hn2] at hown
      obtain ⟨L, hL⟩ : ∃ L, k * n = L := ⟨_, rfl⟩
      have hLb : L ≤ 10000 := by
        have h1 : k ≤ 100 := by have := HSY.out; have := HH.out; omega
        have h2 : n ≤ 100 := by have := HSX.out; have := HNN.out; omega
        rw [← hL]
        exact Nat.mul_le_mul h1 h2
      have hnb : n ≤ 100 := by have := HSX.out; have := HNN.out; omega
      rw [hL] at hown
      obtain ⟨Am, cm, rfl⟩ := own_slice hown
      have hm4 := hk4.blk hm (by decide)
      have ho4 := hk4.own hown (by decide)
      have hb4 := hk4.blk HF.out.b (by decide)
      have m4 : w4.cell? ⟨mb, 4, none⟩ = some (.slice Am L cm) := hm4.cell 4
      have n0 : w4.cell? ⟨w1.heap.size, 0, none⟩ = some (.int .i64 x0) := hb4.cell 0
      have n1 : w4.cell? ⟨w1.heap.size, 1, none⟩ = some (.int .i64 y0) := hb4.cell 1
      have n2 : w4.cell? ⟨w1.heap.size, 2, none⟩ = some (.int .i64 x1) := hb4.cell 2
      have n3 : w4.cell? ⟨w1.heap.size, 3, none⟩ = some (.int .i64 y1) := hb4.cell 3
      have ml := hm4.lt
      have bl := hb4.lt
      have HC4 := Lib.hid hc4
      have HM4 := Lib.hid hm4
      have HO4 := Lib.hid ho4
      have HB4 := Lib.hid hb4
      have HMR := Lib.hid hm
      have HZW : Hid (w.heap.size ≤ w4.heap.size) := Lib.hid (Nat.le_trans HF.out.keep.size hk4.size)
      have HOR := Lib.hid hown
      have HQ4 := Lib.hid hq4
      have HP4 := Lib.hid hp4
      have HK4 := Lib.hid hk4
      have G1 := Lib.hid g1
      have G4 := Lib.hid g4
      have HLK := Lib.hid hL.symm
      have HN2 := Lib.hid hn2
      obtain ⟨i0, hi0, hz0, hz1, hz2⟩ := info_parts u8_info
      clear hm hown hm4 ho4 hb4 hrw hq4 hp4 hc4 hk4 g1 g2 g3 g4 hfv hbd hb1 hb2 hpx hcs HRQ t0 hL hn2 HROW HRO HI
      go_region_law (first
        | (refine step_call_ret (f := 35) (by rfl) (by kernel_rfl) (HBY.out w4.drew (HC4.out.keepB (bel_drew bel_refl).below)) ?_; rintro e w5 ⟨v5, rfl, ho5, hb5⟩; refine ⟨_, rfl, ?_⟩; obtain ⟨A5, c5, rfl⟩ := own_slice ho5; have HB5 : Hid (Below w4.heap.size w4 w5) := Lib.hid ⟨hb5.os, hb5.tape, hb5.output, hb5.size, hb5.block⟩; have HO5 := Lib.hid (reads_own ho5); have HS5 := Lib.hid (HB4.out.keepB HB5.out); have hm5 := HM4.out.keepB HB5.out; have m5 : w5.cell? ⟨mb, 4, none⟩ = some (.slice Am L cm) := hm5.cell 4; have ml5 := hm5.lt; have HM5 := Lib.hid hm5; have HOM5 := Lib.hid (own_keep HO4.out (fun r hr2 => HB5.out.block r (own_lt HO4.out r hr2).2)); have hz5 : w.heap.size ≤ w5.heap.size := Nat.le_trans HZW.out HB5.out.size; clear ho5 hb5 hm5)
        | (refine step_append_any _ (by rfl) (.tmp 55) (.tmp 59) 27 (by rfl) w.heap.size 5 i0 (.int .u8 0) 1 1 Try.underlying27 hi0 hz0 hz1 hz2 rfl (by omega) (.slice Am L cm) L _ (by kernel_rfl) HOM5.out _ A5 n c5 _ (by kernel_rfl) HO5.out ?_ ?_ ?_ hz5 ?_; (· intro u hu; obtain ⟨x, _, rfl⟩ := List.mem_map.1 hu; rfl); (· unfold maxLen; omega); (· omega); intro v' w6 hown6 hgrow6 hat6; obtain ⟨A6, c6, rfl⟩ := own_slice hown6; have HF6 := Lib.hid (HF.out.next HK4.out HZ2.out HQ4.out HP4.out G1.out G4.out HMR.out HOR.out HB5.out hgrow6 hown6 HLK.out HN2.out); have hm6 := grown_blk hgrow6 HOM5.out HM5.out (by decide); have zf := hm6.frozen 4; have z4 : w6.cell? ⟨mb, 4, none⟩ = some (.slice Am L cm) := hm6.cell 4; clear hown6 hgrow6 hat6 hm6)
        | fail)
      all_goals
        go_wp2_with fail
        go_roundg (h - (k + 1))
        case rel => exact ⟨k + 1, by omega, by go_num, HF6⟩
        case measure => omega
    · have e1 : decide (y0 + (k : Int) < y1) = false := by rw [decide_eq_false_iff_not]; have := HH.out; omega
      obtain rfl : k = h := by omega
      obtain ⟨v, hm, hown⟩ := HF.out.m
      dsimp only at hm hown
      obtain ⟨Am, cm, rfl⟩ := own_slice hown
      have m0 : wr.cell? ⟨mb, 0, none⟩ = some (.int .i64 x0) := hm.cell 0
      have m1 : wr.cell? ⟨mb, 1, none⟩ = some (.int .i64 y0) := hm.cell 1
      have m2 : wr.cell? ⟨mb, 2, none⟩ = some (.int .i64 x1) := hm.cell 2
      have m3 : wr.cell? ⟨mb, 3, none⟩ = some (.int .i64 y1) := hm.cell 3
      obtain ⟨L, hL⟩ : ∃ L, k * (x1 - x0).toNat = L := ⟨_, rfl⟩
      rw [hL] at hm hown
      have m4 : wr.cell? ⟨mb, 4, none⟩ = some (.slice Am L cm) := hm.cell 4
      have hrr := HF.out.r
      have d0 := hrr.cell 0
      have d1 := hrr.cell 1
      have d2 := hrr.cell 2
      have d3 := hrr.cell 3
      have d4 := hrr.cell 4
      have f0 := hrr.frozen 0
      have f1 := hrr.frozen 1
      have f2 := hrr.frozen 2
      have f3 := hrr.frozen 3
      have f4 := hrr.frozen 4
      have hl := hrr.lt
      have HRR := Lib.hid hrr
      have HOW := Lib.hid hown
      have HKE := Lib.hid HF.out.keep
      have HLL := Lib.hid hL
      clear hm hown hrr hbb hL
      go_wp2_with fail
      generalize hWf : World.setCell _ _ _ = Wf
      have HRF : Hid (Blk Wf w.heap.size 29 [.int .i64 x0, .int .i64 y0, .int .i64 x1, .int .i64 y1, .slice Am L cm]) := Lib.hid (by rw [← hWf]; exact ((((HRR.out.set 0 _).set 1 _).set 2 _).set 3 _).set 4 _)
      have HOF : Hid (Wf.ownsRow w.heap.size 5 1 (.slice Am L cm) L ((rowsM ⟨x0, y0, x1, y1⟩ P k).map (.int .u8))) := Lib.hid (by
        rw [← hWf]
        refine own_keep HOW.out fun r hr2 => ?_
        have hne : r ≠ w.heap.size := fun e2 => own_blk_ne HOW.out HRR.out (by decide) (by rw [hr2, e2])
        rw [Below.heap_setCell _ _ _ _ hne, Below.heap_setCell _ _ _ _ hne, Below.heap_setCell _ _ _ _ hne, Below.heap_setCell _ _ _ _ hne, Below.heap_setCell _ _ _ _ hne])
      have HBF : Hid (Below w.heap.size w Wf) := Lib.hid (by
        rw [← hWf]
        exact ((((HKE.out.setCell (Nat.le_refl _) _).setCell (Nat.le_refl _) _).setCell (Nat.le_refl _) _).setCell (Nat.le_refl _) _).setCell (Nat.le_refl _) _)
      clear hWf d0 d1 d2 d3 d4 f0 f1 f2 f3 f4 m0 m1 m2 m3 m4
      have e0 := HRF.out.cell 0
      have e1 := HRF.out.cell 1
      have e2 := HRF.out.cell 2
      have e3 := HRF.out.cell 3
      have e4 := HRF.out.cell 4
      with_reducible refine bodyPost_ret (v := .tuple #[.agg #[.int .i64 x0, .int .i64 y0, .int .i64 x1, .int .i64 y1, .slice Am L cm], .int .i64 0]) (by simp [results, Try.results12, go_sem, e0, e1, e2, e3, e4]) rfl ?_
      have hky : (y1 - y0).toNat = k := by have := HH.out; omega
      have hfr : fillR ls = rowsM ⟨x0, y0, x1, y1⟩ P k := by rw [HFR.out, HP.out]; unfold maskM; dsimp only; rw [hky]
      refine ⟨.slice Am L cm, by unfold maskV; rw [HFB.out, HFE.out], ?_, HBF.out⟩
      rw [hfr, rowsM_len]
      dsimp only
      rw [HLL.out]
      exact HOF.out
end Go.Proofs.Ytbflncfhbmlibaa

namespace Go.Proofs.Ytbflncfhbmlibaa
open Go.RowKit Go.Shelf

set_option maxRecDepth 20000 in
set_option maxHeartbeats 4000000 in
theorem Fill_over {w : World} {A : Option Addr} {c : Nat} {ls : List (List Dt)} (hd : Dl w A ls) (hs : SmL ls) (hm : mayL ls = false) : Calls Try.prog 12 #[.slice A ls.length c] w (FillR ls w) := by
  have hb0 : Below w.heap.size w (w.alloc (.cells #[.int .i64 0, .int .i64 0, .int .i64 0, .int .i64 0, .slice none 0 0] 29)) := (bel_alloc bel_refl).below
  have HBX := Lib.hid (flatBox_any (c := c) (hd.keep hb0) hs.n hs.c)
  have HL := Lib.hid hd
  have HS := Lib.hid hs
  have HB0 := Lib.hid hb0
  have HR0 := Lib.hid (Blk.new w 29 [.int .i64 0, .int .i64 0, .int .i64 0, .int .i64 0, .slice none 0 0])
  clear hd hs hb0
  have h1 : mayE ls = 10 := by unfold mayE; rw [hm]; rfl
  have h2 : boxR ls = ⟨0, 0, 0, 0⟩ := by unfold boxR; rw [hm]; rfl
  have HFE : Hid (fillE ls = 10) := Lib.hid (by unfold fillE; rw [hm]; rfl)
  have HFR : Hid (fillR ls = []) := Lib.hid (by unfold fillR; rw [if_neg (fun h => by have := h.1; rw [HFE.out] at this; cases this)])
  have HFB : Hid (fillB ls = ⟨0, 0, 0, 0⟩) := Lib.hid (by unfold fillB; rw [if_neg (by rw [HFE.out]; decide)])
  rw [h1, h2] at HBX
  unfold b4V at HBX
  clear h1 h2 hm
  go_enter Try.func12, Try.ntmps12
  go_wp2_with (first
    | (go_at_call 31; (with_reducible refine HBX.out.mono ?_); rintro e w1 ⟨rfl, hb1⟩; have HB1 := Lib.hid hb1; have hrr := HR0.out.keepB hb1; have HRR := Lib.hid hrr; have HKE := Lib.hid (HB0.out.trans (hb1.mono HB0.out.size)); have d0 := hrr.cell 0; have d1 := hrr.cell 1; have d2 := hrr.cell 2; have d3 := hrr.cell 3; have d4 := hrr.cell 4; have f0 := hrr.frozen 0; have f1 := hrr.frozen 1; have f2 := hrr.frozen 2; have f3 := hrr.frozen 3; have f4 := hrr.frozen 4; have hl := hrr.lt; clear hb1 hrr)
    | fail)
  generalize hWf : World.alloc _ _ = Wf
  have HRF : Hid (Blk Wf w.heap.size 29 [.int .i64 0, .int .i64 0, .int .i64 0, .int .i64 0, .slice none 0 0]) := Lib.hid (by rw [← hWf]; have h5 := ((((HRR.out.set 0 (.int .i64 0)).set 1 (.int .i64 0)).set 2 (.int .i64 0)).set 3 (.int .i64 0)).set 4 (.slice none 0 0); exact h5.alloc _)
  have HBF : Hid (Below w.heap.size w Wf) := Lib.hid (by
    rw [← hWf]
    have h5 := ((((HKE.out.setCell (p := ⟨w.heap.size, 0, none⟩) (Nat.le_refl _) (.int .i64 0)).setCell (p := ⟨w.heap.size, 1, none⟩) (Nat.le_refl _) (.int .i64 0)).setCell (p := ⟨w.heap.size, 2, none⟩) (Nat.le_refl _) (.int .i64 0)).setCell (p := ⟨w.heap.size, 3, none⟩) (Nat.le_refl _) (.int .i64 0)).setCell (p := ⟨w.heap.size, 4, none⟩) (Nat.le_refl _) (.slice none 0 0)
    exact h5.alloc h5.size _)
  clear hWf d0 d1 d2 d3 d4 f0 f1 f2 f3 f4
  have e0 := HRF.out.cell 0
  have e1 := HRF.out.cell 1
  have e2 := HRF.out.cell 2
  have e3 := HRF.out.cell 3
  have e4 := HRF.out.cell 4
  with_reducible refine bodyPost_ret (v := .tuple #[.agg #[.int .i64 0, .int .i64 0, .int .i64 0, .int .i64 0, .slice none 0 0], .int .i64 10]) (by simp [results, Try.results12, go_sem, e0, e1, e2, e3, e4]) rfl ?_
  refine ⟨.slice none 0 0, by unfold maskV; rw [HFB.out, HFE.out], by rw [HFR.out]; exact World.ownsRow_nil _ _ _ _, HBF.out⟩
set_option maxRecDepth 20000 in
set_option maxHeartbeats 4000000 in
theorem Fill_zero {w : World} {A : Option Addr} {c : Nat} {ls : List (List Dt)} (hd : Dl w A ls) (hs : SmL ls) (hm : mayL ls = true) (hz : zeroB (boxF ls) = true) : Calls Try.prog 12 #[.slice A ls.length c] w (FillR ls w) := by
  have hb0 : Below w.heap.size w (w.alloc (.cells #[.int .i64 0, .int .i64 0, .int .i64 0, .int .i64 0, .slice none 0 0] 29)) := (bel_alloc bel_refl).below
  have HBX := Lib.hid (flatBox_any (c := c) (hd.keep hb0) hs.n hs.c)
  have HL := Lib.hid hd
  have HS := Lib.hid hs
  have HB0 := Lib.hid hb0
  have HR0 := Lib.hid (Blk.new w 29 [.int .i64 0, .int .i64 0, .int .i64 0, .int .i64 0, .slice none 0 0])
  clear hd hs hb0
  have h1 : mayE ls = 0 := by unfold mayE; rw [hm]; rfl
  have h2 : boxR ls = boxF ls := by unfold boxR; rw [if_pos hm]
  rw [h1, h2] at HBX
  unfold b4V at HBX
  clear h1 h2
  have HFE : Hid (fillE ls = 0) := Lib.hid (by unfold fillE; rw [if_pos hm, if_pos hz])
  have HFR : Hid (fillR ls = []) := Lib.hid (by unfold fillR; rw [if_neg (fun h => by rw [hz] at h; cases h.2)])
  have hbz : boxF ls = ⟨0, 0, 0, 0⟩ := by
    obtain ⟨b, hb⟩ : ∃ b, boxF ls = b := ⟨_, rfl⟩
    rw [hb] at hz ⊢
    obtain ⟨a, b, c, d⟩ := b
    unfold zeroB at hz
    obtain ⟨rfl, rfl, rfl, rfl⟩ := eq4_true.1 hz
    rfl
  have HFB : Hid (fillB ls = ⟨0, 0, 0, 0⟩) := Lib.hid (by unfold fillB; rw [if_pos HFE.out, hbz])
  rw [hbz] at HBX
  clear hz hbz hm
  go_enter Try.func12, Try.ntmps12
  go_wp2_with (first
    | (go_at_call 31; (with_reducible refine HBX.out.mono ?_); rintro e w1 ⟨rfl, hb1⟩; have HB1 := Lib.hid hb1; have hrr := HR0.out.keepB hb1; have HRR := Lib.hid hrr; have HKE := Lib.hid (HB0.out.trans (hb1.mono HB0.out.size)); have d0 := hrr.cell 0; have d1 := hrr.cell 1; have d2 := hrr.cell 2; have d3 := hrr.cell 3; have d4 := hrr.cell 4; have f0 := hrr.frozen 0; have f1 := hrr.frozen 1; have f2 := hrr.frozen 2; have f3 := hrr.frozen 3; have f4 := hrr.frozen 4; have hl := hrr.lt; clear hb1 hrr)
    | fail)
  generalize hWf : World.alloc _ _ = Wf
  have HRF : Hid (Blk Wf w.heap.size 29 [.int .i64 0, .int .i64 0, .int .i64 0, .int .i64 0, .slice none 0 0]) := Lib.hid (by rw [← hWf]; have h5 := ((((HRR.out.set 0 (.int .i64 0)).set 1 (.int .i64 0)).set 2 (.int .i64 0)).set 3 (.int .i64 0)).set 4 (.slice none 0 0); exact h5.alloc _)
  have HBF : Hid (Below w.heap.size w Wf) := Lib.hid (by
    rw [← hWf]
    have h5 := ((((HKE.out.setCell (p := ⟨w.heap.size, 0, none⟩) (Nat.le_refl _) (.int .i64 0)).setCell (p := ⟨w.heap.size, 1, none⟩) (Nat.le_refl _) (.int .i64 0)).setCell (p := ⟨w.heap.size, 2, none⟩) (Nat.le_refl _) (.int .i64 0)).setCell (p := ⟨w.heap.size, 3, none⟩) (Nat.le_refl _) (.int .i64 0)).setCell (p := ⟨w.heap.size, 4, none⟩) (Nat.le_refl _) (.slice none 0 0)
    exact h5.alloc h5.size _)
  clear hWf d0 d1 d2 d3 d4 f0 f1 f2 f3 f4
  have e0 := HRF.out.cell 0
  have e1 := HRF.out.cell 1
  have e2 := HRF.out.cell 2
  have e3 := HRF.out.cell 3
  have e4 := HRF.out.cell 4
  with_reducible refine bodyPost_ret (v := .tuple #[.agg #[.int .i64 0, .int .i64 0, .int .i64 0, .int .i64 0, .slice none 0 0], .int .i64 0]) (by simp [results, Try.results12, go_sem, e0, e1, e2, e3, e4]) rfl ?_
  refine ⟨.slice none 0 0, by unfold maskV; rw [HFB.out, HFE.out], by rw [HFR.out]; exact World.ownsRow_nil _ _ _ _, HBF.out⟩
set_option maxRecDepth 20000 in
set_option maxHeartbeats 4000000 in
theorem Fill_err {w : World} {A : Option Addr} {c : Nat} {ls : List (List Dt)} (hd : Dl w A ls) (hs : SmL ls) (hm : mayL ls = true) (hz : zeroB (boxF ls) = false) (hc : ¬ boxE (boxF ls) = 0) : Calls Try.prog 12 #[.slice A ls.length c] w (FillR ls w) := by
  have hb0 : Below w.heap.size w (w.alloc (.cells #[.int .i64 0, .int .i64 0, .int .i64 0, .int .i64 0, .slice none 0 0] 29)) := (bel_alloc bel_refl).below
  have HBX := Lib.hid (flatBox_any (c := c) (hd.keep hb0) hs.n hs.c)
  have HL := Lib.hid hd
  have HS := Lib.hid hs
  have HB0 := Lib.hid hb0
  have HR0 := Lib.hid (Blk.new w 29 [.int .i64 0, .int .i64 0, .int .i64 0, .int .i64 0, .slice none 0 0])
  clear hd hs hb0
  have h1 : mayE ls = 0 := by unfold mayE; rw [hm]; rfl
  have h2 : boxR ls = boxF ls := by unfold boxR; rw [if_pos hm]
  rw [h1, h2] at HBX
  unfold b4V at HBX
  clear h1 h2
  obtain ⟨b, hb⟩ : ∃ b, boxF ls = b := ⟨_, rfl⟩
  have HFE : Hid (fillE ls = 220) := Lib.hid (by unfold fillE; rw [if_pos hm, if_neg (by rw [hz]; decide), if_neg hc])
  have HFR : Hid (fillR ls = []) := Lib.hid (by unfold fillR; rw [if_neg (fun h => by have := h.1; rw [HFE.out] at this; cases this)])
  have HFB : Hid (fillB ls = ⟨0, 0, 0, 0⟩) := Lib.hid (by unfold fillB; rw [if_neg (by rw [HFE.out]; decide)])
  rw [hb] at HBX hz hc
  obtain ⟨x0, y0, x1, y1⟩ := b
  unfold zeroB at hz
  unfold boxE at hc
  dsimp only at HBX hz hc
  have HRB := Lib.hid fun W => rasBox_any x0 y0 x1 y1 W
  rw [show cellB x0 y0 x1 y1 = false by unfold cellB; rw [decide_eq_false_iff_not]; exact hc] at HRB
  clear hb hm hc
  go_enter Try.func12, Try.ntmps12
  go_wp2_with (first
    | (go_at_call 31; (with_reducible refine HBX.out.mono ?_); rintro e w1 ⟨rfl, hb1⟩; have HB1 := Lib.hid hb1; have hrr := HR0.out.keepB hb1; have HRR := Lib.hid hrr; have HKE := Lib.hid (HB0.out.trans (hb1.mono HB0.out.size)); have d0 := hrr.cell 0; have d1 := hrr.cell 1; have d2 := hrr.cell 2; have d3 := hrr.cell 3; have d4 := hrr.cell 4; have f0 := hrr.frozen 0; have f1 := hrr.frozen 1; have f2 := hrr.frozen 2; have f3 := hrr.frozen 3; have f4 := hrr.frozen 4; have hl := hrr.lt; clear hb1 hrr)
    | (go_at_call 32; (with_reducible refine (HRB.out _).mono ?_); rintro e w2 ⟨rfl, hb2⟩; have hrr2 := (HRR.out.alloc (.cells #[.int .i64 x0, .int .i64 y0, .int .i64 x1, .int .i64 y1] 26)).keepB hb2; have HRR2 := Lib.hid hrr2; have HKE2 := Lib.hid ((HKE.out.alloc HKE.out.size (.cells #[.int .i64 x0, .int .i64 y0, .int .i64 x1, .int .i64 y1] 26)).trans (hb2.mono (by have := HKE.out.size; simp; omega))); clear d0 d1 d2 d3 d4 f0 f1 f2 f3 f4 hl; have d0 := hrr2.cell 0; have d1 := hrr2.cell 1; have d2 := hrr2.cell 2; have d3 := hrr2.cell 3; have d4 := hrr2.cell 4; have f0 := hrr2.frozen 0; have f1 := hrr2.frozen 1; have f2 := hrr2.frozen 2; have f3 := hrr2.frozen 3; have f4 := hrr2.frozen 4; have hl := hrr2.lt; clear hb2 hrr2)
    | fail)
  generalize hWf : World.setCell _ _ _ = Wf
  have HRF : Hid (Blk Wf w.heap.size 29 [.int .i64 0, .int .i64 0, .int .i64 0, .int .i64 0, .slice none 0 0]) := Lib.hid (by rw [← hWf]; have h5 := ((((HRR2.out.set 0 (.int .i64 0)).set 1 (.int .i64 0)).set 2 (.int .i64 0)).set 3 (.int .i64 0)).set 4 (.slice none 0 0); exact h5)
  have HBF : Hid (Below w.heap.size w Wf) := Lib.hid (by
    rw [← hWf]
    have h5 := ((((HKE2.out.setCell (p := ⟨w.heap.size, 0, none⟩) (Nat.le_refl _) (.int .i64 0)).setCell (p := ⟨w.heap.size, 1, none⟩) (Nat.le_refl _) (.int .i64 0)).setCell (p := ⟨w.heap.size, 2, none⟩) (Nat.le_refl _) (.int .i64 0)).setCell (p := ⟨w.heap.size, 3, none⟩) (Nat.le_refl _) (.int .i64 0)).setCell (p := ⟨w.heap.size, 4, none⟩) (Nat.le_refl _) (.slice none 0 0)
    exact h5)
  clear hWf d0 d1 d2 d3 d4 f0 f1 f2 f3 f4
  have e0 := HRF.out.cell 0
  have e1 := HRF.out.cell 1
  have e2 := HRF.out.cell 2
  have e3 := HRF.out.cell 3
  have e4 := HRF.out.cell 4
  with_reducible refine bodyPost_ret (v := .tuple #[.agg #[.int .i64 0, .int .i64 0, .int .i64 0, .int .i64 0, .slice none 0 0], .int .i64 220]) (by simp [results, Try.results12, go_sem, e0, e1, e2, e3, e4]) rfl ?_
  refine ⟨.slice none 0 0, by unfold maskV; rw [HFB.out, HFE.out], by rw [HFR.out]; exact World.ownsRow_nil _ _ _ _, HBF.out⟩
theorem Fill_any {w : World} {A : Option Addr} {c : Nat} {ls : List (List Dt)} (hd : Dl w A ls) (hs : SmL ls) : Calls Try.prog 12 #[.slice A ls.length c] w (FillR ls w) := by
  rcases Bool.eq_false_or_eq_true (mayL ls) with hm | hm
  · rcases Bool.eq_false_or_eq_true (zeroB (boxF ls)) with hz | hz
    · exact Fill_zero hd hs hm hz
    · by_cases hc : boxE (boxF ls) = 0
      · exact Fill_ok hd hs hm hz hc
      · exact Fill_err hd hs hm hz hc
  · exact Fill_over hd hs hm
end Go.Proofs.Ytbflncfhbmlibaa

namespace Go.Proofs.Ytbflncfhbmlibaa
open Go.RowKit Go.Shelf

def plN (b : B4) (x y : Int) : Int := if holdsB b.x0 b.y0 b.x1 b.y1 x y = true then (y - b.y0) * (b.x1 - b.x0) + x - b.x0 else -1
/-- A box whose numbers are small. -/
def nearB (b : B4) : Prop := (-16384 ≤ b.x0 ∧ b.x0 ≤ 16384) ∧ (-16384 ≤ b.y0 ∧ b.y0 ≤ 16384) ∧ (-16384 ≤ b.x1 ∧ b.x1 ≤ 16384) ∧ (-16384 ≤ b.y1 ∧ b.y1 ≤ 16384)
theorem holdsB_true {a b c d x y : Int} : holdsB a b c d x y = true ↔ bB a b c d = true ∧ a ≤ x ∧ x < c ∧ b ≤ y ∧ y < d := by
  unfold holdsB
  simp only [Bool.and_eq_true, decide_eq_true_eq, and_assoc]
set_option maxRecDepth 20000 in
set_option maxHeartbeats 2000000 in
theorem mplace_ok (b : B4) (x y : Int) (A : Option Addr) (n c : Nat) (hb : nearB b) (w : World) : Calls Try.prog 46 #[.agg #[.int .i64 b.x0, .int .i64 b.y0, .int .i64 b.x1, .int .i64 b.y1, .slice A n c], .int .i64 x, .int .i64 y] w fun e w' =>
    e = .returned (.int .i64 (plN b x y)) ∧ Below w.heap.size w w' := by
  obtain ⟨x0, y0, x1, y1⟩ := b
  unfold nearB at hb
  dsimp only at hb
  have hk := (Blk.new w 29 [.int .i64 x0, .int .i64 y0, .int .i64 x1, .int .i64 y1, .slice A n c])
  have HB := Lib.hid hk
  have HH := Lib.hid fun W => Holds_any x0 y0 x1 y1 x y W
  unfold plN
  dsimp only
  rcases Bool.eq_false_or_eq_true (holdsB x0 y0 x1 y1 x y) with h | h
  · rw [h] at HH
    obtain ⟨_, h1, h2, h3, h4⟩ := holdsB_true.1 h
    have hp := mul_bdd (a := y - y0) (b := x1 - x0) (A := 32768) (B := 32768) (by omega) (by omega) (by omega) (by omega)
    have s1 : IntKind.i64.wrap (y - y0) = y - y0 := IntWalk.i64_in _ (by omega)
    have s2 : IntKind.i64.wrap (x1 - x0) = x1 - x0 := IntWalk.i64_in _ (by omega)
    obtain ⟨p, hpp⟩ : ∃ p, (y - y0) * (x1 - x0) = p := ⟨_, rfl⟩
    rw [hpp] at hp
    have s3 : IntKind.i64.wrap ((y - y0) * (x1 - x0)) = p := by rw [hpp]; exact IntWalk.i64_in _ (by omega)
    have s4 : IntKind.i64.wrap (p + x) = p + x := IntWalk.i64_in _ (by omega)
    have s5 : IntKind.i64.wrap (p + x - x0) = p + x - x0 := IntWalk.i64_in _ (by omega)
    rw [if_pos h, hpp]
    clear h hpp hk
    go_enter Try.func46, Try.ntmps46
    go_wp2_with (first
      | (go_at_call 71; (with_reducible refine (HH.out _).mono ?_); rintro e w1 ⟨rfl, hb1⟩; have hb5 := HB.out.keepB hb1; have k0 : w1.cell? ⟨w.heap.size, 0, none⟩ = some (.int .i64 x0) := hb5.cell 0; have k1 : w1.cell? ⟨w.heap.size, 1, none⟩ = some (.int .i64 y0) := hb5.cell 1; have k2 : w1.cell? ⟨w.heap.size, 2, none⟩ = some (.int .i64 x1) := hb5.cell 2; have HW := Lib.hid hb1; clear hb1 hb5)
      | fail)
    go_ret
    exact ⟨rfl, ((bel_alloc bel_refl).below).trans (HW.out.mono (by simp))⟩
  · rw [h] at HH
    rw [if_neg (by rw [h]; decide)]
    clear h hk
    go_enter Try.func46, Try.ntmps46
    go_wp2_with (first
      | (go_at_call 71; (with_reducible refine (HH.out _).mono ?_); rintro e w1 ⟨rfl, hb1⟩; have HW := Lib.hid hb1; clear hb1)
      | fail)
    go_ret
    exact ⟨rfl, ((bel_alloc bel_refl).below).trans (HW.out.mono (by simp))⟩
set_option maxRecDepth 20000 in
set_option maxHeartbeats 2000000 in
theorem mplace_ex (b : B4) (x y : Int) (A : Option Addr) (n c : Nat) (w : World) : Calls Try.prog 46 #[.agg #[.int .i64 b.x0, .int .i64 b.y0, .int .i64 b.x1, .int .i64 b.y1, .slice A n c], .int .i64 x, .int .i64 y] w fun e w' =>
    ∃ i, e = .returned (.int .i64 i) ∧ Below w.heap.size w w' := by
  obtain ⟨x0, y0, x1, y1⟩ := b
  have hk := (Blk.new w 29 [.int .i64 x0, .int .i64 y0, .int .i64 x1, .int .i64 y1, .slice A n c])
  have HB := Lib.hid hk
  have HH := Lib.hid fun W => Holds_any x0 y0 x1 y1 x y W
  dsimp only
  clear hk
  rcases Bool.eq_false_or_eq_true (holdsB x0 y0 x1 y1 x y) with h | h
  all_goals
    rw [h] at HH
    clear h
    go_enter Try.func46, Try.ntmps46
    go_wp2_with (first
      | (go_at_call 71; (with_reducible refine (HH.out _).mono ?_); rintro e w1 ⟨rfl, hb1⟩; have hb5 := HB.out.keepB hb1; have k0 : w1.cell? ⟨w.heap.size, 0, none⟩ = some (.int .i64 x0) := hb5.cell 0; have k1 : w1.cell? ⟨w.heap.size, 1, none⟩ = some (.int .i64 y0) := hb5.cell 1; have k2 : w1.cell? ⟨w.heap.size, 2, none⟩ = some (.int .i64 x1) := hb5.cell 2; have HW := Lib.hid hb1; clear hb1 hb5)
      | fail)
    go_ret
    exact ⟨_, rfl, ((bel_alloc bel_refl).below).trans (HW.out.mono (by simp))⟩
/-- Bytes in memory. -/
def ByAt (w : World) (A : Option Addr) (bs : List Int) : Prop := SlAt w A bs.length (bs.map (.int .u8))
def okBs (bs : List Int) : Prop := ∀ x ∈ bs, 0 ≤ x ∧ x ≤ 255
theorem SlAt.keepW {w w' : World} {A : Option Addr} {n : Nat} {vs : List Value} (h : SlAt w A n vs) (hb : Below w.heap.size w w') : SlAt w' A n vs :=
  ⟨h.1, fun k hk => by
    obtain ⟨b, o, e, hl, hc⟩ := h.2 k hk
    exact ⟨b, o, e, Nat.lt_of_lt_of_le hl hb.size, (hb.cell (p := ⟨b, o + k, none⟩) hl).trans hc⟩⟩
theorem ByAt.keep {w w' : World} {A : Option Addr} {bs : List Int} (h : ByAt w A bs) (hb : Below w.heap.size w w') : ByAt w' A bs := SlAt.keepW h hb
def atM (b : B4) (bs : List Int) (x y : Int) : Int := if maskE b.x0 b.y0 b.x1 b.y1 bs.length = 0 ∧ holdsB b.x0 b.y0 b.x1 b.y1 x y = true then bs.getD (plN b x y).toNat 0 else 0
theorem maskE_near {b : B4} {n : Int} (h : maskE b.x0 b.y0 b.x1 b.y1 n = 0) : nearB b := by
  unfold maskE at h
  split at h
  · rename_i h4
    obtain ⟨h1, h2, h3, h5⟩ := eq4_true.1 h4
    unfold nearB
    omega
  · split at h
    · rename_i h4
      have := cellE_zero.1 h4.1
      unfold nearB
      omega
    · cases h
theorem plN_lt {b : B4} {n : Nat} {x y : Int} (h : maskE b.x0 b.y0 b.x1 b.y1 n = 0) (hh : holdsB b.x0 b.y0 b.x1 b.y1 x y = true) : 0 ≤ plN b x y ∧ plN b x y < n := by
  obtain ⟨_, h1, h2, h3, h4⟩ := holdsB_true.1 hh
  unfold maskE at h
  split at h
  · rename_i h5
    obtain ⟨e1, e2, e3, e4⟩ := eq4_true.1 h5
    omega
  · split at h
    · rename_i h5
      unfold plN
      rw [if_pos hh, h5.2]
      have e1 : 0 ≤ (y - b.y0) * (b.x1 - b.x0) := Int.mul_nonneg (by omega) (by omega)
      have e2 : (y - b.y0 + 1) * (b.x1 - b.x0) ≤ (b.y1 - b.y0) * (b.x1 - b.x0) := Int.mul_le_mul_of_nonneg_right (by omega) (by omega)
      have e3 : (y - b.y0 + 1) * (b.x1 - b.x0) = (y - b.y0) * (b.x1 - b.x0) + (b.x1 - b.x0) := by rw [Int.add_mul, Int.one_mul]
      have e4 : (b.x1 - b.x0) * (b.y1 - b.y0) = (b.y1 - b.y0) * (b.x1 - b.x0) := Int.mul_comm _ _
      rw [e4]
      omega
    · cases h
end Go.Proofs.Ytbflncfhbmlibaa

namespace Go.Proofs.Ytbflncfhbmlibaa
open Go.RowKit Go.Shelf

theorem maskE_any (b : B4) (n : Int) : maskE b.x0 b.y0 b.x1 b.y1 n = 0 ∨ maskE b.x0 b.y0 b.x1 b.y1 n = 220 := by
  unfold maskE
  split
  · split
    · exact .inl rfl
    · exact .inr rfl
  · split
    · exact .inl rfl
    · exact .inr rfl
set_option maxRecDepth 20000 in
set_option maxHeartbeats 2000000 in
theorem At23_any {w : World} (b : B4) {A : Option Addr} {c : Nat} {bs : List Int} (x y : Int) (h : ByAt w A bs) (ho : okBs bs) (hn : bs.length ≤ 16777216) : Calls Try.prog 26 #[.agg #[.int .i64 b.x0, .int .i64 b.y0, .int .i64 b.x1, .int .i64 b.y1, .slice A bs.length c], .int .i64 x, .int .i64 y] w fun e w' =>
    e = .returned (.int .i64 (atM b bs x y)) ∧ Below w.heap.size w w' := by
  have hk := (Blk.new w 29 [.int .i64 b.x0, .int .i64 b.y0, .int .i64 b.x1, .int .i64 b.y1, .slice A bs.length c])
  have hw0 : Below w.heap.size w (w.alloc (.cells #[.int .i64 b.x0, .int .i64 b.y0, .int .i64 b.x1, .int .i64 b.y1, .slice A bs.length c] 29)) := (bel_alloc bel_refl).below
  have HB := Lib.hid hk
  have HW0 := Lib.hid hw0
  have HA := Lib.hid (h.keep hw0)
  have HCK := Lib.hid fun W => Check_any b.x0 b.y0 b.x1 b.y1 A bs.length c (by omega) W
  clear hk h hw0
  rcases maskE_any b bs.length with hm | hm
  · have hnb := maskE_near hm
    have HP := Lib.hid fun W => mplace_ok b x y A bs.length c hnb W
    rw [hm] at HCK
    rcases Bool.eq_false_or_eq_true (holdsB b.x0 b.y0 b.x1 b.y1 x y) with hh | hh
    · have hpl := plN_lt hm hh
      have e : atM b bs x y = bs.getD (plN b x y).toNat 0 := by unfold atM; rw [if_pos ⟨hm, hh⟩]
      obtain ⟨p, hp⟩ : ∃ p : Nat, plN b x y = p := ⟨(plN b x y).toNat, by omega⟩
      rw [hp] at HP hpl e
      have hlt : p < bs.length := by omega
      obtain ⟨v, hv⟩ := get_some hlt
      have hvb := ho v (List.mem_of_getElem? hv)
      have hwv : IntKind.i64.wrap v = v := IntWalk.i64_in _ (by omega)
      rw [show bs.getD ((p : Int)).toNat 0 = v by rw [List.getD_eq_getElem?_getD, Int.toNat_natCast, hv]; rfl] at e
      rw [e]
      obtain ⟨ab, ao, rfl, hab, hcell⟩ := HA.out.2 p hlt
      rw [List.getElem?_map, hv] at hcell
      have HC := Lib.hid hcell
      obtain ⟨x0, y0, x1, y1⟩ := b
      obtain ⟨n, hn2⟩ : ∃ n, bs.length = n := ⟨_, rfl⟩
      dsimp only at HP HCK HB HW0 HC hab ⊢
      rw [hn2] at HP HCK HB HW0 HC hab hlt ⊢
      have hlt2 : (p : Int) < n := by omega
      clear hcell hm hnb hh hpl e hp hv hn2 HA hn
      go_enter Try.func26, Try.ntmps26
      go_wp2_with (first
        | (go_at_call 46; (with_reducible refine (HP.out _).mono ?_); rintro e w1 ⟨rfl, hb1⟩; have HW1 := Lib.hid (HW0.out.trans (hb1.mono (by simp))); have hb5 := HB.out.keepB hb1; have HB5 := Lib.hid hb5; have hc1 := (hb1.cell (p := ⟨ab, ao + p, none⟩) hab).trans HC.out; have HC1 := Lib.hid hc1; have hab1 := Nat.lt_of_lt_of_le hab hb1.size; have k0 : w1.cell? ⟨w.heap.size, 0, none⟩ = some (.int .i64 x0) := hb5.cell 0; have k1 : w1.cell? ⟨w.heap.size, 1, none⟩ = some (.int .i64 y0) := hb5.cell 1; have k2 : w1.cell? ⟨w.heap.size, 2, none⟩ = some (.int .i64 x1) := hb5.cell 2; have k3 : w1.cell? ⟨w.heap.size, 3, none⟩ = some (.int .i64 y1) := hb5.cell 3; have k4 : w1.cell? ⟨w.heap.size, 4, none⟩ = some (.slice (some ⟨ab, ao, none⟩) n c) := hb5.cell 4; clear hb1 hb5 hc1)
        | (go_at_call 15; (with_reducible refine (HCK.out _).mono ?_); rintro e w2 ⟨rfl, hb2⟩; have HW2 := Lib.hid (HW1.out.trans (hb2.mono HW1.out.size)); have hb6 := HB5.out.keepB hb2; have hc2 : w2.cell? ⟨ab, ao + p, none⟩ = some (.int .u8 v) := (hb2.cell (p := ⟨ab, ao + p, none⟩) hab1).trans HC1.out; have hl2 := Nat.lt_of_lt_of_le hab1 hb2.size; have m4 : w2.cell? ⟨w.heap.size, 4, none⟩ = some (.slice (some ⟨ab, ao, none⟩) n c) := hb6.cell 4; clear hb2 hb6 k0 k1 k2 k3 k4)
        | fail)
      go_ret
      exact ⟨rfl, HW2.out⟩
    · have e : atM b bs x y = 0 := by unfold atM; rw [if_neg (fun h => by rw [hh] at h; cases h.2)]
      have hp1 : plN b x y = -1 := by unfold plN; rw [if_neg (by rw [hh]; decide)]
      rw [hp1] at HP
      clear hp1
      rw [e]
      obtain ⟨x0, y0, x1, y1⟩ := b
      dsimp only at HP HCK HB HW0 ⊢
      clear hm hnb hh e
      go_enter Try.func26, Try.ntmps26
      go_wp2_with (first
        | (go_at_call 46; (with_reducible refine (HP.out _).mono ?_); rintro e w1 ⟨rfl, hb1⟩; have HW1 := Lib.hid (HW0.out.trans (hb1.mono (by simp))); clear hb1)
        | fail)
      go_ret
      exact ⟨rfl, HW1.out⟩
  · have e : atM b bs x y = 0 := by unfold atM; rw [if_neg (fun h => by rw [hm] at h; cases h.1)]
    rw [hm] at HCK
    have HP := Lib.hid fun W => mplace_ex b x y A bs.length c W
    rw [e]
    obtain ⟨x0, y0, x1, y1⟩ := b
    dsimp only at HP HCK HB HW0 ⊢
    clear hm e
    go_enter Try.func26, Try.ntmps26
    go_wp2_with (first
      | (go_at_call 46; (with_reducible refine (HP.out _).mono ?_); rintro e w1 ⟨i, rfl, hb1⟩; have HW1 := Lib.hid (HW0.out.trans (hb1.mono (by simp))); have hb5 := HB.out.keepB hb1; have k0 : w1.cell? ⟨w.heap.size, 0, none⟩ = some (.int .i64 x0) := hb5.cell 0; have k1 : w1.cell? ⟨w.heap.size, 1, none⟩ = some (.int .i64 y0) := hb5.cell 1; have k2 : w1.cell? ⟨w.heap.size, 2, none⟩ = some (.int .i64 x1) := hb5.cell 2; have k3 : w1.cell? ⟨w.heap.size, 3, none⟩ = some (.int .i64 y1) := hb5.cell 3; have k4 : w1.cell? ⟨w.heap.size, 4, none⟩ = some (.slice A bs.length c) := hb5.cell 4; clear hb1 hb5)
      | (go_at_call 15; (with_reducible refine (HCK.out _).mono ?_); rintro e w2 ⟨rfl, hb2⟩; have HW2 := Lib.hid (HW1.out.trans (hb2.mono HW1.out.size)); clear hb2 k0 k1 k2 k3 k4)
      | fail)
    all_goals
      go_ret
      first
        | exact ⟨rfl, HW2.out⟩
        | exact ⟨rfl, HW1.out⟩
def totE (b : B4) (bs : List Int) : Int := maskE b.x0 b.y0 b.x1 b.y1 bs.length
def totV (b : B4) (bs : List Int) : Int := if totE b bs = 0 then bs.sum else 0
theorem okBs_take {bs : List Int} (h : okBs bs) (k : Nat) : 0 ≤ (bs.take k).sum ∧ (bs.take k).sum ≤ 255 * (k : Int) := by
  induction k with
  | zero => simp
  | succ k ih =>
    rw [List.take_add_one]
    cases hb : bs[k]? with
    | none => simp; omega
    | some v =>
      have := h v (List.mem_of_getElem? hb)
      simp
      omega
set_option maxRecDepth 20000 in
set_option maxHeartbeats 2000000 in
theorem Total_any {w : World} (b : B4) {A : Option Addr} {c : Nat} {bs : List Int} (h : ByAt w A bs) (ho : okBs bs) (hn : bs.length ≤ 16777216) : Calls Try.prog 25 #[.agg #[.int .i64 b.x0, .int .i64 b.y0, .int .i64 b.x1, .int .i64 b.y1, .slice A bs.length c]] w fun e w' =>
    e = .returned (.tuple #[.int .i64 (totV b bs), .int .i64 (totE b bs)]) ∧ Below w.heap.size w w' := by
  obtain ⟨x0, y0, x1, y1⟩ := b
  have hw0 : Below w.heap.size w (w.alloc (.cells #[.int .i64 x0, .int .i64 y0, .int .i64 x1, .int .i64 y1, .slice A bs.length c] 29)) := (bel_alloc bel_refl).below
  have HB := Lib.hid (Blk.new w 29 [.int .i64 x0, .int .i64 y0, .int .i64 x1, .int .i64 y1, .slice A bs.length c])
  have HW0 := Lib.hid hw0
  have HA := Lib.hid (h.keep hw0)
  have HCK := Lib.hid fun W => Check_any x0 y0 x1 y1 A bs.length c (by omega) W
  have HO := Lib.hid ho
  clear h hw0 ho
  rcases maskE_any ⟨x0, y0, x1, y1⟩ bs.length with hm | hm
  · have e1 : totE ⟨x0, y0, x1, y1⟩ bs = 0 := hm
    have e2 : totV ⟨x0, y0, x1, y1⟩ bs = bs.sum := by unfold totV; rw [if_pos e1]
    rw [e1, e2]
    dsimp only at hm
    rw [hm] at HCK
    clear hm e1 e2
    go_enter Try.func25, Try.ntmps25
    go_wp2_with (first
      | (go_at_call 15; (with_reducible refine (HCK.out _).mono ?_); rintro e w1 ⟨rfl, hb1⟩; have HW1 := Lib.hid (HW0.out.trans (hb1.mono (by simp))); have hb5 := HB.out.keepB hb1; have HA1 := Lib.hid (HA.out.keep hb1); have k4 : w1.cell? ⟨w.heap.size, 4, none⟩ = some (.slice A bs.length c) := hb5.cell 4; clear hb1 hb5)
      | fail)
    clear k4
    go_loop [5, 16] (fun s i => ∃ k : Nat, k ≤ bs.length ∧ i = .int .i64 k ∧ s = .int .i64 (bs.take k).sum) (fun _ i => bs.length - (intOf i).toNat)
    case atStart => exact ⟨0, Nat.zero_le _, rfl, rfl⟩
    case round =>
      obtain ⟨k, hk, rfl, rfl⟩ := hrel
      have hsum := okBs_take HO.out k
      by_cases hlt : k < bs.length
      · obtain ⟨v, hv⟩ := get_some hlt
        have hvb := HO.out v (List.mem_of_getElem? hv)
        obtain ⟨ab, ao, rfl, hab, hcell⟩ := HA1.out.2 k hlt
        rw [List.getElem?_map, hv] at hcell
        have hcell2 : w1.cell? ⟨ab, ao + k, none⟩ = some (.int .u8 v) := hcell
        have hwv : IntKind.i64.wrap v = v := IntWalk.i64_in _ (by omega)
        have HS : Hid ((bs.take (k + 1)).sum = (bs.take k).sum + v) := Lib.hid (by rw [List.take_add_one, hv]; simp)
        have hlt2 : (k : Int) < bs.length := by omega
        obtain ⟨S, hS⟩ : ∃ S, (bs.take k).sum = S := ⟨_, rfl⟩
        rw [hS] at hsum HS ⊢
        have hws : IntKind.i64.wrap (S + v) = S + v := IntWalk.i64_in _ (by omega)
        clear hcell hv hS
        go_wp2_with fail
        go_round
        case rel => exact ⟨k + 1, by omega, by go_num, by rw [HS.out]⟩
        case measure => simp [intOf]; omega
      · obtain rfl : k = bs.length := by omega
        rw [List.take_length] at hsum ⊢
        go_wp2_with fail
        go_ret2
        exact ⟨rfl, HW1.out⟩
  · have e1 : totE ⟨x0, y0, x1, y1⟩ bs = 220 := hm
    have e2 : totV ⟨x0, y0, x1, y1⟩ bs = 0 := by unfold totV; rw [if_neg (by rw [e1]; decide)]
    rw [e1, e2]
    dsimp only at hm
    rw [hm] at HCK
    clear hm e1 e2
    go_enter Try.func25, Try.ntmps25
    go_wp2_with (first
      | (go_at_call 15; (with_reducible refine (HCK.out _).mono ?_); rintro e w1 ⟨rfl, hb1⟩; have HW1 := Lib.hid (HW0.out.trans (hb1.mono (by simp))); clear hb1)
      | fail)
    go_ret2
    exact ⟨rfl, HW1.out⟩
end Go.Proofs.Ytbflncfhbmlibaa

namespace Go.Proofs.Ytbflncfhbmlibaa
open Go.RowKit Go.Shelf

def meetB (a b : B4) : B4 := ⟨(meetF ⟨a.x0, a.y0, a.x1, a.y1⟩ ⟨b.x0, b.y0, b.x1, b.y1⟩).x0, (meetF ⟨a.x0, a.y0, a.x1, a.y1⟩ ⟨b.x0, b.y0, b.x1, b.y1⟩).y0, (meetF ⟨a.x0, a.y0, a.x1, a.y1⟩ ⟨b.x0, b.y0, b.x1, b.y1⟩).x1, (meetF ⟨a.x0, a.y0, a.x1, a.y1⟩ ⟨b.x0, b.y0, b.x1, b.y1⟩).y1⟩
/-- The first k rows of what a box has of a mask. -/
def cropN (m : B4) (bs : List Int) (b : B4) (k : Nat) : List Int := (List.range k).flatMap fun (j : Nat) => (bs.drop (plN m b.x0 (b.y0 + j)).toNat).take (b.x1 - b.x0).toNat
def cropE (m : B4) (bs : List Int) (b : B4) : Int := if maskE m.x0 m.y0 m.x1 m.y1 bs.length = 0 then (if bB b.x0 b.y0 b.x1 b.y1 = true then 0 else 10) else maskE m.x0 m.y0 m.x1 m.y1 bs.length
def cropB (m : B4) (bs : List Int) (b : B4) : B4 := if cropE m bs b = 0 then meetB m b else ⟨0, 0, 0, 0⟩
def cropR (m : B4) (bs : List Int) (b : B4) : List Int := if cropE m bs b = 0 then cropN m bs (meetB m b) ((meetB m b).y1 - (meetB m b).y0).toNat else []
theorem cropN_succ (m : B4) (bs : List Int) (b : B4) (k : Nat) : cropN m bs b (k + 1) = cropN m bs b k ++ (bs.drop (plN m b.x0 (b.y0 + k)).toNat).take (b.x1 - b.x0).toNat := by
  unfold cropN
  rw [List.range_succ, List.flatMap_append]
  simp
theorem meetB_in {m b : B4} : meetB m b = ⟨0, 0, 0, 0⟩ ∨ ((meetB m b).x0 < (meetB m b).x1 ∧ (meetB m b).y0 < (meetB m b).y1 ∧ m.x0 ≤ (meetB m b).x0 ∧ (meetB m b).x1 ≤ m.x1 ∧ m.y0 ≤ (meetB m b).y0 ∧ (meetB m b).y1 ≤ m.y1) := by
  unfold meetB meetF plainF
  split
  · exact .inl rfl
  · rename_i h
    right
    rw [Bool.not_eq_true, emptyB_false] at h
    dsimp only at h ⊢
    omega
/-- A row of what a box has lies within the mask's bytes. -/
theorem crop_row {m b : B4} {n : Nat} (hm : maskE m.x0 m.y0 m.x1 m.y1 n = 0) (h : b.x0 < b.x1 ∧ b.y0 < b.y1 ∧ m.x0 ≤ b.x0 ∧ b.x1 ≤ m.x1 ∧ m.y0 ≤ b.y0 ∧ b.y1 ≤ m.y1) {y : Int} (h1 : b.y0 ≤ y) (h2 : y < b.y1) :
    0 ≤ plN m b.x0 y ∧ plN m b.x0 y + (b.x1 - b.x0) ≤ n := by
  have hnb := maskE_near hm
  unfold nearB at hnb
  have hbb : bB m.x0 m.y0 m.x1 m.y1 = true := by
    unfold bB mayB
    simp only [Bool.and_eq_true, decide_eq_true_eq]
    omega
  have k1 := plN_lt (x := b.x0) (y := y) hm (holdsB_true.2 ⟨hbb, by omega, by omega, by omega, by omega⟩)
  have k2 := plN_lt (x := b.x1 - 1) (y := y) hm (holdsB_true.2 ⟨hbb, by omega, by omega, by omega, by omega⟩)
  unfold plN at k1 k2 ⊢
  rw [if_pos (holdsB_true.2 ⟨hbb, by omega, by omega, by omega, by omega⟩)] at k1 k2 ⊢
  generalize (y - m.y0) * (m.x1 - m.x0) = p at k1 k2 ⊢
  omega
theorem reads_sub {w : World} {ab ao p n : Nat} {bs : List Int} (h : ByAt w (some ⟨ab, ao, none⟩) bs) (hp : p + n ≤ bs.length) : Reads w w.heap.size 1 (some ⟨ab, ao + p, none⟩) n (((bs.drop p).take n).map (.int .u8)) := by
  refine ⟨by rw [List.length_map, List.length_take, List.length_drop]; omega, fun hn => ?_⟩
  have hlt : ab < w.heap.size := by
    obtain ⟨b, o, e, hl, _⟩ := h.2 p (by omega)
    injection e with e
    injection e with e1 e2
    omega
  refine ⟨_, rfl, hlt, fun j u hu => ?_⟩
  have ea : (⟨ab, ao + p, none⟩ : Addr).add j = ⟨ab, ao + p + j, none⟩ := by
    unfold Addr.add
    split
    · rename_i h0; rw [h0]; rfl
    · rfl
  have hj : j < n := by
    have := (List.getElem?_eq_some_iff.1 hu).1
    rw [List.length_map, List.length_take, List.length_drop] at this
    omega
  obtain ⟨b, o, e, hl, hc⟩ := h.2 (p + j) (by omega)
  injection e with e
  injection e with e1 e2
  subst e1 e2
  rw [ea, show ao + p + j = ao + (p + j) by omega, hc, ← hu, List.getElem?_map, List.getElem?_map, List.getElem?_take, if_pos hj, List.getElem?_drop]
structure CropI (w0 : World) (m : B4) (bs : List Int) (A : Option Addr) (c : Nat) (b : B4) (ob : Nat) (k : Nat) (wr : World) : Prop where
  fm : Blk wr w0.heap.size 29 [.int .i64 m.x0, .int .i64 m.y0, .int .i64 m.x1, .int .i64 m.y1, .slice A bs.length c]
  fb : Blk wr (w0.heap.size + 1) 26 [.int .i64 b.x0, .int .i64 b.y0, .int .i64 b.x1, .int .i64 b.y1]
  fr : Blk wr (w0.heap.size + 1 + 1) 29 [.int .i64 0, .int .i64 0, .int .i64 0, .int .i64 0, .slice none 0 0]
  fo : ∃ v, Blk wr ob 29 [.int .i64 b.x0, .int .i64 b.y0, .int .i64 b.x1, .int .i64 b.y1, v] ∧ wr.ownsRow w0.heap.size 5 1 v (k * (b.x1 - b.x0).toNat) ((cropN m bs b k).map (.int .u8))
  fk : Below w0.heap.size w0 wr
  fne : w0.heap.size + 1 + 1 < ob
theorem CropI.keepB {w0 wr w' : World} {m : B4} {bs : List Int} {A : Option Addr} {c : Nat} {b : B4} {ob k : Nat} (F : CropI w0 m bs A c b ob k wr) (hb : Below wr.heap.size wr w') : CropI w0 m bs A c b ob k w' :=
  ⟨F.fm.keepB hb, F.fb.keepB hb, F.fr.keepB hb, let ⟨v, h1, h2⟩ := F.fo; ⟨v, h1.keepB hb, own_keep h2 fun r hr => hb.block r (own_lt h2 r hr).2⟩, F.fk.trans (hb.mono F.fk.size), F.fne⟩
theorem CropI.next {w0 wr w6 : World} {m : B4} {bs : List Int} {A : Option Addr} {c : Nat} {b : B4} {ob k n L : Nat} (F : CropI w0 m bs A c b ob k wr) {v v' : Value} (hm : Blk wr ob 29 [.int .i64 b.x0, .int .i64 b.y0, .int .i64 b.x1, .int .i64 b.y1, v]) (hown : wr.ownsRow w0.heap.size 5 1 v L ((cropN m bs b k).map (.int .u8)))
    {w5 : World} (hd : w5 = wr.drew) (hg : w5.grownBy w6 v.ownBlock) (hown' : w6.ownsRow w0.heap.size 5 1 v' (L + n) ((cropN m bs b k).map (.int .u8) ++ ((bs.drop (plN m b.x0 (b.y0 + k)).toNat).take (b.x1 - b.x0).toNat).map (.int .u8))) (hL : L = k * n) (hn : (b.x1 - b.x0).toNat = n) :
    CropI w0 m bs A c b ob (k + 1) (w6.setCell ⟨ob, 4, none⟩ v') := by
  subst hd
  have ho5 : wr.drew.ownsRow w0.heap.size 5 1 v L ((cropN m bs b k).map (.int .u8)) := own_keep hown (fun _ _ => rfl)
  have hm6 := grown_blk hg ho5 hm.drew (by decide)
  have hmm := grown_blk hg ho5 F.fm.drew (by decide)
  have hb6 := grown_blk hg ho5 F.fb.drew (by decide)
  have hr6 := grown_blk hg ho5 F.fr.drew (by decide)
  have hne := F.fne
  have hk : Below w0.heap.size w0 wr.drew := ⟨F.fk.os, F.fk.tape, F.fk.output, F.fk.size, F.fk.block⟩
  have hkeep : Below w0.heap.size w0 w6 := hk.trans (grown_low hg F.fk.size (fun r e => (own_lt ho5 r e).1))
  refine ⟨hmm.far (by show w0.heap.size ≠ ob; omega) _, hb6.far (by show w0.heap.size + 1 ≠ ob; omega) _, hr6.far (by show w0.heap.size + 1 + 1 ≠ ob; omega) _, ⟨v', hm6.set 4 _, ?_⟩, Below.setOne hkeep (by show w0.heap.size ≤ ob; omega) _, F.fne⟩
  rw [cropN_succ, List.map_append, hn, Nat.succ_mul, ← hL]
  rw [hn] at hown'
  exact own_keep hown' fun r hr2 => Below.heap_setCell _ _ _ _ (fun e2 => own_blk_ne hown' hm6 (by decide) (by rw [hr2]; exact congrArg some e2))
def CropR (m : B4) (bs : List Int) (b : B4) (w : World) (e : Ending) (w' : World) : Prop :=
  ∃ v, e = .returned (.tuple #[maskV (cropB m bs b) v, .int .i64 (cropE m bs b)]) ∧ w'.ownsRow w.heap.size 5 1 v (cropR m bs b).length ((cropR m bs b).map (.int .u8)) ∧ Below w.heap.size w w'
set_option maxRecDepth 20000 in
set_option maxHeartbeats 4000000 in
theorem Crop_ok {w : World} (m b : B4) {A : Option Addr} {c : Nat} {bs : List Int} (h : ByAt w A bs) (hn : bs.length ≤ 16777216) (hc : bs.length ≤ c) (hm : maskE m.x0 m.y0 m.x1 m.y1 bs.length = 0) (hb : bB b.x0 b.y0 b.x1 b.y1 = true) :
    Calls Try.prog 24 #[.agg #[.int .i64 m.x0, .int .i64 m.y0, .int .i64 m.x1, .int .i64 m.y1, .slice A bs.length c], .agg #[.int .i64 b.x0, .int .i64 b.y0, .int .i64 b.x1, .int .i64 b.y1]] w (CropR m bs b w) := by
  have hnb := maskE_near hm
  have HM := Lib.hid hm
  have HNB := Lib.hid hnb
  have HCE : Hid (cropE m bs b = 0) := Lib.hid (by unfold cropE; rw [if_pos hm, if_pos hb])
  have HCB : Hid (cropB m bs b = meetB m b) := Lib.hid (by unfold cropB; rw [if_pos HCE.out])
  have HCR : Hid (cropR m bs b = cropN m bs (meetB m b) ((meetB m b).y1 - (meetB m b).y0).toNat) := Lib.hid (by unfold cropR; rw [if_pos HCE.out])
  have HCK := Lib.hid fun W => Check_any m.x0 m.y0 m.x1 m.y1 A bs.length c (by omega) W
  have HME := Lib.hid fun W => Meet_any m.x0 m.y0 m.x1 m.y1 b.x0 b.y0 b.x1 b.y1 W
  have hme : MeetE ⟨m.x0, m.y0, m.x1, m.y1⟩ ⟨b.x0, b.y0, b.x1, b.y1⟩ = (meetF ⟨m.x0, m.y0, m.x1, m.y1⟩ ⟨b.x0, b.y0, b.x1, b.y1⟩, 0) := by
    unfold nearB at hnb
    have hbb : bB m.x0 m.y0 m.x1 m.y1 = true := by
      unfold bB mayB
      simp only [Bool.and_eq_true, decide_eq_true_eq]
      omega
    unfold MeetE
    dsimp only
    rw [hbb, hb, if_neg (by decide)]
  rw [hme] at HME
  rw [hm] at HCK
  have HIN := Lib.hid (meetB_in (m := m) (b := b))
  obtain ⟨B, hB⟩ : ∃ B, meetB m b = B := ⟨_, rfl⟩
  have hB0 : (meetF ⟨m.x0, m.y0, m.x1, m.y1⟩ ⟨b.x0, b.y0, b.x1, b.y1⟩).x0 = B.x0 := by rw [← hB]; rfl
  have hB1 : (meetF ⟨m.x0, m.y0, m.x1, m.y1⟩ ⟨b.x0, b.y0, b.x1, b.y1⟩).y0 = B.y0 := by rw [← hB]; rfl
  have hB2 : (meetF ⟨m.x0, m.y0, m.x1, m.y1⟩ ⟨b.x0, b.y0, b.x1, b.y1⟩).x1 = B.x1 := by rw [← hB]; rfl
  have hB3 : (meetF ⟨m.x0, m.y0, m.x1, m.y1⟩ ⟨b.x0, b.y0, b.x1, b.y1⟩).y1 = B.y1 := by rw [← hB]; rfl
  dsimp only at HME
  rw [hB0, hB1, hB2, hB3] at HME
  rw [hB] at HIN HCB HCR
  clear hme hB hB0 hB1 hB2 hB3 hb hm hnb
  have HA := Lib.hid h
  have HC := Lib.hid hc
  obtain ⟨x0, y0, x1, y1⟩ := m
  obtain ⟨u0, v0, u1, v1⟩ := b
  obtain ⟨X0, Y0, X1, Y1⟩ := B
  dsimp only at HCK HME HIN HM
  have hm3 : Blk (((w.alloc (.cells #[.int .i64 x0, .int .i64 y0, .int .i64 x1, .int .i64 y1, .slice A bs.length c] 29)).alloc (.cells #[.int .i64 u0, .int .i64 v0, .int .i64 u1, .int .i64 v1] 26)).alloc (.cells #[.int .i64 0, .int .i64 0, .int .i64 0, .int .i64 0, .slice none 0 0] 29)) w.heap.size 29 [.int .i64 x0, .int .i64 y0, .int .i64 x1, .int .i64 y1, .slice A bs.length c] := ((Blk.new w _ [_, _, _, _, _]).alloc _).alloc _
  have hb3 : Blk (((w.alloc (.cells #[.int .i64 x0, .int .i64 y0, .int .i64 x1, .int .i64 y1, .slice A bs.length c] 29)).alloc (.cells #[.int .i64 u0, .int .i64 v0, .int .i64 u1, .int .i64 v1] 26)).alloc (.cells #[.int .i64 0, .int .i64 0, .int .i64 0, .int .i64 0, .slice none 0 0] 29)) (w.heap.size + 1) 26 [.int .i64 u0, .int .i64 v0, .int .i64 u1, .int .i64 v1] := (Blk.newAt _ _ [_, _, _, _] (by simp)).alloc _
  have hr3 : Blk (((w.alloc (.cells #[.int .i64 x0, .int .i64 y0, .int .i64 x1, .int .i64 y1, .slice A bs.length c] 29)).alloc (.cells #[.int .i64 u0, .int .i64 v0, .int .i64 u1, .int .i64 v1] 26)).alloc (.cells #[.int .i64 0, .int .i64 0, .int .i64 0, .int .i64 0, .slice none 0 0] 29)) (w.heap.size + 1 + 1) 29 [.int .i64 0, .int .i64 0, .int .i64 0, .int .i64 0, .slice none 0 0] := Blk.newAt _ _ [_, _, _, _, _] (by simp)
  have HM3 := Lib.hid hm3
  have HB3 := Lib.hid hb3
  have HR3 := Lib.hid hr3
  clear hm3 hb3 hr3 h hc
  go_enter Try.func24, Try.ntmps24
  go_wp2_with (first
    | (go_at_call 15; (with_reducible refine (HCK.out _).mono ?_); rintro e w1 ⟨rfl, hb1⟩; have hm4 := HM3.out.keepB hb1; have hb4 := HB3.out.keepB hb1; have HM4 := Lib.hid hm4; have HB4 := Lib.hid hb4; have HR4 := Lib.hid (HR3.out.keepB hb1); have k0 : w1.cell? ⟨w.heap.size, 0, none⟩ = some (.int .i64 x0) := hm4.cell 0; have k1 : w1.cell? ⟨w.heap.size, 1, none⟩ = some (.int .i64 y0) := hm4.cell 1; have k2 : w1.cell? ⟨w.heap.size, 2, none⟩ = some (.int .i64 x1) := hm4.cell 2; have k3 : w1.cell? ⟨w.heap.size, 3, none⟩ = some (.int .i64 y1) := hm4.cell 3; have k4 : w1.cell? ⟨w.heap.size + 1, 0, none⟩ = some (.int .i64 u0) := hb4.cell 0; have k5 : w1.cell? ⟨w.heap.size + 1, 1, none⟩ = some (.int .i64 v0) := hb4.cell 1; have k6 : w1.cell? ⟨w.heap.size + 1, 2, none⟩ = some (.int .i64 u1) := hb4.cell 2; have k7 : w1.cell? ⟨w.heap.size + 1, 3, none⟩ = some (.int .i64 v1) := hb4.cell 3; have kl := hm4.lt; have kl2 := hb4.lt; have HW1 : Hid (Below w.heap.size w w1) := Lib.hid ((bel_alloc (bel_alloc (bel_alloc bel_refl))).below.trans (hb1.mono (by simp; omega))); clear hb1 hm4 hb4)
    | (go_at_call 45; (with_reducible refine (HME.out _).mono ?_); rintro e w2 ⟨rfl, hb2⟩; have HM5 := Lib.hid (HM4.out.keepB hb2); have hb5 := HB4.out.keepB hb2; have HB5 := Lib.hid hb5; have HR5 := Lib.hid (HR4.out.keepB hb2); have j0 : w2.cell? ⟨w.heap.size + 1, 0, none⟩ = some (.int .i64 u0) := hb5.cell 0; have j1 : w2.cell? ⟨w.heap.size + 1, 1, none⟩ = some (.int .i64 v0) := hb5.cell 1; have j2 : w2.cell? ⟨w.heap.size + 1, 2, none⟩ = some (.int .i64 u1) := hb5.cell 2; have j3 : w2.cell? ⟨w.heap.size + 1, 3, none⟩ = some (.int .i64 v1) := hb5.cell 3; have f0 := hb5.frozen 0; have f1 := hb5.frozen 1; have f2 := hb5.frozen 2; have f3 := hb5.frozen 3; have jl := hb5.lt; have HW2 := Lib.hid (HW1.out.trans (hb2.mono HW1.out.size)); clear hb2 hb5 k0 k1 k2 k3 k4 k5 k6 k7 kl kl2)
    | fail)
  obtain ⟨h, hh⟩ : ∃ h : Nat, h = (Y1 - Y0).toNat := ⟨_, rfl⟩
  obtain ⟨W3, hW3⟩ : ∃ W3, ((((w2.setCell ⟨w.heap.size + 1, 0, none⟩ (.int .i64 X0)).setCell ⟨w.heap.size + 1, 1, none⟩ (.int .i64 Y0)).setCell ⟨w.heap.size + 1, 2, none⟩ (.int .i64 X1)).setCell ⟨w.heap.size + 1, 3, none⟩ (.int .i64 Y1)).alloc (.cells #[.int .i64 X0, .int .i64 Y0, .int .i64 X1, .int .i64 Y1, .slice none 0 0] 29) = W3 := ⟨_, rfl⟩
  obtain ⟨ob, hob⟩ : ∃ ob, w2.heap.size = ob := ⟨_, rfl⟩
  have HF0 : Hid (CropI w ⟨x0, y0, x1, y1⟩ bs A c ⟨X0, Y0, X1, Y1⟩ ob 0 W3) := Lib.hid (by
    rw [← hW3]
    have n1 : w.heap.size ≠ w.heap.size + 1 := by omega
    have n2 : w.heap.size + 1 + 1 ≠ w.heap.size + 1 := by omega
    have hlt := HR5.out.lt
    refine ⟨((((HM5.out.far n1 _).far n1 _).far n1 _).far n1 _).alloc _, ((((HB5.out.set 0 (.int .i64 X0)).set 1 (.int .i64 Y0)).set 2 (.int .i64 X1)).set 3 (.int .i64 Y1)).alloc _, ((((HR5.out.far n2 _).far n2 _).far n2 _).far n2 _).alloc _, ⟨_, Blk.newAt _ _ [_, _, _, _, _] (by rw [← hob]; simp [World.setCell]), ?_⟩, ?_, by rw [← hob]; exact hlt⟩
    · rw [Nat.zero_mul]
      exact World.ownsRow_nil _ _ _ _
    · have h5 := (((HW2.out.setCell (p := ⟨w.heap.size + 1, 0, none⟩) (Nat.le_succ _) (.int .i64 X0)).setCell (p := ⟨w.heap.size + 1, 1, none⟩) (Nat.le_succ _) (.int .i64 Y0)).setCell (p := ⟨w.heap.size + 1, 2, none⟩) (Nat.le_succ _) (.int .i64 X1)).setCell (p := ⟨w.heap.size + 1, 3, none⟩) (Nat.le_succ _) (.int .i64 Y1)
      exact h5.alloc h5.size _)
  have HH := Lib.hid hh
  have HP := Lib.hid fun y W => mplace_ok ⟨x0, y0, x1, y1⟩ X0 y A bs.length c HNB.out W
  rw [hW3, hob]
  clear hW3 hob hh j0 j1 j2 j3 f0 f1 f2 f3 jl
  go_loopg [9] h (fun r y wr => ∃ k : Nat, r + k = h ∧ y = .int .i64 (Y0 + k) ∧ Hid (CropI w ⟨x0, y0, x1, y1⟩ bs A c ⟨X0, Y0, X1, Y1⟩ ob k wr))
  case atStart => exact ⟨0, rfl, by simp, HF0⟩
  case round =>
    clear HF0
    obtain ⟨k, hk, rfl, HF⟩ := hrel
    have hbb := HF.out.fb
    have b0 : wr.cell? ⟨w.heap.size + 1, 0, none⟩ = some (.int .i64 X0) := hbb.cell 0
    have b1 : wr.cell? ⟨w.heap.size + 1, 1, none⟩ = some (.int .i64 Y0) := hbb.cell 1
    have b2 : wr.cell? ⟨w.heap.size + 1, 2, none⟩ = some (.int .i64 X1) := hbb.cell 2
    have b3 : wr.cell? ⟨w.heap.size + 1, 3, none⟩ = some (.int .i64 Y1) := hbb.cell 3
    have bl := hbb.lt
    by_cases hlt : k < h
    · have hin : X0 < X1 ∧ Y0 < Y1 ∧ x0 ≤ X0 ∧ X1 ≤ x1 ∧ y0 ≤ Y0 ∧ Y1 ≤ y1 := by
        rcases HIN.out with h1 | h1
        · injection h1 with h1 h2 h3 h4
          have := HH.out
          subst h2 h4
          simp at this
          omega
        · exact h1
      have hnb := HNB.out
      unfold nearB at hnb
      dsimp only at hnb
      have hhh := HH.out
      have hk3 : k ≤ 32768 := by omega
      have hrow := crop_row (m := ⟨x0, y0, x1, y1⟩) (b := ⟨X0, Y0, X1, Y1⟩) HM.out hin (y := Y0 + k) (by dsimp only; omega) (by dsimp only; omega)
      dsimp only at hrow
      obtain ⟨p, hp⟩ : ∃ p : Nat, plN ⟨x0, y0, x1, y1⟩ X0 (Y0 + k) = p := ⟨(plN ⟨x0, y0, x1, y1⟩ X0 (Y0 + k)).toNat, by omega⟩
      obtain ⟨n, hnn⟩ : ∃ n : Nat, (X1 - X0).toNat = n := ⟨_, rfl⟩
      rw [hp] at hrow
      have HPL := Lib.hid fun W => HP.out (Y0 + k) W
      rw [hp] at HPL
      obtain ⟨ab, ao, rfl, -, -⟩ := HA.out.2 p (by omega)
      have s0 : IntKind.i64.wrap (Y0 + (k : Int) + 1) = Y0 + k + 1 := IntWalk.i64_in _ (by omega)
      have s1 : IntKind.i64.wrap ((p : Int) + X1) = p + X1 := IntWalk.i64_in _ (by omega)
      obtain ⟨q, hq⟩ : ∃ q, p + n = q := ⟨_, rfl⟩
      obtain rfl : n = q - p := by omega
      have hqp : p < q := by omega
      have s2 : IntKind.i64.wrap ((p : Int) + X1 - X0) = (q : Int) := by rw [show (p : Int) + X1 - X0 = (q : Int) by omega]; exact IntWalk.i64_in _ (by omega)
      have q1 : (p : Int) ≤ (q : Int) := by omega
      have q2 : (q : Int) ≤ (c : Int) := by have := HC.out; omega
      have q3 : p + (q - p) ≤ bs.length := by omega
      have q4 : p ≤ q := by omega
      have q5 : q ≤ c := by have := HC.out; omega
      have q6 : ¬ c = p := by omega
      have q7 : (0 : Int) ≤ (p : Int) := by omega
      have hL2 : (q - p) ≤ 32768 := by omega
      clear hq
      have e1 : decide (Y0 + (k : Int) < Y1) = true := by rw [decide_eq_true_eq]; omega
      have hmm := HF.out.fm
      have m0 : wr.cell? ⟨w.heap.size, 0, none⟩ = some (.int .i64 x0) := hmm.cell 0
      have m1 : wr.cell? ⟨w.heap.size, 1, none⟩ = some (.int .i64 y0) := hmm.cell 1
      have m2 : wr.cell? ⟨w.heap.size, 2, none⟩ = some (.int .i64 x1) := hmm.cell 2
      have m3 : wr.cell? ⟨w.heap.size, 3, none⟩ = some (.int .i64 y1) := hmm.cell 3
      have m4 : wr.cell? ⟨w.heap.size, 4, none⟩ = some (.slice (some ⟨ab, ao, none⟩) bs.length c) := hmm.cell 4
      have ml := hmm.lt
      have HNN := Lib.hid hnn
      have HPP := Lib.hid hp
      clear hbb hmm hrow hp hnn hhh hnb hin
      go_wp2_with (first
        | (go_at_call 46; (with_reducible refine (HPL.out _).mono ?_); rintro e w4 ⟨rfl, hb4⟩; have HB4 := Lib.hid hb4; clear hb4 b0 b1 b2 b3 bl m0 m1 m2 m3 m4 ml)
        | fail)
      have HF4 := Lib.hid (HF.out.keepB HB4.out)
      obtain ⟨v, hm, hown⟩ := HF4.out.fo
      dsimp only at hm hown
      rw [HNN.out] at hown
      obtain ⟨L, hL⟩ : ∃ L, k * (q - p) = L := ⟨_, rfl⟩
      rw [hL] at hown
      have hLb : L ≤ 1073741824 := by
        rw [← hL]
        exact Nat.mul_le_mul hk3 hL2
      obtain ⟨Am, cm, rfl⟩ := own_slice hown
      have hbb := HF4.out.fb
      have hmm := HF4.out.fm
      have b0 : w4.cell? ⟨w.heap.size + 1, 0, none⟩ = some (.int .i64 X0) := hbb.cell 0
      have b2 : w4.cell? ⟨w.heap.size + 1, 2, none⟩ = some (.int .i64 X1) := hbb.cell 2
      have bl := hbb.lt
      have m4 : w4.cell? ⟨w.heap.size, 4, none⟩ = some (.slice (some ⟨ab, ao, none⟩) bs.length c) := hmm.cell 4
      have ml := hmm.lt
      have o4 : w4.cell? ⟨ob, 4, none⟩ = some (.slice Am L cm) := hm.cell 4
      have ol := hm.lt
      have HOB := Lib.hid hm
      have HOW := Lib.hid hown
      have HO5 : Hid (w4.drew.ownsRow w.heap.size 5 1 (.slice Am L cm) L ((cropN ⟨x0, y0, x1, y1⟩ bs ⟨X0, Y0, X1, Y1⟩ k).map (.int .u8))) := Lib.hid (own_keep hown (fun _ _ => rfl))
      have HRD := Lib.hid (reads_sub (p := p) (n := q - p) ((HA.out.keep HF4.out.fk).keep (bel_drew bel_refl).below) q3)
      have hz5 : w.heap.size ≤ w4.drew.heap.size := HF4.out.fk.size
      have HLK := Lib.hid hL.symm
      obtain ⟨i0, hi0, hz0, hz1, hz2⟩ := info_parts u8_info
      clear hbb hmm hm hown hL
      go_region_law (first
        | (refine step_append_any _ (by rfl) (.tmp 44) (.tmp 55) 27 (by rfl) w.heap.size 5 i0 (.int .u8 0) 1 1 Try.underlying27 hi0 hz0 hz1 hz2 rfl (by omega) (.slice Am L cm) L _ (by kernel_rfl) HO5.out _ (some ⟨ab, ao + p, none⟩) (q - p) (c - p) _ (by kernel_rfl) HRD.out ?_ ?_ ?_ hz5 ?_; (· intro u hu; obtain ⟨x, _, rfl⟩ := List.mem_map.1 hu; rfl); (· unfold maxLen; clear s0 s1 s2; omega); (· clear s0 s1 s2; omega); intro v' w6 hown6 hgrow6 hat6; obtain ⟨A6, c6, rfl⟩ := own_slice hown6; have HF6 := Lib.hid (HF4.out.next HOB.out HOW.out rfl hgrow6 (by dsimp only; rw [HPP.out, Int.toNat_natCast, HNN.out]; exact hown6) HLK.out HNN.out); have hm6 := grown_blk hgrow6 HO5.out HOB.out.drew (by decide); have zf := hm6.frozen 4; have z4 : w6.cell? ⟨ob, 4, none⟩ = some (.slice Am L cm) := hm6.cell 4; clear hown6 hgrow6 hat6 hm6)
        | fail)
      all_goals
        clear s1 s2 q1 q2 q3 q4 q5 q6 q7
        go_wp2_with fail
        go_roundg (h - (k + 1))
        case rel => exact ⟨k + 1, by omega, by go_num, HF6⟩
        case measure => omega
    · have e1 : decide (Y0 + (k : Int) < Y1) = false := by rw [decide_eq_false_iff_not]; have := HH.out; omega
      obtain rfl : k = h := by omega
      obtain ⟨v, hm, hown⟩ := HF.out.fo
      dsimp only at hm hown
      obtain ⟨Am, cm, rfl⟩ := own_slice hown
      have m0 : wr.cell? ⟨ob, 0, none⟩ = some (.int .i64 X0) := hm.cell 0
      have m1 : wr.cell? ⟨ob, 1, none⟩ = some (.int .i64 Y0) := hm.cell 1
      have m2 : wr.cell? ⟨ob, 2, none⟩ = some (.int .i64 X1) := hm.cell 2
      have m3 : wr.cell? ⟨ob, 3, none⟩ = some (.int .i64 Y1) := hm.cell 3
      obtain ⟨L, hL⟩ : ∃ L, k * (X1 - X0).toNat = L := ⟨_, rfl⟩
      rw [hL] at hm hown
      have m4 : wr.cell? ⟨ob, 4, none⟩ = some (.slice Am L cm) := hm.cell 4
      have hrr := HF.out.fr
      have d0 := hrr.cell 0
      have d1 := hrr.cell 1
      have d2 := hrr.cell 2
      have d3 := hrr.cell 3
      have d4 := hrr.cell 4
      have f0 := hrr.frozen 0
      have f1 := hrr.frozen 1
      have f2 := hrr.frozen 2
      have f3 := hrr.frozen 3
      have f4 := hrr.frozen 4
      have hl := hrr.lt
      have HRR := Lib.hid hrr
      have HOW := Lib.hid hown
      have HKE := Lib.hid HF.out.fk
      have HLL := Lib.hid hL
      clear hm hown hrr hbb hL
      go_wp2_with fail
      generalize hWf : World.setCell _ _ _ = Wf
      have HRF : Hid (Blk Wf (w.heap.size + 1 + 1) 29 [.int .i64 X0, .int .i64 Y0, .int .i64 X1, .int .i64 Y1, .slice Am L cm]) := Lib.hid (by rw [← hWf]; exact ((((HRR.out.set 0 _).set 1 _).set 2 _).set 3 _).set 4 _)
      have HOF : Hid (Wf.ownsRow w.heap.size 5 1 (.slice Am L cm) L ((cropN ⟨x0, y0, x1, y1⟩ bs ⟨X0, Y0, X1, Y1⟩ k).map (.int .u8))) := Lib.hid (by
        rw [← hWf]
        refine own_keep HOW.out fun r hr2 => ?_
        have hne : r ≠ w.heap.size + 1 + 1 := fun e2 => own_blk_ne HOW.out HRR.out (by decide) (by rw [hr2, e2])
        rw [Below.heap_setCell _ _ _ _ hne, Below.heap_setCell _ _ _ _ hne, Below.heap_setCell _ _ _ _ hne, Below.heap_setCell _ _ _ _ hne, Below.heap_setCell _ _ _ _ hne])
      have HBF : Hid (Below w.heap.size w Wf) := Lib.hid (by
        rw [← hWf]
        have hle : w.heap.size ≤ w.heap.size + 1 + 1 := by omega
        exact ((((HKE.out.setCell hle _).setCell hle _).setCell hle _).setCell hle _).setCell hle _)
      clear hWf d0 d1 d2 d3 d4 f0 f1 f2 f3 f4 m0 m1 m2 m3 m4
      have e0 := HRF.out.cell 0
      have e1 := HRF.out.cell 1
      have e2 := HRF.out.cell 2
      have e3 := HRF.out.cell 3
      have e4 := HRF.out.cell 4
      with_reducible refine bodyPost_ret (v := .tuple #[.agg #[.int .i64 X0, .int .i64 Y0, .int .i64 X1, .int .i64 Y1, .slice Am L cm], .int .i64 0]) (by simp [results, Try.results24, go_sem, e0, e1, e2, e3, e4]) rfl ?_
      have hcr : cropR ⟨x0, y0, x1, y1⟩ bs ⟨u0, v0, u1, v1⟩ = cropN ⟨x0, y0, x1, y1⟩ bs ⟨X0, Y0, X1, Y1⟩ k := by rw [HCR.out]; show cropN _ _ _ (Y1 - Y0).toNat = _; rw [← HH.out]
      refine ⟨.slice Am L cm, by unfold maskV; rw [HCB.out, HCE.out], ?_, HBF.out⟩
      have hlen : (cropN ⟨x0, y0, x1, y1⟩ bs ⟨X0, Y0, X1, Y1⟩ k).length = L := by
        have := HOF.out.1
        rw [List.length_map, Nat.mul_one] at this
        exact this
      rw [hcr, hlen]
      exact HOF.out
end Go.Proofs.Ytbflncfhbmlibaa

namespace Go.Proofs.Ytbflncfhbmlibaa
open Go.RowKit Go.Shelf

set_option maxRecDepth 20000 in
set_option maxHeartbeats 4000000 in
theorem Crop_no {w : World} (m b : B4) {A : Option Addr} {c : Nat} {bs : List Int} (hn : bs.length ≤ 16777216) (hno : ¬ (maskE m.x0 m.y0 m.x1 m.y1 bs.length = 0 ∧ bB b.x0 b.y0 b.x1 b.y1 = true)) :
    Calls Try.prog 24 #[.agg #[.int .i64 m.x0, .int .i64 m.y0, .int .i64 m.x1, .int .i64 m.y1, .slice A bs.length c], .agg #[.int .i64 b.x0, .int .i64 b.y0, .int .i64 b.x1, .int .i64 b.y1]] w (CropR m bs b w) := by
  have HCK := Lib.hid fun W => Check_any m.x0 m.y0 m.x1 m.y1 A bs.length c (by omega) W
  have HME := Lib.hid fun W => Meet_any m.x0 m.y0 m.x1 m.y1 b.x0 b.y0 b.x1 b.y1 W
  have hne : cropE m bs b ≠ 0 := by
    unfold cropE
    split
    · rename_i h1
      split
      · rename_i h2; exact absurd ⟨h1, h2⟩ hno
      · decide
    · rename_i h1; exact h1
  have HCB : Hid (cropB m bs b = ⟨0, 0, 0, 0⟩) := Lib.hid (by unfold cropB; rw [if_neg hne])
  have HCR : Hid (cropR m bs b = []) := Lib.hid (by unfold cropR; rw [if_neg hne])
  rcases maskE_any m bs.length with hm | hm
  · have hb : bB b.x0 b.y0 b.x1 b.y1 = false := by
      rcases Bool.eq_false_or_eq_true (bB b.x0 b.y0 b.x1 b.y1) with h | h
      · exact absurd ⟨hm, h⟩ hno
      · exact h
    have HCE : Hid (cropE m bs b = 10) := Lib.hid (by unfold cropE; rw [if_pos hm, if_neg (by rw [hb]; decide)])
    have hme : MeetE ⟨m.x0, m.y0, m.x1, m.y1⟩ ⟨b.x0, b.y0, b.x1, b.y1⟩ = (⟨0, 0, 0, 0⟩, 10) := by
      unfold MeetE
      dsimp only
      rw [hb, Bool.and_false, if_pos rfl]
    rw [hme] at HME
    dsimp only at HME
    rw [hm] at HCK
    clear hme hb hm hno hne
    obtain ⟨x0, y0, x1, y1⟩ := m
    obtain ⟨u0, v0, u1, v1⟩ := b
    dsimp only at HCK HME
    have HM3 : Hid (Blk (((w.alloc (.cells #[.int .i64 x0, .int .i64 y0, .int .i64 x1, .int .i64 y1, .slice A bs.length c] 29)).alloc (.cells #[.int .i64 u0, .int .i64 v0, .int .i64 u1, .int .i64 v1] 26)).alloc (.cells #[.int .i64 0, .int .i64 0, .int .i64 0, .int .i64 0, .slice none 0 0] 29)) w.heap.size 29 [.int .i64 x0, .int .i64 y0, .int .i64 x1, .int .i64 y1, .slice A bs.length c]) := Lib.hid (((Blk.new w _ [_, _, _, _, _]).alloc _).alloc _)
    have HB3 : Hid (Blk (((w.alloc (.cells #[.int .i64 x0, .int .i64 y0, .int .i64 x1, .int .i64 y1, .slice A bs.length c] 29)).alloc (.cells #[.int .i64 u0, .int .i64 v0, .int .i64 u1, .int .i64 v1] 26)).alloc (.cells #[.int .i64 0, .int .i64 0, .int .i64 0, .int .i64 0, .slice none 0 0] 29)) (w.heap.size + 1) 26 [.int .i64 u0, .int .i64 v0, .int .i64 u1, .int .i64 v1]) := Lib.hid ((Blk.newAt _ _ [_, _, _, _] (by simp)).alloc _)
    have HR3 : Hid (Blk (((w.alloc (.cells #[.int .i64 x0, .int .i64 y0, .int .i64 x1, .int .i64 y1, .slice A bs.length c] 29)).alloc (.cells #[.int .i64 u0, .int .i64 v0, .int .i64 u1, .int .i64 v1] 26)).alloc (.cells #[.int .i64 0, .int .i64 0, .int .i64 0, .int .i64 0, .slice none 0 0] 29)) (w.heap.size + 1 + 1) 29 [.int .i64 0, .int .i64 0, .int .i64 0, .int .i64 0, .slice none 0 0]) := Lib.hid (Blk.newAt _ _ [_, _, _, _, _] (by simp))
    go_enter Try.func24, Try.ntmps24
    go_wp2_with (first
      | (go_at_call 15; (with_reducible refine (HCK.out _).mono ?_); rintro e w1 ⟨rfl, hb1⟩; have hm4 := HM3.out.keepB hb1; have hb4 := HB3.out.keepB hb1; have HB4 := Lib.hid hb4; have HR4 := Lib.hid (HR3.out.keepB hb1); have k0 : w1.cell? ⟨w.heap.size, 0, none⟩ = some (.int .i64 x0) := hm4.cell 0; have k1 : w1.cell? ⟨w.heap.size, 1, none⟩ = some (.int .i64 y0) := hm4.cell 1; have k2 : w1.cell? ⟨w.heap.size, 2, none⟩ = some (.int .i64 x1) := hm4.cell 2; have k3 : w1.cell? ⟨w.heap.size, 3, none⟩ = some (.int .i64 y1) := hm4.cell 3; have k4 : w1.cell? ⟨w.heap.size + 1, 0, none⟩ = some (.int .i64 u0) := hb4.cell 0; have k5 : w1.cell? ⟨w.heap.size + 1, 1, none⟩ = some (.int .i64 v0) := hb4.cell 1; have k6 : w1.cell? ⟨w.heap.size + 1, 2, none⟩ = some (.int .i64 u1) := hb4.cell 2; have k7 : w1.cell? ⟨w.heap.size + 1, 3, none⟩ = some (.int .i64 v1) := hb4.cell 3; have kl := hm4.lt; have kl2 := hb4.lt; have HW1 : Hid (Below w.heap.size w w1) := Lib.hid ((bel_alloc (bel_alloc (bel_alloc bel_refl))).below.trans (hb1.mono (by simp; omega))); clear hb1 hm4 hb4)
      | (go_at_call 45; (with_reducible refine (HME.out _).mono ?_); rintro e w2 ⟨rfl, hb2⟩; have hb5 := HB4.out.keepB hb2; have hr5 := HR4.out.keepB hb2; have HR5 := Lib.hid hr5; have j0 : w2.cell? ⟨w.heap.size + 1, 0, none⟩ = some (.int .i64 u0) := hb5.cell 0; have j1 : w2.cell? ⟨w.heap.size + 1, 1, none⟩ = some (.int .i64 v0) := hb5.cell 1; have j2 : w2.cell? ⟨w.heap.size + 1, 2, none⟩ = some (.int .i64 u1) := hb5.cell 2; have j3 : w2.cell? ⟨w.heap.size + 1, 3, none⟩ = some (.int .i64 v1) := hb5.cell 3; have f0 := hb5.frozen 0; have f1 := hb5.frozen 1; have f2 := hb5.frozen 2; have f3 := hb5.frozen 3; have jl := hb5.lt; have d0 := hr5.cell 0; have d1 := hr5.cell 1; have d2 := hr5.cell 2; have d3 := hr5.cell 3; have d4 := hr5.cell 4; have g0 := hr5.frozen 0; have g1 := hr5.frozen 1; have g2 := hr5.frozen 2; have g3 := hr5.frozen 3; have g4 := hr5.frozen 4; have dl := hr5.lt; have HW2 := Lib.hid (HW1.out.trans (hb2.mono HW1.out.size)); clear hb2 hb5 hr5 k0 k1 k2 k3 k4 k5 k6 k7 kl kl2)
      | fail)
    generalize hWf : World.setCell _ _ _ = Wf
    have n2 : w.heap.size + 1 + 1 ≠ w.heap.size + 1 := by omega
    have HRF : Hid (Blk Wf (w.heap.size + 1 + 1) 29 [.int .i64 0, .int .i64 0, .int .i64 0, .int .i64 0, .slice none 0 0]) := Lib.hid (by rw [← hWf]; exact ((((((((HR5.out.far n2 _).far n2 _).far n2 _).far n2 _).set 0 _).set 1 _).set 2 _).set 3 _).set 4 _)
    have HBF : Hid (Below w.heap.size w Wf) := Lib.hid (by
      rw [← hWf]
      have hle : w.heap.size ≤ w.heap.size + 1 + 1 := by omega
      exact ((((((((HW2.out.setCell (Nat.le_succ _) _).setCell (Nat.le_succ _) _).setCell (Nat.le_succ _) _).setCell (Nat.le_succ _) _).setCell hle _).setCell hle _).setCell hle _).setCell hle _).setCell hle _)
    clear hWf d0 d1 d2 d3 d4 f0 f1 f2 f3 g0 g1 g2 g3 g4 j0 j1 j2 j3 jl dl
    have e0 := HRF.out.cell 0
    have e1 := HRF.out.cell 1
    have e2 := HRF.out.cell 2
    have e3 := HRF.out.cell 3
    have e4 := HRF.out.cell 4
    with_reducible refine bodyPost_ret (v := .tuple #[.agg #[.int .i64 0, .int .i64 0, .int .i64 0, .int .i64 0, .slice none 0 0], .int .i64 10]) (by simp [results, Try.results24, go_sem, e0, e1, e2, e3, e4]) rfl ?_
    refine ⟨.slice none 0 0, by unfold maskV; rw [HCB.out, HCE.out], by rw [HCR.out]; exact World.ownsRow_nil _ _ _ _, HBF.out⟩
  · have HCE : Hid (cropE m bs b = 220) := Lib.hid (by unfold cropE; rw [if_neg (by rw [hm]; decide), hm])
    rw [hm] at HCK
    clear hm hno hne HME
    obtain ⟨x0, y0, x1, y1⟩ := m
    obtain ⟨u0, v0, u1, v1⟩ := b
    dsimp only at HCK
    have HR3 : Hid (Blk (((w.alloc (.cells #[.int .i64 x0, .int .i64 y0, .int .i64 x1, .int .i64 y1, .slice A bs.length c] 29)).alloc (.cells #[.int .i64 u0, .int .i64 v0, .int .i64 u1, .int .i64 v1] 26)).alloc (.cells #[.int .i64 0, .int .i64 0, .int .i64 0, .int .i64 0, .slice none 0 0] 29)) (w.heap.size + 1 + 1) 29 [.int .i64 0, .int .i64 0, .int .i64 0, .int .i64 0, .slice none 0 0]) := Lib.hid (Blk.newAt _ _ [_, _, _, _, _] (by simp))
    go_enter Try.func24, Try.ntmps24
    go_wp2_with (first
      | (go_at_call 15; (with_reducible refine (HCK.out _).mono ?_); rintro e w1 ⟨rfl, hb1⟩; have hr5 := HR3.out.keepB hb1; have HR5 := Lib.hid hr5; have d0 := hr5.cell 0; have d1 := hr5.cell 1; have d2 := hr5.cell 2; have d3 := hr5.cell 3; have d4 := hr5.cell 4; have g0 := hr5.frozen 0; have g1 := hr5.frozen 1; have g2 := hr5.frozen 2; have g3 := hr5.frozen 3; have g4 := hr5.frozen 4; have dl := hr5.lt; have HW2 : Hid (Below w.heap.size w w1) := Lib.hid ((bel_alloc (bel_alloc (bel_alloc bel_refl))).below.trans (hb1.mono (by simp; omega))); clear hb1 hr5)
      | fail)
    generalize hWf : World.setCell _ _ _ = Wf
    have HRF : Hid (Blk Wf (w.heap.size + 1 + 1) 29 [.int .i64 0, .int .i64 0, .int .i64 0, .int .i64 0, .slice none 0 0]) := Lib.hid (by rw [← hWf]; exact ((((HR5.out.set 0 _).set 1 _).set 2 _).set 3 _).set 4 _)
    have HBF : Hid (Below w.heap.size w Wf) := Lib.hid (by
      rw [← hWf]
      have hle : w.heap.size ≤ w.heap.size + 1 + 1 := by omega
      exact ((((HW2.out.setCell hle _).setCell hle _).setCell hle _).setCell hle _).setCell hle _)
    clear hWf d0 d1 d2 d3 d4 g0 g1 g2 g3 g4 dl
    have e0 := HRF.out.cell 0
    have e1 := HRF.out.cell 1
    have e2 := HRF.out.cell 2
    have e3 := HRF.out.cell 3
    have e4 := HRF.out.cell 4
    with_reducible refine bodyPost_ret (v := .tuple #[.agg #[.int .i64 0, .int .i64 0, .int .i64 0, .int .i64 0, .slice none 0 0], .int .i64 220]) (by simp [results, Try.results24, go_sem, e0, e1, e2, e3, e4]) rfl ?_
    refine ⟨.slice none 0 0, by unfold maskV; rw [HCB.out, HCE.out], by rw [HCR.out]; exact World.ownsRow_nil _ _ _ _, HBF.out⟩
theorem Crop_any {w : World} (m b : B4) {A : Option Addr} {c : Nat} {bs : List Int} (h : ByAt w A bs) (hn : bs.length ≤ 16777216) (hc : bs.length ≤ c) :
    Calls Try.prog 24 #[.agg #[.int .i64 m.x0, .int .i64 m.y0, .int .i64 m.x1, .int .i64 m.y1, .slice A bs.length c], .agg #[.int .i64 b.x0, .int .i64 b.y0, .int .i64 b.x1, .int .i64 b.y1]] w (CropR m bs b w) := by
  by_cases hy : maskE m.x0 m.y0 m.x1 m.y1 bs.length = 0 ∧ bB b.x0 b.y0 b.x1 b.y1 = true
  · exact Crop_ok m b h hn hc hy.1 hy.2
  · exact Crop_no m b hn hy
end Go.Proofs.Ytbflncfhbmlibaa

namespace Go.Proofs.Ytbflncfhbmlibaa
open Go.RowKit Go.Shelf

def rectL (b : B4) : List (List Dt) := [[(b.x0, b.y0), (b.x1, b.y0), (b.x1, b.y1), (b.x0, b.y1)]]
def RectR (b : B4) (w : World) (e : Ending) (w' : World) : Prop := ∃ A, e = .returned (.slice A 1 1) ∧ Dl w' A (rectL b) ∧ Below w.heap.size w w'
set_option maxRecDepth 20000 in
set_option maxHeartbeats 4000000 in
theorem rect_any (b : B4) (w : World) : Calls Try.prog 19 #[.agg #[.int .i64 b.x0, .int .i64 b.y0, .int .i64 b.x1, .int .i64 b.y1]] w (RectR b w) := by
  obtain ⟨x0, y0, x1, y1⟩ := b
  dsimp only
  go_enter Try.func19, Try.ntmps19
  go_wp2_with fail
  generalize hW : World.alloc _ _ = W3
  have hd : Blk W3 (w.heap.size + 1) 37 [.int .i64 x0, .int .i64 y0, .int .i64 x1, .int .i64 y0, .int .i64 x1, .int .i64 y1, .int .i64 x0, .int .i64 y1] := by rw [← hW]; exact (Blk.newAt _ _ [_, _, _, _, _, _, _, _] (by simp)).alloc _
  have hl : Blk W3 (w.heap.size + 1 + 1) 35 [.slice (some ⟨w.heap.size + 1, 0, none⟩) 4 4] := by rw [← hW]; exact Blk.newAt _ _ [_] (by simp)
  have hb : Below w.heap.size w W3 := by rw [← hW]; exact (bel_alloc (bel_alloc (bel_alloc bel_refl))).below
  clear hW
  go_ret
  refine ⟨_, rfl, fun i l hi => ?_, hb⟩
  have h0 : i = 0 := by
    have := (List.getElem?_eq_some_iff.1 hi).1
    simp [rectL] at this
    omega
  subst h0
  have hl2 : l = [(x0, y0), (x1, y0), (x1, y1), (x0, y1)] := by
    simp [rectL] at hi
    exact hi.symm
  subst hl2
  refine ⟨_, _, some ⟨w.heap.size + 1, 0, none⟩, 4, rfl, hl.lt, hl.cell 0, fun k d hk => ?_, by simp⟩
  have hk4 : k < 4 := (List.getElem?_eq_some_iff.1 hk).1
  refine ⟨_, _, rfl, hd.lt, ?_, ?_⟩
  · have hc : k = 0 ∨ k = 1 ∨ k = 2 ∨ k = 3 := by omega
    rcases hc with rfl | rfl | rfl | rfl <;> (injection hk with hk; subst hk)
    · exact hd.cell 0
    · exact hd.cell 2
    · exact hd.cell 4
    · exact hd.cell 6
  · have hc : k = 0 ∨ k = 1 ∨ k = 2 ∨ k = 3 := by omega
    rcases hc with rfl | rfl | rfl | rfl <;> (injection hk with hk; subst hk)
    · exact hd.cell 1
    · exact hd.cell 3
    · exact hd.cell 5
    · exact hd.cell 7
theorem live_E : fillE (rectL ⟨0, 0, 96, 64⟩) = 0 := by kernel_rfl
theorem live_B : fillB (rectL ⟨0, 0, 96, 64⟩) = ⟨0, 0, 2, 1⟩ := by kernel_rfl
theorem live_R : fillR (rectL ⟨0, 0, 96, 64⟩) = [255, 128] := by kernel_rfl
theorem live_S : SmL (rectL ⟨0, 0, 96, 64⟩) := ⟨by decide, by decide, fun _ => of_decide_eq_true (by kernel_rfl), fun _ => of_decide_eq_true (by kernel_rfl)⟩
theorem live_CE : cropE ⟨0, 0, 2, 1⟩ [255, 128] ⟨1, 0, 9, 9⟩ = 0 := by kernel_rfl
theorem live_CB : cropB ⟨0, 0, 2, 1⟩ [255, 128] ⟨1, 0, 9, 9⟩ = ⟨1, 0, 2, 1⟩ := by kernel_rfl
theorem live_T : totV ⟨0, 0, 2, 1⟩ [255, 128] = 383 := by kernel_rfl
theorem live_TE : totE ⟨0, 0, 2, 1⟩ [255, 128] = 0 := by kernel_rfl
theorem live_A1 : atM ⟨0, 0, 2, 1⟩ [255, 128] 1 0 = 128 := by kernel_rfl
theorem live_A2 : atM ⟨0, 0, 2, 1⟩ [255, 128] 2 0 = 0 := by kernel_rfl
theorem live_C1 : maskE 0 0 2 1 2 = 0 := by kernel_rfl
theorem live_C2 : maskE 0 0 0 0 1 = 220 := by kernel_rfl
end Go.Proofs.Ytbflncfhbmlibaa

namespace Go.Proofs.Ytbflncfhbmlibaa
open Go.RowKit Go.Shelf

theorem by_of_own {w : World} {N n c : Nat} {A : Option Addr} {bs : List Int} (h : w.ownsRow N 5 1 (.slice A n c) n (bs.map (.int .u8))) : ByAt w A bs ∧ bs.length = n ∧ n ≤ c := by
  have hl := h.1
  rw [List.length_map, Nat.mul_one] at hl
  refine ⟨⟨by simp, fun k hk => ?_⟩, hl, ?_⟩
  · rcases h.2 with ⟨_, h0⟩ | ⟨g, cap, cur, e, _, hg, hn, _, hs, ht⟩
    · omega
    · injection e with e1 e2 e3
      subst e1
      have hb : Blk w g 5 cur.toList := hg
      refine ⟨g, 0, rfl, hb.lt, ?_⟩
      rw [Nat.zero_add, hb.cell, ← ht, List.getElem?_take, if_pos (by omega)]
  · rcases h.2 with ⟨e, h0⟩ | ⟨g, cap, cur, e, _, hg, hn, _, hs, ht⟩
    · omega
    · injection e with e1 e2 e3
      omega
theorem live_rect (w : World) : Calls Try.prog 19 #[.agg #[.int .i64 0, .int .i64 0, .int .i64 96, .int .i64 64]] w (RectR ⟨0, 0, 96, 64⟩ w) := rect_any ⟨0, 0, 96, 64⟩ w
theorem live_fill {w : World} {A : Option Addr} (hd : Dl w A (rectL ⟨0, 0, 96, 64⟩)) : Calls Try.prog 12 #[.slice A 1 1] w fun e w' => ∃ A2 c2, e = .returned (.tuple #[.agg #[.int .i64 0, .int .i64 0, .int .i64 2, .int .i64 1, .slice A2 2 c2], .int .i64 0]) ∧ ByAt w' A2 [255, 128] ∧ 2 ≤ c2 ∧ Below w.heap.size w w' := by
  have h := Fill_any (c := 1) hd live_S
  refine Calls.mono (R := FillR (rectL ⟨0, 0, 96, 64⟩) w) h fun e w' he => ?_
  obtain ⟨v, rfl, ho, hb⟩ := he
  rw [live_R] at ho
  obtain ⟨A2, c2, rfl⟩ := own_slice ho
  obtain ⟨h1, -, h3⟩ := by_of_own ho
  exact ⟨A2, c2, by rw [live_B, live_E]; rfl, h1, h3, hb⟩
theorem live_crop {w : World} {A : Option Addr} {c : Nat} (h : ByAt w A [255, 128]) (hc : 2 ≤ c) : Calls Try.prog 24 #[.agg #[.int .i64 0, .int .i64 0, .int .i64 2, .int .i64 1, .slice A 2 c], .agg #[.int .i64 1, .int .i64 0, .int .i64 9, .int .i64 9]] w fun e w' => ∃ A3 n3 c3, e = .returned (.tuple #[.agg #[.int .i64 1, .int .i64 0, .int .i64 2, .int .i64 1, .slice A3 n3 c3], .int .i64 0]) ∧ Below w.heap.size w w' := by
  have hk := Crop_any ⟨0, 0, 2, 1⟩ ⟨1, 0, 9, 9⟩ (c := c) h (by decide) hc
  refine Calls.mono (R := CropR ⟨0, 0, 2, 1⟩ [255, 128] ⟨1, 0, 9, 9⟩ w) hk fun e w' he => ?_
  obtain ⟨v, rfl, ho, hb⟩ := he
  obtain ⟨A3, c3, rfl⟩ := own_slice ho
  exact ⟨A3, _, c3, by rw [live_CB, live_CE]; rfl, hb⟩
theorem live_ok : okBs [255, 128] := by intro x hx; simp at hx; omega
theorem live_total {w : World} {A : Option Addr} {c : Nat} (h : ByAt w A [255, 128]) : Calls Try.prog 25 #[.agg #[.int .i64 0, .int .i64 0, .int .i64 2, .int .i64 1, .slice A 2 c]] w fun e w' => e = .returned (.tuple #[.int .i64 383, .int .i64 0]) ∧ Below w.heap.size w w' := by
  have hk := Total_any ⟨0, 0, 2, 1⟩ (c := c) h live_ok (by decide)
  rw [live_T, live_TE] at hk
  exact hk
theorem live_at1 {w : World} {A : Option Addr} {c : Nat} (h : ByAt w A [255, 128]) : Calls Try.prog 26 #[.agg #[.int .i64 0, .int .i64 0, .int .i64 2, .int .i64 1, .slice A 2 c], .int .i64 1, .int .i64 0] w fun e w' => e = .returned (.int .i64 128) ∧ Below w.heap.size w w' := by
  have hk := At23_any ⟨0, 0, 2, 1⟩ (c := c) 1 0 h live_ok (by decide)
  rw [live_A1] at hk
  exact hk
theorem live_at2 {w : World} {A : Option Addr} {c : Nat} (h : ByAt w A [255, 128]) : Calls Try.prog 26 #[.agg #[.int .i64 0, .int .i64 0, .int .i64 2, .int .i64 1, .slice A 2 c], .int .i64 2, .int .i64 0] w fun e w' => e = .returned (.int .i64 0) ∧ Below w.heap.size w w' := by
  have hk := At23_any ⟨0, 0, 2, 1⟩ (c := c) 2 0 h live_ok (by decide)
  rw [live_A2] at hk
  exact hk
theorem live_ck1 (A : Option Addr) (c : Nat) (w : World) : Calls Try.prog 15 #[.agg #[.int .i64 0, .int .i64 0, .int .i64 2, .int .i64 1, .slice A 2 c]] w fun e w' => e = .returned (.int .i64 0) ∧ Below w.heap.size w w' := by
  have hk := Check_any 0 0 2 1 A 2 c (by omega) w
  rw [show ((2 : Nat) : Int) = 2 from rfl, live_C1] at hk
  exact hk
theorem live_ck2 (A : Option Addr) (c : Nat) (w : World) : Calls Try.prog 15 #[.agg #[.int .i64 0, .int .i64 0, .int .i64 0, .int .i64 0, .slice A 1 c]] w fun e w' => e = .returned (.int .i64 220) ∧ Below w.heap.size w w' := by
  have hk := Check_any 0 0 0 0 A 1 c (by omega) w
  rw [show ((1 : Nat) : Int) = 1 from rfl, live_C2] at hk
  exact hk
theorem live_str {w : World} {A : Option Addr} (h : ByAt w A [255, 128]) (c : Nat) : (convert 27 9 (.slice A 2 c)).run Try.prog w = .ok (.string (strB [255, 128])) w :=
  run_str (P := Try.prog) (A := A) (n := 2) (bs := [255, 128]) h Try.underlying27 Try.underlying5 Try.underlying9 c
set_option maxRecDepth 20000 in
set_option maxHeartbeats 4000000 in
theorem lives23_any (w : World) : Calls Try.prog 11 #[] w fun e w' => e = .returned (.bool true) ∧ Below w.heap.size w w' := by
  go_enter Try.func11, Try.ntmps11
  go_wp2_with (first
    | (go_at_call 19; (with_reducible refine (live_rect _).mono ?_); rintro e w1 ⟨A1, rfl, hd1, hb1⟩; have HD1 := Lib.hid hd1; have HB1 := Lib.hid hb1; clear hd1 hb1)
    | (go_at_call 12; (with_reducible refine (live_fill HD1.out).mono ?_); rintro e w2 ⟨A2, c2, rfl, hy2, hc2, hb2⟩; have HY2 := Lib.hid (hy2.keep (w' := w2.alloc (.cells #[.int .i64 0, .int .i64 0, .int .i64 2, .int .i64 1, .slice A2 2 c2] 29)) (bel_alloc bel_refl).below); have HM2 := Lib.hid (Blk.new w2 29 [.int .i64 0, .int .i64 0, .int .i64 2, .int .i64 1, .slice A2 2 c2]); have HB2 := Lib.hid ((HB1.out.trans (hb2.mono HB1.out.size)).alloc (Nat.le_trans HB1.out.size hb2.size) (.cells #[.int .i64 0, .int .i64 0, .int .i64 2, .int .i64 1, .slice A2 2 c2] 29)); clear hy2 hb2)
    | (go_at_call 24; (with_reducible refine (live_crop HY2.out hc2).mono ?_); rintro e w3 ⟨A3, n3, c3, rfl, hb3⟩; have HB3 := Lib.hid (HB2.out.trans (hb3.mono HB2.out.size)); have hm3 := HM2.out.keepB hb3; have HM3 := Lib.hid (hm3.alloc (.cells #[.int .i64 1, .int .i64 0, .int .i64 2, .int .i64 1, .slice A3 n3 c3] 29)); have HY3 := Lib.hid ((HY2.out.keep hb3).keep (w' := w3.alloc (.cells #[.int .i64 1, .int .i64 0, .int .i64 2, .int .i64 1, .slice A3 n3 c3] 29)) (bel_alloc bel_refl).below); have HC3 := Lib.hid (Blk.new w3 29 [.int .i64 1, .int .i64 0, .int .i64 2, .int .i64 1, .slice A3 n3 c3]); have a0 : w3.cell? ⟨w2.heap.size, 0, none⟩ = some (.int .i64 0) := hm3.cell 0; have a1 : w3.cell? ⟨w2.heap.size, 1, none⟩ = some (.int .i64 0) := hm3.cell 1; have a2 : w3.cell? ⟨w2.heap.size, 2, none⟩ = some (.int .i64 2) := hm3.cell 2; have a3 : w3.cell? ⟨w2.heap.size, 3, none⟩ = some (.int .i64 1) := hm3.cell 3; have a4 : w3.cell? ⟨w2.heap.size, 4, none⟩ = some (.slice A2 2 c2) := hm3.cell 4; have al := hm3.lt; have hz3 := HB3.out.size; clear hb3 hm3)
    | (go_at_call 25; (with_reducible refine (live_total HY3.out).mono ?_); rintro e w4 ⟨rfl, hb⟩; have HM4 := Lib.hid (HM3.out.keepB hb); have HY4 := Lib.hid (HY3.out.keep hb); have HC4 := Lib.hid (HC3.out.keepB hb); have HB4 := Lib.hid ((HB3.out.alloc HB3.out.size (.cells #[.int .i64 1, .int .i64 0, .int .i64 2, .int .i64 1, .slice A3 n3 c3] 29)).trans (hb.mono (by simp; omega))); clear hb a0 a1 a2 a3 a4 al hz3; have a0 : w4.cell? ⟨w2.heap.size, 0, none⟩ = some (.int .i64 0) := HM4.out.cell 0; have a1 : w4.cell? ⟨w2.heap.size, 1, none⟩ = some (.int .i64 0) := HM4.out.cell 1; have a2 : w4.cell? ⟨w2.heap.size, 2, none⟩ = some (.int .i64 2) := HM4.out.cell 2; have a3 : w4.cell? ⟨w2.heap.size, 3, none⟩ = some (.int .i64 1) := HM4.out.cell 3; have a4 : w4.cell? ⟨w2.heap.size, 4, none⟩ = some (.slice A2 2 c2) := HM4.out.cell 4; have b0 : w4.cell? ⟨w3.heap.size, 0, none⟩ = some (.int .i64 1) := HC4.out.cell 0; have b1 : w4.cell? ⟨w3.heap.size, 1, none⟩ = some (.int .i64 0) := HC4.out.cell 1; have b2 : w4.cell? ⟨w3.heap.size, 2, none⟩ = some (.int .i64 2) := HC4.out.cell 2; have b3 : w4.cell? ⟨w3.heap.size, 3, none⟩ = some (.int .i64 1) := HC4.out.cell 3; have b4 : w4.cell? ⟨w3.heap.size, 4, none⟩ = some (.slice A3 n3 c3) := HC4.out.cell 4; have al := HM4.out.lt; have bl := HC4.out.lt; have hq := live_str HY4.out c2; skip)
    | (go_at_call 26; (with_reducible refine (live_at1 HY4.out).mono ?_); rintro e w5 ⟨rfl, hb⟩; have HM5 := Lib.hid (HM4.out.keepB hb); have HY5 := Lib.hid (HY4.out.keep hb); have HC5 := Lib.hid (HC4.out.keepB hb); have HB5 := Lib.hid (HB4.out.trans (hb.mono HB4.out.size)); clear hb a0 a1 a2 a3 a4 al b0 b1 b2 b3 b4 bl hq HM4 HY4 HC4; have a0 : w5.cell? ⟨w2.heap.size, 0, none⟩ = some (.int .i64 0) := HM5.out.cell 0; have a1 : w5.cell? ⟨w2.heap.size, 1, none⟩ = some (.int .i64 0) := HM5.out.cell 1; have a2 : w5.cell? ⟨w2.heap.size, 2, none⟩ = some (.int .i64 2) := HM5.out.cell 2; have a3 : w5.cell? ⟨w2.heap.size, 3, none⟩ = some (.int .i64 1) := HM5.out.cell 3; have a4 : w5.cell? ⟨w2.heap.size, 4, none⟩ = some (.slice A2 2 c2) := HM5.out.cell 4; have b0 : w5.cell? ⟨w3.heap.size, 0, none⟩ = some (.int .i64 1) := HC5.out.cell 0; have b1 : w5.cell? ⟨w3.heap.size, 1, none⟩ = some (.int .i64 0) := HC5.out.cell 1; have b2 : w5.cell? ⟨w3.heap.size, 2, none⟩ = some (.int .i64 2) := HC5.out.cell 2; have b3 : w5.cell? ⟨w3.heap.size, 3, none⟩ = some (.int .i64 1) := HC5.out.cell 3; have b4 : w5.cell? ⟨w3.heap.size, 4, none⟩ = some (.slice A3 n3 c3) := HC5.out.cell 4; have al := HM5.out.lt; have bl := HC5.out.lt; have hq := live_str HY5.out c2; skip)
    | (go_at_call 26; (with_reducible refine (live_at2 HY5.out).mono ?_); rintro e w6 ⟨rfl, hb⟩; have HM6 := Lib.hid (HM5.out.keepB hb); have HY6 := Lib.hid (HY5.out.keep hb); have HC6 := Lib.hid (HC5.out.keepB hb); have HB6 := Lib.hid (HB5.out.trans (hb.mono HB5.out.size)); clear hb a0 a1 a2 a3 a4 al b0 b1 b2 b3 b4 bl hq HM5 HY5 HC5; have a0 : w6.cell? ⟨w2.heap.size, 0, none⟩ = some (.int .i64 0) := HM6.out.cell 0; have a1 : w6.cell? ⟨w2.heap.size, 1, none⟩ = some (.int .i64 0) := HM6.out.cell 1; have a2 : w6.cell? ⟨w2.heap.size, 2, none⟩ = some (.int .i64 2) := HM6.out.cell 2; have a3 : w6.cell? ⟨w2.heap.size, 3, none⟩ = some (.int .i64 1) := HM6.out.cell 3; have a4 : w6.cell? ⟨w2.heap.size, 4, none⟩ = some (.slice A2 2 c2) := HM6.out.cell 4; have b0 : w6.cell? ⟨w3.heap.size, 0, none⟩ = some (.int .i64 1) := HC6.out.cell 0; have b1 : w6.cell? ⟨w3.heap.size, 1, none⟩ = some (.int .i64 0) := HC6.out.cell 1; have b2 : w6.cell? ⟨w3.heap.size, 2, none⟩ = some (.int .i64 2) := HC6.out.cell 2; have b3 : w6.cell? ⟨w3.heap.size, 3, none⟩ = some (.int .i64 1) := HC6.out.cell 3; have b4 : w6.cell? ⟨w3.heap.size, 4, none⟩ = some (.slice A3 n3 c3) := HC6.out.cell 4; have al := HM6.out.lt; have bl := HC6.out.lt; have hq := live_str HY6.out c2; skip)
    | (go_at_call 15; (with_reducible refine (live_ck1 _ _ _).mono ?_); rintro e w7 ⟨rfl, hb⟩; have HM7 := Lib.hid (HM6.out.keepB hb); have HY7 := Lib.hid (HY6.out.keep hb); have HC7 := Lib.hid (HC6.out.keepB hb); have HB7 := Lib.hid (HB6.out.trans (hb.mono HB6.out.size)); clear hb a0 a1 a2 a3 a4 al b0 b1 b2 b3 b4 bl hq HM6 HY6 HC6; have a0 : w7.cell? ⟨w2.heap.size, 0, none⟩ = some (.int .i64 0) := HM7.out.cell 0; have a1 : w7.cell? ⟨w2.heap.size, 1, none⟩ = some (.int .i64 0) := HM7.out.cell 1; have a2 : w7.cell? ⟨w2.heap.size, 2, none⟩ = some (.int .i64 2) := HM7.out.cell 2; have a3 : w7.cell? ⟨w2.heap.size, 3, none⟩ = some (.int .i64 1) := HM7.out.cell 3; have a4 : w7.cell? ⟨w2.heap.size, 4, none⟩ = some (.slice A2 2 c2) := HM7.out.cell 4; have b0 : w7.cell? ⟨w3.heap.size, 0, none⟩ = some (.int .i64 1) := HC7.out.cell 0; have b1 : w7.cell? ⟨w3.heap.size, 1, none⟩ = some (.int .i64 0) := HC7.out.cell 1; have b2 : w7.cell? ⟨w3.heap.size, 2, none⟩ = some (.int .i64 2) := HC7.out.cell 2; have b3 : w7.cell? ⟨w3.heap.size, 3, none⟩ = some (.int .i64 1) := HC7.out.cell 3; have b4 : w7.cell? ⟨w3.heap.size, 4, none⟩ = some (.slice A3 n3 c3) := HC7.out.cell 4; have al := HM7.out.lt; have bl := HC7.out.lt; have hq := live_str HY7.out c2; skip)
    | (go_at_call 15; (with_reducible refine (live_ck2 _ _ _).mono ?_); rintro e w8 ⟨rfl, hb⟩; have HB8 := Lib.hid ((HB7.out.alloc HB7.out.size (.cells #[.int .u8 1] 5)).trans (hb.mono (by have := HB7.out.size; simp; omega))); clear hb a0 a1 a2 a3 a4 al b0 b1 b2 b3 b4 bl hq)
    | fail)
  go_ret
  exact ⟨rfl, HB8.out⟩
end Go.Proofs.Ytbflncfhbmlibaa
