/-
  Layer 08: All: the code points that have a glyph, one by one.
-/
import Derived.Test.YtlbfefdmbdjjcaaCmK
import Derived.Test.YtlbfefdmbdjjcaaGiv
import Derived.Test.YtlbfefdmbdjjcaaBs
import Derived.Sort.LoopGhostIn
import Derived.Sort.CutIn
namespace Go.Proofs.Ytlbfefdmbdjjcaa
open Go.RowKit Go.Shelf

attribute [local go_sem] Oper.semAt_some
section
variable {P : Program} {w : World}
@[go_sem ↓] theorem run_max_two (ts : Array TypeId) (t : TypeId) (x y : Int) : (Builtin.max_ ts t #[.int .i64 x, .int .i64 y]).run P w = .ok (.int .i64 (max x y)) w := by
  rw [run_max_int2, show (if y > x then y else x) = max x y by split <;> omega]
@[go_sem ↓] theorem run_min_two (ts : Array TypeId) (t : TypeId) (x y : Int) : (Builtin.min_ ts t #[.int .i64 x, .int .i64 y]).run P w = .ok (.int .i64 (min x y)) w := by
  rw [run_min_int2, show (if y < x then y else x) = min x y by split <;> omega]
end
theorem gl_in {l : List Sv} {n code : Int} {i : Nat} {s : Sv} (hr : SvRise l) (hs : l[i]? = some s) (h1 : s.f ≤ code) (h2 : code ≤ s.l) : glV l n code = if atV s code < n then atV s code else 0 := by
  unfold glV
  have hd : l.find? (fun s => decide (s.f ≤ code) && decide (code ≤ s.l)) = some s := by
    rw [List.find?_eq_some_iff_getElem]
    obtain ⟨h3, h4⟩ := List.getElem?_eq_some_iff.1 hs
    refine ⟨by simp only [Bool.and_eq_true, decide_eq_true_eq]; exact ⟨h1, h2⟩, i, h3, h4, fun j hj => ?_⟩
    have hj' : j < l.length := by omega
    have h5 := hr.2 j i _ _ (List.getElem?_eq_getElem hj') hs hj
    simp only [Bool.not_eq_true', Bool.and_eq_false_iff, decide_eq_false_iff_not]
    right
    omega
  rw [hd]
theorem gl_out {l : List Sv} {n code : Int} (h : ∀ (i : Nat) (s : Sv), l[i]? = some s → code < s.f ∨ s.l < code) : glV l n code = 0 := by
  unfold glV
  rw [List.find?_eq_none.2 fun s hs => ?_]
  obtain ⟨i, hi⟩ := List.getElem?_of_mem hs
  have := h i s hi
  simp only [Bool.and_eq_true, decide_eq_true_eq]
  omega
/-- The pairs from a on, up to c. -/
def prV (l : List Sv) (n code : Int) : Option (Int × Int) := if glV l n code = 0 then none else some (code, glV l n code)
def ppV (l : List Sv) (n a c : Int) : List (Int × Int) := (List.range (c - a).toNat).filterMap fun t => prV l n (a + (t : Nat))
theorem pp_nil (l : List Sv) {n a c : Int} (h : c ≤ a) : ppV l n a c = [] := by
  unfold ppV
  rw [show (c - a).toNat = 0 by omega]
  rfl
theorem pp_succ (l : List Sv) {n a c : Int} (h : a ≤ c) : ppV l n a (c + 1) = ppV l n a c ++ (prV l n c).toList := by
  unfold ppV
  rw [show (c + 1 - a).toNat = (c - a).toNat + 1 by omega, List.range_succ, List.filterMap_append]
  rw [List.filterMap_cons, List.filterMap_nil, show a + (((c - a).toNat : Nat) : Int) = c by omega]
  cases prV l n c <;> rfl
theorem pp_pre (l : List Sv) {n a c d : Int} (h : c ≤ d) : ppV l n a c <+: ppV l n a d := by
  obtain ⟨k, rfl⟩ : ∃ k : Nat, d = c + k := ⟨(d - c).toNat, by omega⟩
  induction k with
  | zero => simp
  | succ k ih =>
    have h1 := ih (by omega)
    rcases Int.lt_or_le (c + k) a with h2 | h2
    · rw [pp_nil l (show c + ((k + 1 : Nat) : Int) ≤ a by omega), ← pp_nil (n := n) l (show c + (k : Int) ≤ a by omega)]
      exact h1
    · rw [show c + ((k + 1 : Nat) : Int) = c + k + 1 by omega, pp_succ l h2]
      exact h1.trans (List.prefix_append _ _)
theorem pp_skip {l : List Sv} {n a c d : Int} (h : a ≤ c) (hd : c ≤ d) (hz : ∀ x, c ≤ x → x < d → glV l n x = 0) : ppV l n a d = ppV l n a c := by
  obtain ⟨k, rfl⟩ : ∃ k : Nat, d = c + k := ⟨(d - c).toNat, by omega⟩
  clear hd
  induction k with
  | zero => simp
  | succ k ih =>
    rw [show c + ((k + 1 : Nat) : Int) = c + k + 1 by omega, pp_succ l (by omega), ih (fun x h1 h2 => hz x h1 (by omega))]
    have : prV l n (c + k) = none := by unfold prV; rw [if_pos (hz _ (by omega) (by omega))]
    rw [this]
    simp
def ppR (x : Int × Int) : Array Value := #[.agg #[.int .i64 x.1, .int .i64 x.2]]
/-- What a round leaves: all below a block's number, and all that lies in cells but for the blocks of a set. -/
structure KpU (u0 : Nat) (F : Nat → Prop) (A B : World) : Prop where
  below : Below u0 A B
  size : A.heap.size ≤ B.heap.size
  cells : ∀ (b : Nat) (t : TypeId) (cs : List Value), ¬ F b → Blk A b t cs → Blk B b t cs
section
variable {u0 : Nat} {F : Nat → Prop} {A B C : World}
theorem KpU.trans (h : KpU u0 F A B) (k : KpU u0 F B C) : KpU u0 F A C := ⟨h.below.trans k.below, Nat.le_trans h.size k.size, fun b t cs hF hb => k.cells b t cs hF (h.cells b t cs hF hb)⟩
theorem KpU.of_below (h : Below A.heap.size A B) (hu : u0 ≤ A.heap.size) : KpU u0 F A B := ⟨h.mono hu, h.size, fun _b _ _ _ hb => hb.below h hb.lt⟩
theorem KpU.put {w : World} (hu : u0 ≤ w.heap.size) (W : World) (l : Nat) (o o' : Obj) (hl : w.heap.size ≤ l) (h : W.heap[l]? = some o) (h1 : o.isCells = false) : KpU u0 F W (W.putObj l o') := by
  refine ⟨⟨rfl, rfl, rfl, by simp, fun k hk => World.putObj_heap_other (by omega)⟩, by simp, fun b t cs _ hb => ?_⟩
  have hne : b ≠ l := fun e => by
    subst e
    unfold Blk at hb
    rw [h] at hb
    injection hb with hb
    subst hb
    cases h1
  exact (World.putObj_heap_other hne).trans hb
theorem KpU.set {p : Addr} (h : KpU u0 F A B) (hF : F p.block) (hp : u0 ≤ p.block) (v : Value) : KpU u0 F A (B.setCell p v) :=
  ⟨h.below.setCell hp v, Nat.le_trans h.size (by simp), fun b t cs hk hb => (h.cells b t cs hk hb).far (fun e => hk (by rw [e]; exact hF)) v⟩
end
/-- Between two segments. -/
def AlI (J : List (Int × Int) → World → Prop) (N : Nat) (u : World) (es : List Sg) (n a b : Int) (i0 : Nat) (r : Nat) (s7 : Value) (W : World) : Prop :=
  ∃ (i : Nat) (c : Int), s7 = .int .i64 i ∧ i ≤ es.length ∧ es.length - i = r ∧ i0 ≤ i ∧ a ≤ c ∧ (c ≤ b ∨ c = a) ∧ (∀ k v, es[k]? = some v → k < i → v.l < c ∨ b ≤ c) ∧ (∀ v, es[i]? = some v → v.f < b → c ≤ max v.f a) ∧ J (ppV (es.map sgV) n a c) W ∧ Below u.heap.size u W ∧ N ≤ W.heap.size
/-- Within one. -/
def AlJ (J : List (Int × Int) → World → Prop) (N : Nat) (u : World) (es : List Sg) (n a b : Int) (v : Sg) (sb : Nat) (r : Nat) (s9 : Value) (W : World) : Prop :=
  ∃ x : Int, s9 = .int .i64 x ∧ (v.l + 1 - x).toNat = r ∧ max v.f a ≤ x ∧ x ≤ v.l + 1 ∧ (x ≤ b ∨ x = a) ∧ J (ppV (es.map sgV) n a x) W ∧ Below u.heap.size u W ∧ Blk W sb 65 (sgC v) ∧ N ≤ W.heap.size ∧ sb < W.heap.size
theorem al_done {es : List Sg} {n a b c : Int} {i : Nat} (hax : a ≤ c) (hxb : c ≤ b ∨ c = a) (hpast : ∀ k v, es[k]? = some v → k < i → v.l < c ∨ b ≤ c) (hrest : ∀ j t, es[j]? = some t → i ≤ j → b ≤ t.f) : ppV (es.map sgV) n a b = ppV (es.map sgV) n a c := by
  rcases Int.lt_or_le b c with h | h
  · have : c = a := by omega
    rw [pp_nil _ (show b ≤ a by omega), pp_nil _ (show c ≤ a by omega)]
  · refine pp_skip hax h fun y hy1 hy2 => gl_out fun j s hs => ?_
    rw [List.getElem?_map] at hs
    obtain ⟨t, ht, rfl⟩ := Option.map_eq_some_iff.1 hs
    show y < t.f ∨ t.l < y
    rcases Nat.lt_or_ge j i with hj | hj
    · rcases hpast j t ht hj with h1 | h1 <;> omega
    · have := hrest j t ht hj
      omega
set_option maxRecDepth 20000 in
set_option maxHeartbeats 4000000 in
theorem all_gives {u w0 : World} {m : Nat} {fmt n : Int} {A : Option Addr} {k c : Nat} {es : List Sg} {fr tt : Int} {pb p1 p2 : Nat} (nn : Nat) (h : Mp u m fmt n A k c es)
    (hp : Blk u pb 24 [.pointer (some ⟨m, 0, none⟩)]) (hp1 : Blk u p1 3 [.int .i64 fr]) (hp2 : Blk u p2 3 [.int .i64 tt])
    (hb0 : Below u.heap.size u w0) (F : Nat → Prop) (hF : ∀ b, F b → b < w0.heap.size) :
    GivesB nn Try.prog 44 #[.pointer (some ⟨pb, 0, none⟩), .pointer (some ⟨p1, 0, none⟩), .pointer (some ⟨p2, 0, none⟩)] ppR (KpU u.heap.size F) (fun pre x => pre ++ [x] <+: ppV (es.map sgV) n (max fr 0) (min tt 1114112)) (fun xs => xs = ppV (es.map sgV) n (max fr 0) (min tt 1114112)) (fun _ => True) w0 := by
  intro l J Jx W hW hJ hJx hY h0
  have hbW : Below u.heap.size u W := hb0.trans (hW.mono hb0.size)
  have c0 : W.cell? ⟨pb, 0, none⟩ = some (.pointer (some ⟨m, 0, none⟩)) := (hp.below hbW hp.lt).cell 0
  have c1 : W.cell? ⟨p1, 0, none⟩ = some (.int .i64 fr) := (hp1.below hbW hp1.lt).cell 0
  have c2 : W.cell? ⟨p2, 0, none⟩ = some (.int .i64 tt) := (hp2.below hbW hp2.lt).cell 0
  have pl := hp.lt
  have hus := hbW.size
  have H := Lib.hid h
  have HP := Lib.hid hp
  have HBW := Lib.hid hbW
  have HJ := Lib.hid hJ
  have HY := Lib.hid hY
  have H0 := Lib.hid h0
  have HF := Lib.hid (fun b hb => Nat.lt_of_lt_of_le (hF b hb) hW.size)
  have p1l := hp1.lt
  have p2l := hp2.lt
  clear hb0 hF hW
  obtain ⟨a, ha⟩ : ∃ a, max fr 0 = a := ⟨_, rfl⟩
  obtain ⟨b, hb⟩ : ∃ b, min tt 1114112 = b := ⟨_, rfl⟩
  have ha0 : 0 ≤ a := by omega
  have hb1 : b ≤ 1114112 := by omega
  rw [ha, hb] at HY ⊢
  have HFI := Lib.hid (fun wi (hw : Below u.heap.size u wi) => find_any a (h.keep hw))
  clear h hp hp1 hp2 hJ hJx hY h0 hbW
  refine callsIn_of_wp Try.func44 rfl trivial ?_ rfl
  simp only [Try.ntmps44, List.size_toArray, List.length_cons, List.length_nil, Nat.reduceAdd, Nat.reduceSub, Array.replicate_succ, Array.replicate_zero, List.push_toArray, List.append_toArray, List.nil_append, List.cons_append]
  gi_wp2_with (first
    | (refine ⟨trivial, fun he => (by cases he), ?_⟩; (with_reducible refine (callsIn_wide.2 (HFI.out _ HBW.out)).mono ?_); rintro e w1 ⟨⟨i0, rfl, hf⟩, hbl1⟩; have HI0 := Lib.hid hf; have HB1 := Lib.hid (HBW.out.trans (hbl1.mono hus)); have HJ1 := Lib.hid (HJ.out _ _ _ H0.out hbl1); have hz1 := hbl1.size; clear hf hbl1)
    | fail)
  have hi0 := HI0.out.le
  have hk1 := H.out.k1
  clear c0 c1 c2 HBW H0
  gi_loopg [7] (es.length - i0) (fun r s7 wr => AlI J W.heap.size u es n a b i0 r s7 wr)
  case atStart => exact ⟨i0, a, rfl, hi0, rfl, Nat.le_refl _, Int.le_refl _, .inr rfl, fun k v hv hk => .inl (HI0.out.lo k v hv hk), fun v _ _ => by omega, by rw [pp_nil _ (Int.le_refl _)]; exact HJ1.out, HB1.out, hz1⟩
  case round =>
    obtain ⟨i, x0, rfl, hi, hr, hii, hax, hxb, hpast, hnext, hJr, hBr, hN⟩ := hrel
    have HM := Lib.hid (H.out.keep hBr)
    have hlen := HM.out.sg.len
    have q0 : wr.cell? ⟨pb, 0, none⟩ = some (.pointer (some ⟨m, 0, none⟩)) := (HP.out.below hBr pl).cell 0
    have q1 : wr.cell? ⟨m, 1, none⟩ = some (.int .i64 n) := HM.out.blk.cell 1
    have q2 : wr.cell? ⟨m, 2, none⟩ = some (.slice A k c) := HM.out.blk.cell 2
    have ml := HM.out.blk.lt
    have hpl := Nat.lt_of_lt_of_le pl hBr.size
    have HR := Lib.hid hr
    have HX := Lib.hid (And.intro hax (And.intro hxb (And.intro hpast hnext)))
    have HJR := Lib.hid hJr
    have HBR := Lib.hid hBr
    clear hr hxb hpast hnext hJr hBr
    by_cases hie : i < es.length
    · obtain ⟨⟨vf, vl, vg, vr, vA, vc, xs, vd⟩, hv⟩ := get_some' (l := es) (k := i) hie
      obtain ⟨bb, o, rfl, hbb, r0, r1, r2, r3, r4, r5⟩ := HM.out.sg.at_ hv
      dsimp only at r0 r1 r2 r3 r4 r5
      have hik : (i : Int) < k := by omega
      have HV := Lib.hid hv
      by_cases hfb : vf < b
      · gi_wp2_with fail
        obtain ⟨wb, hwb⟩ : ∃ wb, wr.alloc (.cells #[.int .i64 vf, .int .i64 vl, .int .i64 vg, .bool vr, .slice vA xs.length vc, .int .i64 vd] 65) = wb := ⟨_, rfl⟩
        have hbb2 : Below wr.heap.size wr wb := by rw [← hwb]; exact (bel_alloc bel_refl).below
        have hSB : Blk wb wr.heap.size 65 (sgC ⟨vf, vl, vg, vr, vA, vc, xs, vd⟩) := by rw [← hwb]; exact Blk.new wr _ _
        have hbl := hbb2.size
        have hok := rise_ok HM.out.rise hv
        have hal := HI0.out.hi i _ hv hii
        have hfl := hok.fl
        have hf0 := hok.f0
        have hl1 := hok.l1
        dsimp only [sgV] at hal hfl hf0 hl1
        have hst : AlJ J W.heap.size u es n a b ⟨vf, vl, vg, vr, vA, vc, xs, vd⟩ wr.heap.size (vl + 1 - max vf a).toNat (.int .i64 (max vf a)) wb := by
          obtain ⟨hax, hxb, hpast, hnext⟩ := HX.out
          have hx0 := hnext _ hv hfb
          dsimp only at hx0
          refine ⟨max vf a, rfl, rfl, by dsimp only; omega, by dsimp only; omega, by omega, ?_, HBR.out.trans (hbb2.mono HBR.out.size), hSB, by omega, hSB.lt⟩
          rw [pp_skip hax hx0 (fun y hy1 hy2 => gl_out fun j s hs => ?_)]
          · exact HJ.out _ _ _ HJR.out (hbb2.mono hN)
          · rw [List.getElem?_map] at hs
            obtain ⟨t, ht, rfl⟩ := Option.map_eq_some_iff.1 hs
            rcases Nat.lt_trichotomy j i with hj | hj | hj
            · right
              rcases hpast j t ht hj with h1 | h1
              · show t.l < y; omega
              · have h2 := rise_at HM.out.rise ht hv hj
                show t.l < y
                dsimp only at h2
                omega
            · subst hj
              have := ht.symm.trans hv
              injection this with this
              subst this
              left
              show y < vf
              omega
            · left
              have h2 := rise_at HM.out.rise hv ht hj
              show y < t.f
              dsimp only at h2
              omega
        have HOK := Lib.hid hok
        have hwN : W.heap.size ≤ wr.heap.size := hN
        obtain ⟨sb, hsb⟩ : ∃ sb, wr.heap.size = sb := ⟨_, rfl⟩
        rw [hsb] at hst hbl hwN
        have HST := Lib.hid hst
        rw [hwb, hsb]
        clear hst hwb hbb2 hSB r0 r1 r2 r3 r4 r5 q0 q1 q2 hok hv hpl ml HJR HBR HM hbb hsb hN
        gi_loopg [9] ((vl + 1 - max vf a).toNat) (fun r s9 wq => AlJ J W.heap.size u es n a b ⟨vf, vl, vg, vr, vA, vc, xs, vd⟩ sb r s9 wq)
        case atStart => exact HST.out
        case round =>
          obtain ⟨x, rfl, hr2, hx0, hx1, hxb, hJ2, hB2, hS2, hN2, hsl⟩ := hrel
          dsimp only at hr2 hx0 hx1
          have HM2 := Lib.hid (H.out.keep hB2)
          have q0 : wr.cell? ⟨pb, 0, none⟩ = some (.pointer (some ⟨m, 0, none⟩)) := (HP.out.below hB2 pl).cell 0
          have q1 : wr.cell? ⟨m, 1, none⟩ = some (.int .i64 n) := HM2.out.blk.cell 1
          have ml := HM2.out.blk.lt
          have hpl := Nat.lt_of_lt_of_le pl hB2.size
          have s0 : wr.cell? ⟨sb, 0, none⟩ = some (.int .i64 vf) := hS2.cell 0
          have s1 : wr.cell? ⟨sb, 1, none⟩ = some (.int .i64 vl) := hS2.cell 1
          have s2 : wr.cell? ⟨sb, 2, none⟩ = some (.int .i64 vg) := hS2.cell 2
          have s3 : wr.cell? ⟨sb, 3, none⟩ = some (.bool vr) := hS2.cell 3
          have s4 : wr.cell? ⟨sb, 4, none⟩ = some (.slice vA xs.length vc) := hS2.cell 4
          have s5 : wr.cell? ⟨sb, 5, none⟩ = some (.int .i64 vd) := hS2.cell 5
          have HJ2 := Lib.hid hJ2
          have HB2 := Lib.hid hB2
          have HS2 := Lib.hid hS2
          have HR2 := Lib.hid hr2
          by_cases hlt : x ≤ vl ∧ x < b
          · obtain ⟨hlv, hltb⟩ := hlt
            have hgl := gl_in (n := n) (i := i) (s := sgV ⟨vf, vl, vg, vr, vA, vc, xs, vd⟩) (code := x) HM2.out.rise (by rw [List.getElem?_map, HV.out]; rfl) (by show vf ≤ x; omega) hlv
            have hat := at_any (c := vc) (HM2.out.sg.lists _ (List.mem_of_getElem? HV.out)) HOK.out (code := x) (by omega) hlv
            dsimp only at hat
            have hsu := pp_succ (es.map sgV) (n := n) (show a ≤ x by omega)
            have hpr : prV (es.map sgV) n x = if glV (es.map sgV) n x = 0 then none else some (x, glV (es.map sgV) n x) := rfl
            generalize atV (sgV ⟨vf, vl, vg, vr, vA, vc, xs, vd⟩) x = g at hgl hat
            have HAT := Lib.hid hat
            clear hr2 hJ2 hB2 hS2 hat
            by_cases hg : g = 0 ∨ ¬ g < n
            · have hz : glV (es.map sgV) n x = 0 := by
                rw [hgl]
                rcases hg with h | h
                · rw [h]; simp
                · rw [if_neg h]
              rw [hpr, if_pos hz] at hsu
              simp only [Option.toList, List.append_nil] at hsu
              have HSU := Lib.hid hsu
              have hcs : (g != 0) = false ∨ ((g != 0) = true ∧ ¬ g < n) := by simp; omega
              clear hgl hpr hsu hz hg
              rcases hcs with g1 | ⟨g1, g2⟩
              all_goals
                gi_wp2_with (first
                  | (refine ⟨trivial, fun he => (by cases he), ?_⟩; (with_reducible refine (callsIn_wide.2 HAT.out).mono ?_); rintro e w2 ⟨rfl, hb2⟩; have HC := Lib.hid hb2; have q12 : w2.cell? ⟨m, 1, none⟩ = some (.int .i64 n) := (hb2.cell (p := ⟨m, 1, none⟩) ml).trans q1; have q02 : w2.cell? ⟨pb, 0, none⟩ = some (.pointer (some ⟨m, 0, none⟩)) := (hb2.cell (p := ⟨pb, 0, none⟩) hpl).trans q0; have hz2 := hb2.size; clear hb2)
                  | fail)
                with_reducible refine ⟨fun _ hno => (by cases hno), ?_⟩
                gi_wp2_with fail
                gi_roundg ((vl + 1 - (x + 1)).toNat)
                case rel => exact ⟨x + 1, by go_num, rfl, by dsimp only; omega, by dsimp only; omega, by omega, by rw [HSU.out]; exact HJ.out _ _ _ HJ2.out (HC.out.mono hN2), HB2.out.trans (HC.out.mono HB2.out.size), HS2.out.below HC.out hsl, by omega, by omega⟩
                case measure => have := HR2.out; omega
            · have hg0 : ¬ g = 0 := fun e => hg (.inl e)
              have hgn : g < n := by
                rcases Int.lt_or_le g n with h | h
                · exact h
                · exact absurd (Or.inr (by omega)) hg
              have hz : glV (es.map sgV) n x = g := by rw [hgl, if_pos hgn]
              rw [hpr, if_neg (by rw [hz]; exact hg0), hz] at hsu
              have hsu2 : ppV (es.map sgV) n a (x + 1) = ppV (es.map sgV) n a x ++ [(x, g)] := hsu
              have g1 : (g != 0) = true := by simp; exact hg0
              have HSU := Lib.hid hsu2
              have hpre : ppV (es.map sgV) n a x ++ [(x, g)] <+: ppV (es.map sgV) n a b := by rw [← hsu2]; exact pp_pre _ (by omega)
              have HPR := Lib.hid hpre
              clear hgl hpr hsu hsu2 hz hg hg0 hpre
              gi_upto_region 11 with (first
                | (refine ⟨trivial, fun he => (by cases he), ?_⟩; (with_reducible refine (callsIn_wide.2 HAT.out).mono ?_); rintro e w2 ⟨rfl, hb2⟩; have HC := Lib.hid hb2; have q12 : w2.cell? ⟨m, 1, none⟩ = some (.int .i64 n) := (hb2.cell (p := ⟨m, 1, none⟩) ml).trans q1; have q02 : w2.cell? ⟨pb, 0, none⟩ = some (.pointer (some ⟨m, 0, none⟩)) := (hb2.cell (p := ⟨pb, 0, none⟩) hpl).trans q0; have hz2 := hb2.size; clear hb2)
                | fail)
              obtain ⟨fn, tmps, assign, body, hy, hR⟩ := HY.out _ (x, g) w2 (by omega) (HJ.out _ _ _ HJ2.out (HC.out.mono hN2)) HPR.out
              rw [show ppR (x, g) = #[.agg #[.int .i64 x, .int .i64 g]] from rfl] at hy
              rw [← HSU.out] at hR
              have HRY := Lib.hid hR
              clear hR s0 s1 s2 s3 s4 s5 q0 q1
              gi_wp2
              refine ⟨fun he => (by cases he), HRY.out.mono ?_⟩
              have HB3 := Lib.hid (HB2.out.trans (HC.out.mono HB2.out.size))
              have HS3 := Lib.hid (HS2.out.below HC.out hsl)
              rintro e w4 (⟨rfl, hJ4, hk4⟩ | ⟨rfl, hJx4⟩)
              · have hfin : AlJ J W.heap.size u es n a b ⟨vf, vl, vg, vr, vA, vc, xs, vd⟩ sb (vl + 1 - (x + 1)).toNat (.int .i64 (x + 1)) w4 :=
                  ⟨x + 1, rfl, rfl, by dsimp only; omega, by dsimp only; omega, by omega, hJ4, HB3.out.trans hk4.below, hk4.cells _ _ _ (fun hf => by have := HF.out _ hf; omega) HS3.out, by have := (hk4.below).size; have := hk4.size; omega, by have := hk4.size; omega⟩
                have HFN := Lib.hid hfin
                clear hJ4 hk4 hfin hy
                gi_wp2
                gi_roundg ((vl + 1 - (x + 1)).toNat)
                case rel => exact HFN.out
                case measure => have := HR2.out; omega
              · have HJ4 := Lib.hid hJx4
                clear hJx4 hy
                gi_wp2
                refine bodyPost_ret (results_none rfl _ _ _) rfl ?_
                exact ⟨⟨_, rfl⟩, .inr ⟨_, trivial, HJ4.out⟩⟩
          · have hcs : ¬ x ≤ vl ∨ (x ≤ vl ∧ ¬ x < b) := by omega
            have hpast2 : ∀ (k' : Nat) (t : Sg), es[k']? = some t → k' < i + 1 → t.l < x ∨ b ≤ x := by
              intro k' t ht hk'
              rcases Int.lt_or_le x b with h1 | h1
              · left
                have hx : x = vl + 1 := by omega
                rcases Nat.lt_or_ge k' i with h2 | h2
                · have h3 := rise_at HM2.out.rise ht HV.out h2
                  dsimp only at h3
                  omega
                · obtain rfl : k' = i := by omega
                  have := ht.symm.trans HV.out
                  injection this with this
                  subst this
                  dsimp only
                  omega
              · exact .inr h1
            have hnext2 : ∀ t, es[i + 1]? = some t → t.f < b → x ≤ max t.f a := fun t ht _ => by
              have h3 := rise_at HM2.out.rise HV.out ht (Nat.lt_succ_self i)
              dsimp only at h3
              omega
            have HPA := Lib.hid hpast2
            have HNX := Lib.hid hnext2
            clear hpast2 hnext2 hlt hr2 hJ2 hB2 hS2
            rcases hcs with g1 | ⟨g1, g2⟩
            all_goals
              gi_wp2_with fail
              gi_roundg (es.length - (i + 1))
              case rel => exact ⟨i + 1, x, by go_num, by omega, rfl, by omega, by omega, hxb, HPA.out, HNX.out, HJ2.out, HB2.out, hN2⟩
              case measure => have := HR.out; omega
      · have hfin : J (ppV (es.map sgV) n a b) wr := by
          obtain ⟨hax, hxb, hpast, hnext⟩ := HX.out
          rw [al_done (es := es) (i := i) hax hxb hpast (fun j t ht hj => ?_)]
          · exact HJR.out
          · rcases Nat.lt_or_ge i j with h1 | h1
            · have h3 := rise_at HM.out.rise hv ht h1
              have h4 := (rise_ok HM.out.rise hv).fl
              dsimp only [sgV] at h3 h4
              omega
            · obtain rfl : j = i := by omega
              have := ht.symm.trans hv
              injection this with this
              subst this
              dsimp only
              omega
        have HFN := Lib.hid hfin
        clear hfin hv
        gi_wp2_with fail
        refine bodyPost_end (v := .tuple #[]) (by simp [results, Try.results44]) rfl ?_
        exact ⟨⟨_, rfl⟩, .inl HFN.out⟩
    · have hfin : J (ppV (es.map sgV) n a b) wr := by
        obtain ⟨hax, hxb, hpast, hnext⟩ := HX.out
        rw [al_done (es := es) (i := i) hax hxb hpast (fun j t ht hj => by have := (List.getElem?_eq_some_iff.1 ht).1; omega)]
        exact HJR.out
      have HFN := Lib.hid hfin
      have hik : ¬ (i : Int) < k := by omega
      clear hfin
      gi_wp2_with fail
      refine bodyPost_end (v := .tuple #[]) (by simp [results, Try.results44]) rfl ?_
      exact ⟨⟨_, rfl⟩, .inl HFN.out⟩
end Go.Proofs.Ytlbfefdmbdjjcaa
