/-
  Layer 08: a segment's list in format 4.
-/
import Derived.Test.YtlbfefdmbdjjcaaCmG
import Derived.Lib.SmallJoins
namespace Go.Proofs.Ytlbfefdmbdjjcaa
open Go.RowKit

theorem wS_bad {bs : List UInt8} {s : Nat × Bool} (h : s.2 = true) : ∀ n, (wS bs s n).2 = true
  | 0 => h
  | n + 1 => by
    unfold wS
    rw [advF_bad (.inl (wS_bad h n))]
theorem wS_far {bs : List UInt8} {p : Nat} : ∀ {n : Nat}, 0 < n → bs.length < p + 2 * n → (wS bs (p, false) n).2 = true := by
  intro n
  induction n with
  | zero => intro h; omega
  | succ n ih =>
    intro _ h
    unfold wS
    by_cases h' : n = 0 ∨ p + 2 * n ≤ bs.length
    · have : wS bs (p, false) n = (p + 2 * n, false) := by
        rcases h' with h' | h'
        · subst h'; rfl
        · exact wS_ok h'
      rw [this, advF_bad (.inr (by show bs.length < p + 2 * n + 2; omega))]
    · rw [advF_bad (.inl (ih (by omega) (by omega)))]
theorem OwI.lower {B B' : Nat} {w : World} {A : Option Addr} {L c : Nat} {xs : List Int} (h : OwI B w A L c xs) (hb : B' ≤ B) : OwI B' w A L c xs := ⟨h.len, Joins.ownsRow_le h.own hb, Nat.le_trans hb h.le⟩
theorem Rd.setB {w : World} {r : Nat} {bs : List UInt8} {pos : Nat} {bad : Bool} {A : Option Addr} {c : Nat} (h : Rd w r bs pos bad A c) {p : Addr} (hp : r ≠ p.block) (hA : rowOf A ≠ some p.block) (v : Value) : Rd (w.setCell p v) r bs pos bad A c := by
  refine ⟨h.blk.far hp v, ⟨h.sl.1, fun k hk => ?_⟩, h.apart, h.cap, h.pos_le, h.small⟩
  obtain ⟨b, o, hA', hlt, hc⟩ := h.sl.2 k hk
  subst hA'
  exact ⟨b, o, rfl, by simpa using hlt, (World.cell?_of_block (Below.heap_setCell _ _ _ _ (fun e => hA (by rw [← e]; rfl)))).trans hc⟩
theorem Rd.set6 {w : World} {r : Nat} {bs : List UInt8} {pos : Nat} {bad : Bool} {A : Option Addr} {c : Nat} (h : Rd w r bs pos bad A c) {p : Nat} (hp : r ≠ p) (hA : rowOf A ≠ some p) (v0 v1 v2 v3 v4 v5 : Value) : Rd ((((((w.drew.setCell ⟨p, 0, none⟩ v0).setCell ⟨p, 1, none⟩ v1).setCell ⟨p, 2, none⟩ v2).setCell ⟨p, 3, none⟩ v3).setCell ⟨p, 4, none⟩ v4).setCell ⟨p, 5, none⟩ v5) r bs pos bad A c :=
  ((((((h.keep (w' := w.drew) (bel_drew bel_refl).below).setB hp hA v0).setB hp hA v1).setB hp hA v2).setB hp hA v3).setB hp hA v4).setB hp hA v5
def lisS (bs : List UInt8) (q off m : Nat) : Option (List Int) :=
  if off % 2 ≠ 0 then none else if bs.length < q + 2 * m then none else some (wL bs (q, false) m)
def LiR (v : Option (List Int)) (f l g d : Int) (w : World) (e : Ending) (w' : World) : Prop :=
  Below w.heap.size w w' ∧ ∃ (A : Option Addr) (c : Nat) (xs : List Int) (ok : Bool), e = .returned (.tuple #[.agg #[.int .i64 f, .int .i64 l, .int .i64 g, .bool true, .slice A xs.length c, .int .i64 d], .bool ok]) ∧ OwI w.heap.size w' A xs.length c xs ∧ (match v with
    | none => ok = false
    | some ys => ok = true ∧ xs = ys ∧ A.isSome = true)
theorem li_no {v : Option (List Int)} {f l g d : Int} {w w' : World} {A : Option Addr} {c : Nat} {xs : List Int} {k : Nat} (h : v = none) (hk : xs.length = k) (hb : Below w.heap.size w w') (ho : OwI w.heap.size w' A k c xs) : LiR v f l g d w (.returned (.tuple #[.agg #[.int .i64 f, .int .i64 l, .int .i64 g, .bool true, .slice A k c, .int .i64 d], .bool false])) w' := by
  subst h hk
  exact ⟨hb, A, c, xs, false, rfl, ho, rfl⟩
theorem li_yes {v : Option (List Int)} {f l g d : Int} {w w' : World} {A : Option Addr} {c : Nat} {xs : List Int} {k : Nat} (h : v = some xs) (hk : xs.length = k) (hs : A.isSome = true) (hb : Below w.heap.size w w') (ho : OwI w.heap.size w' A k c xs) : LiR v f l g d w (.returned (.tuple #[.agg #[.int .i64 f, .int .i64 l, .int .i64 g, .bool true, .slice A k c, .int .i64 d], .bool true])) w' := by
  subst h hk
  exact ⟨hb, A, c, xs, true, rfl, ho, rfl, rfl, hs⟩
theorem li_end {W : World} {g : Nat} {a : Array Value} {b : Bool} {v0 v1 v2 v3 v4 v5 : Value} (h : Blk W g 65 [v0, v1, v2, v3, v4, v5]) (ha : a.getD 8 undef = .pointer (some ⟨g, 0, none⟩)) (hb : a.getD 9 undef = .bool b) :
    (results Try.f80 a).run Try.prog W = .ok (.tuple #[.agg #[v0, v1, v2, v3, v4, v5], .bool b]) W := by
  have k0 : W.cell? ⟨g, 0, none⟩ = some v0 := h.cell 0
  have k1 : W.cell? ⟨g, 1, none⟩ = some v1 := h.cell 1
  have k2 : W.cell? ⟨g, 2, none⟩ = some v2 := h.cell 2
  have k3 : W.cell? ⟨g, 3, none⟩ = some v3 := h.cell 3
  have k4 : W.cell? ⟨g, 4, none⟩ = some v4 := h.cell 4
  have k5 : W.cell? ⟨g, 5, none⟩ = some v5 := h.cell 5
  have ha2 := ha
  have hb2 := hb
  simp at ha2 hb2
  clear h ha hb
  simp [results, Try.results80, go_sem, *]
set_option maxRecDepth 20000 in
set_option maxHeartbeats 8000000 in
theorem listed_any {w : World} {bs : List UInt8} {A : Option Addr} {n c : Nat} (hn : bs.length = n) (hs : SlAt w A n (bs.map byteV)) (hc : n ≤ c) (hm : n ≤ 1000000) (hA : ∀ k, rowOf A = some k → k < w.heap.size) {f l g d : Int} {p off m q : Nat} (f0 : 0 ≤ f) (fl : l - f + 1 = m) (m0 : 0 < m) (l1 : l ≤ 65535) (hp : p ≤ 1000000) (ho : off ≤ 65535) (hq : p + off = q) :
    Calls Try.prog 80 #[.slice A n c, .agg #[.int .i64 f, .int .i64 l, .int .i64 g, .bool true, .slice none 0 0, .int .i64 d], .int .i64 p, .int .i64 off] w (LiR (lisS bs q off m) f l g d w) := by
  have ht : (off : Int).tmod 2 = off % 2 := Int.tmod_eq_emod_of_nonneg (by omega)
  have bm : m ≤ 65536 := by omega
  have hqi : (p : Int) + off = (q : Nat) := by omega
  by_cases h2 : off % 2 ≠ 0
  · have hv : lisS bs q off m = none := by unfold lisS; rw [if_pos h2]
    have HV := Lib.hid hv
    have h2' : ((off : Int) % 2 != 0) = true := by rw [bne_iff_ne]; omega
    obtain ⟨W, hW⟩ : ∃ W, (w.alloc (.cells #[.int .i64 f, .int .i64 l, .int .i64 g, .bool true, .slice none 0 0, .int .i64 d] 65)).alloc (.cells #[.int .i64 f, .int .i64 l, .int .i64 g, .bool true, .slice none 0 0, .int .i64 d] 65) = W := ⟨_, rfl⟩
    have HBZ : Hid (Blk W (w.heap.size + 1) 65 [.int .i64 f, .int .i64 l, .int .i64 g, .bool true, .slice none 0 0, .int .i64 d]) := Lib.hid (by rw [← hW]; exact Blk.newAt _ _ _ (by simp))
    have HBW : Hid (Below w.heap.size w W) := Lib.hid (by rw [← hW]; exact (bel_alloc (bel_alloc bel_refl)).below)
    clear hv h2
    go_enter Try.func80, Try.ntmps80
    go_wp2_with fail
    try rw [hW]
    refine bodyPost_ret (li_end HBZ.out (by rfl) (by rfl)) rfl ?_
    exact li_no (xs := []) HV.out rfl HBW.out (OwI.nilB HBW.out.size)
  · have h2' : ((off : Int) % 2 != 0) = false := by rw [bne_eq_false_iff_eq]; omega
    obtain ⟨sk, hsk⟩ : ∃ s, skF bs (0, false) q = s := ⟨_, rfl⟩
    obtain ⟨wl, hwl⟩ : ∃ l, wL bs sk m = l := ⟨_, rfl⟩
    obtain ⟨ws, hws⟩ : ∃ s, wS bs sk m = s := ⟨_, rfl⟩
    have HSK := Lib.hid hsk
    have HWL := Lib.hid hwl
    have HWS := Lib.hid hws
    have hwll : wl.length = m := by rw [← hwl, wL_len]
    have HWLL := Lib.hid hwll
    have HN : Hid (∀ w', Below w.heap.size w w' → Calls Try.prog 21 #[.slice A n c] w' fun e w2 => e = .returned (.pointer (some ⟨w'.heap.size, 0, none⟩)) ∧ Cu w' w2 bs (0, false) A c) := Lib.hid fun w' hb => cu_new hn (hs.keep hb) hc (by omega) (fun k hk => Nat.lt_of_lt_of_le (hA k hk) hb.size)
    rw [sk_of] at hsk
    by_cases hfar : bs.length < q + 2 * m
    · have hb : ws.2 = true := by
        by_cases h1 : bs.length < q
        · rw [if_pos (.inr h1)] at hsk
          rw [← hws, ← hsk]
          exact wS_bad rfl m
        · rw [if_neg (by simp; omega)] at hsk
          rw [← hws, ← hsk]
          exact wS_far m0 hfar
      have hv : lisS bs q off m = none := by unfold lisS; rw [if_neg h2, if_pos hfar]
      have HV := Lib.hid hv
      have HD : Hid (∀ (r : Nat) (wi : World), Rd wi r bs ws.1 ws.2 A c → Calls Try.prog 23 #[.pointer (some ⟨r, 0, none⟩)] wi fun e w' => e = .returned (.int .i64 30) ∧ wi = w') := Lib.hid fun r wi h => by have := rdone_W _ _ _ _ _ _ _ h; rw [hb] at this; exact this
      have HS := Lib.hid hs
      have HNB := Lib.hid hn
      have HAB := Lib.hid hA
      clear hv hsk hwl hws hwll hb hfar h2 hs hA hn
      obtain ⟨W, hW⟩ : ∃ W, (w.alloc (.cells #[.int .i64 f, .int .i64 l, .int .i64 g, .bool true, .slice none 0 0, .int .i64 d] 65)).alloc (.cells #[.int .i64 0, .int .i64 0, .int .i64 0, .bool false, .slice none 0 0, .int .i64 0] 65) = W := ⟨_, rfl⟩
      have HB0 : Hid (Blk W w.heap.size 65 [.int .i64 f, .int .i64 l, .int .i64 g, .bool true, .slice none 0 0, .int .i64 d]) := Lib.hid (by rw [← hW]; exact (Blk.new _ _ _).alloc _)
      have HBZ : Hid (Blk W (w.heap.size + 1) 65 [.int .i64 0, .int .i64 0, .int .i64 0, .bool false, .slice none 0 0, .int .i64 0]) := Lib.hid (by rw [← hW]; exact Blk.newAt _ _ _ (by simp))
      have HBW : Hid (Below w.heap.size w W) := Lib.hid (by rw [← hW]; exact (bel_alloc (bel_alloc bel_refl)).below)
      go_enter Try.func80, Try.ntmps80
      go_upto_region 3 with fail
      try rw [hW]
      have l0 := HB0.out.lt
      have lz := HBZ.out.lt
      clear hW
      have HN1 := Lib.hid (HN.out W HBW.out)
      go_upto_region 5 with (first
        | (go_at_call 21; (with_reducible refine HN1.out.mono ?_); rintro e w1 ⟨rfl, hu⟩; have HC0 := Lib.hid hu; clear hu)
        | (go_at_call 48; (with_reducible refine (cu_seek HC0.out q rfl HSK.out).mono ?_); rintro e w2 ⟨⟨v2, rfl⟩, hu⟩; have HC1 := Lib.hid hu; clear hu HC0)
        | fail)
      have HB2 := Lib.hid (HB0.out.below HC1.out.bel l0)
      have k0 : w2.cell? ⟨w.heap.size, 0, none⟩ = some (.int .i64 f) := HB2.out.cell 0
      have k1 : w2.cell? ⟨w.heap.size, 1, none⟩ = some (.int .i64 l) := HB2.out.cell 1
      have hz2 := HC1.out.bel.size
      have l2 := HB2.out.lt
      have flm : l - f + 1 = (m : Nat) := fl
      have HWD := Lib.hid (cu_words (x := (m : Int)) HC1.out m rfl (by omega) HWL.out HWS.out)
      clear fl
      obtain ⟨lf, hlf⟩ : ∃ x : Int, l - f = x := ⟨_, rfl⟩
      have hlf1 : lf + 1 = (m : Nat) := by omega
      clear flm
      go_upto_region 6 with (first
        | (go_at_call 78; (with_reducible refine HWD.out.mono ?_); rintro e w3 ⟨A3, c3, rfl, ho3, hu⟩
           have HC3 := Lib.hid hu
           have HO3 := Lib.hid ho3
           have HB3 := Lib.hid (HB0.out.below hu.bel l0)
           have HZ3 := Lib.hid (HBZ.out.below hu.bel lz)
           have k4 : w3.cell? ⟨w.heap.size, 4, none⟩ = some (.slice none 0 0) := HB3.out.cell 4
           have f4 := HB3.out.frozen 4
           have hz3 := hu.bel.size
           have l3 := HB3.out.lt
           clear hu ho3)
        | fail)
      obtain ⟨w4, hw4⟩ : ∃ w4, w3.setCell ⟨w.heap.size, 4, none⟩ (.slice A3 m c3) = w4 := ⟨_, rfl⟩
      have HB4 : Hid (Blk w4 w.heap.size 65 [.int .i64 f, .int .i64 l, .int .i64 g, .bool true, .slice A3 m c3, .int .i64 d]) := Lib.hid (by rw [← hw4]; exact HB3.out.set 4 _)
      have HZ4 : Hid (Blk w4 (w.heap.size + 1) 65 [.int .i64 0, .int .i64 0, .int .i64 0, .bool false, .slice none 0 0, .int .i64 0]) := Lib.hid (by rw [← hw4]; exact HZ3.out.far (by simp) _)
      have HO4 : Hid (OwI w2.heap.size w4 A3 m c3 wl) := Lib.hid (by rw [← hw4]; exact HO3.out.set (by simp only []; omega) _)
      have HE4 : Hid (Below w.heap.size w w4) := Lib.hid (by rw [← hw4]; exact (HBW.out.trans (HC3.out.bel.mono (by omega))).setCell (Nat.le_refl _) _)
      have HR4 : Hid (Rd w4 W.heap.size bs ws.1 ws.2 A c) := Lib.hid ⟨by rw [← hw4]; exact HC3.out.rd.blk.far (by simp only []; omega) _, by rw [HNB.out]; exact HS.out.keep HE4.out, HC3.out.rd.apart, HC3.out.rd.cap, HC3.out.rd.pos_le, HC3.out.rd.small⟩
      have hsz4 : w4.heap.size = w3.heap.size := by rw [← hw4]; simp
      try rw [hw4]
      have t0 : w4.cell? ⟨w.heap.size, 0, none⟩ = some (.int .i64 f) := HB4.out.cell 0
      have t1 : w4.cell? ⟨w.heap.size, 1, none⟩ = some (.int .i64 l) := HB4.out.cell 1
      have t2 : w4.cell? ⟨w.heap.size, 2, none⟩ = some (.int .i64 g) := HB4.out.cell 2
      have t3 : w4.cell? ⟨w.heap.size, 3, none⟩ = some (.bool true) := HB4.out.cell 3
      have t4 : w4.cell? ⟨w.heap.size, 4, none⟩ = some (.slice A3 m c3) := HB4.out.cell 4
      have t5 : w4.cell? ⟨w.heap.size, 5, none⟩ = some (.int .i64 d) := HB4.out.cell 5
      have u0 : w4.cell? ⟨w.heap.size + 1, 0, none⟩ = some (.int .i64 0) := HZ4.out.cell 0
      have u1 : w4.cell? ⟨w.heap.size + 1, 1, none⟩ = some (.int .i64 0) := HZ4.out.cell 1
      have u2 : w4.cell? ⟨w.heap.size + 1, 2, none⟩ = some (.int .i64 0) := HZ4.out.cell 2
      have u3 : w4.cell? ⟨w.heap.size + 1, 3, none⟩ = some (.bool false) := HZ4.out.cell 3
      have u4 : w4.cell? ⟨w.heap.size + 1, 4, none⟩ = some (.slice none 0 0) := HZ4.out.cell 4
      have u5 : w4.cell? ⟨w.heap.size + 1, 5, none⟩ = some (.int .i64 0) := HZ4.out.cell 5
      have q0 := HZ4.out.frozen 0
      have q1 := HZ4.out.frozen 1
      have q2 := HZ4.out.frozen 2
      have q3 := HZ4.out.frozen 3
      have q4 := HZ4.out.frozen 4
      have q5 := HZ4.out.frozen 5
      have m4 := HB4.out.lt
      have mz := HZ4.out.lt
      clear hw4 k0 k1 k4 f4
      have hwz : w.heap.size + 1 < w2.heap.size := by omega
      have HRD := Lib.hid (HR4.out.keep (w' := w4.drew) (bel_drew bel_refl).below)
      have HR6 := Lib.hid (HR4.out.set6 (p := w.heap.size + 1) (by omega) (fun e => by have := HAB.out _ e; omega) (.int .i64 f) (.int .i64 l) (.int .i64 g) (.bool true) (.slice A3 m c3) (.int .i64 d))
      have HBE := Lib.hid (((((((HZ4.out.set 0 (.int .i64 f)).set 1 (.int .i64 l)).set 2 (.int .i64 g)).set 3 (.bool true)).set 4 (.slice A3 m c3)).set 5 (.int .i64 d)).drew)
      have HEE := Lib.hid (((((((HE4.out.setCell (p := ⟨w.heap.size + 1, 0, none⟩) (by simp) (.int .i64 f)).setCell (p := ⟨w.heap.size + 1, 1, none⟩) (by simp) (.int .i64 l)).setCell (p := ⟨w.heap.size + 1, 2, none⟩) (by simp) (.int .i64 g)).setCell (p := ⟨w.heap.size + 1, 3, none⟩) (by simp) (.bool true)).setCell (p := ⟨w.heap.size + 1, 4, none⟩) (by simp) (.slice A3 m c3)).setCell (p := ⟨w.heap.size + 1, 5, none⟩) (by simp) (.int .i64 d)).trans ((bel_drew bel_refl).below.mono (by simp; omega)))
      have HOE := Lib.hid (((((((HO4.out.set (p := ⟨w.heap.size + 1, 0, none⟩) hwz (.int .i64 f)).set (p := ⟨w.heap.size + 1, 1, none⟩) hwz (.int .i64 l)).set (p := ⟨w.heap.size + 1, 2, none⟩) hwz (.int .i64 g)).set (p := ⟨w.heap.size + 1, 3, none⟩) hwz (.bool true)).set (p := ⟨w.heap.size + 1, 4, none⟩) hwz (.slice A3 m c3)).set (p := ⟨w.heap.size + 1, 5, none⟩) hwz (.int .i64 d)).lower (B' := w.heap.size) (by omega) |>.keep (bel_drew bel_refl).below)
      go_region_with (first
        | (go_at_call 23; (with_reducible refine (HD.out _ _ HRD.out).mono ?_); rintro e w1 ⟨rfl, rfl⟩)
        | (go_at_call 23; (with_reducible refine (HD.out _ _ HR6.out).mono ?_); rintro e w1 ⟨rfl, rfl⟩)
        | fail)
      all_goals
        go_wp2_with fail
        refine bodyPost_ret (li_end HBE.out (by rfl) (by rfl)) rfl ?_
        exact li_no HV.out HWLL.out HEE.out HOE.out
    · have e1 : sk = (q, false) := by rw [← hsk, if_neg (by simp; omega)]
      subst e1
      have e2 : ws = (q + 2 * m, false) := by rw [← hws, wS_ok (by omega)]
      have hb : ws.2 = false := by rw [e2]
      have hv : lisS bs q off m = some wl := by unfold lisS; rw [if_neg h2, if_neg hfar, hwl]
      clear e2
      have HV := Lib.hid hv
      have HD : Hid (∀ (r : Nat) (wi : World), Rd wi r bs ws.1 ws.2 A c → Calls Try.prog 23 #[.pointer (some ⟨r, 0, none⟩)] wi fun e w' => e = .returned (.int .i64 0) ∧ wi = w') := Lib.hid fun r wi h => by have := rdone_W _ _ _ _ _ _ _ h; rw [hb] at this; exact this
      have HS := Lib.hid hs
      have HNB := Lib.hid hn
      have HAB := Lib.hid hA
      clear hv hsk hwl hws hwll hb hfar h2 hs hA hn
      obtain ⟨W, hW⟩ : ∃ W, (w.alloc (.cells #[.int .i64 f, .int .i64 l, .int .i64 g, .bool true, .slice none 0 0, .int .i64 d] 65)).alloc (.cells #[.int .i64 0, .int .i64 0, .int .i64 0, .bool false, .slice none 0 0, .int .i64 0] 65) = W := ⟨_, rfl⟩
      have HB0 : Hid (Blk W w.heap.size 65 [.int .i64 f, .int .i64 l, .int .i64 g, .bool true, .slice none 0 0, .int .i64 d]) := Lib.hid (by rw [← hW]; exact (Blk.new _ _ _).alloc _)
      have HBZ : Hid (Blk W (w.heap.size + 1) 65 [.int .i64 0, .int .i64 0, .int .i64 0, .bool false, .slice none 0 0, .int .i64 0]) := Lib.hid (by rw [← hW]; exact Blk.newAt _ _ _ (by simp))
      have HBW : Hid (Below w.heap.size w W) := Lib.hid (by rw [← hW]; exact (bel_alloc (bel_alloc bel_refl)).below)
      go_enter Try.func80, Try.ntmps80
      go_upto_region 3 with fail
      try rw [hW]
      have l0 := HB0.out.lt
      have lz := HBZ.out.lt
      clear hW
      have HN1 := Lib.hid (HN.out W HBW.out)
      go_upto_region 5 with (first
        | (go_at_call 21; (with_reducible refine HN1.out.mono ?_); rintro e w1 ⟨rfl, hu⟩; have HC0 := Lib.hid hu; clear hu)
        | (go_at_call 48; (with_reducible refine (cu_seek HC0.out q rfl HSK.out).mono ?_); rintro e w2 ⟨⟨v2, rfl⟩, hu⟩; have HC1 := Lib.hid hu; clear hu HC0)
        | fail)
      have HB2 := Lib.hid (HB0.out.below HC1.out.bel l0)
      have k0 : w2.cell? ⟨w.heap.size, 0, none⟩ = some (.int .i64 f) := HB2.out.cell 0
      have k1 : w2.cell? ⟨w.heap.size, 1, none⟩ = some (.int .i64 l) := HB2.out.cell 1
      have hz2 := HC1.out.bel.size
      have l2 := HB2.out.lt
      have flm : l - f + 1 = (m : Nat) := fl
      have HWD := Lib.hid (cu_words (x := (m : Int)) HC1.out m rfl (by omega) HWL.out HWS.out)
      clear fl
      obtain ⟨lf, hlf⟩ : ∃ x : Int, l - f = x := ⟨_, rfl⟩
      have hlf1 : lf + 1 = (m : Nat) := by omega
      clear flm
      go_upto_region 6 with (first
        | (go_at_call 78; (with_reducible refine HWD.out.mono ?_); rintro e w3 ⟨A3, c3, rfl, ho3, hu⟩
           have HC3 := Lib.hid hu
           have HO3 := Lib.hid ho3
           have HB3 := Lib.hid (HB0.out.below hu.bel l0)
           have HZ3 := Lib.hid (HBZ.out.below hu.bel lz)
           have k4 : w3.cell? ⟨w.heap.size, 4, none⟩ = some (.slice none 0 0) := HB3.out.cell 4
           have f4 := HB3.out.frozen 4
           have hz3 := hu.bel.size
           have l3 := HB3.out.lt
           clear hu ho3)
        | fail)
      obtain ⟨w4, hw4⟩ : ∃ w4, w3.setCell ⟨w.heap.size, 4, none⟩ (.slice A3 m c3) = w4 := ⟨_, rfl⟩
      have HB4 : Hid (Blk w4 w.heap.size 65 [.int .i64 f, .int .i64 l, .int .i64 g, .bool true, .slice A3 m c3, .int .i64 d]) := Lib.hid (by rw [← hw4]; exact HB3.out.set 4 _)
      have HZ4 : Hid (Blk w4 (w.heap.size + 1) 65 [.int .i64 0, .int .i64 0, .int .i64 0, .bool false, .slice none 0 0, .int .i64 0]) := Lib.hid (by rw [← hw4]; exact HZ3.out.far (by simp) _)
      have HO4 : Hid (OwI w2.heap.size w4 A3 m c3 wl) := Lib.hid (by rw [← hw4]; exact HO3.out.set (by simp only []; omega) _)
      have HE4 : Hid (Below w.heap.size w w4) := Lib.hid (by rw [← hw4]; exact (HBW.out.trans (HC3.out.bel.mono (by omega))).setCell (Nat.le_refl _) _)
      have HR4 : Hid (Rd w4 W.heap.size bs ws.1 ws.2 A c) := Lib.hid ⟨by rw [← hw4]; exact HC3.out.rd.blk.far (by simp only []; omega) _, by rw [HNB.out]; exact HS.out.keep HE4.out, HC3.out.rd.apart, HC3.out.rd.cap, HC3.out.rd.pos_le, HC3.out.rd.small⟩
      have hsz4 : w4.heap.size = w3.heap.size := by rw [← hw4]; simp
      try rw [hw4]
      have t0 : w4.cell? ⟨w.heap.size, 0, none⟩ = some (.int .i64 f) := HB4.out.cell 0
      have t1 : w4.cell? ⟨w.heap.size, 1, none⟩ = some (.int .i64 l) := HB4.out.cell 1
      have t2 : w4.cell? ⟨w.heap.size, 2, none⟩ = some (.int .i64 g) := HB4.out.cell 2
      have t3 : w4.cell? ⟨w.heap.size, 3, none⟩ = some (.bool true) := HB4.out.cell 3
      have t4 : w4.cell? ⟨w.heap.size, 4, none⟩ = some (.slice A3 m c3) := HB4.out.cell 4
      have t5 : w4.cell? ⟨w.heap.size, 5, none⟩ = some (.int .i64 d) := HB4.out.cell 5
      have u0 : w4.cell? ⟨w.heap.size + 1, 0, none⟩ = some (.int .i64 0) := HZ4.out.cell 0
      have u1 : w4.cell? ⟨w.heap.size + 1, 1, none⟩ = some (.int .i64 0) := HZ4.out.cell 1
      have u2 : w4.cell? ⟨w.heap.size + 1, 2, none⟩ = some (.int .i64 0) := HZ4.out.cell 2
      have u3 : w4.cell? ⟨w.heap.size + 1, 3, none⟩ = some (.bool false) := HZ4.out.cell 3
      have u4 : w4.cell? ⟨w.heap.size + 1, 4, none⟩ = some (.slice none 0 0) := HZ4.out.cell 4
      have u5 : w4.cell? ⟨w.heap.size + 1, 5, none⟩ = some (.int .i64 0) := HZ4.out.cell 5
      have q0 := HZ4.out.frozen 0
      have q1 := HZ4.out.frozen 1
      have q2 := HZ4.out.frozen 2
      have q3 := HZ4.out.frozen 3
      have q4 := HZ4.out.frozen 4
      have q5 := HZ4.out.frozen 5
      have m4 := HB4.out.lt
      have mz := HZ4.out.lt
      clear hw4 k0 k1 k4 f4
      have hwz : w.heap.size + 1 < w2.heap.size := by omega
      have HRD := Lib.hid (HR4.out.keep (w' := w4.drew) (bel_drew bel_refl).below)
      have HR6 := Lib.hid (HR4.out.set6 (p := w.heap.size + 1) (by omega) (fun e => by have := HAB.out _ e; omega) (.int .i64 f) (.int .i64 l) (.int .i64 g) (.bool true) (.slice A3 m c3) (.int .i64 d))
      have HBE := Lib.hid (((((((HZ4.out.set 0 (.int .i64 f)).set 1 (.int .i64 l)).set 2 (.int .i64 g)).set 3 (.bool true)).set 4 (.slice A3 m c3)).set 5 (.int .i64 d)).drew)
      have HEE := Lib.hid (((((((HE4.out.setCell (p := ⟨w.heap.size + 1, 0, none⟩) (by simp) (.int .i64 f)).setCell (p := ⟨w.heap.size + 1, 1, none⟩) (by simp) (.int .i64 l)).setCell (p := ⟨w.heap.size + 1, 2, none⟩) (by simp) (.int .i64 g)).setCell (p := ⟨w.heap.size + 1, 3, none⟩) (by simp) (.bool true)).setCell (p := ⟨w.heap.size + 1, 4, none⟩) (by simp) (.slice A3 m c3)).setCell (p := ⟨w.heap.size + 1, 5, none⟩) (by simp) (.int .i64 d)).trans ((bel_drew bel_refl).below.mono (by simp; omega)))
      have HOE := Lib.hid (((((((HO4.out.set (p := ⟨w.heap.size + 1, 0, none⟩) hwz (.int .i64 f)).set (p := ⟨w.heap.size + 1, 1, none⟩) hwz (.int .i64 l)).set (p := ⟨w.heap.size + 1, 2, none⟩) hwz (.int .i64 g)).set (p := ⟨w.heap.size + 1, 3, none⟩) hwz (.bool true)).set (p := ⟨w.heap.size + 1, 4, none⟩) hwz (.slice A3 m c3)).set (p := ⟨w.heap.size + 1, 5, none⟩) hwz (.int .i64 d)).lower (B' := w.heap.size) (by omega) |>.keep (bel_drew bel_refl).below)
      go_region_with (first
        | (go_at_call 23; (with_reducible refine (HD.out _ _ HRD.out).mono ?_); rintro e w1 ⟨rfl, rfl⟩)
        | (go_at_call 23; (with_reducible refine (HD.out _ _ HR6.out).mono ?_); rintro e w1 ⟨rfl, rfl⟩)
        | fail)
      all_goals
        go_wp2_with fail
        refine bodyPost_ret (li_end HBE.out (by rfl) (by rfl)) rfl ?_
        exact li_yes HV.out HWLL.out (HO4.out.some m0) HEE.out HOE.out
end Go.Proofs.Ytlbfefdmbdjjcaa
