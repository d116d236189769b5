/-
  Layer 08: a code point's glyph.
-/
import Derived.Test.YtlbfefdmbdjjcaaCmB
namespace Go.Proofs.Ytlbfefdmbdjjcaa
open Go.RowKit

set_option maxRecDepth 20000 in
@[go_sem] theorem eqlI_nil (A : Option Addr) (l c : Nat) (w : World) : (binOp .eql 63 (.slice A l c) (.slice none 0 0)).run Try.prog w = .ok (.bool A.isNone) w := Lib.run_eql_slice_nil w _ _ A l c 0 0 Try.underlying63
def IntR (x : Int) (w : World) (e : Ending) (w' : World) : Prop := e = .returned (.int .i64 x) ∧ Below w.heap.size w w'
theorem int_is {x y : Int} {w w' : World} (h : x = y) (hb : Below w.heap.size w w') : IntR x w (.returned (.int .i64 y)) w' := by subst h; exact ⟨rfl, hb⟩
set_option maxRecDepth 20000 in
set_option maxHeartbeats 4000000 in
theorem at_any {w : World} {f l g : Int} {rn : Bool} {A : Option Addr} {c : Nat} {xs : List Int} {d : Int} (hs : SlAt w A xs.length (xs.map (Value.int .i64))) (ho : SvOk (sgV ⟨f, l, g, rn, A, c, xs, d⟩)) {code : Int} (h1 : f ≤ code) (h2 : code ≤ l) :
    Calls Try.prog 32 #[.agg #[.int .i64 f, .int .i64 l, .int .i64 g, .bool rn, .slice A xs.length c, .int .i64 d], .int .i64 code] w (IntR (atV (sgV ⟨f, l, g, rn, A, c, xs, d⟩) code) w) := by
  obtain ⟨f0, fl, l1, g0, g1, d0, d1, hls⟩ := ho
  dsimp only [sgV] at f0 fl l1 g0 g1 d0 d1 hls
  cases A with
  | none =>
    clear hs hls
    cases rn with
    | true =>
      have hv : atV (sgV ⟨f, l, g, true, none, c, xs, d⟩) code = (g + code - f) % 65536 := rfl
      have ht : (g + code - f).tmod 65536 = (g + code - f) % 65536 := Int.tmod_eq_emod_of_nonneg (by omega)
      have HV := Lib.hid hv
      clear hv
      go_enter Try.func32, Try.ntmps32
      go_wp2_with fail
      go_ret
      exact int_is HV.out (bel_alloc bel_refl).below
    | false =>
      have hv : atV (sgV ⟨f, l, g, false, none, c, xs, d⟩) code = g + code - f := rfl
      have HV := Lib.hid hv
      clear hv
      go_enter Try.func32, Try.ntmps32
      go_wp2_with fail
      go_ret
      exact int_is HV.out (bel_alloc bel_refl).below
  | some ad =>
    obtain ⟨k1, k2⟩ := hls xs rfl
    obtain ⟨i, hi⟩ : ∃ i : Nat, code - f = i := ⟨(code - f).toNat, by omega⟩
    obtain ⟨x, hx⟩ := get_some' (l := xs) (k := i) (by omega)
    obtain ⟨b, o, hA, hb, hc⟩ := slat_get hs hx
    injection hA with hA
    subst hA
    obtain ⟨x0, x1⟩ := k2 x (List.mem_of_getElem? hx)
    have hc' : (w.alloc (.cells #[.int .i64 f, .int .i64 l, .int .i64 g, .bool rn, .slice (some ⟨b, o, none⟩) xs.length c, .int .i64 d] 65)).cell? ⟨b, o + i, none⟩ = some (.int .i64 x) := (World.cell?_alloc_lt w _ ⟨b, _, none⟩ hb).trans hc
    have hv : atV (sgV ⟨f, l, g, rn, some ⟨b, o, none⟩, c, xs, d⟩) code = if x = 0 then 0 else (x + d) % 65536 := by
      show (let v := xs.getD (code - f).toNat 0; if v = 0 then 0 else (v + d) % 65536) = _
      rw [hi, Int.toNat_natCast, List.getD_eq_getElem?_getD, hx]
      rfl
    have hit : (code - f).toNat = i := by omega
    have hil : (i : Int) < xs.length := by omega
    have ht : (x + d).tmod 65536 = (x + d) % 65536 := Int.tmod_eq_emod_of_nonneg (by omega)
    have HV := Lib.hid hv
    clear hv k1 k2 hs hls hx
    by_cases hx0 : x = 0
    · have HX := Lib.hid hx0
      go_enter Try.func32, Try.ntmps32
      go_wp2_with fail
      go_ret
      exact int_is (by rw [HV.out, if_pos HX.out]) (bel_alloc bel_refl).below
    · have HX := Lib.hid hx0
      have hxb : (x != 0) = true := by rw [bne_iff_ne]; exact hx0
      go_enter Try.func32, Try.ntmps32
      go_wp2_with fail
      go_ret
      exact int_is (by rw [HV.out, if_neg HX.out]) (bel_alloc bel_refl).below
/-- A map in memory. -/
structure Mp (w : World) (m : Nat) (fmt n : Int) (A : Option Addr) (k c : Nat) (es : List Sg) : Prop where
  blk : Blk w m 58 [.int .i64 fmt, .int .i64 n, .slice A k c]
  sg : SgL w A k es
  rise : SvRise (es.map sgV)
  n0 : 1 ≤ n
  n1 : n ≤ 65535
  k1 : k ≤ 1114112
theorem Mp.keep {w w' : World} {m : Nat} {fmt n : Int} {A : Option Addr} {k c : Nat} {es : List Sg} (h : Mp w m fmt n A k c es) (hb : Below w.heap.size w w') : Mp w' m fmt n A k c es := ⟨h.blk.below hb h.blk.lt, h.sg.keep hb, h.rise, h.n0, h.n1, h.k1⟩
def FiR (es : List Sg) (code : Int) (w : World) (e : Ending) (w' : World) : Prop := (∃ i : Nat, e = .returned (.int .i64 i) ∧ FindI es code i) ∧ Below w.heap.size w w'
theorem find_any {w : World} {m : Nat} {fmt n : Int} {A : Option Addr} {k c : Nat} {es : List Sg} (code : Int) (h : Mp w m fmt n A k c es) :
    Calls Try.prog 31 #[.pointer (some ⟨m, 0, none⟩), .int .i64 code] w (FiR es code w) := by
  have HB := Lib.hid (bsearch_any (c := c) code h.sg h.rise h.k1)
  have c2 : w.cell? ⟨m, 2, none⟩ = some (.slice A k c) := h.blk.cell 2
  have hm := h.blk.lt
  clear h
  go_enter Try.func31, Try.ntmps31
  go_wp2_with (first | (go_at_call 55; (with_reducible refine HB.out.mono ?_); rintro e w1 ⟨⟨i, b, rfl, hf⟩, hb1⟩; have HF := Lib.hid hf; have HB1 := Lib.hid hb1; clear hf hb1) | fail)
  go_ret
  exact ⟨⟨_, rfl, HF.out⟩, HB1.out⟩
/-- A code point's glyph. -/
def glV (l : List Sv) (n code : Int) : Int := match l.find? (fun s => decide (s.f ≤ code) && decide (code ≤ s.l)) with
  | none => 0
  | some s => if atV s code < n then atV s code else 0
def glS (l : List Sv) (n code : Int) : Int := if code < 0 ∨ 1114111 < code then 0 else glV l n code
theorem gl_none {es : List Sg} {n code : Int} {i : Nat} (hr : SvRise (es.map sgV)) (hf : FindI es code i) (h : ∀ v, es[i]? = some v → code < v.f) : glV (es.map sgV) n code = 0 := by
  unfold glV
  rw [List.find?_eq_none.2 fun s hs => ?_]
  obtain ⟨v, hv, rfl⟩ := List.mem_map.1 hs
  obtain ⟨k, hk⟩ := List.getElem?_of_mem hv
  have h1 := hf.lo k v hk
  have h2 : i < k → code < v.f := fun hik => by
    obtain ⟨u, hu⟩ := get_some' (l := es) (k := i) (by have := (List.getElem?_eq_some_iff.1 hk).1; omega)
    have h3 := rise_at hr hu hk hik
    have h4 := hf.hi i u hu (Nat.le_refl _)
    omega
  have h3 : k = i → code < v.f := fun e => h v (by rw [← e]; exact hk)
  simp only [Bool.and_eq_true, decide_eq_true_eq]
  rintro ⟨ha, hb⟩
  dsimp only [sgV] at ha hb
  rcases Nat.lt_trichotomy k i with hki | hki | hki
  · have := h1 hki; omega
  · have := h3 hki; omega
  · have := h2 hki; omega
theorem gl_some {es : List Sg} {n code : Int} {i : Nat} {v : Sg} (hf : FindI es code i) (hv : es[i]? = some v) (h : v.f ≤ code) : glV (es.map sgV) n code = if atV (sgV v) code < n then atV (sgV v) code else 0 := by
  unfold glV
  have hd : (es.map sgV).find? (fun s => decide (s.f ≤ code) && decide (code ≤ s.l)) = some (sgV v) := by
    rw [List.find?_eq_some_iff_getElem]
    obtain ⟨h1, h2⟩ := List.getElem?_eq_some_iff.1 hv
    refine ⟨by simp only [Bool.and_eq_true, decide_eq_true_eq]; exact ⟨h, hf.hi i v hv (Nat.le_refl _)⟩, i, by simpa using h1, by simp [h2], fun j hj => ?_⟩
    have hj' : j < es.length := by omega
    have h3 := hf.lo j es[j] (List.getElem?_eq_getElem hj') hj
    simp only [List.getElem_map, sgV, Bool.not_eq_true', Bool.and_eq_false_iff, decide_eq_false_iff_not]
    right
    omega
  rw [hd]
set_option maxRecDepth 20000 in
set_option maxHeartbeats 4000000 in
theorem glyph_any {w : World} {m : Nat} {fmt n : Int} {A : Option Addr} {k c : Nat} {es : List Sg} (code : Int) (h : Mp w m fmt n A k c es) :
    Calls Try.prog 12 #[.pointer (some ⟨m, 0, none⟩), .int .i64 code] w (IntR (glS (es.map sgV) n code) w) := by
  by_cases hout : code < 0 ∨ 1114111 < code
  · have hv : glS (es.map sgV) n code = 0 := by unfold glS; rw [if_pos hout]
    have HV := Lib.hid hv
    clear hv h
    have hout2 : code < 0 ∨ (¬ code < 0 ∧ ¬ code ≤ 1114111) := by omega
    clear hout
    rcases hout2 with h1 | ⟨h1, h2⟩
    all_goals
      go_enter Try.func12, Try.ntmps12
      go_wp2_with fail
      go_ret
      exact int_is HV.out (Below.refl _ _)
  · have hv : glS (es.map sgV) n code = glV (es.map sgV) n code := by unfold glS; rw [if_neg hout]
    have h0 : ¬ code < 0 := by omega
    have h1 : code ≤ 1114111 := by omega
    have h1' : decide ((1114111 : Int) < code) = false := by simp; omega
    have HF := Lib.hid (find_any code h)
    have hl := h.sg.len
    have hm := h.blk.lt
    have H := Lib.hid h
    have HV := Lib.hid hv
    clear h hv hout
    go_enter Try.func12, Try.ntmps12
    go_upto_region 4 with (first | (go_at_call 31; (with_reducible refine HF.out.mono ?_); rintro e w1 ⟨⟨i, rfl, hf⟩, hb1⟩; have HFI := Lib.hid hf; have HB1 := Lib.hid hb1; clear hf hb1) | fail)
    have H1 := Lib.hid (H.out.keep HB1.out)
    have c1 : w1.cell? ⟨m, 1, none⟩ = some (.int .i64 n) := H1.out.blk.cell 1
    have c2 : w1.cell? ⟨m, 2, none⟩ = some (.slice A k c) := H1.out.blk.cell 2
    have hm1 := H1.out.blk.lt
    have hs1 := HB1.out.size
    have hile := HFI.out.le
    rw [hl] at hile
    by_cases hie : i < k
    · obtain ⟨⟨vf, vl, vg, vr, vA, vc, xs, vd⟩, hv⟩ := get_some' (l := es) (k := i) (by omega)
      obtain ⟨b, o, rfl, hb, q0, q1, q2, q3, q4, q5⟩ := H1.out.sg.at_ hv
      dsimp only at q0 q1 q2 q3 q4 q5
      have hie' : ((i : Int) == k) = false := by rw [beq_eq_false_iff_ne]; omega
      have hik : (i : Int) < k := by omega
      by_cases hfc : code < vf
      · have hno := gl_none (n := n) H.out.rise HFI.out (fun v hv2 => by have := hv.symm.trans hv2; injection this with this; subst this; exact hfc)
        have HNO := Lib.hid hno
        clear hno hv
        go_wp2_with fail
        go_ret
        exact int_is (by rw [HV.out, HNO.out]) HB1.out
      · have hfc2 : vf ≤ code := by omega
        have hcl := HFI.out.hi i _ hv (Nat.le_refl _)
        dsimp only at hcl
        have hyes := gl_some (n := n) HFI.out hv hfc2
        have hok := rise_ok H.out.rise hv
        have hat := fun w' (hb : Below w1.heap.size w1 w') => at_any (c := vc) ((H1.out.sg.lists _ (List.mem_of_getElem? hv)).keep hb) hok hfc2 hcl
        dsimp only at hat
        generalize atV (sgV ⟨vf, vl, vg, vr, vA, vc, xs, vd⟩) code = x at hat hyes
        have HYES := Lib.hid hyes
        have HAT := Lib.hid (hat w1 (Below.refl _ _))
        clear hyes hat hok hv
        by_cases hxn : x < n
        · have HXN := Lib.hid hxn
          go_wp2_with (first | (go_at_call 32; (with_reducible refine HAT.out.mono ?_); rintro e w2 ⟨rfl, hb2⟩; have HB2 := Lib.hid (HB1.out.trans (hb2.mono hs1)); have c12 : w2.cell? ⟨m, 1, none⟩ = some (.int .i64 n) := (hb2.cell (p := ⟨m, 1, none⟩) hm1).trans c1; have hm2 := hb2.size; clear hb2) | fail)
          go_ret
          exact int_is (by rw [HV.out, HYES.out, if_pos HXN.out]) HB2.out
        · have HXN := Lib.hid hxn
          go_wp2_with (first | (go_at_call 32; (with_reducible refine HAT.out.mono ?_); rintro e w2 ⟨rfl, hb2⟩; have HB2 := Lib.hid (HB1.out.trans (hb2.mono hs1)); have c12 : w2.cell? ⟨m, 1, none⟩ = some (.int .i64 n) := (hb2.cell (p := ⟨m, 1, none⟩) hm1).trans c1; have hm2 := hb2.size; clear hb2) | fail)
          go_ret
          exact int_is (by rw [HV.out, HYES.out, if_neg (by have := HXN.out; omega)]) HB2.out
    · have hno := gl_none (n := n) H.out.rise HFI.out (fun v hv2 => by have := (List.getElem?_eq_some_iff.1 hv2).1; omega)
      have HNO := Lib.hid hno
      obtain rfl : i = k := by omega
      clear hno
      go_wp2_with fail
      go_ret
      exact int_is (by rw [HV.out, HNO.out]) HB1.out
theorem format_any {w : World} {m : Nat} {fmt n : Int} {A : Option Addr} {k c : Nat} {es : List Sg} (h : Mp w m fmt n A k c es) :
    Calls Try.prog 19 #[.pointer (some ⟨m, 0, none⟩)] w fun e w' => e = .returned (.int .i64 fmt) ∧ w = w' := by
  have c0 : w.cell? ⟨m, 0, none⟩ = some (.int .i64 fmt) := h.blk.cell 0
  have hm := h.blk.lt
  clear h
  go_enter Try.func19, Try.ntmps19
  go_wp2_with fail
  go_ret
  exact ⟨rfl, rfl⟩
theorem glyph_nil (code : Int) (w : World) : Calls Try.prog 12 #[.pointer none, .int .i64 code] w fun e w' => e = .returned (.int .i64 0) ∧ w = w' := by
  go_enter Try.func12, Try.ntmps12
  go_wp2_with fail
  go_ret
  exact ⟨rfl, rfl⟩
theorem format_nil (w : World) : Calls Try.prog 19 #[.pointer none] w fun e w' => e = .returned (.int .i64 0) ∧ w = w' := by
  go_enter Try.func19, Try.ntmps19
  go_wp2_with fail
  go_ret
  exact ⟨rfl, rfl⟩
def allV (b : Nat) : Value := .func (.func 44) #[] #[.pointer (some ⟨b, 0, none⟩), .pointer (some ⟨b + 1, 0, none⟩), .pointer (some ⟨b + 2, 0, none⟩)]
theorem all_any (p : Value) (hp : (∃ m, p = .pointer (some ⟨m, 0, none⟩)) ∨ p = .pointer none) (fr tt : Int) (w : World) : Calls Try.prog 20 #[p, .int .i64 fr, .int .i64 tt] w fun e w' => e = .returned (allV w.heap.size) ∧ ((w.alloc (.cells #[p] 24)).alloc (.cells #[.int .i64 fr] 3)).alloc (.cells #[.int .i64 tt] 3) = w' := by
  rcases hp with ⟨m, rfl⟩ | rfl
  all_goals
    go_enter Try.func20, Try.ntmps20
    go_wp2_with fail
    go_ret
    exact ⟨rfl, rfl⟩
end Go.Proofs.Ytlbfefdmbdjjcaa
