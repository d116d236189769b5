/-
  Layer 15: Parse.
-/
import Derived.Test.YtoofjkhigonppaaDcH
namespace Go.Proofs.Ytoofjkhigonppaa
open Go.RowKit

/-- What bytes are as a DICT from place p on, so many operands and entries behind us. -/
def parseA (bs : List UInt8) : Nat → Nat → List Int → List (Int × List Int) → Option (List (Int × List Int))
  | 0, _, args, l => if args = [] then some l else none
  | n + 1, p, args, l => match bs[p]? with
    | none => if args = [] then some l else none
    | some b =>
      if 21 < b.toNat then match opS bs (p + 1) b.toNat with
        | none => none
        | some (x, q) => if args.length = 48 then none else parseA bs n q (args ++ [x]) l
      else if b.toNat = 12 then match bs[p + 1]? with
        | none => none
        | some d => parseA bs n (p + 2) [] (l ++ [(3072 + (d.toNat : Int), args)])
      else parseA bs n (p + 1) [] (l ++ [((b.toNat : Int), args)])
def parseS (bs : List UInt8) : Option (List (Int × List Int)) := parseA bs bs.length 0 [] []
theorem parse_end {bs : List UInt8} {n p : Nat} {args : List Int} {l : List (Int × List Int)} (hp : bs.length ≤ p) : parseA bs n p args l = if args = [] then some l else none := by
  cases n with
  | zero => rfl
  | succ n => unfold parseA; rw [List.getElem?_eq_none hp]
theorem parse_arg {bs : List UInt8} {n p : Nat} {args : List Int} {l : List (Int × List Int)} {b : UInt8} (hb : bs[p]? = some b) (h : 21 < b.toNat) : parseA bs (n + 1) p args l = match opS bs (p + 1) b.toNat with
    | none => none
    | some (x, q) => if args.length = 48 then none else parseA bs n q (args ++ [x]) l := by
  conv => lhs; unfold parseA
  rw [hb]
  dsimp only
  rw [if_pos h]
theorem parse_esc {bs : List UInt8} {n p : Nat} {args : List Int} {l : List (Int × List Int)} {b : UInt8} (hb : bs[p]? = some b) (h : b.toNat = 12) : parseA bs (n + 1) p args l = match bs[p + 1]? with
        | none => none
        | some d => parseA bs n (p + 2) [] (l ++ [(3072 + (d.toNat : Int), args)]) := by
  conv => lhs; unfold parseA
  rw [hb]
  dsimp only
  rw [if_neg (by omega), if_pos h]
theorem parse_op {bs : List UInt8} {n p : Nat} {args : List Int} {l : List (Int × List Int)} {b : UInt8} (hb : bs[p]? = some b) (h : ¬ 21 < b.toNat) (h2 : b.toNat ≠ 12) : parseA bs (n + 1) p args l = parseA bs n (p + 1) [] (l ++ [((b.toNat : Int), args)]) := by
  conv => lhs; unfold parseA
  rw [hb]
  dsimp only
  rw [if_neg h, if_neg h2]
def ParseR (bs : List UInt8) (w : World) (e : Ending) (w' : World) : Prop :=
  (match parseS bs with
    | none => e = .returned (.tuple #[.slice none 0 0, .int .i64 150])
    | some ls => ∃ A k c es, e = .returned (.tuple #[.slice A k c, .int .i64 0]) ∧ es.map enV = ls ∧ EnL w' A k es) ∧ Below w.heap.size w w'
theorem parse_no {bs : List UInt8} {w w' : World} (h : parseS bs = none) (hb : Below w.heap.size w w') : ParseR bs w (.returned (.tuple #[.slice none 0 0, .int .i64 150])) w' := by
  unfold ParseR; rw [h]; exact ⟨rfl, hb⟩
theorem parse_yes {bs : List UInt8} {w w' : World} {A : Option Addr} {k c : Nat} {es : List En} (h : parseS bs = some (es.map enV)) (he : EnL w' A k es) (hb : Below w.heap.size w w') : ParseR bs w (.returned (.tuple #[.slice A k c, .int .i64 0])) w' := by
  unfold ParseR; rw [h]; exact ⟨⟨_, _, _, _, rfl, rfl, he⟩, hb⟩
/-- At the loop's head: place p; nothing went wrong, or all is lost. -/
structure At (w wr : World) (r : Nat) (bs : List UInt8) (s : Nat × Bool) (A : Option Addr) (c : Nat) (Al : Option Addr) (kl cl : Nat) (l : List En) (Aa : Option Addr) (ka ca : Nat) (args : List Int) : Prop where
  rd : Rd wr r bs s.1 s.2 A c
  pi : PI (w.heap.size + 1) wr Al kl cl l Aa ka ca args
  tn : Tn (fun i => w.heap.size ≤ i) w wr
  ka : ka ≤ 48
  kl : kl ≤ s.1
  good : s.2 = false → ∃ n, bs.length - s.1 ≤ n ∧ parseS bs = parseA bs n s.1 args (l.map enV)
  lost : s.2 = true → parseS bs = none
section
variable {w wr wr' : World} {r : Nat} {bs : List UInt8} {s : Nat × Bool} {A : Option Addr} {c : Nat} {Al : Option Addr} {kl cl : Nat} {l : List En} {Aa : Option Addr} {ka ca : Nat} {args : List Int}
theorem At.keep (h : At w wr r bs s A c Al kl cl l Aa ka ca args) (hb : Below wr.heap.size wr wr') : At w wr' r bs s A c Al kl cl l Aa ka ca args :=
  ⟨h.rd.keep hb, h.pi.keep hb, h.tn.call hb, h.ka, h.kl, h.good, h.lost⟩
theorem At.bel (h : At w wr r bs s A c Al kl cl l Aa ka ca args) : Below w.heap.size w wr := h.tn.below (fun i hi hn => by omega) (Nat.le_refl _)
theorem At.size (h : At w wr r bs s A c Al kl cl l Aa ka ca args) : w.heap.size + 1 ≤ wr.heap.size := h.pi.oi.le
/-- Behind the reader's turn. -/
theorem At.moved {s' : Nat × Bool} (h : At w wr w.heap.size bs s A c Al kl cl l Aa ka ca args) (hr : Rd wr' w.heap.size bs s'.1 s'.2 A c) (ht : Tn (fun i => i = w.heap.size) wr wr') : PI (w.heap.size + 1) wr' Al kl cl l Aa ka ca args ∧ Tn (fun i => w.heap.size ≤ i) w wr' :=
  ⟨h.pi.turn ht (by omega), h.tn.trans (ht.mono fun i hi => .inl (by omega))⟩
theorem Rd.grown {row : Option Nat} (h : Rd wr r bs s.1 s.2 A c) (hg : wr.grownBy wr' row) (hA : ∀ k, rowOf A = some k → k < w.heap.size) (hr : r = w.heap.size) (hrow : ∀ k, row = some k → w.heap.size + 1 ≤ k) : Rd wr' r bs s.1 s.2 A c := by
  have hb : ∀ k, k < w.heap.size + 1 → k < wr.heap.size → wr'.heap[k]? = wr.heap[k]? := fun k h1 h2 => hg.block k h2 (fun e => by have := hrow k e.symm; omega)
  have hrl := h.blk.lt
  refine ⟨(hb r (by omega) hrl).trans h.blk, ⟨h.sl.1, fun k hk => ?_⟩, h.apart, h.cap, h.pos_le, h.small⟩
  obtain ⟨b, o, rfl, hlt, hc⟩ := h.sl.2 k hk
  exact ⟨b, o, rfl, Nat.lt_of_lt_of_le hlt hg.size, (World.cell?_of_block (hb b (by have := hA b rfl; omega) hlt)).trans hc⟩
end
set_option maxRecDepth 20000 in
set_option maxHeartbeats 8000000 in
theorem parse_any {w : World} {bs : List UInt8} {A : Option Addr} {c : Nat} (hs : SlAt w A bs.length (bs.map byteV)) (hc : bs.length ≤ c) (hn : bs.length ≤ 1000000) (hA : ∀ k, rowOf A = some k → k < w.heap.size) (hdiv : DivP bs) :
    Calls Try.prog 9 #[.slice A bs.length c] w (ParseR bs w) := by
  have HS := Lib.hid hs
  have HA := Lib.hid hA
  have HDV := Lib.hid hdiv
  clear hs hA hdiv
  go_enter Try.func9, Try.ntmps9
  go_wp2_with (first | (go_at_call 21; (with_reducible refine (new_W _ _ _ _ HS.out hc (by omega) HA.out).mono ?_); rintro e w1 ⟨rfl, hr1, hb1⟩; have HR1 := Lib.hid hr1; have HB1 := Lib.hid hb1; clear hr1 hb1) | fail)
  have hst : At w w1 w.heap.size bs (0, false) A c none 0 0 [] none 0 0 [] :=
    ⟨HR1.out, PI.nil HR1.out.blk.lt, Tn.of_below HB1.out, by omega, Nat.le_refl _, fun _ => ⟨bs.length, by simp, rfl⟩, fun h => by cases h⟩
  have HST := Lib.hid hst
  clear hst HR1 HB1
  go_loopg [5, 6, 7, 8, 9] (bs.length + 1) (fun k vl va _ _ _ wr => ∃ s Al kl cl l Aa ka ca args, k = (if s.2 = true then 0 else bs.length + 1 - s.1) ∧ vl = .slice Al kl cl ∧ va = .slice Aa ka ca ∧ Hid (At w wr w.heap.size bs s A c Al kl cl l Aa ka ca args))
  case atStart => exact ⟨(0, false), _, _, _, _, _, _, _, _, rfl, rfl, rfl, HST⟩
  case round =>
    obtain ⟨s, Al, kl, cl, l, Aa, ka, ca, args, hk, rfl, rfl, HAT⟩ := hrel
    obtain ⟨p, bad⟩ := s
    have KL := rleft_any wr w.heap.size bs (p, bad) A c HAT.out.rd
    cases bad
    case true =>
      have hno := HAT.out.lost rfl
      have HNO := Lib.hid hno
      have KL2 : Calls Try.prog 22 #[.pointer (some ⟨w.heap.size, 0, none⟩)] wr fun e w' => e = .returned (.int .i64 0) ∧ Below wr.heap.size wr w' := by
        have := KL
        simp only [if_true] at this
        exact this
      have HKL := Lib.hid KL2
      clear hno KL KL2 hk
      rcases (show ka = 0 ∨ 0 < ka by omega) with rfl | h0
      · go_wp2_with (first
          | (go_at_call 22; (with_reducible refine HKL.out.mono ?_); rintro e w1 ⟨rfl, hb1⟩; have HB1 := Lib.hid hb1; clear hb1)
          | (go_at_call 25; (with_reducible refine (rdone_W _ _ _ _ _ _ _ (HAT.out.keep HB1.out).rd).mono ?_); rintro e w1 ⟨rfl, rfl⟩) | fail)
        go_ret2
        exact parse_no HNO.out (HAT.out.keep HB1.out).bel
      · have h0' : (0 : Int) < ka := by omega
        go_wp2_with (first
          | (go_at_call 22; (with_reducible refine HKL.out.mono ?_); rintro e w1 ⟨rfl, hb1⟩; have HB1 := Lib.hid hb1; clear hb1)
          | fail)
        go_ret2
        exact parse_no HNO.out (HAT.out.keep HB1.out).bel
    case false =>
      obtain ⟨n, hn1, hn2⟩ := HAT.out.good rfl
      have hp0 := HAT.out.rd.pos_le
      dsimp only at hn1 hn2 hp0 hk
      rcases Nat.lt_or_ge p bs.length with hlt | hge
      · obtain ⟨n, rfl⟩ : ∃ n', n = n' + 1 := ⟨n - 1, by omega⟩
        obtain ⟨b, hb⟩ : ∃ b, bs[p]? = some b := ⟨_, List.getElem?_eq_getElem hlt⟩
        obtain ⟨n1, n2⟩ := num1 hb
        have KL2 : Calls Try.prog 22 #[.pointer (some ⟨w.heap.size, 0, none⟩)] wr fun e w' => e = .returned (.int .i64 ((bs.length : Int) - p)) ∧ Below wr.heap.size wr w' := by
          have := KL
          simp only [Bool.false_eq_true, if_false] at this
          exact this
        have KU := fun w1 (hb : Below wr.heap.size wr w1) => rU8_any w1 w.heap.size bs (p, false) A c ((HAT.out.keep hb).rd)
        rw [n1, n2] at KU
        have HKL := Lib.hid KL2
        have HKU := Lib.hid KU
        have HBQ := Lib.hid hb
        have HN2 := Lib.hid hn2
        have hdl : (0 : Int) < (bs.length : Int) - p := by omega
        have hbl := b.toNat_lt
        clear KL KL2 KU n1 n2 hb hn2
        go_upto_region 6 with (first
          | (go_at_call 22; (with_reducible refine HKL.out.mono ?_); rintro e w1 ⟨rfl, hb1⟩; have HB1 := Lib.hid hb1; clear hb1)
          | (go_at_call 23; (with_reducible refine (HKU.out _ HB1.out).mono ?_); rintro e w2 ⟨rfl, hr2, ht2⟩; have HR2 := Lib.hid hr2; have HT2 := Lib.hid ht2; clear hr2 ht2)
          | fail)
        have HPT := Lib.hid ((HAT.out.keep HB1.out).moved (s' := (p + 1, false)) HR2.out (Tn.turn1 HT2.out))
        have hka := HAT.out.ka
        have hkl := HAT.out.kl
        have hl1 := HPT.out.1.len
        have hl2 := HPT.out.1.oi.len
        have hz2 := HPT.out.1.oi.le
        dsimp only at hkl
        clear HKL HKU HAT HB1 HT2
        by_cases hgt : 21 < b.toNat
        · have hgt' : (21 : Int) < (b.toNat : Int) := by omega
          have hpa := parse_arg (n := n) (args := args) (l := l.map enV) HBQ.out hgt
          rw [← HN2.out] at hpa
          have HOP := Lib.hid (operand_any b.toNat HR2.out (fun k hk => by have := HA.out k hk; omega) (fun l n => HDV.out (p + 1) l n (by omega)))
          cases hop : opS bs (p + 1) b.toNat with
          | none =>
            rw [hop] at hpa
            dsimp only at hpa
            have HNO := Lib.hid hpa
            have HP := Lib.hid (HOP.out.mono fun e w' h => (show ∃ x, e = .returned (.tuple #[.int .i64 x, .bool false]) ∧ Tn (fun i => i = w.heap.size) w2 w' by
              unfold OpR at h
              rw [hop] at h
              obtain ⟨⟨x, rfl⟩, ht⟩ := h
              exact ⟨x, rfl, ht⟩))
            clear hpa hop HOP
            go_wp2_with (first
              | (go_at_call 24; (with_reducible refine HP.out.mono ?_); rintro e w3 ⟨x, rfl, ht3⟩; have HT3 := Lib.hid ht3; clear ht3)
              | fail)
            go_ret2
            exact parse_no HNO.out ((HPT.out.2.trans (HT3.out.mono fun i hi => .inl (by omega))).below (fun i hi hn => by omega) (Nat.le_refl _))
          | some y =>
            obtain ⟨x, q⟩ := y
            rw [hop] at hpa
            dsimp only at hpa
            have HP := Lib.hid (HOP.out.mono fun e w' h => (show e = .returned (.tuple #[.int .i64 x, .bool true]) ∧ Rd w' w.heap.size bs q false A c ∧ Tn (fun i => i = w.heap.size) w2 w' by
              unfold OpR at h
              rw [hop] at h
              obtain ⟨⟨rfl, hr⟩, ht⟩ := h
              exact ⟨rfl, hr, ht⟩))
            obtain ⟨q1, q2⟩ := opS_pos (by omega) hop
            clear hop HOP
            by_cases h48 : ka = 48
            · subst h48
              rw [if_pos hl2] at hpa
              have HNO := Lib.hid hpa
              clear hpa
              go_wp2_with (first
                | (go_at_call 24; (with_reducible refine HP.out.mono ?_); rintro e w3 ⟨rfl, hr3, ht3⟩; have HT3 := Lib.hid ht3; clear ht3 hr3)
                | fail)
              go_ret2
              exact parse_no HNO.out ((HPT.out.2.trans (HT3.out.mono fun i hi => .inl (by omega))).below (fun i hi hn => by omega) (Nat.le_refl _))
            · rw [if_neg (by omega)] at hpa
              have HNO := Lib.hid hpa
              have h48' : ((ka : Int) == 48) = false := by rw [beq_eq_false_iff_ne]; omega
              clear hpa
              go_upto_region 10 with (first
                | (go_at_call 24; (with_reducible refine HP.out.mono ?_); rintro e w3 ⟨rfl, hr3, ht3⟩; have HT3 := Lib.hid ht3; have HR3 := Lib.hid hr3; clear ht3 hr3)
                | fail)
              have HP3 := Lib.hid (HPT.out.1.turn HT3.out (by omega))
              have HT03 := Lib.hid (HPT.out.2.trans (HT3.out.mono fun i hi => .inl (by omega)))
              have hal := (bel_alloc (o := .cells #[.int .i64 x] 3) (bel_refl (a := w3))).below
              have HP4 := Lib.hid (HP3.out.keep hal)
              have HT4 := Lib.hid (HT03.out.call hal)
              have HR4 := Lib.hid (HR3.out.keep hal)
              have HOI := Lib.hid HP4.out.oi
              clear HP HPT HT3 HP3 HT03 hal HR2 HN2
              go_wp2_with (first
                | (at_builtin; refine wpList_append_oi2 (by rfl) (.tmp 32) (.tmp 34) (by rfl) (by rfl) HOI.out (some ⟨w3.heap.size, 0, none⟩) 1 1 (by rfl) [x] (slat_int w3 x) (by omega) ?_; intro A3 c3 w5 ho5 hg5 hr5; have HO5 := Lib.hid ho5; have HG5 := Lib.hid hg5; have HRW5 := Lib.hid hr5; clear ho5 hg5 hr5)
                | fail)
              have hfin : At w w5 w.heap.size bs (q, false) A c Al kl cl l A3 (ka + 1) c3 (args ++ [x]) :=
                ⟨HR4.out.grown (s := (q, false)) HG5.out HA.out rfl (fun k hk => (HOI.out.row k hk).1), HP4.out.arg HO5.out HG5.out HRW5.out, HT4.out.grown1 HG5.out (fun k hk => .inl (by have := (HOI.out.row k hk).1; omega)), by omega, by dsimp only; omega, fun _ => ⟨n, by dsimp only; omega, HNO.out⟩, fun h => by cases h⟩
              have HFI := Lib.hid hfin
              clear hfin
              go_roundg (bs.length + 1 - q)
              case rel => exact ⟨(q, false), _, _, _, _, _, _, _, _, rfl, rfl, rfl, HFI⟩
              case measure => simp at hk; omega
        · have hgt' : ¬ (21 : Int) < (b.toNat : Int) := by omega
          by_cases h12 : b.toNat = 12
          · have hpa := parse_esc (n := n) (args := args) (l := l.map enV) HBQ.out h12
            rw [← HN2.out] at hpa
            have KU := rU8_any w2 w.heap.size bs (p + 1, false) A c HR2.out
            obtain ⟨v, s', hv, hvb, hs1, hpg, hpl⟩ : ∃ (v : Nat) (s' : Nat × Bool), (numF bs (p + 1, false) 1 = v ∧ advF bs (p + 1, false) 1 = s') ∧ v < 256 ∧ p + 1 ≤ s'.1 ∧ (s'.2 = false → s'.1 = p + 2 ∧ parseS bs = parseA bs n (p + 2) [] (l.map enV ++ [(3072 + (v : Int), args)])) ∧ (s'.2 = true → parseS bs = none) := by
              cases hd : bs[p + 1]? with
              | some d =>
                obtain ⟨m1, m2⟩ := num1 hd
                rw [hd] at hpa
                exact ⟨d.toNat, (p + 1 + 1, false), ⟨m1, m2⟩, d.toNat_lt, by dsimp only; omega, fun _ => ⟨rfl, hpa⟩, fun h => by cases h⟩
              | none =>
                rw [hd] at hpa
                have hle : bs.length ≤ p + 1 := by
                  rcases Nat.lt_or_ge (p + 1) bs.length with h | h
                  · rw [List.getElem?_eq_getElem h] at hd; cases hd
                  · exact h
                refine ⟨numF bs (p + 1, false) 1, (p + 1, true), ⟨rfl, ?_⟩, numF_lt bs _ 1, Nat.le_refl _, (fun h => by cases h), fun _ => hpa⟩
                unfold advF badF
                rw [if_pos (by simp; omega)]
            rw [hv.1, hv.2] at KU
            have HKU2 := Lib.hid KU
            have HPG := Lib.hid hpg
            have HPL := Lib.hid hpl
            rw [h12]
            clear hpa KU hv hpg hpl
            go_upto_region 13 with (first
              | (go_at_call 23; (with_reducible refine HKU2.out.mono ?_); rintro e w3 ⟨rfl, hr3, ht3⟩; have HT3 := Lib.hid (Tn.turn1 ht3); have HR3 := Lib.hid hr3; clear ht3 hr3)
              | fail)
            have HP3 := Lib.hid (HPT.out.1.turn HT3.out (by omega))
            have HT03 := Lib.hid (HPT.out.2.trans (HT3.out.mono fun i hi => .inl (by omega)))
            have hz3w := HP3.out.oi.le
            have hal := (bel_alloc (o := .cells #[.int .i64 (3072 + (v : Int)), .slice Aa ka ca] 42) (bel_refl (a := w3))).below
            have HP4 := Lib.hid (HP3.out.keep hal)
            have HT4 := Lib.hid (HT03.out.call hal)
            have HR4 := Lib.hid (HR3.out.keep hal)
            have hpl3 := HR3.out.pos_le
            clear HPT HT3 HP3 HT03 hal HR2 HN2 HR3
            have HOWN := Lib.hid HP4.out.own
            obtain ⟨i0, z0, hi0, hz0, hz1, hz2', hz3⟩ := en_parts
            have hrd : Reads (w3.alloc (.cells #[.int .i64 (3072 + (v : Int)), .slice Aa ka ca] 42)) (w3.alloc (.cells #[.int .i64 (3072 + (v : Int)), .slice Aa ka ca] 42)).heap.size 2 (some ⟨w3.heap.size, 0, none⟩) 1 (enC ⟨(3072 + (v : Int)), Aa, ca, args⟩) := by
              have := reads_en w3 ⟨(3072 + (v : Int)), Aa, ca, args⟩
              dsimp only at this
              rw [hl2] at this
              exact this
            have HRD := Lib.hid hrd
            clear hrd
            go_wp2_with (first
              | (at_builtin; refine wpList_append_any _ (by rfl) (.tmp 41) (.tmp 45) _ (by rfl) (w.heap.size + 1) 42 i0 z0 2 32 Try.underlying24 hi0 hz0 hz1 hz2' hz3 (by omega) _ kl _ (by rfl) HOWN.out _ _ 1 _ _ (by rfl) HRD.out (by simpa using enC_one [(⟨(3072 + (v : Int)), Aa, ca, args⟩ : En)]) (by unfold maxLen; omega) (by omega) (by simp; omega) ?_; intro v' w5 ho5 hg5 hr5; obtain ⟨A5, c5, rfl, hp5⟩ := HP4.out.entry hka ho5 hg5 hr5; have HP5 := Lib.hid hp5; have HG5 := Lib.hid hg5; clear ho5 hg5 hr5 hp5)
              | fail)
            have hgl : ∀ k, (Value.slice Al kl cl).ownBlock = some k → w.heap.size + 1 ≤ k := fun k hk => (own_lt HOWN.out k hk).1
            have hfin : At w w5 w.heap.size bs s' A c A5 (kl + 1) c5 (l ++ [⟨(3072 + (v : Int)), Aa, ca, args⟩]) none 0 0 [] :=
              ⟨HR4.out.grown (s := s') HG5.out HA.out rfl hgl, HP5.out, HT4.out.grown1 HG5.out (fun k hk => .inl (by have := hgl k hk; omega)), by omega, by omega, fun h => ⟨n, by have := (HPG.out h).1; omega, by rw [List.map_append, (HPG.out h).1]; exact (HPG.out h).2⟩, HPL.out⟩
            have HFI := Lib.hid hfin
            clear hfin
            go_roundg (if s'.2 = true then 0 else bs.length + 1 - s'.1)
            case rel => exact ⟨s', _, _, _, _, _, _, _, _, rfl, rfl, rfl, HFI⟩
            case measure => simp at hk; split <;> omega
          · have hpa := parse_op (n := n) (args := args) (l := l.map enV) HBQ.out hgt h12
            rw [← HN2.out] at hpa
            have HNO := Lib.hid hpa
            have h12' : ((b.toNat : Int) == 12) = false := by rw [beq_eq_false_iff_ne]; omega
            have hal := (bel_alloc (o := .cells #[.int .i64 (b.toNat : Int), .slice Aa ka ca] 42) (bel_refl (a := w2))).below
            have HP4 := Lib.hid (HPT.out.1.keep hal)
            have HT4 := Lib.hid (HPT.out.2.call hal)
            have HR4 := Lib.hid (HR2.out.keep hal)
            clear hpa HPT hal HR2 HN2
            have HOWN := Lib.hid HP4.out.own
            obtain ⟨i0, z0, hi0, hz0, hz1, hz2', hz3⟩ := en_parts
            have hrd : Reads (w2.alloc (.cells #[.int .i64 (b.toNat : Int), .slice Aa ka ca] 42)) (w2.alloc (.cells #[.int .i64 (b.toNat : Int), .slice Aa ka ca] 42)).heap.size 2 (some ⟨w2.heap.size, 0, none⟩) 1 (enC ⟨(b.toNat : Int), Aa, ca, args⟩) := by
              have := reads_en w2 ⟨(b.toNat : Int), Aa, ca, args⟩
              dsimp only at this
              rw [hl2] at this
              exact this
            have HRD := Lib.hid hrd
            clear hrd
            go_wp2_with (first
              | (at_builtin; refine wpList_append_any _ (by rfl) (.tmp 41) (.tmp 45) _ (by rfl) (w.heap.size + 1) 42 i0 z0 2 32 Try.underlying24 hi0 hz0 hz1 hz2' hz3 (by omega) _ kl _ (by rfl) HOWN.out _ _ 1 _ _ (by rfl) HRD.out (by simpa using enC_one [(⟨(b.toNat : Int), Aa, ca, args⟩ : En)]) (by unfold maxLen; omega) (by omega) (by simp; omega) ?_; intro v' w5 ho5 hg5 hr5; obtain ⟨A5, c5, rfl, hp5⟩ := HP4.out.entry hka ho5 hg5 hr5; have HP5 := Lib.hid hp5; have HG5 := Lib.hid hg5; clear ho5 hg5 hr5 hp5)
              | fail)
            have hgl : ∀ k, (Value.slice Al kl cl).ownBlock = some k → w.heap.size + 1 ≤ k := fun k hk => (own_lt HOWN.out k hk).1
            have hfin : At w w5 w.heap.size bs (p + 1, false) A c A5 (kl + 1) c5 (l ++ [⟨(b.toNat : Int), Aa, ca, args⟩]) none 0 0 [] :=
              ⟨HR4.out.grown (s := (p + 1, false)) HG5.out HA.out rfl hgl, HP5.out, HT4.out.grown1 HG5.out (fun k hk => .inl (by have := hgl k hk; omega)), by omega, by dsimp only; omega, fun _ => ⟨n, by dsimp only; omega, by rw [List.map_append]; exact HNO.out⟩, fun h => by cases h⟩
            have HFI := Lib.hid hfin
            clear hfin
            go_roundg (bs.length + 1 - (p + 1))
            case rel => exact ⟨(p + 1, false), _, _, _, _, _, _, _, _, rfl, rfl, rfl, HFI⟩
            case measure => simp at hk; omega
      · have KL2 : Calls Try.prog 22 #[.pointer (some ⟨w.heap.size, 0, none⟩)] wr fun e w' => e = .returned (.int .i64 0) ∧ Below wr.heap.size wr w' := by
          have := KL
          simp only [Bool.false_eq_true, if_false, show (bs.length : Int) - p = 0 by omega] at this
          exact this
        have HKL := Lib.hid KL2
        rw [parse_end hge] at hn2
        have hal := HAT.out.pi.oi.len
        clear KL KL2 hk hn1
        rcases (show ka = 0 ∨ 0 < ka by omega) with rfl | h0
        · obtain rfl := List.eq_nil_of_length_eq_zero hal
          rw [if_pos rfl] at hn2
          have HNO := Lib.hid hn2
          clear hn2
          go_wp2_with (first
            | (go_at_call 22; (with_reducible refine HKL.out.mono ?_); rintro e w1 ⟨rfl, hb1⟩; have HB1 := Lib.hid hb1; clear hb1)
            | (go_at_call 25; (with_reducible refine (rdone_W _ _ _ _ _ _ _ (HAT.out.keep HB1.out).rd).mono ?_); rintro e w1 ⟨rfl, rfl⟩) | fail)
          go_ret2
          exact parse_yes HNO.out (HAT.out.keep HB1.out).pi.list (HAT.out.keep HB1.out).bel
        · have h0' : (0 : Int) < ka := by omega
          rw [if_neg (fun e => by rw [e] at hal; simp at hal; omega)] at hn2
          have HNO := Lib.hid hn2
          clear hn2
          go_wp2_with (first
            | (go_at_call 22; (with_reducible refine HKL.out.mono ?_); rintro e w1 ⟨rfl, hb1⟩; have HB1 := Lib.hid hb1; clear hb1)
            | fail)
          go_ret2
          exact parse_no HNO.out (HAT.out.keep HB1.out).bel
end Go.Proofs.Ytoofjkhigonppaa
