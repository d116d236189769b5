/-
  Layer 15: Put.
-/
import Derived.Test.YtoofjkhigonppaaDcM
namespace Go.Proofs.Ytoofjkhigonppaa
open Go.RowKit

def num5 (x : Int) : List UInt8 := numS (x / 65536)
/-- An entry as bytes. -/
def entS (v : Int × List Int) : List UInt8 := v.2.flatMap num5 ++ (if 3072 ≤ v.1 then [12] else []) ++ [by8 v.1]
def putS (ls : List (Int × List Int)) : List UInt8 := ls.flatMap entS
theorem numS_len (x : Int) : (numS x).length ≤ 5 := by
  unfold numS
  split
  · simp
  split
  · simp
  split
  · simp
  split <;> simp
theorem flat5_len : ∀ xs : List Int, (xs.flatMap num5).length ≤ 5 * xs.length
  | [] => by simp
  | x :: xs => by
    have := flat5_len xs
    have := numS_len (x / 65536)
    rw [List.flatMap_cons, List.length_append, List.length_cons]
    unfold num5 at *
    omega
theorem entS_len (v : Int × List Int) (h : v.2.length ≤ 48) : (entS v).length ≤ 242 := by
  have := flat5_len v.2
  unfold entS
  rw [List.length_append, List.length_append]
  generalize (v.2.flatMap num5).length = q at *
  split <;> simp only [List.length_cons, List.length_nil] <;> omega
theorem flat_snoc {α β : Type} {f : α → List β} {l : List α} {k : Nat} {x : α} (h : l[k]? = some x) : (l.take (k + 1)).flatMap f = (l.take k).flatMap f ++ f x := by
  rw [take_snoc' h, List.flatMap_append]
  simp
theorem entS_hi {op : Int} {xs : List Int} (h : 3072 ≤ op) : entS (op, xs) = xs.flatMap num5 ++ [12] ++ [by8 op] := by unfold entS; rw [if_pos h]
theorem entS_lo {op : Int} {xs : List Int} (h : ¬ 3072 ≤ op) : entS (op, xs) = xs.flatMap num5 ++ [by8 op] := by unfold entS; rw [if_neg h, List.append_nil]
/-- What was put so far, and the entry's box. -/
structure PO (B : Nat) (w0 w : World) (A : Option Addr) (L c : Nat) (bs : List UInt8) (g : Nat) (v : En) : Prop where
  ow : OwB B w0 w A L c bs
  box : Blk w g 42 (enC v)
  ne : rowOf A ≠ some g
section
variable {B : Nat} {w0 w w' : World} {A : Option Addr} {L c : Nat} {bs : List UInt8} {g : Nat} {v : En}
theorem PO.keep (h : PO B w0 w A L c bs g v) (hb : Below w.heap.size w w') : PO B w0 w' A L c bs g v := ⟨h.ow.keep hb, h.box.below hb h.box.lt, h.ne⟩
theorem PO.alloc (h : PO B w0 w A L c bs g v) (o : Obj) : PO B w0 (w.alloc o) A L c bs g v := h.keep (bel_alloc bel_refl).below
theorem PO.new (h : OwB B w0 w A L c bs) : PO B w0 (w.alloc (.cells #[.int .i64 v.op, .slice v.A v.xs.length v.c] 42)) A L c bs w.heap.size v :=
  ⟨h.alloc _, Blk.newAt w _ _ rfl, fun e => by have := (h.row _ e).2; omega⟩
theorem wpList_append_po {ops : Array Oper} {rest : List Oper} {o : Oper} {a : Act} {Q : Exit → Act → World → Prop} (hgd : o.guard = none) (s x : Operand)
    (ho : o.op = .call { callee := .builtin .append, args := #[s, x], argTypes := #[22, 22] }) (hs : a.eval s = .slice A L c) (h : PO B w0 w A L c bs g v)
    (A2 : Option Addr) (m c2 : Nat) (hx : a.eval x = .slice A2 m c2) (news : List UInt8) (hr : SlAt w A2 m (news.map byteV)) (hb : L + m ≤ 140737488355328)
    (k : ∀ A' c' w', PO B w0 w' A' (L + m) c' (bs ++ news) g v → wpList Try.prog ops Q rest (a.put o.dst (.slice A' (L + m) c')) w') : wpList Try.prog ops Q (o :: rest) a w := by
  obtain ⟨i0, hi0, hz0, hz1, hz2⟩ := info_parts u8_info
  refine wpList_append_any w hgd s x _ ho B 5 i0 _ 1 1 Try.underlying22 hi0 hz0 hz1 hz2 rfl (by omega) _ L (bs.map byteV) hs h.ow.own w.heap.size A2 m c2 (news.map byteV) hx hr.reads (bytes_one _) (by unfold maxLen; omega) (by omega) h.ow.le ?_
  intro v' w' hown hgrow hrow
  obtain ⟨A', c', rfl, h'⟩ := h.ow.appended (by simpa using hr.1) hown hgrow
  rw [ownBlock_slice] at hgrow
  rw [ownBlock_slice, ownBlock_slice] at hrow
  have hgl := h.box.lt
  refine k A' c' w' ⟨h', (hgrow.block g hgl (fun e => h.ne e.symm)).trans h.box, fun e => ?_⟩
  rcases hrow with h1 | h1
  · rw [h1] at e; exact h.ne e
  · rw [h1] at e; injection e with e; omega
theorem PO.cells (h : PO B w0 w A L c bs g v) : w.cell? ⟨g, 0, none⟩ = some (.int .i64 v.op) ∧ w.cell? ⟨g, 1, none⟩ = some (.slice v.A v.xs.length v.c) ∧ g < w.heap.size :=
  ⟨h.box.cell 0, h.box.cell 1, h.box.lt⟩
end
theorem slat_u8 (w : World) (y : Int) (b : UInt8) (h : Value.int .u8 y = byteV b) : SlAt (w.alloc (.cells #[.int .u8 y] 5)) (some ⟨w.heap.size, 0, none⟩) 1 ([b].map byteV) := by
  rw [h]
  exact slat_blk (Blk.newAt w _ [byteV b] rfl) rfl
def PutR (ls : List (Int × List Int)) (w : World) (e : Ending) (w' : World) : Prop :=
  (if ls.all mayB = true then ∃ A c, e = .returned (.tuple #[.slice A (putS ls).length c, .int .i64 0]) ∧ Bs w' A (putS ls) c else e = .returned (.tuple #[.slice none 0 0, .int .i64 1])) ∧ Below w.heap.size w w'
theorem put_no {ls : List (Int × List Int)} {w w' : World} (h : ls.all mayB = false) (hb : Below w.heap.size w w') : PutR ls w (.returned (.tuple #[.slice none 0 0, .int .i64 1])) w' := by
  unfold PutR; rw [h]; exact ⟨rfl, hb⟩
theorem put_yes {ls : List (Int × List Int)} {w w' : World} {A : Option Addr} {n c : Nat} {bs : List UInt8} (h : ls.all mayB = true) (hn : bs.length = n) (hbs : bs = putS ls) (hs : Bs w' A bs c) (hb : Below w.heap.size w w') : PutR ls w (.returned (.tuple #[.slice A n c, .int .i64 0])) w' := by
  subst hbs hn; unfold PutR; rw [if_pos h]; exact ⟨⟨_, _, rfl, hs⟩, hb⟩
set_option maxRecDepth 20000 in
set_option maxHeartbeats 8000000 in
theorem put_any {w : World} {A : Option Addr} {n c : Nat} {es : List En} (h : EnL w A n es) (hi : EnIn es) (hn : n ≤ 200) :
    Calls Try.prog 14 #[.slice A n c] w (PutR (es.map enV) w) := by
  have hl : es.length = n := by have := h.rows.len; simpa using this
  subst hl
  have HC := contains_ens (c := c) h hi (by omega)
  cases hall : (es.map enV).all mayB with
  | false =>
    rw [hall] at HC
    have HCC := Lib.hid HC
    have HALL := Lib.hid hall
    clear HC hall h hi
    go_enter Try.func14, Try.ntmps14
    go_wp2_with (first | (go_at_call 29; (with_reducible refine HCC.out.mono ?_); rintro e w1 ⟨rfl, hb1⟩) | fail)
    go_ret2
    exact put_no HALL.out hb1
  | true =>
    rw [hall] at HC
    have HCC := Lib.hid HC
    have HALL := Lib.hid hall
    have H := Lib.hid h
    have HI := Lib.hid hi
    clear HC hall h hi
    go_enter Try.func14, Try.ntmps14
    go_wp2_with (first | (go_at_call 29; (with_reducible refine HCC.out.mono ?_); rintro e w1 ⟨rfl, hb1⟩; have HB1 := Lib.hid hb1; clear hb1) | fail)
    have H1 := Lib.hid (H.out.keep HB1.out)
    have hw1 := HB1.out.size
    clear H
    go_loopw [4, 13] (fun out i wr => ∃ (k : Nat) (A1 : Option Addr) (c1 : Nat) (bs : List UInt8), k ≤ es.length ∧ i = .int .i64 k ∧ out = .slice A1 bs.length c1 ∧ Hid (bs = putS ((es.map enV).take k)) ∧ bs.length ≤ k * 242 ∧ Hid (OwB w1.heap.size w1 wr A1 bs.length c1 bs)) (fun _ i _ => es.length - (intOf i).toNat)
    case atStart => exact ⟨0, none, 0, [], Nat.zero_le _, rfl, rfl, Lib.hid rfl, by simp, Lib.hid (OwB.nil bel_refl)⟩
    case round =>
      obtain ⟨k, A1, c1, bs, hk, rfl, rfl, HE, hbl, HO⟩ := hrel
      by_cases hlt : k < es.length
      · obtain ⟨⟨op, vA, vc, xs⟩, hv⟩ := get_some' hlt
        have hv2 : (es.map enV)[k]? = some (op, xs) := by rw [List.getElem?_map, hv]; rfl
        obtain ⟨b, o, rfl, hb, hc1, hc2⟩ := H1.out.at_ hv
        dsimp only at hc1 hc2
        have q0 : wr.cell? ⟨b, o + k * 2, none⟩ = some (.int .i64 op) := (HO.out.bel.cell (p := ⟨b, _, none⟩) hb).trans hc1
        have q1 : wr.cell? ⟨b, o + k * 2 + 1, none⟩ = some (.slice vA xs.length vc) := (HO.out.bel.cell (p := ⟨b, _, none⟩) hb).trans hc2
        have hsz := HO.out.bel.size
        have hmem := List.mem_of_getElem? hv
        have hmy := List.all_eq_true.1 HALL.out (op, xs) (List.mem_map.2 ⟨_, hmem, rfl⟩)
        unfold mayB at hmy
        simp only [Bool.and_eq_true, decide_eq_true_eq] at hmy
        obtain ⟨⟨m1, m2⟩, m3⟩ := hmy
        try dsimp only at m1 m2 m3
        have HPN := Lib.hid (PO.new (v := ⟨op, vA, vc, xs⟩) HO.out)
        have HV2 := Lib.hid hv2
        have hargs := H1.out.args _ hmem
        try dsimp only at hargs
        have HARGS := Lib.hid hargs
        have HIN := Lib.hid (HI.out _ hmem)
        have HW := Lib.hid (List.all_eq_true.1 m3)
        have HM := Lib.hid m1
        clear hv hv2 hc1 hc2 hmem hargs m1 m3
        go_wp2_with fail
        obtain ⟨g, hg⟩ : ∃ g, wr.heap.size = g := ⟨_, rfl⟩
        obtain ⟨wb, hwb⟩ : ∃ wb, wr.alloc (.cells #[.int .i64 op, .slice vA xs.length vc] 42) = wb := ⟨_, rfl⟩
        try dsimp only at HPN
        rw [hwb, hg] at HPN
        simp only [hwb, hg]
        clear q0 q1 hsz hg hwb HO
        go_loopw [4, 20] (fun out i wq => ∃ (j : Nat) (A2 : Option Addr) (c2 : Nat) (cs : List UInt8), j ≤ xs.length ∧ i = .int .i64 j ∧ out = .slice A2 cs.length c2 ∧ Hid (cs = bs ++ (xs.take j).flatMap num5) ∧ cs.length ≤ bs.length + j * 5 ∧ Hid (PO w1.heap.size w1 wq A2 cs.length c2 cs g ⟨op, vA, vc, xs⟩)) (fun _ i _ => xs.length - (intOf i).toNat)
        case atStart => exact ⟨0, A1, c1, bs, Nat.zero_le _, rfl, rfl, Lib.hid (by simp), by simp, HPN⟩
        case round =>
          obtain ⟨j, A2, c2, cs, hj, rfl, rfl, HCS, hcl, HP⟩ := hrel
          by_cases hlt2 : j < xs.length
          · obtain ⟨x, hx⟩ := get_some' hlt2
            obtain ⟨b2, o2, rfl, hb2, hc⟩ := HARGS.out.2 j hlt2
            rw [List.getElem?_map, hx] at hc
            simp only [Option.map_some] at hc
            have q2 : wr.cell? ⟨b2, o2 + j, none⟩ = some (.int .i64 x) := (HP.out.ow.bel.cell (p := ⟨b2, _, none⟩) hb2).trans hc
            have hsz := HP.out.ow.bel.size
            have hwx := HW.out x (List.mem_of_getElem? hx)
            unfold wholeB at hwx
            simp only [decide_eq_true_eq] at hwx
            have htd := tdm x
            obtain ⟨q, hq⟩ : ∃ q, x.tdiv 65536 = q := ⟨_, rfl⟩
            have hqx : x / 65536 = q := by omega
            have hqb : -2147483648 ≤ q ∧ q < 2147483648 := by omega
            obtain ⟨hq0, hq1⟩ := hqb
            have hfs := flat_snoc (f := num5) hx
            rw [show num5 x = numS q by unfold num5; rw [hqx]] at hfs
            have HFS := Lib.hid hfs
            have HKN := Lib.hid (fun w => number_any q hq0 hq1 w)
            have hnl := numS_len q
            generalize numS q = N at *
            clear hfs htd hqx hwx hx hc
            go_wp2_with (first
              | (go_at_call 32; (with_reducible refine (HKN.out _).mono ?_); rintro e w5 ⟨A5, c5, rfl, hs5, hb5⟩; have HP5 := Lib.hid (HP.out.keep hb5); have HS5 := Lib.hid hs5; clear hs5 hb5)
              | (at_builtin; refine wpList_append_po (by rfl) (.tmp 24) (.tmp 27) (by rfl) (by rfl) HP5.out A5 N.length c5 (by rfl) N HS5.out (by omega) ?_; intro A6 c6 w6 hp6; have HP6 := Lib.hid hp6; clear hp6)
              | fail)
            have HP7 : Hid (PO w1.heap.size w1 w6 A6 (cs ++ N).length c6 (cs ++ N) g ⟨op, some ⟨b2, o2, none⟩, vc, xs⟩) := by rw [List.length_append]; exact HP6
            go_roundw
            case rel => exact ⟨j + 1, A6, c6, cs ++ N, by omega, by go_num, by rw [List.length_append], Lib.hid (by rw [HFS.out, HCS.out, List.append_assoc]), by rw [List.length_append]; omega, HP7⟩
            case measure => simp [intOf]; omega
          · obtain rfl : j = xs.length := by omega
            have hcs := HCS.out
            rw [List.take_length] at hcs
            have hfs := flat_snoc (f := entS) HV2.out
            have hcell := HP.out.cells
            try dsimp only at hcell
            obtain ⟨q3, -, hgl⟩ := hcell
            have hin := HIN.out.1
            try dsimp only at hin
            obtain ⟨hin1, hin2⟩ := hin
            have HCC2 := Lib.hid hcs
            have HFS := Lib.hid hfs
            clear hcs hfs
            by_cases hop : 3072 ≤ op
            · have HPA := Lib.hid (HP.out.alloc (.cells #[.int .u8 12] 5))
              have HSA := Lib.hid (slat_u8 wr 12 12 rfl)
              go_upto_region 14 with (first
                | (at_builtin; refine wpList_append_po (by rfl) (.tmp 33) (.tmp 34) (by rfl) (by rfl) HPA.out _ 1 _ (by rfl) [12] HSA.out (by omega) ?_; intro A6 c6 w6 hp6; have HP6 := Lib.hid hp6; clear hp6)
                | fail)
              have hcell6 := HP6.out.cells
              try dsimp only at hcell6
              obtain ⟨q4, -, hgl4⟩ := hcell6
              have HPB := Lib.hid (HP6.out.alloc (.cells #[.int .u8 (op % 256)] 5))
              have HSB := Lib.hid (slat_u8 w6 (op % 256) (by8 op) (by8_V op).symm)
              go_wp2_with (first
                | (at_builtin; refine wpList_append_po (by rfl) (.tmp 36) (.tmp 40) (by rfl) (by rfl) HPB.out _ 1 _ (by rfl) [by8 op] HSB.out (by omega) ?_; intro A7 c7 w7 hp7; have HP7 := Lib.hid hp7; clear hp7)
                | fail)
              have hln : ((cs ++ [12]) ++ [by8 op]).length = (cs.length + 1) + 1 := by simp
              have HO7 : Hid (OwB w1.heap.size w1 w7 A7 ((cs ++ [12]) ++ [by8 op]).length c7 ((cs ++ [12]) ++ [by8 op])) := by rw [hln]; exact Lib.hid HP7.out.ow
              go_roundw
              case rel => exact ⟨k + 1, A7, c7, (cs ++ [12]) ++ [by8 op], by omega, by go_num, by rw [hln], Lib.hid (by unfold putS; rw [HFS.out, HCC2.out, HE.out]; unfold putS; rw [entS_hi hop]; simp only [List.append_assoc]), by rw [hln]; omega, HO7⟩
              case measure => simp [intOf]; omega
            · go_upto_region 14 with fail
              have hcell6 := HP.out.cells
              try dsimp only at hcell6
              obtain ⟨q4, -, hgl4⟩ := hcell6
              have HPB := Lib.hid (HP.out.alloc (.cells #[.int .u8 (op % 256)] 5))
              have HSB := Lib.hid (slat_u8 wr (op % 256) (by8 op) (by8_V op).symm)
              go_wp2_with (first
                | (at_builtin; refine wpList_append_po (by rfl) (.tmp 36) (.tmp 40) (by rfl) (by rfl) HPB.out _ 1 _ (by rfl) [by8 op] HSB.out (by omega) ?_; intro A7 c7 w7 hp7; have HP7 := Lib.hid hp7; clear hp7)
                | fail)
              have hln : (cs ++ [by8 op]).length = cs.length + 1 := by simp
              have HO7 : Hid (OwB w1.heap.size w1 w7 A7 (cs ++ [by8 op]).length c7 (cs ++ [by8 op])) := by rw [hln]; exact Lib.hid HP7.out.ow
              go_roundw
              case rel => exact ⟨k + 1, A7, c7, cs ++ [by8 op], by omega, by go_num, by rw [hln], Lib.hid (by unfold putS; rw [HFS.out, HCC2.out, HE.out]; unfold putS; rw [entS_lo hop]; simp only [List.append_assoc]), by rw [hln]; omega, HO7⟩
              case measure => simp [intOf]; omega
      · obtain rfl : k = es.length := by omega
        go_wp2_with fail
        go_ret2
        refine put_yes HALL.out rfl ?_ (HO.out.toBs (by omega)) (HB1.out.trans (HO.out.bel.mono hw1))
        rw [HE.out, List.take_of_length_le (by simp)]
end Go.Proofs.Ytoofjkhigonppaa
