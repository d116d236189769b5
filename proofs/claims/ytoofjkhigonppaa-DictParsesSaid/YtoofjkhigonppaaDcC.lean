/-
  Layer 15: the half bytes of a real number.
-/
import Derived.Test.YtoofjkhigonppaaDcB
import Derived.Deep.LoopGhost
import Derived.Deep.DeepCutAuto
namespace Go.Proofs.Ytoofjkhigonppaa
open Go.RowKit

theorem and15 (n : Fin 256) : bits .and .i64 (n.val : Int) 15 = (n.val : Int) % 16 := by
  revert n
  decide +kernel
theorem and_15 {z : Int} (h0 : 0 ≤ z) (h1 : z < 256) : bits .and .i64 z 15 = z % 16 := by
  have := and15 ⟨z.toNat, by omega⟩
  rw [show ((⟨z.toNat, by omega⟩ : Fin 256).val : Int) = z by simp; omega] at this
  exact this
def hi4 (c : UInt8) : Int := (c.toNat / 16 : Nat)
def lo4 (c : UInt8) : Int := (c.toNat % 16 : Nat)
/-- The half bytes up to the end, and how many bytes that took. -/
def realS : List UInt8 → Option (List Int × Nat)
  | [] => none
  | c :: t => if hi4 c = 15 then some ([], 1) else if lo4 c = 15 then some ([hi4 c], 1) else (realS t).map fun x => (hi4 c :: lo4 c :: x.1, x.2 + 1)
@[go_sem ↓] theorem idx2_0 (a b : Int) (w : World) : (Instr.index 88 (.agg #[.int .i64 a, .int .i64 b]) (.int .i64 0)).run Try.prog w = .ok (.int .i64 a) w := by kernel_rfl
@[go_sem ↓] theorem idx2_1 (a b : Int) (w : World) : (Instr.index 88 (.agg #[.int .i64 a, .int .i64 b]) (.int .i64 1)).run Try.prog w = .ok (.int .i64 b) w := by kernel_rfl
structure FlAt (w0 w : World) (r g : Nat) (bs : List UInt8) (q : Nat) (A : Option Addr) (c : Nat) (f : Fl) : Prop where
  rd : Rd w r bs q false A c
  fl : Blk w g 83 (flC f)
  ok : FlOk f
  tn : Tn (fun i => i = r ∨ i = g) w0 w
def HalvesR (w0 : World) (r g : Nat) (bs : List UInt8) (p : Nat) (A : Option Addr) (c : Nat) (f : Fl) (e : Ending) (w' : World) : Prop :=
  ∃ f' q, (match realS (bs.drop p) with | some (l, n) => e = .returned (.bool true) ∧ q = p + n ∧ f' = l.foldl takeF f | none => e = .returned (.bool false)) ∧ FlAt w0 w' r g bs q A c f'
theorem drop_at {bs : List UInt8} {q : Nat} {c : UInt8} (h : bs[q]? = some c) : bs.drop q = c :: bs.drop (q + 1) := by
  obtain ⟨h1, h2⟩ := List.getElem?_eq_some_iff.1 h
  rw [← h2]
  exact List.drop_eq_getElem_cons h1
theorem num1 {bs : List UInt8} {q : Nat} {c : UInt8} (h : bs[q]? = some c) : numF bs (q, false) 1 = c.toNat ∧ advF bs (q, false) 1 = (q + 1, false) := by
  have hl := (List.getElem?_eq_some_iff.1 h).1
  refine ⟨?_, advF_ok (by omega)⟩
  rw [numF_ok (by omega), drop_at h]
  simp [numB]
/-- Bytes q to p are done: their half bytes were pre. -/
def Done (bs : List UInt8) (p q : Nat) (pre : List Int) : Prop := p ≤ q ∧ realS (bs.drop p) = (realS (bs.drop q)).map fun x => (pre ++ x.1, x.2 + (q - p))
theorem done_next {bs : List UInt8} {p q : Nat} {pre : List Int} {c : UInt8} (h : Done bs p q pre) (hc : bs[q]? = some c) (h1 : hi4 c ≠ 15) (h2 : lo4 c ≠ 15) : Done bs p (q + 1) (pre ++ [hi4 c] ++ [lo4 c]) := by
  obtain ⟨hp, h⟩ := h
  refine ⟨by omega, ?_⟩
  rw [h, drop_at hc, realS, if_neg h1, if_neg h2, Option.map_map]
  congr 1
  funext x
  simp
  omega
theorem FlAt.took {w0 w w' : World} {r g : Nat} {bs : List UInt8} {q : Nat} {A : Option Addr} {c : Nat} {f f' : Fl} (h : FlAt w0 w r g bs q A c f) (hgr : g ≠ r) (hap : rowOf A ≠ some g) (hb : Blk w' g 83 (flC f')) (ht : Turn w w' g none) (hok : FlOk f') : FlAt w0 w' r g bs q A c f' :=
  ⟨⟨ht.blk h.rd.blk (Ne.symm hgr) (fun e => by cases e), h.rd.sl.turn0 ht (fun _ => hap), h.rd.apart, h.rd.cap, h.rd.pos_le, h.rd.small⟩, hb, hok, h.tn.trans ⟨ht.os, ht.tape, ht.output, ht.size, fun i hi hn => ht.block i hi (fun e => hn (.inr e)) (fun e => by cases e)⟩⟩
set_option maxRecDepth 20000 in
set_option maxHeartbeats 8000000 in
theorem halves_any {w : World} {r g : Nat} {bs : List UInt8} {p : Nat} {A : Option Addr} {c : Nat} {f : Fl} (h : Rd w r bs p false A c) (hg : Blk w g 83 (flC f)) (hok : FlOk f) (hap : rowOf A ≠ some g) :
    Calls Try.prog 53 #[.pointer (some ⟨r, 0, none⟩), .func (.func 54) #[.pointer (some ⟨g, 0, none⟩)] #[]] w (HalvesR w r g bs p A c f) := by
  have hst : FlAt w w r g bs p A c f := ⟨h, hg, hok, Tn.refl _⟩
  have HST := Lib.hid hst
  have hp0 := h.pos_le
  have hsm := h.small
  clear h hg hok hst
  go_enter Try.func53, Try.ntmps53
  go_wp2_with fail
  go_loopg [5] (bs.length - p) (fun k _ wr => ∃ q pre, k = bs.length - q ∧ Hid (Done bs p q pre) ∧ Hid (FlAt w wr r g bs q A c (pre.foldl takeF f)))
  case atStart => exact ⟨p, [], rfl, Lib.hid ⟨Nat.le_refl _, by simp⟩, HST⟩
  case round =>
    obtain ⟨q, pre, hk, HD, HF⟩ := hrel
    have hq0 := HF.out.rd.pos_le
    have KL := rleft_any wr r bs (q, false) A c HF.out.rd
    by_cases hlt : q < bs.length
    · obtain ⟨b, hb⟩ : ∃ b, bs[q]? = some b := ⟨_, List.getElem?_eq_getElem hlt⟩
      obtain ⟨n1, n2⟩ := num1 hb
      have KU := fun w1 (hb : Below wr.heap.size wr w1) => rU8_any w1 r bs (q, false) A c (HF.out.rd.keep hb)
      rw [n1, n2] at KU
      have hle : (if (q, false).2 = true then (0 : Int) else ((bs.length : Int) - (q, false).1)) = (bs.length : Int) - q := rfl
      have HKL := Lib.hid KL
      have HKU := Lib.hid KU
      have HBQ := Lib.hid hb
      have hdl : (0 : Int) < (bs.length : Int) - q := by omega
      have hgr : g ≠ r := fun e => by
        have h1 := HF.out.fl
        have h2 := HF.out.rd.blk
        subst e
        unfold Blk at h1 h2
        rw [h1] at h2
        injection h2 with h2
        injection h2 with _ h2 _
        revert h2
        decide
      obtain ⟨z, hz⟩ : ∃ z : Int, (b.toNat : Int) = z := ⟨_, rfl⟩
      have hz1 : 0 ≤ z ∧ z < 256 := by have := b.toNat_lt; omega
      obtain ⟨z1, z2⟩ := hz1
      have hhi : hi4 b = z / 16 := by unfold hi4; omega
      have hlo : lo4 b = z % 16 := by unfold lo4; omega
      rw [hz] at HKU
      have hsh : ∀ w, (Op.shift .shr .i64 z .u64 4).run Try.prog w = .ok (.int .i64 (z / 16)) w := fun w => by
        have := shr_run (P := Try.prog) z 4 4 rfl (by omega) w
        exact this
      clear KL KU n1 n2 hb hz
      go_upto_region 3 with (first
        | (go_at_call 22; (with_reducible refine HKL.out.mono ?_); rintro e w1 ⟨rfl, hb1⟩; have HB1 := Lib.hid hb1; clear hb1)
        | (go_at_call 23; (with_reducible refine (HKU.out _ HB1.out).mono ?_); rintro e w2 ⟨rfl, hr2, ht2⟩; have HR2 := Lib.hid hr2; have HT2 := Lib.hid ht2; clear hr2 ht2)
        | fail)
      have HA : Hid (FlAt w w2 r g bs (q + 1) A c (pre.foldl takeF f)) := Lib.hid ⟨HR2.out, HT2.out.blk (HF.out.fl.below HB1.out (Blk.lt HF.out.fl)) hgr (fun e => by cases e), HF.out.ok, (HF.out.tn.call HB1.out).trans ⟨HT2.out.os, HT2.out.tape, HT2.out.output, HT2.out.size, fun i hi hn => HT2.out.block i hi (fun e => hn (.inl e)) (fun e => by cases e)⟩⟩
      go_wp2_with fail
      rw [and_15 z1 z2, ← hhi, ← hlo]
      have hh1 : 0 ≤ hi4 b ∧ hi4 b ≤ 15 := by omega
      have hl1 : 0 ≤ lo4 b ∧ lo4 b ≤ 15 := by omega
      generalize hHI : hi4 b = H at *
      generalize hLO : lo4 b = L at *
      have hS : realS (bs.drop q) = if H = 15 then some ([], 1) else if L = 15 then some ([H], 1) else (realS (bs.drop (q + 1))).map fun x => (H :: L :: x.1, x.2 + 1) := by rw [drop_at HBQ.out, realS, hHI, hLO]
      have HSS := Lib.hid hS
      have HHL := Lib.hid (And.intro hHI hLO)
      have HH1 := Lib.hid hh1
      have HL1 := Lib.hid hl1
      obtain ⟨wo, hwo⟩ : ∃ wo : World, wo = wr := ⟨_, rfl⟩
      clear hS hHI hLO hhi hlo hh1 hl1 hsh
      go_loopg [18] 2 (fun k s wq => k ≤ 2 ∧ s = .int .i64 ((2 - k : Nat) : Int) ∧ Hid ((k ≤ 1 → H ≠ 15) ∧ (k = 0 → L ≠ 15)) ∧ Hid (FlAt w wq r g bs (q + 1) A c ((pre ++ [H, L].take (2 - k)).foldl takeF f)))
      case atStart => exact ⟨Nat.le_refl _, rfl, Lib.hid ⟨fun h => absurd h (by omega), fun h => absurd h (by omega)⟩, Lib.hid (by simpa using HA.out)⟩
      case round =>
        obtain ⟨hk2, rfl, HNE, HAQ⟩ := hrel
        rcases (show gk = 2 ∨ gk = 1 ∨ gk = 0 by omega) with rfl | rfl | rfl
        all_goals clear hk2
        · rw [show ((2 - 2 : Nat) : Int) = 0 from rfl]
          by_cases h15 : H = 15
          · have hS := HSS.out
            rw [if_pos h15] at hS
            have hfin : HalvesR w r g bs p A c f (.returned (.bool true)) wr := by
              refine ⟨_, _, ?_, HAQ.out⟩
              have hd := HD.out.2
              rw [hS] at hd
              rw [hd]
              simp
              have := HD.out.1
              omega
            have HFI := Lib.hid hfin
            clear hfin hS
            go_wp2_with fail
            go_ret
            exact HFI.out
          · have h15b : (H == 15) = false := by simpa using h15
            have hT := take_any HAQ.out.fl HAQ.out.ok H HH1.out.1 HH1.out.2
            have HT := Lib.hid hT
            clear hT
            go_wp2_with (first | (go_at_call 54; (with_reducible refine HT.out.mono ?_); rintro e w5 ⟨⟨v', rfl⟩, hb5, ht5⟩; have HB5 := Lib.hid hb5; have HT5 := Lib.hid ht5; clear hb5 ht5) | fail)
            have hfn := HAQ.out.took hgr hap HB5.out HT5.out (takeF_ok HAQ.out.ok HH1.out.1)
            have HFN := Lib.hid hfn
            clear hfn
            go_roundg 1
            case rel => exact ⟨by omega, rfl, Lib.hid ⟨fun _ => h15, fun h => absurd h (by omega)⟩, Lib.hid (by simpa using HFN.out)⟩
            case measure => omega
        · rw [show ((2 - 1 : Nat) : Int) = 1 from rfl]
          have hH15 := HNE.out.1 (by omega)
          by_cases h15 : L = 15
          · have hS := HSS.out
            rw [if_neg hH15, if_pos h15] at hS
            have hfin : HalvesR w r g bs p A c f (.returned (.bool true)) wr := by
              refine ⟨_, _, ?_, HAQ.out⟩
              have hd := HD.out.2
              rw [hS] at hd
              rw [hd]
              simp
              have := HD.out.1
              omega
            have HFI := Lib.hid hfin
            clear hfin hS
            go_wp2_with fail
            go_ret
            exact HFI.out
          · have h15b : (L == 15) = false := by simpa using h15
            have hT := take_any HAQ.out.fl HAQ.out.ok L HL1.out.1 HL1.out.2
            have HT := Lib.hid hT
            clear hT
            go_wp2_with (first | (go_at_call 54; (with_reducible refine HT.out.mono ?_); rintro e w5 ⟨⟨v', rfl⟩, hb5, ht5⟩; have HB5 := Lib.hid hb5; have HT5 := Lib.hid ht5; clear hb5 ht5) | fail)
            have hfn := HAQ.out.took hgr hap HB5.out HT5.out (takeF_ok HAQ.out.ok HL1.out.1)
            have HFN := Lib.hid hfn
            clear hfn
            go_roundg 0
            case rel => exact ⟨by omega, rfl, Lib.hid ⟨fun _ => hH15, fun _ => h15⟩, Lib.hid (by simpa using HFN.out)⟩
            case measure => omega
        · rw [show ((2 - 0 : Nat) : Int) = 2 from rfl]
          have hdn := done_next HD.out HBQ.out (by rw [HHL.out.1]; exact HNE.out.1 (by omega)) (by rw [HHL.out.2]; exact HNE.out.2 rfl)
          rw [HHL.out.1, HHL.out.2] at hdn
          have HDN := Lib.hid hdn
          clear hdn
          go_wp2_with fail
          go_roundg (bs.length - (q + 1))
          case rel => exact ⟨q + 1, pre ++ [H] ++ [L], rfl, HDN, Lib.hid (by simpa using HAQ.out)⟩
          case measure => omega
    · have hqe : q = bs.length := by omega
      have hle : (bs.length : Int) - q = 0 := by omega
      have KL2 : Calls Try.prog 22 #[.pointer (some ⟨r, 0, none⟩)] wr fun e w' => e = .returned (.int .i64 0) ∧ Below wr.heap.size wr w' := by
        have := KL
        simp only [Bool.false_eq_true, if_false, hle] at this
        exact this
      have HKL := Lib.hid KL2
      have hnone : realS (bs.drop p) = none := by
        rw [HD.out.2, hqe, List.drop_length]
        rfl
      have HNN := Lib.hid hnone
      clear KL KL2 hle hnone
      go_wp2_with (first
        | (go_at_call 22; (with_reducible refine HKL.out.mono ?_); rintro e w1 ⟨rfl, hb1⟩; have HB1 := Lib.hid hb1; clear hb1)
        | fail)
      go_ret
      refine ⟨_, q, ?_, ⟨HF.out.rd.keep HB1.out, HF.out.fl.below HB1.out (Blk.lt HF.out.fl), HF.out.ok, HF.out.tn.call HB1.out⟩⟩
      rw [HNN.out]
      rfl
end Go.Proofs.Ytoofjkhigonppaa
