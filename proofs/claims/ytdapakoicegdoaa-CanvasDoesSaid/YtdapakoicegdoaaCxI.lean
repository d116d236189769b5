/-
  Law CanvasDoes: the walk over all calls.
-/
import Derived.Test.YtdapakoicegdoaaCxH
namespace Go.Proofs.Ytdapakoicegdoaa
open Go.RowKit

section
variable {T : TypeId} {w w' : World} {g k W H c : Nat} {bs : List UInt8}
theorem Cv.turn2 {a b : Nat} (h : Cv T w g k W H c bs) (ht : Turn w w' a (some b)) (h1 : g ≠ a) (h2 : g ≠ b) (h3 : k ≠ a) (h4 : k ≠ b) : Cv T w' g k W H c bs :=
  ⟨ht.blk h.blk h1 (fun e => by injection e; contradiction), (let ⟨ex, hb⟩ := h.byt; ⟨ex, ht.blk hb h3 (fun e => by injection e; contradiction)⟩), h.len, h.w1, h.h1, h.cap, h.ne⟩
theorem pxF_out {x y : Int} (h : ¬ (0 ≤ x ∧ x < W ∧ 0 ≤ y ∧ y < H)) : pxF W H bs x y = 0 := if_neg h
end
theorem turn_drewL' {w w' : World} {g : Nat} {row : Option Nat} (h : Turn w.drew w' g row) : Turn w w' g row := ⟨h.os, h.tape, h.output, h.size, h.block⟩
/-- What holds at each round: both canvases bear the same bytes. -/
structure Du (W H : Nat) (w0 wr : World) (g k c g' k' c' : Nat) (bs : List UInt8) : Prop where
  v : Cv 102 wr g k W H c bs
  x : Cv 54 wr g' k' W H c' bs
  bel : Bel w0.heap.size w0 wr
theorem Du.keep {W H : Nat} {w0 wr w' : World} {g k c g' k' c' : Nat} {bs : List UInt8} (h : Du W H w0 wr g k c g' k' c' bs) (hb : Below wr.heap.size wr w') : Du W H w0 w' g k c g' k' c' bs :=
  ⟨h.v.keep hb, h.x.keep hb, bel_call hb h.bel⟩

set_option maxRecDepth 20000 in
set_option maxHeartbeats 8000000 in
theorem does_ok {w : World} {W H : Nat} {col : Int} {A : Option Addr} {c : Nat} {os : List Cl} (hA : CallsAt w A os) (hnew : newB W H col = true) (hm : ((W : Int) * H) ≤ 10000) :
    Calls Try.prog 6 #[.int .i64 W, .int .i64 H, .int .i64 col, .slice A os.length c] w fun e w' =>
      e = .returned (.bool true) ∧ Below w.heap.size w w' := by
  obtain ⟨nn, hnn, -, -, -, ha1, ha2, hb1, hb2, -, -⟩ := new_nums hnew
  have hq0 : IntKind.i64.wrap ((W : Int) * H) = nn := by rw [hnn]; exact IntWalk.i64_in _ (by omega)
  have hq1 : (nn : Int) ≤ 10000 := by omega
  have K1 := fun w => New_yes w W H col hnew
  have K2 := fun w => rNew_yes w W H col hnew
  have K3 := fun w => ret26_May W H col w
  rw [hnew] at K3
  simp only [Int.toNat_natCast] at K1 K2
  generalize List.replicate (H * W) (byt col) = bs0 at K1 K2
  replace K1 := Lib.hid K1
  replace K2 := Lib.hid K2
  replace K3 := Lib.hid K3
  have HA := Lib.hid hA
  clear hnew hm hA hnn
  go_enter Try.func6, Try.ntmps6
  go_wp2_with (first
    | (go_at_call 15; (with_reducible refine (K1.out _).mono ?_); rintro e w1 ⟨g, k, c1, rfl, hg, hk, hc1, hb1⟩
       have HC1 := Lib.hid hc1
       have HB1 := Lib.hid (Bel.mk hb1 hb1.size)
       clear hc1 hb1)
    | (go_at_call 14; (with_reducible refine (lives_any _).mono ?_); rintro e w2 ⟨rfl, hb2⟩
       have HC2 := Lib.hid (HC1.out.keep hb2)
       have HB2 := Lib.hid (bel_call hb2 HB1.out)
       clear hb2 HC1 HB1)
    | (go_at_call 25; (with_reducible refine (K3.out _).mono ?_); rintro e w3 ⟨rfl, rfl⟩)
    | (go_at_call 26; have hl1 := HC2.out.blk.lt; have hl2 := HC2.out.byt.lt; (with_reducible refine (K2.out _).mono ?_); rintro e w4 ⟨g', k', c2, rfl, hg', hk', hc4, hb4⟩
       have HD : Hid (Du W H w w4 g k c1 g' k' c2 bs0) := Lib.hid ⟨HC2.out.keep hb4, hc4, bel_call hb4 HB2.out⟩
       have hgk : g' ≠ k := by omega
       have hkg : g ≠ k' := by omega
       have hkk : k ≠ k' := by omega
       have hkw : w.heap.size ≤ k := by omega
       have hkw' : w.heap.size ≤ k' := by have := HB2.out.le; omega
       clear hc4 hb4 HC2 HB2 hl1 hl2 hg hk hg' hk'))
  clear hq0 hq1 K1 K2 K3
  go_loopw [12] (fun x wr => ∃ i : Nat, i ≤ os.length ∧ x = .int .i64 i ∧ ∃ bs, Hid (Du W H w wr g k c1 g' k' c2 bs)) (fun x _ => os.length - (intOf x).toNat)
  case atStart => exact ⟨0, Nat.zero_le _, rfl, _, HD⟩
  case round =>
    obtain ⟨i, hi, rfl, bs, HR⟩ := hrel
    by_cases hlt : i < os.length ∧ i < 40
    · obtain ⟨hlt, h40⟩ := hlt
      obtain ⟨o, ho⟩ : ∃ o, os[i]? = some o := ⟨os[i], List.getElem?_eq_getElem hlt⟩
      obtain ⟨b, off, hAe, hbl, hcell, hms⟩ := HA.out i o ho
      subst hAe
      have c5 : wr.cell? ⟨b, off + i * 13 + 5, none⟩ = some (.slice o.A o.ms.length o.cm) := by
        rw [HR.out.bel.below.cell (p := ⟨b, off + i * 13 + 5, none⟩) hbl, Nat.add_assoc]
        exact hcell 5 _ rfl
      have HCE := Lib.hid hcell
      have HMS := Lib.hid hms
      clear hcell hms ho
      by_cases hbig : 16384 < o.ms.length
      · have hbig' : (16384 : Int) < o.ms.length := by omega
        go_wp2_with fail
        go_roundw
        case rel => exact ⟨i + 1, by omega, by go_num, _, HR⟩
        case measure => simp [intOf]; omega
      · have hbig' : (o.ms.length : Int) ≤ 16384 := by omega
        have hi40 : (i : Int) < 40 := by omega
        go_wp2_with (first
          | (go_at_call 23; (with_reducible refine (cvBytes HR.out.v).mono ?_); rintro e w1 ⟨b1, c1', rfl, hb1, hB1, hl1, hbe1⟩
             have hq1 : ∀ c, _ := hB1.sl.aft _ (aft_refl (W := w1))
             have HR1 := Lib.hid (HR.out.keep hbe1)
             clear hbe1 hB1)
          | (go_at_call 27; (with_reducible refine (cvFork HR1.out.v).mono ?_); rintro e w3 ⟨g3, k3, c3, rfl, hg3, hk3, hf3, hbe3⟩
             have HF3 := Lib.hid hf3
             have HR3 := Lib.hid (HR1.out.keep hbe3)
             have hs1 := HR1.out.bel.le
             have hl1 := HR1.out.v.blk.lt
             have hl2 := HR1.out.v.byt.lt
             have hl3 := HR1.out.x.blk.lt
             have hl4 := HR1.out.x.byt.lt
             clear hf3 hbe3))
        have hkl3 : k < w3.heap.size := HR3.out.v.byt.lt
        have hkl3' : k' < w3.heap.size := HR3.out.x.byt.lt
        have kc0 : ∀ u, Turn w3 u k (some k') → u.cell? ⟨b, off + i * 13, none⟩ = some (.int .i64 o.k) := fun u hu => by rw [World.cell?_of_block (w := w3) (w' := u) (hu.block b (by omega) (by omega) (by simp; omega)), HR3.out.bel.below.cell (p := ⟨b, _, none⟩) hbl]; simpa only [Nat.add_assoc, Nat.add_zero] using HCE.out 0 _ rfl
        have kc1 : ∀ u, Turn w3 u k (some k') → u.cell? ⟨b, off + i * 13 + 1, none⟩ = some (.int .i64 o.m0) := fun u hu => by rw [World.cell?_of_block (w := w3) (w' := u) (hu.block b (by omega) (by omega) (by simp; omega)), HR3.out.bel.below.cell (p := ⟨b, _, none⟩) hbl]; simpa only [Nat.add_assoc, Nat.add_zero] using HCE.out 1 _ rfl
        have kc2 : ∀ u, Turn w3 u k (some k') → u.cell? ⟨b, off + i * 13 + 2, none⟩ = some (.int .i64 o.m1) := fun u hu => by rw [World.cell?_of_block (w := w3) (w' := u) (hu.block b (by omega) (by omega) (by simp; omega)), HR3.out.bel.below.cell (p := ⟨b, _, none⟩) hbl]; simpa only [Nat.add_assoc, Nat.add_zero] using HCE.out 2 _ rfl
        have kc3 : ∀ u, Turn w3 u k (some k') → u.cell? ⟨b, off + i * 13 + 3, none⟩ = some (.int .i64 o.m2) := fun u hu => by rw [World.cell?_of_block (w := w3) (w' := u) (hu.block b (by omega) (by omega) (by simp; omega)), HR3.out.bel.below.cell (p := ⟨b, _, none⟩) hbl]; simpa only [Nat.add_assoc, Nat.add_zero] using HCE.out 3 _ rfl
        have kc4 : ∀ u, Turn w3 u k (some k') → u.cell? ⟨b, off + i * 13 + 4, none⟩ = some (.int .i64 o.m3) := fun u hu => by rw [World.cell?_of_block (w := w3) (w' := u) (hu.block b (by omega) (by omega) (by simp; omega)), HR3.out.bel.below.cell (p := ⟨b, _, none⟩) hbl]; simpa only [Nat.add_assoc, Nat.add_zero] using HCE.out 4 _ rfl
        have kc5 : ∀ u, Turn w3 u k (some k') → u.cell? ⟨b, off + i * 13 + 5, none⟩ = some (.slice o.A o.ms.length o.cm) := fun u hu => by rw [World.cell?_of_block (w := w3) (w' := u) (hu.block b (by omega) (by omega) (by simp; omega)), HR3.out.bel.below.cell (p := ⟨b, _, none⟩) hbl]; simpa only [Nat.add_assoc, Nat.add_zero] using HCE.out 5 _ rfl
        have kc6 : ∀ u, Turn w3 u k (some k') → u.cell? ⟨b, off + i * 13 + 6, none⟩ = some (.int .i64 o.b0) := fun u hu => by rw [World.cell?_of_block (w := w3) (w' := u) (hu.block b (by omega) (by omega) (by simp; omega)), HR3.out.bel.below.cell (p := ⟨b, _, none⟩) hbl]; simpa only [Nat.add_assoc, Nat.add_zero] using HCE.out 6 _ rfl
        have kc7 : ∀ u, Turn w3 u k (some k') → u.cell? ⟨b, off + i * 13 + 7, none⟩ = some (.int .i64 o.b1) := fun u hu => by rw [World.cell?_of_block (w := w3) (w' := u) (hu.block b (by omega) (by omega) (by simp; omega)), HR3.out.bel.below.cell (p := ⟨b, _, none⟩) hbl]; simpa only [Nat.add_assoc, Nat.add_zero] using HCE.out 7 _ rfl
        have kc8 : ∀ u, Turn w3 u k (some k') → u.cell? ⟨b, off + i * 13 + 8, none⟩ = some (.int .i64 o.b2) := fun u hu => by rw [World.cell?_of_block (w := w3) (w' := u) (hu.block b (by omega) (by omega) (by simp; omega)), HR3.out.bel.below.cell (p := ⟨b, _, none⟩) hbl]; simpa only [Nat.add_assoc, Nat.add_zero] using HCE.out 8 _ rfl
        have kc9 : ∀ u, Turn w3 u k (some k') → u.cell? ⟨b, off + i * 13 + 9, none⟩ = some (.int .i64 o.b3) := fun u hu => by rw [World.cell?_of_block (w := w3) (w' := u) (hu.block b (by omega) (by omega) (by simp; omega)), HR3.out.bel.below.cell (p := ⟨b, _, none⟩) hbl]; simpa only [Nat.add_assoc, Nat.add_zero] using HCE.out 9 _ rfl
        have kc10 : ∀ u, Turn w3 u k (some k') → u.cell? ⟨b, off + i * 13 + 10, none⟩ = some (.int .i64 o.x) := fun u hu => by rw [World.cell?_of_block (w := w3) (w' := u) (hu.block b (by omega) (by omega) (by simp; omega)), HR3.out.bel.below.cell (p := ⟨b, _, none⟩) hbl]; simpa only [Nat.add_assoc, Nat.add_zero] using HCE.out 10 _ rfl
        have kc11 : ∀ u, Turn w3 u k (some k') → u.cell? ⟨b, off + i * 13 + 11, none⟩ = some (.int .i64 o.y) := fun u hu => by rw [World.cell?_of_block (w := w3) (w' := u) (hu.block b (by omega) (by omega) (by simp; omega)), HR3.out.bel.below.cell (p := ⟨b, _, none⟩) hbl]; simpa only [Nat.add_assoc, Nat.add_zero] using HCE.out 11 _ rfl
        have kc12 : ∀ u, Turn w3 u k (some k') → u.cell? ⟨b, off + i * 13 + 12, none⟩ = some (.int .i64 o.c) := fun u hu => by rw [World.cell?_of_block (w := w3) (w' := u) (hu.block b (by omega) (by omega) (by simp; omega)), HR3.out.bel.below.cell (p := ⟨b, _, none⟩) hbl]; simpa only [Nat.add_assoc, Nat.add_zero] using HCE.out 12 _ rfl
        have kb : ∀ u, Turn w3 u k (some k') → u.cell? ⟨g', 2, none⟩ = some (.slice (some ⟨k', 0, none⟩) bs.length c2) := fun u hu => (hu.blk HR3.out.x.blk hgk (by have := HR3.out.x.ne; simp; exact this)).cell 2
        have HT3 : Hid (Turn w3 w3.drew k (some k')) := Lib.hid (Turn.of_below aft_drew)
        have KD := do_any (HR3.out.v.drew) (HR3.out.x.drew) hgk hkg hkk ((HMS.out.keep HR3.out.bel.below).keep (bel_drew bel_refl).below) (fun h0 b' hb' => by have := HMS.out.row h0 b' hb'; constructor <;> omega)
        unfold Cl.val at KD
        replace KD := Lib.hid KD
        go_region_held (fun u => Turn w3 u k (some k')) (first | (with_reducible exact HT3.out) | (with_reducible exact HT4.out) | (with_reducible exact HT5.out) | (with_reducible exact HT6.out))
          (first
            | (go_at_call 28; (with_reducible refine KD.out.mono ?_); rintro e w4 ⟨rfl, bs', hv4, hx4, ht4⟩
               have HT4 := Lib.hid (turn_drewL' ht4)
               have hlen : bs'.length = bs.length := by rw [hv4.len, HR3.out.v.len]
               have hqx4 : ∀ c, (convert 24 9 (.slice (some ⟨k', 0, none⟩) bs.length c)).run Try.prog w4 = .ok (.string (strB bs')) w4 := by rw [← hlen]; exact hx4.rd.sl.aft _ aft_refl
               have HX4 := Lib.hid hx4.rd
               have HLEN := Lib.hid hlen
               have HR4 : Hid (Du W H w w4 g k c1 g' k' c2 bs') := Lib.hid ⟨hv4, hx4, ⟨HR3.out.bel.below.trans (HT4.out.below HR3.out.bel.le hkw (fun q e => by injection e with e; omega)), Nat.le_trans HR3.out.bel.le HT4.out.size⟩⟩
               have HF4 := Lib.hid (HF3.out.turn2 HT4.out (by omega) (by omega) (by omega) (by omega))
               clear hv4 hx4 ht4 hlen)
            | (go_at_call 23; (with_reducible refine (cvBytes HR4.out.v).mono ?_); rintro e w5 ⟨b5, c5', rfl, hb5, hB5, hl5, hbe5⟩
               have hq5 : ∀ c, _ := hB5.sl.aft _ (aft_refl (W := w5))
               have hqx5 : ∀ c, (convert 24 9 (.slice (some ⟨k', 0, none⟩) bs.length c)).run Try.prog w5 = .ok (.string (strB bs')) w5 := by rw [← HLEN.out]; exact HX4.out.sl.aft _ hbe5
               have HT5 : Hid (Turn w3 w5 k (some k')) := Lib.hid (HT4.out.trans (Turn.of_below (g := k) (row := some k') hbe5) (.inl rfl))
               have HR5 := Lib.hid (HR4.out.keep hbe5)
               have HF5 := Lib.hid (HF4.out.keep hbe5)
               clear hbe5 hB5)
            | (go_at_call 23; (with_reducible refine (cvBytes HF5.out).mono ?_); rintro e w6 ⟨b6, c6', rfl, hb6, hB6, hl6, hbe6⟩
               have hq6 : ∀ c, _ := hB6.sl.aft _ (aft_refl (W := w6))
               have HT6 : Hid (Turn w3 w6 k (some k')) := Lib.hid (HT5.out.trans (Turn.of_below (g := k) (row := some k') hbe6) (.inl rfl))
               have HR6 := Lib.hid (HR5.out.keep hbe6)
               clear hbe6 hB6))
        all_goals
          go_wp2_with fail
          go_roundw
          case rel => exact ⟨i + 1, by omega, by go_num, _, HR6⟩
          case measure => simp [intOf]; omega
    · have hex : ((os.length : Int) ≤ i) ∨ ((i : Int) < os.length ∧ (40 : Int) ≤ i) := by omega
      have HS := Lib.hid (cvSize HR.out.v)
      have KA := fun (w' : World) (hb : Aft wr w') x y => cvAt (HR.out.keep (w' := w') hb).v x y
      have KX := fun (w' : World) (hb : Aft wr w') x y => rcvAt (HR.out.keep (w' := w') hb).x x y
      replace KA := Lib.hid KA
      replace KX := Lib.hid KX
      have p1 : pxF W H bs W 0 = 0 := pxF_out (by omega)
      have p2 : pxF W H bs (-1) 0 = 0 := pxF_out (by omega)
      generalize hpx : pxF W H bs = px at KA KX p1 p2
      clear hpx hlt
      rcases hex with hx1 | ⟨hx1, hx2⟩
      all_goals
        go_wp2_with (first
          | (go_at_call 29; (with_reducible refine HS.out.mono ?_); rintro e w1 ⟨rfl, hb1⟩; have HB1 : Hid (Aft wr w1) := Lib.hid hb1; clear hb1)
          | (go_at_call 17; (with_reducible refine (KA.out _ HB1.out _ _).mono ?_); rintro e w1 ⟨rfl, hb1⟩; replace HB1 := Lib.hid (Aft.call HB1.out hb1); clear hb1)
          | (go_at_call 30; (with_reducible refine (KX.out _ HB1.out _ _).mono ?_); rintro e w2 ⟨rfl, nq, hnq⟩; replace HB1 : Hid (Aft wr w2) := Lib.hid (by subst hnq; exact Aft.call HB1.out (bel_drewN bel_refl).below); clear hnq))
        go_ret
        exact ⟨rfl, (Aft.bel HB1.out HR.out.bel).below⟩

end Go.Proofs.Ytdapakoicegdoaa
