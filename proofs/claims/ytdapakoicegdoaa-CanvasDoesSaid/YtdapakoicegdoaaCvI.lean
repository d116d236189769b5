/-
  The functions that Blend and Fill hand to rows.
-/
import Derived.Test.YtdapakoicegdoaaCvH
namespace Go.Proofs.Ytdapakoicegdoaa
open Go.RowKit

theorem mixI_bd {d c m : Int} (hd : 0 ≤ d ∧ d ≤ 255) (hc : 0 ≤ c ∧ c ≤ 255) (hm : 0 ≤ m ∧ m ≤ 255) : 0 ≤ mixI d c m ∧ mixI d c m ≤ 255 := by
  have h1 := mul_le255 (a := d) (b := 255 - m) hd.1 hd.2 (by omega) (by omega)
  have h2 := mul_le255 (a := c) (b := m) hc.1 hc.2 hm.1 hm.2
  have h3 : d * (255 - m) ≤ 255 * (255 - m) := Int.mul_le_mul_of_nonneg_right hd.2 (by omega)
  have h4 : c * m ≤ 255 * m := Int.mul_le_mul_of_nonneg_right hc.2 hm.1
  unfold mixI
  generalize d * (255 - m) = p at *
  generalize c * m = q at *
  omega
def blendB (c : Int) (k d : UInt8) : UInt8 := byt (mixI d.toNat c k.toNat)
theorem blendB_val {c : Int} (hc : 0 ≤ c ∧ c ≤ 255) (k d : UInt8) : ((blendB c k d).toNat : Int) = mixI d.toNat c k.toNat := by
  refine byt_val (byteB_true.2 (mixI_bd ?_ hc ?_))
  · exact ⟨Int.natCast_nonneg _, u8_le d⟩
  · exact ⟨Int.natCast_nonneg _, u8_le k⟩
def blendF (c : Int) (ms : List UInt8) (q : Nat) (i : Nat) (d : UInt8) : UInt8 := blendB c (ms[q + i]?.getD 0) d

set_option maxRecDepth 20000 in
set_option maxHeartbeats 4000000 in
theorem blend1 {w0 : World} {k lo n cc B3 B4 B5 B6 L cm mb mo q : Nat} {bs0 ms : List UInt8} {b0 b1 b2 b3 m0 m1 m2 m3 wd c x y : Int} (hB : Byt w0 k bs0) (hlo : lo + n ≤ bs0.length) (hn : 1 ≤ n) (hbs : bs0.length ≤ 16777216) (hcc : n ≤ cc)
    (h3 : Blk w0 B3 23 [.int .i64 b0, .int .i64 b1, .int .i64 b2, .int .i64 b3]) (h4 : Blk w0 B4 3 [.int .i64 wd]) (h5 : Blk w0 B5 26 [.int .i64 m0, .int .i64 m1, .int .i64 m2, .int .i64 m3, .slice (some ⟨mb, mo, none⟩) L cm])
    (h6 : Blk w0 B6 3 [.int .i64 c]) (hm : SlAt w0 (some ⟨mb, mo, none⟩) L (ms.map byteV)) (hne : mb ≠ k) (n6 : B6 ≠ k) (hL : L ≤ cm) (hL2 : L ≤ 16777216)
    (hq : (y - b1) * wd + x - b0 = q) (hqn : q + n ≤ L) (hc : 0 ≤ c ∧ c ≤ 255) (hy : -8388608 ≤ y - b1 ∧ y - b1 ≤ 8388608) (hb0 : -8388608 ≤ b0 ∧ b0 ≤ 8388608) (hx : 0 ≤ x ∧ x ≤ 8388608) :
    Calls Try.prog 61 #[.slice (some ⟨k, lo, none⟩) n cc, .int .i64 x, .int .i64 y, .pointer (some ⟨B3, 0, none⟩), .pointer (some ⟨B4, 0, none⟩), .pointer (some ⟨B5, 0, none⟩), .pointer (some ⟨B6, 0, none⟩)] w0 fun e w' =>
      e = .returned (.tuple #[]) ∧ Byt w' k (rowG (blendF c ms q) bs0 lo n) ∧ Turn w0 w' k none := by
  obtain ⟨p, hp⟩ : ∃ p, (y - b1) * wd = p := ⟨_, rfl⟩
  rw [hp] at hq
  have hwp : wrap64 ((y - b1) * wd) = p := by rw [hp]; exact IntWalk.wrap64_in _ (by omega)
  have hpb : -16777216 ≤ p ∧ p ≤ 33554432 := by omega
  have hsl : ∀ u : World, (Instr.slice 24 (.slice (some ⟨mb, mo, none⟩) L cm) (some (.int .i64 (p + x - b0))) (some (.int .i64 (p + x - b0 + n))) none).run Try.prog u = .ok (.slice (some ⟨mb, mo + q, none⟩) n (cm - q)) u := fun u => by
    rw [run_sl_lh u mb mo L cm q (q + n) _ _ (by omega) (by omega) (by omega) (by omega) (by omega), Nat.add_sub_cancel_left]
  have hbl : (bs0.length : Int) ≤ 16777216 := by omega
  have hq1 : p + x - b0 + n ≤ 33554432 := by omega
  have hq0 : 0 ≤ p + x - b0 := by omega
  have k3 := h3.cell 0
  have k3' := h3.cell 1
  have k4 := h4.cell 0
  have k5 : w0.cell? ⟨B5, 4, none⟩ = some (.slice (some ⟨mb, mo, none⟩) L cm) := h5.cell 4
  simp at k3 k3' k4
  have HB := Lib.hid hB
  have H6 := Lib.hid h6
  have HM := Lib.hid hm
  have HNs : Hid (lo + n ≤ bs0.length ∧ q + n ≤ L ∧ n ≤ 16777216) := Lib.hid ⟨hlo, hqn, by omega⟩
  have hni : (n : Int) ≤ 16777216 := by omega
  clear hB h3 h4 h5 h6 hm hp hq hlo hqn hL hL2 hbs
  go_enter Try.func61, Try.ntmps61
  go_wp2_with fail
  clear k3 k3' k4 k5 hwp hpb hsl hq1 hq0 hy hb0
  go_loopw [33] (fun i wr => ∃ j : Nat, j ≤ n ∧ i = .int .i64 j ∧ Hid (Byt wr k (rowG (blendF c ms q) bs0 lo j)) ∧ Hid (Turn w0 wr k none)) (fun i _ => n - (intOf i).toNat)
  case atStart => exact ⟨0, Nat.zero_le _, rfl, HB, Lib.hid (Turn.refl _ _ _)⟩
  case round =>
    obtain ⟨j, hj, rfl, HJ, HT⟩ := hrel
    by_cases hlt : j < n
    · obtain ⟨hA, hQ, _⟩ := HNs.out
      have hlen := rowG_len (blendF c ms q) bs0 lo j
      have kd := HJ.out.cell (lo + j) (by omega)
      have fd := HJ.out.frozen (lo + j)
      obtain ⟨d, hd⟩ : ∃ d, (rowG (blendF c ms q) bs0 lo j)[lo + j]?.getD 0 = d := ⟨_, rfl⟩
      rw [hd] at kd
      obtain ⟨b', o', he, hbm, hcm⟩ := HM.out.2 (q + j) (by omega)
      injection he with he
      injection he with e1 e2
      subst e1 e2
      have hml : q + j < ms.length := by have := HM.out.1; simp at this; omega
      obtain ⟨u, hu⟩ : ∃ u, ms[q + j]?.getD 0 = u := ⟨_, rfl⟩
      have km : wr.cell? ⟨mb, mo + q + j, none⟩ = some (.int .u8 u.toNat) := by
        rw [World.cell?_of_block (w := w0) (w' := wr) (HT.out.block mb hbm hne (fun e => by cases e)), Nat.add_assoc, hcm, List.getElem?_map, List.getElem?_eq_getElem hml, ← hu, List.getElem?_eq_getElem hml]
        rfl
      have kc : wr.cell? ⟨B6, 0, none⟩ = some (.int .i64 c) := (HT.out.blk H6.out n6 (fun e => by cases e)).cell 0
      unfold byteV at kd
      have bd := u8_le d
      have bu := u8_le u
      have HV := Lib.hid (blendB_val hc u d)
      have hvb := mixI_bd (d := d.toNat) (c := c) (m := u.toNat) ⟨Int.natCast_nonneg _, bd⟩ hc ⟨Int.natCast_nonneg _, bu⟩
      have KX := Lib.hid (fun w => mix_any d.toNat c u.toNat w ⟨Int.natCast_nonneg _, bd⟩ hc ⟨Int.natCast_nonneg _, bu⟩)
      obtain ⟨v, hv⟩ : ∃ v, mixI d.toNat c u.toNat = v := ⟨_, rfl⟩
      rw [hv] at hvb HV KX
      have hw8 : IntKind.u8.wrap v = v := by rw [IntKind.wrap_u8]; omega
      have HD := Lib.hid hd
      have HU := Lib.hid hu
      have i0 : (Nat.cast j : Int).toNat = j := Int.toNat_natCast j
      clear hd hu hv hlen hA hQ hbm hcm hml
      go_wp2_with fail
      refine wp_region_drew_tail 13 (by kernel_rfl) (by kernel_rfl) ?_
      simp only [List.take_succ_cons, List.take_zero, List.drop_succ_cons, List.drop_zero]
      repeat (go_big_quiet_step (first | (go_at_call 62; exact Calls.q_left (KX.out _))))
      refine wpQuiet_nil ?_
      rintro _ ⟨nq, rfl⟩
      go_wp2_with fail
      have e : Value.int .u8 v = byteV (blendB c u d) := by unfold byteV; rw [HV.out]
      rw [e]
      go_roundw
      case rel =>
        refine ⟨j + 1, by omega, by go_num, Lib.hid ?_, Lib.hid ((HT.out.drewN nq).set (lo + j) _)⟩
        rw [rowG, HD.out, blendF, HU.out]
        exact (HJ.out.drewN nq).set (lo + j) _ (by rw [rowG_len]; have := HNs.out; omega)
      case measure => simp [intOf]; omega
    · obtain rfl : j = n := by omega
      go_wp2
      with_reducible refine bodyPost_end (v := .tuple #[]) (by simp [results, Try.results61]) rfl ?_
      exact ⟨rfl, HJ.out, HT.out⟩

theorem rowG_const (u : UInt8) (bs : List UInt8) (lo n : Nat) (h : lo + n ≤ bs.length) : rowG (fun _ _ => u) bs lo n = bs.take lo ++ (List.replicate n u ++ bs.drop (lo + n)) := by
  apply List.ext_getElem?
  intro i
  rcases Nat.lt_or_ge i lo with h1 | h1
  · rw [rowG_out _ _ _ _ _ (.inl h1), List.getElem?_append_left (by simp; omega), List.getElem?_take, if_pos h1]
  · rcases Nat.lt_or_ge i (lo + n) with h2 | h2
    · rw [rowG_in _ _ _ _ _ h1 h2 h, List.getElem?_append_right (by simp; omega), List.getElem?_append_left (by simp; omega)]
      simp [List.getElem?_replicate]
      omega
    · rw [rowG_out _ _ _ _ _ (.inr h2), List.getElem?_append_right (by simp; omega), List.getElem?_append_right (by simp; omega), List.getElem?_drop]
      congr 1
      simp
      omega
theorem byt_splice {w : World} {k lo n : Nat} {bs : List UInt8} {ex : List Value} {u : UInt8} (hlo : lo + n ≤ bs.length) (h : Blk w k 5 (splice (bs.map byteV ++ ex) lo (List.replicate n (byteV u)))) : Byt w k (rowG (fun _ _ => u) bs lo n) := by
  refine ⟨ex, ?_⟩
  rw [rowG_const u bs lo n hlo]
  have e : splice (bs.map byteV ++ ex) lo (List.replicate n (byteV u)) = (bs.take lo ++ (List.replicate n u ++ bs.drop (lo + n))).map byteV ++ ex := by
    unfold splice
    rw [List.length_replicate, List.take_append_of_le_length (by simp; omega), List.drop_append_of_le_length (by simp; omega)]
    simp
  rw [← e]
  exact h

set_option maxRecDepth 20000 in
set_option maxHeartbeats 4000000 in
theorem fill1 {w0 : World} {k lo n cc T8 LB W : Nat} {bs0 : List UInt8} {u : UInt8} {x y : Int} (hB : Byt w0 k bs0) (hlo : lo + n ≤ bs0.length) (hn : n ≤ W)
    (h8 : Blk w0 T8 24 [.slice (some ⟨LB, 0, none⟩) W W]) (hl : Blk w0 LB 5 (List.replicate W (byteV u))) :
    Calls Try.prog 74 #[.slice (some ⟨k, lo, none⟩) n cc, .int .i64 x, .int .i64 y, .pointer (some ⟨T8, 0, none⟩)] w0 fun e w' =>
      e = .returned (.tuple #[]) ∧ Byt w' k (rowG (fun _ _ => u) bs0 lo n) ∧ Turn w0 w' k none := by
  obtain ⟨ex, hE⟩ := hB
  have k8 : w0.cell? ⟨T8, 0, none⟩ = some (.slice (some ⟨LB, 0, none⟩) W W) := h8.cell 0
  have HE := Lib.hid hE
  have HL := Lib.hid hl
  have HN := Lib.hid hn
  have HLO := Lib.hid hlo
  clear hE hl hn hlo h8
  go_enter Try.func74, Try.ntmps74
  go_wp2_with ((with_reducible refine mark_op 9 ?_); refine wpList_copy_blk rfl (.tmp 7) (.tmp 8) rfl rfl rfl HE.out lo (List.replicate n (byteV u)) ?_ ?_ ?_ ?_ ?_ ?_; (· rw [List.length_replicate]; have := HN.out; omega); (· intro _; rfl); (· intro j hj; rw [List.length_replicate] at hj; refine ⟨LB, 0, rfl, ?_⟩; rw [Nat.zero_add, HL.out.cell]; rw [List.getElem?_replicate, List.getElem?_replicate, if_pos (by have := HN.out; omega), if_pos hj]); (· rw [List.length_replicate, List.length_append, List.length_map]; have := HLO.out; omega); (· intro v hv; rw [List.mem_replicate] at hv; rw [hv.2]; rfl); intro w1 hb1 ht1; have HB1 := Lib.hid hb1; have HT1 := Lib.hid ht1; clear hb1 ht1)
  with_reducible refine bodyPost_end (v := .tuple #[]) (by simp [results, Try.results74]) rfl ?_
  exact ⟨rfl, byt_splice HLO.out HB1.out, HT1.out⟩

end Go.Proofs.Ytdapakoicegdoaa
