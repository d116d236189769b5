/-
  Layer 08: the words of format 4, part by part.
-/
import Derived.Test.YtlbfefdmbdjjcaaCmQ
namespace Go.Proofs.Ytlbfefdmbdjjcaa
open Go.RowKit

/-- Parts in memory, in a box of their own; their slices lie below block B. -/
structure Pb (B : Nat) (w : World) (b4 : Nat) (Ap : Option Addr) (m cp : Nat) (vs : List Value) (pl : List (List Pr)) : Prop where
  blk : Blk w b4 90 [.slice Ap m cp]
  sl : SlAt w Ap m vs
  zp : Zp B w vs pl
  ne : ∀ ps ∈ pl, 0 < ps.length ∧ ps.length ≤ 8192 ∧ PB ps
  le : B ≤ w.heap.size
  m1 : m ≤ 8193
theorem Pb.keep {B : Nat} {w w' : World} {b4 : Nat} {Ap : Option Addr} {m cp : Nat} {vs : List Value} {pl : List (List Pr)} (h : Pb B w b4 Ap m cp vs pl) (hb : Below w.heap.size w w') : Pb B w' b4 Ap m cp vs pl :=
  ⟨h.blk.below hb h.blk.lt, h.sl.keep hb, h.zp.keep (hb.mono h.le), h.ne, Nat.le_trans h.le hb.size, h.m1⟩
def wBox (b9 g : Nat) : List (Nat × Obj) := [(b9, .cells #[.pointer (some ⟨g, 0, none⟩)] 86 (0, 0))]
set_option maxRecDepth 20000 in
set_option maxHeartbeats 4000000 in
theorem put2_any {W wi : World} {g b9 : Nat} {N : List UInt8} {room : Int} {Ai : Option Addr} {z ci : Nat} {ps : List Pr} (h : IW W.heap.size W wi g N room (wBox b9 g)) (hr0 : 0 ≤ room) (hr1 : room ≤ 1099511627776) (hz : ps.length = z) (hz0 : 0 < z) (hz1 : z ≤ 8192) (_hb : PB ps) (hr : RowsAt wi Ai z 2 (ps.map prC)) :
    Calls Try.prog 66 #[.slice Ai z ci, .pointer (some ⟨b9, 0, none⟩)] wi fun e w' => e = .returned (.tuple #[]) ∧ IW W.heap.size W w' g (N ++ beB 2 (ltP ps).1) room (wBox b9 g) := by
  have HH := Lib.hid (h.keep (w' := wi) (Below.refl _ _))
  have hk9 := (h.first).1
  have h9l := (h.first).2.2
  clear h
  obtain ⟨q, hq⟩ : ∃ q, z - 1 = q := ⟨_, rfl⟩
  obtain ⟨bi, oi, rfl, hbi, hci⟩ := hr.at_ (i := q) (r := prC (ltP ps)) (by rw [← hq, ← hz, List.getElem?_map, lt_at (by omega)]; rfl)
  have hqi : (z : Int) - 1 = q := by omega
  have hqz : (q : Int) < z := by omega
  have hwq : IntKind.i64.wrap ((z : Int) - 1) = q := by rw [IntWalk.i64_in _ (by omega)]; exact hqi
  have hwq2 : IntKind.i64.wrap (q : Int) = q := IntWalk.i64_in _ (by omega)
  generalize ltP ps = hp at hci ⊢
  obtain ⟨a0, a1⟩ := hp
  have s0 : wi.cell? ⟨bi, oi + q * 2, none⟩ = some (.int .i64 a0) := by simpa using hci 0 _ rfl
  clear hci hr hq
  go_enter Try.func66, Try.ntmps66
  go_wp2_with fail
  refine wp_region_drew_tail 8 (by kernel_rfl) (by kernel_rfl) ?_
  simp only [List.take_succ_cons, List.take_zero, List.drop_succ_cons, List.drop_zero]
  repeat (go_big_quiet_step (fail))
  refine wpQuiet_nil ?_
  rintro _ ⟨nq, rfl⟩
  go_wp2_with (first
    | (go_at_call 61; (with_reducible refine (u16_I (HH.out.keep (bel_drewN bel_refl).below) hr0 hr1 _).mono ?_); rintro e w1 ⟨rfl, hI⟩; have HI := Lib.hid hI; clear hI)
    | fail)
  with_reducible refine bodyPost_end (v := .tuple #[]) (by simp [results, Try.results66]) rfl ?_
  exact ⟨rfl, HI.out⟩
set_option maxRecDepth 20000 in
set_option maxHeartbeats 4000000 in
theorem put3_any {W wi : World} {g b9 : Nat} {N : List UInt8} {room : Int} {Ai : Option Addr} {z ci : Nat} {ps : List Pr} (h : IW W.heap.size W wi g N room (wBox b9 g)) (hr0 : 0 ≤ room) (hr1 : room ≤ 1099511627776) (hz : ps.length = z) (hz0 : 0 < z) (hz1 : z ≤ 8192) (hb : PB ps) (hr : RowsAt wi Ai z 2 (ps.map prC)) :
    Calls Try.prog 67 #[.slice Ai z ci, .pointer (some ⟨b9, 0, none⟩)] wi fun e w' => e = .returned (.tuple #[]) ∧ IW W.heap.size W w' g (N ++ beB 2 (hdP ps).1) room (wBox b9 g) := by
  have HH := Lib.hid (h.keep (w' := wi) (Below.refl _ _))
  have hk9 := (h.first).1
  have h9l := (h.first).2.2
  clear h
  obtain ⟨bi, oi, rfl, hbi, hci⟩ := hr.at_ (i := 0) (r := prC (hdP ps)) (by rw [List.getElem?_map, hd_at (by omega)]; rfl)
  have hpb := hb _ (List.mem_of_getElem? (hd_at (ps := ps) (by omega)))
  have hz2 : (0 : Int) < z := by omega
  generalize hdP ps = hp at hci hpb ⊢
  obtain ⟨a0, a1⟩ := hp
  dsimp only at hpb
  obtain ⟨⟨pb0, pb1⟩, pb2, pb3⟩ := hpb
  have s0 : wi.cell? ⟨bi, oi, none⟩ = some (.int .i64 a0) := by simpa using hci 0 _ rfl
  have s1 : wi.cell? ⟨bi, oi + 1, none⟩ = some (.int .i64 a1) := by simpa using hci 1 _ rfl
  have hwr : IntKind.i64.wrap (a1 - a0) = a1 - a0 := IntWalk.i64_in _ (by omega)
  clear hci hr hb
  go_enter Try.func67, Try.ntmps67
  go_wp2_with fail
  refine wp_region_drew_tail 5 (by kernel_rfl) (by kernel_rfl) ?_
  simp only [List.take_succ_cons, List.take_zero, List.drop_succ_cons, List.drop_zero]
  repeat (go_big_quiet_step (fail))
  refine wpQuiet_nil ?_
  rintro _ ⟨nq, rfl⟩
  go_wp2_with (first
    | (go_at_call 61; (with_reducible refine (u16_I (HH.out.keep (bel_drewN bel_refl).below) hr0 hr1 _).mono ?_); rintro e w1 ⟨rfl, hI⟩; have HI := Lib.hid hI; clear hI)
    | fail)
  with_reducible refine bodyPost_end (v := .tuple #[]) (by simp [results, Try.results67]) rfl ?_
  exact ⟨rfl, HI.out⟩
set_option maxRecDepth 20000 in
set_option maxHeartbeats 4000000 in
theorem put4_any {W wi : World} {g b9 : Nat} {N : List UInt8} {room : Int} {Ai : Option Addr} {z ci : Nat} {ps : List Pr} (h : IW W.heap.size W wi g N room (wBox b9 g)) (hr0 : 0 ≤ room) (hr1 : room ≤ 1099511627776) (hz : ps.length = z) (hz0 : 0 < z) (hz1 : z ≤ 8192) (hb : PB ps) (hr : RowsAt wi Ai z 2 (ps.map prC)) :
    Calls Try.prog 68 #[.slice Ai z ci, .pointer (some ⟨b9, 0, none⟩)] wi fun e w' => e = .returned (.tuple #[]) ∧ IW W.heap.size W w' g (N ++ beB 2 ((hdP ps).2 - (hdP ps).1)) room (wBox b9 g) := by
  have HH := Lib.hid (h.keep (w' := wi) (Below.refl _ _))
  have hk9 := (h.first).1
  have h9l := (h.first).2.2
  clear h
  obtain ⟨bi, oi, rfl, hbi, hci⟩ := hr.at_ (i := 0) (r := prC (hdP ps)) (by rw [List.getElem?_map, hd_at (by omega)]; rfl)
  have hpb := hb _ (List.mem_of_getElem? (hd_at (ps := ps) (by omega)))
  have hz2 : (0 : Int) < z := by omega
  generalize hdP ps = hp at hci hpb ⊢
  obtain ⟨a0, a1⟩ := hp
  dsimp only at hpb
  obtain ⟨⟨pb0, pb1⟩, pb2, pb3⟩ := hpb
  have s0 : wi.cell? ⟨bi, oi, none⟩ = some (.int .i64 a0) := by simpa using hci 0 _ rfl
  have s1 : wi.cell? ⟨bi, oi + 1, none⟩ = some (.int .i64 a1) := by simpa using hci 1 _ rfl
  have hwr : IntKind.i64.wrap (a1 - a0) = a1 - a0 := IntWalk.i64_in _ (by omega)
  clear hci hr hb
  go_enter Try.func68, Try.ntmps68
  go_wp2_with fail
  refine wp_region_drew_tail 10 (by kernel_rfl) (by kernel_rfl) ?_
  simp only [List.take_succ_cons, List.take_zero, List.drop_succ_cons, List.drop_zero]
  repeat (go_big_quiet_step (fail))
  refine wpQuiet_nil ?_
  rintro _ ⟨nq, rfl⟩
  go_wp2_with (first
    | (go_at_call 61; (with_reducible refine (u16_I (HH.out.keep (bel_drewN bel_refl).below) hr0 hr1 _).mono ?_); rintro e w1 ⟨rfl, hI⟩; have HI := Lib.hid hI; clear hI)
    | fail)
  with_reducible refine bodyPost_end (v := .tuple #[]) (by simp [results, Try.results68]) rfl ?_
  exact ⟨rfl, HI.out⟩
set_option maxRecDepth 20000 in
set_option maxHeartbeats 4000000 in
theorem put5_any {W wi : World} {g b9 : Nat} {N : List UInt8} {room : Int} {Ai : Option Addr} {z ci : Nat} {ps : List Pr} (h : IW W.heap.size W wi g N room (wBox b9 g)) (hr0 : 0 ≤ room) (hr1 : room ≤ 1099511627776) (_hz : ps.length = z) (_hz0 : 0 < z) (_hz1 : z ≤ 8192) (_hb : PB ps) (_hr : RowsAt wi Ai z 2 (ps.map prC)) :
    Calls Try.prog 69 #[.slice Ai z ci, .pointer (some ⟨b9, 0, none⟩)] wi fun e w' => e = .returned (.tuple #[]) ∧ IW W.heap.size W w' g (N ++ beB 2 0) room (wBox b9 g) := by
  have HH := Lib.hid (h.keep (w' := wi) (Below.refl _ _))
  have hk9 := (h.first).1
  have h9l := (h.first).2.2
  clear h
  go_enter Try.func69, Try.ntmps69
  go_wp2_with (first
    | (go_at_call 61; (with_reducible refine (u16_I HH.out hr0 hr1 _).mono ?_); rintro e w1 ⟨rfl, hI⟩; have HI := Lib.hid hI; clear hI)
    | fail)
  with_reducible refine bodyPost_end (v := .tuple #[]) (by simp [results, Try.results69]) rfl ?_
  exact ⟨rfl, HI.out⟩
set_option maxRecDepth 20000 in
set_option maxHeartbeats 4000000 in
theorem each2_any {W w : World} {g b4 b9 B : Nat} {N : List UInt8} {room : Int} {Ap : Option Addr} {m cp : Nat} {vs : List Value} {pl : List (List Pr)} (h : IW W.heap.size W w g N room (wBox b9 g)) (hr0 : 0 ≤ room) (hr1 : room ≤ 1099511627776) (hp : Pb B W b4 Ap m cp vs pl) :
    Calls Try.prog 65 #[.func (.func 66) #[] #[.pointer (some ⟨b9, 0, none⟩)], .pointer (some ⟨b4, 0, none⟩)] w fun e w' => e = .returned (.tuple #[]) ∧ IW W.heap.size W w' g (N ++ pl.flatMap fun ps => beB 2 (ltP ps).1) room (wBox b9 g) := by
  have hb4 := hp.blk.lt
  have c4 : w.cell? ⟨b4, 0, none⟩ = some (.slice Ap m cp) := (h.below.cell (p := ⟨b4, 0, none⟩) hb4).trans (hp.blk.cell 0)
  have hsz := h.size
  have hpm : pl.length = m := by rw [← hp.zp.len]; exact hp.sl.1
  have hm1 := hp.m1
  have H := Lib.hid h
  have HP := Lib.hid hp
  clear h hp
  go_enter Try.func65, Try.ntmps65
  go_wp2_with fail
  go_loopw [7] (fun i wr => ∃ k : Nat, k ≤ m ∧ i = .int .i64 k ∧ Hid (IW W.heap.size W wr g (N ++ (pl.take k).flatMap fun ps => beB 2 (ltP ps).1) room (wBox b9 g))) (fun i _ => m - (intOf i).toNat)
  case atStart => exact ⟨0, Nat.zero_le _, rfl, Lib.hid (by simpa using H.out)⟩
  case round =>
    obtain ⟨k, hk, rfl, HI⟩ := hrel
    by_cases hlt : k < m
    · have hkm : (k : Int) < m := by omega
      obtain ⟨ps, hps⟩ := get_some' (l := pl) (k := k) (by omega)
      obtain ⟨v, hv⟩ := get_some' (l := vs) (k := k) (by rw [HP.out.zp.len]; omega)
      obtain ⟨Ai, ci, rfl, hrw, hrq⟩ := HP.out.zp.at_ k _ _ hv hps
      obtain ⟨b, o, rfl, hb1, hc1⟩ := HP.out.sl.2 k hlt
      rw [hv] at hc1
      obtain ⟨n0, n1, n2⟩ := HP.out.ne ps (List.mem_of_getElem? hps)
      have r0 : wr.cell? ⟨b, o + k, none⟩ = some (.slice Ai ps.length ci) := (HI.out.below.cell (p := ⟨b, _, none⟩) hb1).trans hc1
      have hpt := put2_any (ci := ci) HI.out hr0 hr1 rfl n0 n1 n2 (hrw.keepB HI.out.below (fun _ q hq => Nat.lt_of_lt_of_le (hrq q hq) HP.out.le))
      have hfl : (pl.take (k + 1)).flatMap (fun ps => beB 2 (ltP ps).1) = (pl.take k).flatMap (fun ps => beB 2 (ltP ps).1) ++ beB 2 (ltP ps).1 := by rw [take_snoc' hps, List.flatMap_append]; simp
      have hzw := Nat.lt_of_lt_of_le hb1 HI.out.below.size
      rw [List.append_assoc, ← hfl] at hpt
      have HPT := Lib.hid hpt
      clear hps hv hrw hrq hc1 hpt hfl n0 n1 n2
      go_wp2_with (first
        | (go_at_call 66; (with_reducible refine HPT.out.mono ?_); rintro e w1 ⟨rfl, hI⟩; have HI1 := Lib.hid hI; clear hI)
        | fail)
      go_roundw
      case rel => exact ⟨k + 1, by omega, by go_num, HI1⟩
      case measure => simp [intOf]; omega
    · obtain rfl : k = m := by omega
      have hI := HI.out
      rw [List.take_of_length_le (by omega)] at hI
      have HIF := Lib.hid hI
      clear hI
      go_wp2_with fail
      with_reducible refine bodyPost_end (v := .tuple #[]) (by simp [results, Try.results65]) rfl ?_
      exact ⟨rfl, HIF.out⟩
set_option maxRecDepth 20000 in
set_option maxHeartbeats 4000000 in
theorem each3_any {W w : World} {g b4 b9 B : Nat} {N : List UInt8} {room : Int} {Ap : Option Addr} {m cp : Nat} {vs : List Value} {pl : List (List Pr)} (h : IW W.heap.size W w g N room (wBox b9 g)) (hr0 : 0 ≤ room) (hr1 : room ≤ 1099511627776) (hp : Pb B W b4 Ap m cp vs pl) :
    Calls Try.prog 65 #[.func (.func 67) #[] #[.pointer (some ⟨b9, 0, none⟩)], .pointer (some ⟨b4, 0, none⟩)] w fun e w' => e = .returned (.tuple #[]) ∧ IW W.heap.size W w' g (N ++ pl.flatMap fun ps => beB 2 (hdP ps).1) room (wBox b9 g) := by
  have hb4 := hp.blk.lt
  have c4 : w.cell? ⟨b4, 0, none⟩ = some (.slice Ap m cp) := (h.below.cell (p := ⟨b4, 0, none⟩) hb4).trans (hp.blk.cell 0)
  have hsz := h.size
  have hpm : pl.length = m := by rw [← hp.zp.len]; exact hp.sl.1
  have hm1 := hp.m1
  have H := Lib.hid h
  have HP := Lib.hid hp
  clear h hp
  go_enter Try.func65, Try.ntmps65
  go_wp2_with fail
  go_loopw [7] (fun i wr => ∃ k : Nat, k ≤ m ∧ i = .int .i64 k ∧ Hid (IW W.heap.size W wr g (N ++ (pl.take k).flatMap fun ps => beB 2 (hdP ps).1) room (wBox b9 g))) (fun i _ => m - (intOf i).toNat)
  case atStart => exact ⟨0, Nat.zero_le _, rfl, Lib.hid (by simpa using H.out)⟩
  case round =>
    obtain ⟨k, hk, rfl, HI⟩ := hrel
    by_cases hlt : k < m
    · have hkm : (k : Int) < m := by omega
      obtain ⟨ps, hps⟩ := get_some' (l := pl) (k := k) (by omega)
      obtain ⟨v, hv⟩ := get_some' (l := vs) (k := k) (by rw [HP.out.zp.len]; omega)
      obtain ⟨Ai, ci, rfl, hrw, hrq⟩ := HP.out.zp.at_ k _ _ hv hps
      obtain ⟨b, o, rfl, hb1, hc1⟩ := HP.out.sl.2 k hlt
      rw [hv] at hc1
      obtain ⟨n0, n1, n2⟩ := HP.out.ne ps (List.mem_of_getElem? hps)
      have r0 : wr.cell? ⟨b, o + k, none⟩ = some (.slice Ai ps.length ci) := (HI.out.below.cell (p := ⟨b, _, none⟩) hb1).trans hc1
      have hpt := put3_any (ci := ci) HI.out hr0 hr1 rfl n0 n1 n2 (hrw.keepB HI.out.below (fun _ q hq => Nat.lt_of_lt_of_le (hrq q hq) HP.out.le))
      have hfl : (pl.take (k + 1)).flatMap (fun ps => beB 2 (hdP ps).1) = (pl.take k).flatMap (fun ps => beB 2 (hdP ps).1) ++ beB 2 (hdP ps).1 := by rw [take_snoc' hps, List.flatMap_append]; simp
      have hzw := Nat.lt_of_lt_of_le hb1 HI.out.below.size
      rw [List.append_assoc, ← hfl] at hpt
      have HPT := Lib.hid hpt
      clear hps hv hrw hrq hc1 hpt hfl n0 n1 n2
      go_wp2_with (first
        | (go_at_call 67; (with_reducible refine HPT.out.mono ?_); rintro e w1 ⟨rfl, hI⟩; have HI1 := Lib.hid hI; clear hI)
        | fail)
      go_roundw
      case rel => exact ⟨k + 1, by omega, by go_num, HI1⟩
      case measure => simp [intOf]; omega
    · obtain rfl : k = m := by omega
      have hI := HI.out
      rw [List.take_of_length_le (by omega)] at hI
      have HIF := Lib.hid hI
      clear hI
      go_wp2_with fail
      with_reducible refine bodyPost_end (v := .tuple #[]) (by simp [results, Try.results65]) rfl ?_
      exact ⟨rfl, HIF.out⟩
set_option maxRecDepth 20000 in
set_option maxHeartbeats 4000000 in
theorem each4_any {W w : World} {g b4 b9 B : Nat} {N : List UInt8} {room : Int} {Ap : Option Addr} {m cp : Nat} {vs : List Value} {pl : List (List Pr)} (h : IW W.heap.size W w g N room (wBox b9 g)) (hr0 : 0 ≤ room) (hr1 : room ≤ 1099511627776) (hp : Pb B W b4 Ap m cp vs pl) :
    Calls Try.prog 65 #[.func (.func 68) #[] #[.pointer (some ⟨b9, 0, none⟩)], .pointer (some ⟨b4, 0, none⟩)] w fun e w' => e = .returned (.tuple #[]) ∧ IW W.heap.size W w' g (N ++ pl.flatMap fun ps => beB 2 ((hdP ps).2 - (hdP ps).1)) room (wBox b9 g) := by
  have hb4 := hp.blk.lt
  have c4 : w.cell? ⟨b4, 0, none⟩ = some (.slice Ap m cp) := (h.below.cell (p := ⟨b4, 0, none⟩) hb4).trans (hp.blk.cell 0)
  have hsz := h.size
  have hpm : pl.length = m := by rw [← hp.zp.len]; exact hp.sl.1
  have hm1 := hp.m1
  have H := Lib.hid h
  have HP := Lib.hid hp
  clear h hp
  go_enter Try.func65, Try.ntmps65
  go_wp2_with fail
  go_loopw [7] (fun i wr => ∃ k : Nat, k ≤ m ∧ i = .int .i64 k ∧ Hid (IW W.heap.size W wr g (N ++ (pl.take k).flatMap fun ps => beB 2 ((hdP ps).2 - (hdP ps).1)) room (wBox b9 g))) (fun i _ => m - (intOf i).toNat)
  case atStart => exact ⟨0, Nat.zero_le _, rfl, Lib.hid (by simpa using H.out)⟩
  case round =>
    obtain ⟨k, hk, rfl, HI⟩ := hrel
    by_cases hlt : k < m
    · have hkm : (k : Int) < m := by omega
      obtain ⟨ps, hps⟩ := get_some' (l := pl) (k := k) (by omega)
      obtain ⟨v, hv⟩ := get_some' (l := vs) (k := k) (by rw [HP.out.zp.len]; omega)
      obtain ⟨Ai, ci, rfl, hrw, hrq⟩ := HP.out.zp.at_ k _ _ hv hps
      obtain ⟨b, o, rfl, hb1, hc1⟩ := HP.out.sl.2 k hlt
      rw [hv] at hc1
      obtain ⟨n0, n1, n2⟩ := HP.out.ne ps (List.mem_of_getElem? hps)
      have r0 : wr.cell? ⟨b, o + k, none⟩ = some (.slice Ai ps.length ci) := (HI.out.below.cell (p := ⟨b, _, none⟩) hb1).trans hc1
      have hpt := put4_any (ci := ci) HI.out hr0 hr1 rfl n0 n1 n2 (hrw.keepB HI.out.below (fun _ q hq => Nat.lt_of_lt_of_le (hrq q hq) HP.out.le))
      have hfl : (pl.take (k + 1)).flatMap (fun ps => beB 2 ((hdP ps).2 - (hdP ps).1)) = (pl.take k).flatMap (fun ps => beB 2 ((hdP ps).2 - (hdP ps).1)) ++ beB 2 ((hdP ps).2 - (hdP ps).1) := by rw [take_snoc' hps, List.flatMap_append]; simp
      have hzw := Nat.lt_of_lt_of_le hb1 HI.out.below.size
      rw [List.append_assoc, ← hfl] at hpt
      have HPT := Lib.hid hpt
      clear hps hv hrw hrq hc1 hpt hfl n0 n1 n2
      go_wp2_with (first
        | (go_at_call 68; (with_reducible refine HPT.out.mono ?_); rintro e w1 ⟨rfl, hI⟩; have HI1 := Lib.hid hI; clear hI)
        | fail)
      go_roundw
      case rel => exact ⟨k + 1, by omega, by go_num, HI1⟩
      case measure => simp [intOf]; omega
    · obtain rfl : k = m := by omega
      have hI := HI.out
      rw [List.take_of_length_le (by omega)] at hI
      have HIF := Lib.hid hI
      clear hI
      go_wp2_with fail
      with_reducible refine bodyPost_end (v := .tuple #[]) (by simp [results, Try.results65]) rfl ?_
      exact ⟨rfl, HIF.out⟩
set_option maxRecDepth 20000 in
set_option maxHeartbeats 4000000 in
theorem each5_any {W w : World} {g b4 b9 B : Nat} {N : List UInt8} {room : Int} {Ap : Option Addr} {m cp : Nat} {vs : List Value} {pl : List (List Pr)} (h : IW W.heap.size W w g N room (wBox b9 g)) (hr0 : 0 ≤ room) (hr1 : room ≤ 1099511627776) (hp : Pb B W b4 Ap m cp vs pl) :
    Calls Try.prog 65 #[.func (.func 69) #[] #[.pointer (some ⟨b9, 0, none⟩)], .pointer (some ⟨b4, 0, none⟩)] w fun e w' => e = .returned (.tuple #[]) ∧ IW W.heap.size W w' g (N ++ pl.flatMap fun _ps => beB 2 0) room (wBox b9 g) := by
  have hb4 := hp.blk.lt
  have c4 : w.cell? ⟨b4, 0, none⟩ = some (.slice Ap m cp) := (h.below.cell (p := ⟨b4, 0, none⟩) hb4).trans (hp.blk.cell 0)
  have hsz := h.size
  have hpm : pl.length = m := by rw [← hp.zp.len]; exact hp.sl.1
  have hm1 := hp.m1
  have H := Lib.hid h
  have HP := Lib.hid hp
  clear h hp
  go_enter Try.func65, Try.ntmps65
  go_wp2_with fail
  go_loopw [7] (fun i wr => ∃ k : Nat, k ≤ m ∧ i = .int .i64 k ∧ Hid (IW W.heap.size W wr g (N ++ (pl.take k).flatMap fun ps => beB 2 0) room (wBox b9 g))) (fun i _ => m - (intOf i).toNat)
  case atStart => exact ⟨0, Nat.zero_le _, rfl, Lib.hid (by simpa using H.out)⟩
  case round =>
    obtain ⟨k, hk, rfl, HI⟩ := hrel
    by_cases hlt : k < m
    · have hkm : (k : Int) < m := by omega
      obtain ⟨ps, hps⟩ := get_some' (l := pl) (k := k) (by omega)
      obtain ⟨v, hv⟩ := get_some' (l := vs) (k := k) (by rw [HP.out.zp.len]; omega)
      obtain ⟨Ai, ci, rfl, hrw, hrq⟩ := HP.out.zp.at_ k _ _ hv hps
      obtain ⟨b, o, rfl, hb1, hc1⟩ := HP.out.sl.2 k hlt
      rw [hv] at hc1
      obtain ⟨n0, n1, n2⟩ := HP.out.ne ps (List.mem_of_getElem? hps)
      have r0 : wr.cell? ⟨b, o + k, none⟩ = some (.slice Ai ps.length ci) := (HI.out.below.cell (p := ⟨b, _, none⟩) hb1).trans hc1
      have hpt := put5_any (ci := ci) HI.out hr0 hr1 rfl n0 n1 n2 (hrw.keepB HI.out.below (fun _ q hq => Nat.lt_of_lt_of_le (hrq q hq) HP.out.le))
      have hfl : (pl.take (k + 1)).flatMap (fun ps => beB 2 0) = (pl.take k).flatMap (fun ps => beB 2 0) ++ beB 2 0 := by rw [take_snoc' hps, List.flatMap_append]; simp
      have hzw := Nat.lt_of_lt_of_le hb1 HI.out.below.size
      rw [List.append_assoc, ← hfl] at hpt
      have HPT := Lib.hid hpt
      clear hps hv hrw hrq hc1 hpt hfl n0 n1 n2
      go_wp2_with (first
        | (go_at_call 69; (with_reducible refine HPT.out.mono ?_); rintro e w1 ⟨rfl, hI⟩; have HI1 := Lib.hid hI; clear hI)
        | fail)
      go_roundw
      case rel => exact ⟨k + 1, by omega, by go_num, HI1⟩
      case measure => simp [intOf]; omega
    · obtain rfl : k = m := by omega
      have hI := HI.out
      rw [List.take_of_length_le (by omega)] at hI
      have HIF := Lib.hid hI
      clear hI
      go_wp2_with fail
      with_reducible refine bodyPost_end (v := .tuple #[]) (by simp [results, Try.results65]) rfl ?_
      exact ⟨rfl, HIF.out⟩
end Go.Proofs.Ytlbfefdmbdjjcaa
