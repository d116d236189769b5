/-
  Layer 08: format 4 is made.
-/
import Derived.Test.YtlbfefdmbdjjcaaCmR
namespace Go.Proofs.Ytlbfefdmbdjjcaa
open Go.RowKit

def sent : List Pr := [(65535, 65536)]
def m4 (pl : List (List Pr)) : List UInt8 :=
  let n : Int := pl.length
  let lg : Nat := Nat.log2 pl.length
  let p : Int := (2 ^ lg : Nat)
  beB 2 4 ++ beB 2 (16 + 8 * n) ++ beB 2 0 ++ beB 2 (2 * n) ++ beB 2 (2 * p) ++ beB 2 lg ++ beB 2 (2 * (n - p)) ++
  (pl.flatMap fun ps => beB 2 (ltP ps).1) ++ beB 2 0 ++ (pl.flatMap fun ps => beB 2 (hdP ps).1) ++ (pl.flatMap fun ps => beB 2 ((hdP ps).2 - (hdP ps).1)) ++ (pl.flatMap fun _ => beB 2 0)
theorem m4_len (pl : List (List Pr)) : (m4 pl).length = 16 + 8 * pl.length := by
  unfold m4
  dsimp only
  simp only [List.length_append, beB_length, flat_len (fun ps : List Pr => beB_length 2 (ltP ps).1), flat_len (fun ps : List Pr => beB_length 2 (hdP ps).1), flat_len (fun ps : List Pr => beB_length 2 ((hdP ps).2 - (hdP ps).1)), flat_len (fun _ : List Pr => beB_length 2 0)]
  omega
def Mk4R (n : Nat) (N : List UInt8) (w : World) (e : Ending) (w' : World) : Prop :=
  (8189 < n ∧ e = .returned (.tuple #[.slice none 0 0, .int .i64 3]) ∧ Below w.heap.size w w') ∨ (n ≤ 8189 ∧ MkR N w e w')
set_option maxRecDepth 20000 in
set_option maxHeartbeats 4000000 in
theorem made4_any {w : World} {A : Option Addr} {n c : Nat} {l : List Pr} (h : RowsAt w A n 2 (l.map prC)) (hn : n ≤ 8192) (hc : n ≤ c) (hb : PB l) :
    Calls Try.prog 36 #[.slice A n c] w (Mk4R (runL l ++ [sent]).length (m4 (runL l ++ [sent])) w) := by
  have hl := h.len
  rw [List.length_map] at hl
  have hr := runs_any h (by omega) hc hb
  have hmem := runN_mem l l.length (Nat.le_refl _)
  have hrl := runN_len l l.length
  change (runL l).length ≤ l.length at hrl
  change ∀ ps ∈ runL l, _ at hmem
  have hpb : ∀ ps ∈ runL l, 0 < ps.length ∧ ps.length ≤ 8192 ∧ PB ps := fun ps hps => ⟨(hmem ps hps).1, by have := (hmem ps hps).2.1; omega, fun p hp => hb p ((hmem ps hps).2.2 p hp)⟩
  generalize runL l = pl at hmem hrl hpb hr
  have HR := Lib.hid hr
  have HPB := Lib.hid hpb
  clear h hmem hpb hr hb
  obtain ⟨N, hN⟩ : ∃ N, m4 (pl ++ [sent]) = N := ⟨_, rfl⟩
  have hNl : N.length = 16 + 8 * (pl ++ [sent]).length := by rw [← hN, m4_len]
  rw [hN]
  have HN := Lib.hid hN
  clear hN
  obtain ⟨m, hm⟩ : ∃ m, (pl ++ [sent]).length = m := ⟨_, rfl⟩
  rw [hm] at hNl ⊢
  have HM2 : Hid (m = pl.length + 1) := Lib.hid (by rw [← hm]; simp)
  have hmb : m ≤ 8193 := by have := HM2.out; omega
  have hm1 : 1 ≤ m := by have := HM2.out; omega
  have HM := Lib.hid hm
  have HNL := Lib.hid hNl
  clear hm hNl
  go_enter Try.func36, Try.ntmps36
  go_upto_region 2 with (first
    | (go_at_call 64; (with_reducible refine HR.out.mono ?_); rintro e w1 ⟨Ap, cp, k, vs, hvm, rfl, hown, hz, hbl⟩
       have hbx := (bel_alloc (o := .cells #[.slice (some ⟨w1.heap.size, 0, none⟩) 1 1] 34) (bel_alloc (o := .cells #[.int .i64 65535, .int .i64 65536] 43) (bel_refl (a := w1)))).below
       have hmk : k + 1 = m := by have := HM2.out; have := hz.len; omega
       have HMK := Lib.hid hmk
       have hk2 : k ≤ 8192 := by omega
       have HZ := Lib.hid (hz.keep (hbx.mono hbl.size))
       have HOW := Lib.hid (own_keep hown fun q hq => hbx.block q (own_lt hown q hq).2)
       have HOL := Lib.hid (own_lt hown)
       have HB1 := Lib.hid (hbl.trans (hbx.mono hbl.size))
       have hb1s := hbl.size
       have HVM := Lib.hid hvm
       have HST : Hid (Blk ((w1.alloc (.cells #[.int .i64 65535, .int .i64 65536] 43)).alloc (.cells #[.slice (some ⟨w1.heap.size, 0, none⟩) 1 1] 34)) w1.heap.size 43 [.int .i64 65535, .int .i64 65536]) := Lib.hid ((Blk.new w1 _ [_, _]).alloc _)
       have HRD : Hid (Reads ((w1.alloc (.cells #[.int .i64 65535, .int .i64 65536] 43)).alloc (.cells #[.slice (some ⟨w1.heap.size, 0, none⟩) 1 1] 34)) ((w1.alloc (.cells #[.int .i64 65535, .int .i64 65536] 43)).alloc (.cells #[.slice (some ⟨w1.heap.size, 0, none⟩) 1 1] 34)).heap.size 1 (some ⟨w1.heap.size + 1, 0, none⟩) 1 [.slice (some ⟨w1.heap.size, 0, none⟩) 1 1]) := Lib.hid (by
         rw [World.size_alloc]
         have := reads_new (w1.alloc (.cells #[.int .i64 65535, .int .i64 65536] 43)) [.slice (some ⟨w1.heap.size, 0, none⟩) 1 1] 34 1 1 rfl
         rw [World.size_alloc] at this ⊢
         exact this)
       clear hown hz hbl hvm hbx hmk)
    | (at_builtin; obtain ⟨i0, zz, hi0, hzz0, hzz1, hzz2, hzz3⟩ := pl_parts; refine wpList_append_any _ (by rfl) (.tmp 12) (.tmp 15) _ (by rfl) w.heap.size 34 i0 zz 1 24 Try.underlying90 hi0 hzz0 hzz1 hzz2 hzz3 (by omega) _ k _ (by rfl) HOW.out _ _ 1 _ _ (by rfl) HRD.out (by simp [Value.oneCell']) (by unfold maxLen; omega) (by omega) HB1.out.size ?_; intro v' w9 ho9 hg9 hr9; obtain ⟨A9, c9, rfl, hs9, _⟩ := of_own1 ho9
       have HS9 := Lib.hid hs9
       have hb9 := grown_below' hg9 HB1.out.size (fun q hq => (own_lt HOW.out q hq).1)
       have HZ9 := Lib.hid (HZ.out.keep hb9)
       have HB9 := Lib.hid (HB1.out.trans hb9)
       have HT9 := Lib.hid (HST.out.grown hg9 (fun e => by have := (HOL.out _ e).2; omega))
       have hz9 := hg9.size
       clear ho9 hg9 hr9 hs9 hb9)
    | fail)
  obtain ⟨W, hW⟩ : ∃ W, w9.alloc (.cells #[.slice A9 (k + 1) c9] 90) = W := ⟨_, rfl⟩
  have hbW : Below w9.heap.size w9 W := by rw [← hW]; exact (bel_alloc bel_refl).below
  have hzW : W.heap.size = w9.heap.size + 1 := by rw [← hW]; simp
  have hblk : Blk W w9.heap.size 90 [.slice A9 (k + 1) c9] := by rw [← hW]; exact Blk.new w9 _ [_]
  have hz91 : w1.heap.size + 2 ≤ w9.heap.size := by simpa using hz9
  have hPb : Pb (w1.heap.size + 1) W w9.heap.size A9 (k + 1) c9 (vs ++ [.slice (some ⟨w1.heap.size, 0, none⟩) 1 1]) (pl ++ [sent]) := by
    refine ⟨hblk, HS9.out.keep hbW, (((HZ9.out.mono (by omega)).snoc (A := some ⟨w1.heap.size, 0, none⟩) (c := 1) (ps := sent) (m := 1) rfl (RowsAt.of_blk (rows := [prC (65535, 65536)]) HT9.out (fun r hr => by rw [List.mem_singleton] at hr; subst hr; rfl)) (fun q hq => by have : w1.heap.size = q := Option.some.inj hq; omega)).keep (hbW.mono (by omega))), ?_, by omega, by omega⟩
    intro ps hps
    rcases List.mem_append.1 hps with h | h
    · exact HPB.out ps h
    · rw [List.mem_singleton] at h
      subst h
      refine ⟨by decide, by decide, fun p hp => ?_⟩
      rw [show sent = [((65535 : Int), (65536 : Int))] from rfl, List.mem_singleton] at hp
      subst hp
      dsimp only
      omega
  rw [HMK.out] at hPb
  have HP := Lib.hid hPb
  have HBW := Lib.hid (HB9.out.trans (hbW.mono (by omega)))
  have hwW : w.heap.size ≤ W.heap.size := by omega
  obtain ⟨b4, hb4⟩ : ∃ b4, w9.heap.size = b4 := ⟨_, rfl⟩
  rw [hb4] at HP hzW
  rw [hW, hb4, HMK.out]
  have c4 : W.cell? ⟨b4, 0, none⟩ = some (.slice A9 m c9) := HP.out.blk.cell 0
  have hl4 := HP.out.blk.lt
  clear hW hbW hblk hPb hb4 HMK HS9 HZ9 HT9 HB9 HST HRD HOL HOW HB1 HZ HVM hz9 hz91 hb1s
  by_cases hbig : 8189 < m
  · have hbi : ¬ (m : Int) ≤ 8189 := by omega
    go_wp2_with fail
    go_ret2
    exact .inl ⟨hbig, rfl, HBW.out⟩
  have hmi : (m : Int) ≤ 8189 := by omega
  go_wp2_with fail
  go_loop [7, 8] (fun p lg => ∃ j x : Nat, p = .int .i64 x ∧ lg = .int .i64 j ∧ Hid (2 ^ j = x) ∧ x ≤ m ∧ 1 ≤ x ∧ j ≤ x) (fun p _ => m - (intOf p).toNat)
  case atStart => exact ⟨0, 1, rfl, rfl, Lib.hid rfl, hm1, Nat.le_refl _, by omega⟩
  case round =>
    obtain ⟨j, x, rfl, rfl, HX, hx1, hx2, hx3⟩ := hrel
    by_cases hlt : x * 2 ≤ m
    · have hlti : (x : Int) * 2 ≤ m := by omega
      have HX2 : Hid (2 ^ (j + 1) = x * 2) := Lib.hid (by rw [Nat.pow_succ, HX.out])
      go_wp2_with fail
      go_round
      case rel => exact ⟨j + 1, x * 2, by go_num, by go_num, HX2, hlt, by omega, by omega⟩
      case measure => simp [intOf]; omega
    · have hlti : ¬ (x : Int) * 2 ≤ m := by omega
      have hlg : Nat.log2 m = j := (Nat.log2_eq_iff (by omega)).2 ⟨by rw [HX.out]; exact hx1, by rw [Nat.pow_succ, HX.out]; omega⟩
      have hnn := HN.out
      unfold m4 at hnn
      dsimp only at hnn
      rw [HM.out, hlg, HX.out] at hnn
      have HNN := Lib.hid hnn
      have hroom : (0 : Int) ≤ 16 + 8 * (m : Int) := by omega
      have hroom2 : 16 + 8 * (m : Int) ≤ 1099511627776 := by omega
      clear hnn hlg HN
      go_upto_region 10 with (first
        | (go_at_call 60; (with_reducible refine (to_I W W _ hroom aft_refl [] (by simp)).mono ?_); rintro e w2 ⟨g, rfl, hI⟩; have HI2 := Lib.hid hI; clear hI)
        | (go_at_call 61; (with_reducible refine (u16_I HI2.out hroom hroom2 _).mono ?_); rintro e w3 ⟨rfl, hI⟩; replace HI2 := Lib.hid hI; clear hI)
        | fail)
      obtain ⟨hds, hhd⟩ : ∃ y, beB 2 4 ++ beB 2 (16 + 8 * (m : Int)) ++ beB 2 0 ++ beB 2 (2 * (m : Int)) ++ beB 2 (2 * (x : Int)) ++ beB 2 (j : Int) ++ beB 2 (2 * ((m : Int) - x)) = y := ⟨_, rfl⟩
      have hI3 : IW W.heap.size W (w3.alloc (.cells #[.pointer (some ⟨g, 0, none⟩)] 86)) g hds (16 + 8 * (m : Int)) (wBox w3.heap.size g) := by
        have := HI2.out.new (.cells #[.pointer (some ⟨g, 0, none⟩)] 86)
        rw [List.nil_append, hhd] at this
        exact this
      rw [hhd] at HNN
      obtain ⟨b9, hb9⟩ : ∃ b9, w3.heap.size = b9 := ⟨_, rfl⟩
      obtain ⟨wq, hwq⟩ : ∃ wq, w3.alloc (.cells #[.pointer (some ⟨g, 0, none⟩)] 86) = wq := ⟨_, rfl⟩
      rw [hwq, hb9] at hI3
      rw [hwq, hb9]
      have HI3 := Lib.hid hI3
      have hnl := HNL.out
      have hnl2 : N.length ≤ 140737488355328 := by omega
      have hfit : (N.length : Int) ≤ 16 + 8 * (m : Int) := by omega
      clear hI3 hwq hb9 hhd HI2 hnl hlt hlti c4
      go_wp2_with (first
        | (go_at_call 65; (with_reducible refine (each2_any HI3.out hroom hroom2 HP.out).mono ?_); rintro e w4 ⟨rfl, hI⟩; have hq4 := (hI.first).1; have hl9 := (hI.first).2.2; have HI4 := Lib.hid hI; clear hI HI3)
        | (go_at_call 61; (with_reducible refine (u16_I HI4.out hroom hroom2 _).mono ?_); rintro e w5 ⟨rfl, hI⟩; have HI5 := Lib.hid hI; clear hI HI4)
        | (go_at_call 65; (with_reducible refine (each3_any HI5.out hroom hroom2 HP.out).mono ?_); rintro e w6 ⟨rfl, hI⟩; have HI6 := Lib.hid hI; clear hI HI5)
        | (go_at_call 65; (with_reducible refine (each4_any HI6.out hroom hroom2 HP.out).mono ?_); rintro e w7 ⟨rfl, hI⟩; have HI7 := Lib.hid hI; clear hI HI6)
        | (go_at_call 65; (with_reducible refine (each5_any HI7.out hroom hroom2 HP.out).mono ?_); rintro e w8 ⟨rfl, hI⟩; rw [HNN.out] at hI; have hq8 := (hI.first).1; have hl8 := (hI.first).2.2; have HI8 := Lib.hid hI; clear hI HI7)
        | (go_at_call 63; (with_reducible refine (done_I HI8.out hfit hnl2).mono ?_); rintro e w10 ⟨A10, c10, rfl, hs8, hb8, hq8, hc8⟩; have HS8 := Lib.hid hs8; have HB8 := Lib.hid hb8; have HR8 : Hid (0 < N.length → ∀ q, rowOf A10 = some q → q < w10.heap.size) := Lib.hid (done_lt hs8); clear hs8 hb8)
        | fail)
      go_ret2
      have hbe := HBW.out.trans (HI8.out.below.mono hwW)
      exact .inr ⟨by omega, _, _, rfl, ⟨HS8.out, hc8, hnl2, HR8.out (by have := HNL.out; omega)⟩, hbe.trans (HB8.out.mono hbe.size)⟩
end Go.Proofs.Ytlbfefdmbdjjcaa
