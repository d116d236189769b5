/-
  index.Put, of lists that are not too long.
-/
import Derived.Test.YtbmflgcahbkdeaaIdxD
namespace Go.Proofs.Ytbmflgcahbkdeaa
open Go.RowKit

theorem one_box {W : World} {o : Obj} {b : Nat} (h : b = W.heap.size) : ∀ p ∈ [(b, o)], ((W.alloc o).drew).heap[p.1]? = some p.2 := by
  intro p hp
  simp only [List.mem_cons, List.not_mem_nil, or_false] at hp
  subst hp h
  exact heap_alloc_new W o
/-- What Put answers where the bytes are N. -/
def PutPost (N : List UInt8) (w : World) (e : Ending) (w' : World) : Prop :=
  (((N.length : Int) ≤ 1048576 ∧ ∃ A' c', e = .returned (.tuple #[.slice A' N.length c', .int .i64 0]) ∧ SlAt w' A' N.length (N.map byteV) ∧ N.length ≤ c') ∨
    ((1048576 : Int) < N.length ∧ e = .returned (.tuple #[.slice none 0 0, .int .i64 3]))) ∧ Below w.heap.size w w'

set_option maxRecDepth 20000 in
set_option maxHeartbeats 4000000 in
theorem Put_walk (w : World) (A : Option Addr) (c : Nat) (ls : List (List UInt8)) (h : Ls w A ls) (hn : ls.length ≤ 65535) (h0 : 0 < ls.length) (hb : (lsSum ls : Int) ≤ 1048575) :
    Calls Try.prog 17 #[.slice A ls.length c] w (PutPost (ixB ls) w) := by
  obtain ⟨n, hn'⟩ : ∃ n, ls.length = n := ⟨_, rfl⟩
  obtain ⟨z, hz'⟩ : ∃ z, ixZ ls = z := ⟨_, rfl⟩
  have hz4 : z ≤ 4 := by rw [← hz']; exact (ixW_bd _).2
  have HZ : Hid (ixW (lsSum ls + 1) = z) := Lib.hid hz'
  have HX : Hid (ixB ls = beB 2 n ++ beB 1 z ++ beB z 1 ++ offB z ls n ++ ls.flatten) := Lib.hid (by rw [ixB, ixHd, hz', hn'])
  rw [hn'] at hn h0 ⊢
  have HN := Lib.hid hn'
  have HL := Lib.hid h
  obtain ⟨N, hN⟩ : ∃ N, ixB ls = N := ⟨_, rfl⟩
  rw [hN] at HX ⊢
  obtain ⟨T, hT⟩ : ∃ T, lsSum ls = T := ⟨_, rfl⟩
  rw [hT] at hb
  have HT0 := Lib.hid hT
  clear hT
  clear hn' hz' h hN
  go_enter Try.func17, Try.ntmps17
  go_wp2
  go_loop [4, 28] (fun e i => ∃ k : Nat, k ≤ n ∧ i = .int .i64 k ∧ ∃ s : Nat, Hid (lsSum (ls.take k) + 1 = s) ∧ e = .int .i64 s ∧ (s : Int) ≤ 1048576) (fun _ i => n - (intOf i).toNat)
  case atStart => exact ⟨0, Nat.zero_le _, rfl, 1, Lib.hid (by simp [lsSum]), rfl, by decide⟩
  case round =>
    obtain ⟨k, hk, rfl, s, HS, rfl, hs⟩ := hrel
    by_cases hlt : k < n
    · obtain ⟨l, hl⟩ := ls_get (ls := ls) (k := k) (by rw [HN.out]; exact hlt)
      obtain ⟨b, o, Ai, ci, rfl, hb', hc, hB⟩ := HL.out k l hl
      have hsm := hB.small
      have HT := Lib.hid (lsSum_snoc hl)
      have hle := lsSum_take ls (k + 1)
      obtain ⟨m, hm⟩ : ∃ m, l.length = m := ⟨_, rfl⟩
      rw [hm] at hc hsm HT
      have hsl : (s : Int) + m ≤ 1048576 := by have := HT.out; have := HS.out; have := HT0.out; omega
      clear hl hB hm hle
      go_wp2
      exact ⟨⟨k + 1, by omega, by go_num, s + m, Lib.hid (by rw [HT.out]; have := HS.out; omega), by go_num, by omega⟩, by simp [intOf]; omega⟩
    · obtain rfl : n = k := by omega
      have hs1 := HS.out
      rw [List.take_of_length_le (by have := HN.out; omega)] at hs1
      have HW : Hid (ixW s = z) := Lib.hid (by rw [← hs1]; exact HZ.out)
      clear hs1 HS
      go_upto_region 14 with (first | (go_at_call 48; (with_reducible refine (width_any _ _).mono ?_); rintro e w1 ⟨rfl, rfl⟩; rw [HW.out]))
      have hz0 := Lib.hid (Blk.new w 3 [.int .i64 z])
      have hbl := Lib.hid (bel_alloc (o := .cells #[.int .i64 z] 3) (bel_refl (a := w)))
      obtain ⟨W, hW⟩ : ∃ W, w.alloc (.cells #[.int .i64 z] 3) = W := ⟨_, rfl⟩
      have hsz : W.heap.size = w.heap.size + 1 := by rw [← hW]; simp
      rw [hW] at hz0 hbl ⊢
      have HSZ := Lib.hid hsz
      clear hW hsz
      go_cut [8] (fun s8 wx => ∃ b2 g, s8 = .pointer (some ⟨b2, 0, none⟩) ∧ W.heap.size ≤ b2 ∧ Hid (IW W.heap.size W wx g (beB 2 n ++ beB 1 z) 1048576 [(b2, .cells #[.pointer (some ⟨g, 0, none⟩)] 91 (0, 0))]))
      case first =>
        have hk1 := hz0.out.aft
        go_region_held (fun u => Aft W u) (first | (with_reducible exact aft_drew) | (with_reducible exact (Aft.alloc aft_refl _).drew) | (with_reducible refine Aft.alloc ?_ _; assumption) | (with_reducible exact HA3.out) | (with_reducible exact HA3.out.alloc _) | (with_reducible exact HA2.out) | (with_reducible exact HA1.out) | (with_reducible refine Aft.set ?_ ?_ _; (· assumption); (· first | with_reducible exact Nat.le_refl _ | exact HA1.out.size | exact HA2.out.size | exact HA3.out.size)))
          (first
            | (go_at_call 49; (first | ((with_reducible refine (to_I W _ _ (by decide) (by assumption) [(W.heap.size, .cells #[.pointer none] 91 (0, 0))] ?_).mono ?_); (focus (exact one_box rfl))) | (with_reducible refine (to_I W _ _ (by decide) (by assumption) [] (by simp)).mono ?_)); rintro e w1 ⟨g, rfl, hI⟩; have HA1 := Lib.hid hI.aft; have HI1 := Lib.hid hI; clear hI)
            | (go_at_call 50; (first | (with_reducible refine (u16_I HI1.out (by decide) (by decide) _).mono ?_) | (with_reducible refine (u16_I (HI1.out.new _) (by decide) (by decide) _).mono ?_)); rintro e w2 ⟨rfl, hI⟩; have HA2 := Lib.hid hI.aft; have HI2 := Lib.hid hI; clear hI)
            | (go_at_call 51; (first | (with_reducible refine (u8_I HI2.out (by decide) (by decide) _).mono ?_) | (with_reducible refine (u8_I (HI2.out.new _) (by decide) (by decide) _).mono ?_)); rintro e w3 ⟨rfl, hI⟩; have HA3 := Lib.hid hI.aft; have HI3 := Lib.hid hI; (try obtain ⟨hk3, hf3, hl3⟩ := hI.first); clear hI))
        all_goals (go_wp2_with fail; go_meet)
        all_goals first
          | exact ⟨_, _, rfl, HA3.out.size, Lib.hid (HI3.out.new _)⟩
          | exact ⟨_, _, rfl, HA2.out.size, Lib.hid (HI3.out.store (by simp) HA2.out.size 0 _)⟩
          | exact ⟨_, _, rfl, HA1.out.size, Lib.hid (HI3.out.store (by simp) HA1.out.size 0 _)⟩
          | exact ⟨_, _, rfl, Nat.le_refl _, Lib.hid (HI3.out.store (by simp) (Nat.le_refl _) 0 _)⟩
      case rest =>
        obtain ⟨b2, g, rfl, hb2, HI⟩ := hcut
        have hwz : w.heap.size < W.heap.size := by have := HSZ.out; omega
        go_wp2_with (first | (go_at_call 52; (with_reducible refine (offset_I _ _ _ _ _ _ _ z _ _ _ HI.out (by decide) (by decide) hz4 hz0.out hwz (by simp)).mono ?_); rintro e w4 ⟨rfl, hI⟩; have HI4 := Lib.hid hI; clear hI))
        have HE := Lib.hid (rfl : [(b2, Obj.cells #[.pointer (some ⟨g, 0, none⟩)] 91 (0, 0))] = [(b2, Obj.cells #[.pointer (some ⟨g, 0, none⟩)] 91 (0, 0))])
        go_loopw [10, 56] (fun e i wr => ∃ k : Nat, k ≤ n ∧ i = .int .i64 k ∧ (∃ s : Nat, Hid (1 + lsSum (ls.take k) = s) ∧ e = .int .i64 s ∧ (s : Int) ≤ 1048576) ∧ Hid (IW W.heap.size W wr g (beB 2 n ++ beB 1 z ++ beB z 1 ++ offB z ls k) 1048576 [(b2, .cells #[.pointer (some ⟨g, 0, none⟩)] 91 (0, 0))])) (fun _ i _ => n - (intOf i).toNat)
        case atStart => exact ⟨0, Nat.zero_le _, rfl, ⟨1, Lib.hid (by simp [lsSum]), rfl, by decide⟩, Lib.hid (by have := HI4.out; simpa [offB] using this)⟩
        case round =>
          obtain ⟨k, hk, rfl, ⟨s', HS, rfl, hs'⟩, HIr⟩ := hrel
          have HBr := Lib.hid (bel_call HIr.out.below hbl.out).below
          by_cases hlt : k < n
          · obtain ⟨l, hl⟩ := ls_get (ls := ls) (k := k) (by rw [HN.out]; exact hlt)
            obtain ⟨b, o, Ai, ci, rfl, hb', hc, hB⟩ := HL.out.keep HBr.out k l hl
            have hsm := hB.small
            have HT := Lib.hid (lsSum_snoc hl)
            have hle := lsSum_take ls (k + 1)
            obtain ⟨m, hm⟩ : ∃ m, l.length = m := ⟨_, rfl⟩
            rw [hm] at hc hsm HT
            have hsl : (s' : Int) + m ≤ 1048576 := by have := HT.out; have := HS.out; have := HT0.out; omega
            have HO := Lib.hid (offB_next z ls k)
            have HA : Hid ((s' : Int) + m = 1 + (lsSum (ls.take (k + 1)) : Int)) := Lib.hid (by have := HT.out; have := HS.out; omega)
            clear hl hB hm hle
            go_wp2_with (first | (go_at_call 52; (with_reducible refine (offset_I _ _ _ _ _ _ _ z _ _ _ HIr.out (by decide) (by decide) hz4 hz0.out hwz (by simp)).mono ?_); rintro e w5 ⟨rfl, hI⟩; rw [HA.out, List.append_assoc, ← HO.out] at hI; have HI5 := Lib.hid hI; clear hI))
            go_roundw
            case rel => exact ⟨k + 1, by omega, by go_num, ⟨s' + m, Lib.hid (by have := HT.out; have := HS.out; omega), by go_num, by omega⟩, HI5⟩
            case measure => simp [intOf]; omega
          · obtain rfl : n = k := by omega
            go_wp2_with fail
            go_loopw [70] (fun i wr => ∃ k : Nat, k ≤ n ∧ i = .int .i64 k ∧ Hid (IW W.heap.size W wr g (beB 2 n ++ beB 1 z ++ beB z 1 ++ offB z ls n ++ (ls.take k).flatten) 1048576 [(b2, .cells #[.pointer (some ⟨g, 0, none⟩)] 91 (0, 0))])) (fun i _ => n - (intOf i).toNat)
            case atStart => exact ⟨0, Nat.zero_le _, rfl, Lib.hid (by have := HIr.out; simpa using this)⟩
            case round =>
              obtain ⟨k, hk, rfl, HJ⟩ := hrel
              have HBs := Lib.hid (bel_call HJ.out.below hbl.out).below
              have hk2 := (HJ.out.first).1
              by_cases hlt : k < n
              · obtain ⟨l, hl⟩ := ls_get (ls := ls) (k := k) (by rw [HN.out]; exact hlt)
                obtain ⟨b, o, Ai, ci, rfl, hb', hc0, hB⟩ := HL.out k l hl
                have hc := (HBs.out.cell (p := ⟨b, o + k, none⟩) hb').trans hc0
                have hbs : b < wr.heap.size := Nat.lt_of_lt_of_le hb' HBs.out.size
                have HSl := Lib.hid (hB.sl.keep HBs.out)
                have HRw : Hid (0 < l.length → ∀ k, rowOf Ai = some k → k < W.heap.size) := Lib.hid fun h0 k hk => Nat.lt_trans (hB.row h0 k hk) hwz
                have HF := Lib.hid (flatten_snoc hl)
                have hsm := hB.small
                obtain ⟨m, hm⟩ : ∃ m, l.length = m := ⟨_, rfl⟩
                rw [hm] at hc HSl hsm HRw
                have HM := Lib.hid hm
                clear hl hB hm hc0
                go_wp2_with (first | (go_at_call 53; (with_reducible refine (data_I HJ.out (by decide) (by decide) Ai m ci l HM.out HSl.out HRw.out).mono ?_); rintro e w6 ⟨rfl, hI⟩; rw [List.append_assoc, ← HF.out] at hI; have HI6 := Lib.hid hI; clear hI))
                go_roundw
                case rel => exact ⟨k + 1, by omega, by go_num, HI6⟩
                case measure => simp [intOf]; omega
              · obtain rfl : n = k := by omega
                have hj := HJ.out
                rw [List.take_of_length_le (by have := HN.out; omega), ← HX.out] at hj
                obtain ⟨s7, A7, c7, hw7, hok, _, _, _, _, _⟩ := hj
                rcases hok with ⟨rfl, hfit⟩ | ⟨hfull, hbig⟩
                · have HW7 := Lib.hid hw7
                  have HF7 := Lib.hid hfit
                  clear hw7 hfit
                  go_wp2_with (first | (go_at_call 54; (with_reducible refine (done_c _ _ _ _ _ _ HW7.out (by have := HF7.out; simp only; omega)).mono ?_); rintro e w8 ⟨A8, c8, rfl, hs8, hb8, _, hc8⟩; have HC8 := Lib.hid hc8; clear hc8; have HS8 := Lib.hid hs8; have HB8 := Lib.hid (HBs.out.trans (hb8.mono HBs.out.size)); clear hs8 hb8))
                  go_ret2
                  exact ⟨.inl ⟨HF7.out, A8, c8, rfl, HS8.out, HC8.out⟩, HB8.out⟩
                · rw [hfull] at hw7
                  have HW7 := Lib.hid hw7
                  have HF7 := Lib.hid hbig
                  clear hw7 hbig
                  go_wp2_with (first | (go_at_call 54; (with_reducible refine (done_full _ _ _ _ _ _ HW7.out).mono ?_); rintro e w8 ⟨rfl, rfl⟩))
                  go_ret2
                  exact ⟨.inr ⟨HF7.out, rfl⟩, HBs.out⟩

end Go.Proofs.Ytbmflgcahbkdeaa
