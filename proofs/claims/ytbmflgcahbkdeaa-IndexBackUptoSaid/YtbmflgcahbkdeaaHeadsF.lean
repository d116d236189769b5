/-
  heads: put.
-/
import Derived.Test.YtbmflgcahbkdeaaHeadsC
namespace Go.Proofs.Ytbmflgcahbkdeaa
open Go.RowKit

theorem to_E (w : World) (room : Int) :
    Calls Try.prog 49 #[.int .i64 room] w fun e w' => ∃ g, w.heap.size ≤ g ∧ e = .returned (.pointer (some ⟨g, 0, none⟩)) ∧ Wr 117 w' g [] (max room 0) false none 0 ∧ Below w.heap.size w w' :=
  (to_W w room).mono fun _ _ ⟨he, hb, hr⟩ => ⟨_, Nat.le_refl _, he, hr, hb⟩
theorem data_E (w : World) (g : Nat) (s : List UInt8 × Bool) (room : Int) (A : Option Addr) (c : Nat) (news : List UInt8) (A0 : Option Addr) (m c0 : Nat) (hm : news.length = m) (h : Wr 117 w g s.1 room s.2 A c)
    (hr : 0 ≤ room) (hr2 : room ≤ 1099511627776) (hl : (s.1.length : Int) ≤ room) (hs : SlAt w A0 m (news.map byteV)) (hg : rowOf A0 ≠ some g) :
    Calls Try.prog 53 #[.pointer (some ⟨g, 0, none⟩), .slice A0 m c0] w fun e w' =>
      e = .returned (.pointer (some ⟨g, 0, none⟩)) ∧ ∃ A' c', WrS 117 w w' g (putF room s news) room (rowOf A) A' c' := by
  subst hm
  exact data_W w g s room A c news A0 c0 h hr hr2 hl hs hg
theorem putF_fit {room : Int} {bs news : List UInt8} (h : (bs.length : Int) + news.length ≤ room) : putF room (bs, false) news = (bs ++ news, false) := by
  have : fullF bs room false news.length = false := by simp [fullF]; omega
  simp [putF, this]

theorem WrS.rowB {T : TypeId} {w0 w : World} {g : Nat} {s : List UInt8 × Bool} {room : Int} {row0 : Option Nat} {A : Option Addr} {c B : Nat} (h : WrS T w0 w g s room row0 A c) (hB : B ≤ w0.heap.size) (hr : ∀ k, row0 = some k → B ≤ k) : ∀ k, rowOf A = some k → B ≤ k := by
  intro k e
  rcases h.row with e2 | e2
  · exact hr k (e2 ▸ e)
  · exact Nat.le_trans hB (e2 k e)
theorem WrS.belB {T : TypeId} {w0 w a : World} {g : Nat} {s : List UInt8 × Bool} {room : Int} {row0 : Option Nat} {A : Option Addr} {c B : Nat} (h : WrS T w0 w g s room row0 A c) (ha : Below B a w0) (hB : B ≤ w0.heap.size) (hg : B ≤ g) (hr : ∀ k, row0 = some k → B ≤ k) : Below B a w :=
  ha.trans (h.turn.below hB hg hr)

/-- A writer of one's own in the midst of the work. -/
structure PutS (B : Nat) (w0 w : World) (g : Nat) (bs : List UInt8) (room : Int) (A : Option Addr) (c : Nat) : Prop where
  wr : Wr 117 w g bs room false A c
  bel : Below B w0 w
  le : B ≤ g
  row : ∀ k, rowOf A = some k → B ≤ k
theorem PutS.alloc {B : Nat} {w0 w : World} {g : Nat} {bs : List UInt8} {room : Int} {A : Option Addr} {c : Nat} (h : PutS B w0 w g bs room A c) (hB : B ≤ w.heap.size) (o : Obj) : PutS B w0 (w.alloc o) g bs room A c :=
  ⟨h.wr.alloc o, (bel_alloc ⟨h.bel, hB⟩).below, h.le, h.row⟩
theorem PutS.next {B : Nat} {w0 w w' : World} {g : Nat} {bs news : List UInt8} {room : Int} {A A' : Option Addr} {c c' : Nat} (h : PutS B w0 w g bs room A c) (hB : B ≤ w.heap.size) (hx : WrS 117 w w' g (putF room (bs, false) news) room (rowOf A) A' c') (hf : (bs.length : Int) + news.length ≤ room) :
    PutS B w0 w' g (bs ++ news) room A' c' := by
  have hx' := hx
  rw [putF_fit hf] at hx'
  exact ⟨hx'.wr, hx.belB h.bel hB h.le h.row, h.le, hx.rowB hB h.row⟩

theorem size_le {B : Nat} {W : World} (h : B ≤ W.heap.size) (o : Obj) : B ≤ (W.alloc o).heap.size := by
  simp
  omega
theorem slat_zeros (W : World) (m n : Nat) (t : TypeId) (h : W.heap.size = n) : SlAt (W.alloc (.cells (Array.replicate m (byteV 0)) t)) (some ⟨n, 0, none⟩) m ((List.replicate m (0 : UInt8)).map byteV) := by
  have := slat_new W ((List.replicate m (0 : UInt8)).map byteV) t n h
  simpa using this
theorem make_zeros (m : Nat) (h : m ≤ 140737488355328) (w : World) : (Instr.makeSlice 22 (.int .i64 m) (.int .i64 m)).run Try.prog w =
    .ok (.slice (some ⟨w.heap.size, 0, none⟩) m m) (w.alloc (.cells (Array.replicate m (byteV 0)) 5)) := by
  rw [make_bytes m h w]
  simp
theorem below_cell {B : Nat} {w w' : World} (h : Below B w w') {b i : Nat} (hb : b < B) {v : Value} (hc : w.cell? ⟨b, i, none⟩ = some v) : w'.cell? ⟨b, i, none⟩ = some v := (h.cell (p := ⟨b, i, none⟩) hb).trans hc

def putAll (val : Nat × Nat → Int) (l : List PlR) : List UInt8 := l.flatMap (plBytes val)
theorem putAll_succ (val : Nat × Nat → Int) (l : List PlR) (k : Nat) (p : PlR) (h : l[k]? = some p) : putAll val (l.take (k + 1)) = putAll val (l.take k) ++ plBytes val p := by
  rw [List.take_add_one, h]
  simp [putAll]
theorem putAll_len (val : Nat × Nat → Int) (l : List PlR) (k : Nat) (p : PlR) (h : l[k]? = some p) : (putAll val (l.take k)).length + (plBytes val p).length ≤ (putAll val l).length := by
  rw [← List.length_append, ← putAll_succ val l k p h]
  have : putAll val l = putAll val (l.take (k + 1)) ++ putAll val (l.drop (k + 1)) := by
    unfold putAll
    rw [← List.flatMap_append, List.take_append_drop]
  rw [this, List.length_append]
  omega

set_option maxHeartbeats 2000000 in
theorem put_any (w : World) (room : Int) (A : Option Addr) (n c : Nat) (l : List PlR) (val : Nat × Nat → Int) (hl : PlsAt w A n l) (hv : ∀ p ∈ l, ∀ a, p.to = some a → a.1 < w.heap.size ∧ w.cell? ⟨a.1, a.2, none⟩ = some (.int .i64 (val a)))
    (hr0 : 0 ≤ room) (hr : room ≤ 1000) (hn : (n : Int) ≤ 1000) (hsz : ((putAll val l).length : Int) ≤ room) :
    Calls Try.prog 60 #[.int .i64 room, .slice A n c] w fun e w' => ∃ A' c', e = .returned (.tuple #[.slice A' (putAll val l).length c', .int .i64 0]) ∧ SlAt w' A' (putAll val l).length ((putAll val l).map byteV) ∧ Below w.heap.size w w' ∧ (∀ k, rowOf A' = some k → w.heap.size ≤ k) ∧ (putAll val l).length ≤ c' := by
  have HL := Lib.hid hl
  have HV := Lib.hid hv
  have HSZ := Lib.hid hsz
  have hmax : max room 0 = room := by omega
  clear hl hv hsz
  go_enter Try.func60, Try.ntmps60
  go_wp2_with (first
    | (go_at_call 49; refine (to_E _ _).mono ?_; rw [hmax]; rintro e w1 ⟨g, hg0, rfl, hw1, hb1⟩; have HP : Hid (PutS w.heap.size w w1 g [] room none 0) := Lib.hid ⟨hw1, hb1, hg0, fun _ e => by cases e⟩; clear hw1 hb1))
  clear hmax
  go_loopw [14] (fun i wr => ∃ k : Nat, k ≤ n ∧ i = .int .i64 k ∧ ∃ A1 c1, Hid (PutS w.heap.size w wr g (putAll val (l.take k)) room A1 c1)) (fun i _ => n - (intOf i).toNat)
  case atStart => exact ⟨0, Nat.zero_le _, rfl, _, _, HP⟩
  case round =>
    obtain ⟨k, hk, rfl, A1, c1, HPk⟩ := hrel
    have hsz := HPk.out.bel.size
    by_cases hlt : k < n
    · obtain ⟨p, hp⟩ : ∃ p, l[k]? = some p := ⟨l[k]'(by have := HL.out.len; simp at this; omega), List.getElem?_eq_getElem _⟩
      obtain ⟨b, o, hAe, hbl, c0, c1', c2, c3, c4, c5⟩ := HL.out.at_ hp
      have hcell : ∀ q, wr.cell? ⟨b, q, none⟩ = w.cell? ⟨b, q, none⟩ := fun q => HPk.out.bel.cell (p := ⟨b, q, none⟩) hbl
      rw [← hcell] at c0 c1' c2 c3 c4 c5
      have hlen := putAll_len val l k p hp
      have HF : Hid (((putAll val (l.take k)).length : Int) + (plBytes val p).length ≤ room) := Lib.hid (by have := HSZ.out; omega)
      have HE := Lib.hid (putAll_succ val l k p hp)
      have HVp := Lib.hid (HV.out p (List.mem_of_getElem? hp))
      clear hcell hlen hp
      subst hAe
      obtain ⟨to, sign, wide, skip, fixed, want⟩ := p
      simp only [ptrV] at c0 c1' c2 c3 c4 c5
      rcases to with _ | a
      · have hX : plX val ⟨none, sign, wide, skip, fixed, want⟩ = want := rfl
        rcases Nat.eq_zero_or_pos skip with rfl | hs
        · rcases wide with _ | _
          · have HB2 : Hid (plBytes val ⟨none, sign, false, 0, fixed, want⟩ = beB 2 want) := Lib.hid (by simp [plBytes, plX])
            have HF2 := Lib.hid (show ((putAll val (l.take k)).length : Int) + (beB 2 want).length ≤ room by have := HF.out; rw [HB2.out] at this; exact this)
            clear hX
            go_wp2_with (first
              | (go_at_call 50; refine (u16_W _ _ (putAll val (l.take k), false) _ _ _ _ (HPk.out.alloc hsz _).wr hr0 (by omega) (by have := HF.out; simp only; omega)).mono ?_; rintro e w2 ⟨rfl, A2, c2', h2⟩; have HN := Lib.hid ((HPk.out.alloc hsz _).next (size_le hsz _) h2 HF2.out); clear h2))
            go_wp2_with fail
            go_roundw
            case rel => exact ⟨k + 1, by omega, by go_num, _, _, by rw [HE.out, HB2.out]; exact HN⟩
            case measure => simp [intOf]; omega
          · have HB2 : Hid (plBytes val ⟨none, sign, true, 0, fixed, want⟩ = beB 4 want) := Lib.hid (by simp [plBytes, plX])
            have HF2 := Lib.hid (show ((putAll val (l.take k)).length : Int) + (beB 4 want).length ≤ room by have := HF.out; rw [HB2.out] at this; exact this)
            clear hX
            go_wp2_with (first
              | (go_at_call 80; refine (u32_W _ _ (putAll val (l.take k), false) _ _ _ _ (HPk.out.alloc hsz _).wr hr0 (by omega) (by have := HF.out; simp only; omega)).mono ?_; rintro e w2 ⟨rfl, A2, c2', h2⟩; have HN := Lib.hid ((HPk.out.alloc hsz _).next (size_le hsz _) h2 HF2.out); clear h2))
            go_wp2_with fail
            go_roundw
            case rel => exact ⟨k + 1, by omega, by go_num, _, _, by rw [HE.out, HB2.out]; exact HN⟩
            case measure => simp [intOf]; omega
        · have HB2 : Hid (plBytes val ⟨none, sign, wide, skip, fixed, want⟩ = List.replicate skip 0) := Lib.hid (by simp [plBytes, hs])
          have HF2 := Lib.hid (show ((putAll val (l.take k)).length : Int) + (List.replicate skip (0 : UInt8)).length ≤ room by have := HF.out; rw [HB2.out] at this; exact this)
          have hsk : (skip : Int) ≤ 1000 := by have := HF2.out; simp at this; omega
          have hmk := fun W => make_zeros skip (by omega) W
          have hg1 := HPk.out.wr.blk.lt
          clear hX
          have HZ := fun o n h => Lib.hid (slat_zeros (wr.alloc o) skip n 5 h)
          go_wp2_with (first
            | (go_at_call 53; refine (data_E _ _ (putAll val (l.take k), false) _ _ _ (List.replicate skip 0) _ skip _ (by simp) ((HPk.out.alloc hsz _).alloc (size_le hsz _) _).wr hr0 (by omega) (by have := HF.out; simp only; omega) (HZ _ _ (by simp)).out (by intro e; injection e with e; simp at e; omega)).mono ?_; rintro e w2 ⟨rfl, A2, c2', h2⟩; have HN := Lib.hid (((HPk.out.alloc hsz _).alloc (size_le hsz _) _).next (size_le (size_le hsz _) _) h2 HF2.out); clear h2 hmk HZ))
          go_wp2_with fail
          go_roundw
          case rel => exact ⟨k + 1, by omega, by go_num, _, _, by rw [HE.out, HB2.out]; exact HN⟩
          case measure => simp [intOf]; omega
      · obtain ⟨ha1, ha2⟩ := HVp.out a rfl
        have hxc := below_cell HPk.out.bel ha1 ha2
        have hxl : a.1 < wr.heap.size := Nat.lt_of_lt_of_le ha1 hsz
        obtain ⟨a1, a2⟩ := a
        simp only [Option.map_some] at c0 hxc hxl ha1
        obtain ⟨x, hx⟩ : ∃ x, val (a1, a2) = x := ⟨_, rfl⟩
        rw [hx] at hxc
        have HXX := Lib.hid hx
        clear hx ha2
        rcases Nat.eq_zero_or_pos skip with rfl | hs
        · rcases wide with _ | _
          · have HB2 : Hid (plBytes val ⟨some (a1, a2), sign, false, 0, fixed, want⟩ = beB 2 x) := Lib.hid (by simp [plBytes, plX, HXX.out])
            have HF2 := Lib.hid (show ((putAll val (l.take k)).length : Int) + (beB 2 x).length ≤ room by have := HF.out; rw [HB2.out] at this; exact this)
            go_wp2_with (first
              | (go_at_call 50; refine (u16_W _ _ (putAll val (l.take k), false) _ _ _ _ (HPk.out.alloc hsz _).wr hr0 (by omega) (by have := HF.out; simp only; omega)).mono ?_; rintro e w2 ⟨rfl, A2, c2', h2⟩; have HN := Lib.hid ((HPk.out.alloc hsz _).next (size_le hsz _) h2 HF2.out); clear h2))
            go_wp2_with fail
            go_roundw
            case rel => exact ⟨k + 1, by omega, by go_num, _, _, by rw [HE.out, HB2.out]; exact HN⟩
            case measure => simp [intOf]; omega
          · have HB2 : Hid (plBytes val ⟨some (a1, a2), sign, true, 0, fixed, want⟩ = beB 4 x) := Lib.hid (by simp [plBytes, plX, HXX.out])
            have HF2 := Lib.hid (show ((putAll val (l.take k)).length : Int) + (beB 4 x).length ≤ room by have := HF.out; rw [HB2.out] at this; exact this)
            go_wp2_with (first
              | (go_at_call 80; refine (u32_W _ _ (putAll val (l.take k), false) _ _ _ _ (HPk.out.alloc hsz _).wr hr0 (by omega) (by have := HF.out; simp only; omega)).mono ?_; rintro e w2 ⟨rfl, A2, c2', h2⟩; have HN := Lib.hid ((HPk.out.alloc hsz _).next (size_le hsz _) h2 HF2.out); clear h2))
            go_wp2_with fail
            go_roundw
            case rel => exact ⟨k + 1, by omega, by go_num, _, _, by rw [HE.out, HB2.out]; exact HN⟩
            case measure => simp [intOf]; omega
        · have HB2 : Hid (plBytes val ⟨some (a1, a2), sign, wide, skip, fixed, want⟩ = List.replicate skip 0) := Lib.hid (by simp [plBytes, hs])
          have HF2 := Lib.hid (show ((putAll val (l.take k)).length : Int) + (List.replicate skip (0 : UInt8)).length ≤ room by have := HF.out; rw [HB2.out] at this; exact this)
          have hsk : (skip : Int) ≤ 1000 := by have := HF2.out; simp at this; omega
          have hmk := fun W => make_zeros skip (by omega) W
          have hg1 := HPk.out.wr.blk.lt
          have HZ := fun o n h => Lib.hid (slat_zeros (wr.alloc o) skip n 5 h)
          go_wp2_with (first
            | (go_at_call 53; refine (data_E _ _ (putAll val (l.take k), false) _ _ _ (List.replicate skip 0) _ skip _ (by simp) ((HPk.out.alloc hsz _).alloc (size_le hsz _) _).wr hr0 (by omega) (by have := HF.out; simp only; omega) (HZ _ _ (by simp)).out (by intro e; injection e with e; simp at e; omega)).mono ?_; rintro e w2 ⟨rfl, A2, c2', h2⟩; have HN := Lib.hid (((HPk.out.alloc hsz _).alloc (size_le hsz _) _).next (size_le (size_le hsz _) _) h2 HF2.out); clear h2 hmk HZ))
          go_wp2_with fail
          go_roundw
          case rel => exact ⟨k + 1, by omega, by go_num, _, _, by rw [HE.out, HB2.out]; exact HN⟩
          case measure => simp [intOf]; omega
    · obtain rfl : n = k := by omega
      have HT := Lib.hid (show putAll val (l.take n) = putAll val l by rw [List.take_of_length_le (by have := HL.out.len; simp at this; omega)])
      have HPn := Lib.hid (by rw [← HT.out]; exact HPk.out : PutS w.heap.size w wr g (putAll val l) room A1 c1)
      clear HPk
      go_wp2_with (first | (go_at_call 54; refine (done_c _ _ _ _ _ _ HPn.out.wr (by have := HSZ.out; omega)).mono ?_; rintro e w2 ⟨A2, c2', rfl, hs2, hb2, hr2, hk2⟩))
      go_ret2
      exact ⟨A2, c2', rfl, hs2, HPn.out.bel.trans (hb2.mono hsz), fun k hk => Nat.le_trans hsz (hr2 k hk), hk2⟩

end Go.Proofs.Ytbmflgcahbkdeaa
