/-
  Layer 25: LruLast.
-/
import Derived.Test.YtakgeeopfclmoaaLrX
namespace Go.Proofs.Ytakgeeopfclmoaa
open Go.RowKit Go.Maps

theorem rcost_any (m : Ms) (A : Option Addr) (c : Nat) (hn : m.bs.length ≤ 140737488355328) (w : World) :
    Calls Try.prog 13 #[.agg #[.int .i64 m.box.a, .int .i64 m.box.b, .int .i64 m.box.c, .int .i64 m.box.d, .slice A m.bs.length c]] w fun e w' => e = .returned (.int .i64 (64 + m.bs.length)) ∧ Below w.heap.size w w' := by
  go_enter Try.func13, Try.ntmps13
  go_wp2
  go_ret
  refine ⟨ret_int rfl, Bel.below ?_⟩
  repeat (first | with_reducible exact bel_refl | with_reducible apply bel_alloc | with_reducible apply bel_drewN | with_reducible apply bel_drew | (with_reducible refine bel_set ?_ ?_; rotate_left; · first | (simp; done) | (simp; omega) | omega) | with_reducible refine bel_call (by assumption) ?_)
def LasR (w : World) (g : Nat) (budget : Int) (k : K4) (b9 n r : Nat) (put i : Value) (wr : World) : Prop :=
  ∃ (L : List En) (pt : Bool) (m : Ms) (A : Option Addr) (c : Nat), r ≤ n ∧ i = .int .i64 ((n - r : Nat) : Int) ∧ put = .bool pt ∧ LruS wr g (bz (w.heap.size + 1)) budget L ∧ LastI k L pt m ∧
    Blk wr b9 35 [.int .i64 m.box.a, .int .i64 m.box.b, .int .i64 m.box.c, .int .i64 m.box.d, .slice A m.bs.length c] ∧ Ar (w.heap.size + 1) wr A m.bs c ∧ Blk wr w.heap.size 24 [.int .i64 k.g, .int .i64 k.p, .int .i64 k.x, .int .i64 k.y] ∧ Below w.heap.size w wr ∧ w.heap.size + 1 ≤ b9
theorem Ar.set {B : Nat} {w : World} {A : Option Addr} {bs : List UInt8} {c : Nat} (h : Ar B w A bs c) {b : Nat} {t : TypeId} {cs : List Value} (hb : Blk w b t cs) (hB : B ≤ b) (ht : t ≠ 5) (i : Nat) (v : Value) : Ar B (w.setCell ⟨b, i, none⟩ v) A bs c :=
  h.stay (by simp [World.setCell]) fun k _ hs => Below.heap_setCell w _ v k fun e => by
    have e' : k = b := e
    subst e'
    rcases hs with hs | ⟨cs', f, hs⟩
    · omega
    · unfold Blk at hb
      rw [hb] at hs
      injection hs with hs
      injection hs with _ hs _
      exact ht hs
theorem Ar.maskW {B : Nat} {w : World} {A : Option Addr} {bs : List UInt8} {c : Nat} (h : Ar B w A bs c) {b : Nat} {cs : List Value} (hb : Blk w b 35 cs) (hB : B ≤ b) (m : Ms) (A' : Option Addr) (c' : Nat) : Ar B (Proofs.Ytakgeeopfclmoaa.maskW w b m A' c') A bs c := by
  have b1 := hb.set 0 (.int .i64 m.box.a)
  have b2 := b1.set 1 (.int .i64 m.box.b)
  have b3 := b2.set 2 (.int .i64 m.box.c)
  have b4 := b3.set 3 (.int .i64 m.box.d)
  have hu : (35 : TypeId) ≠ 5 := by decide
  exact ((((h.set hb hB hu 0 _).set b1 hB hu 1 _).set b2 hB hu 2 _).set b3 hB hu 3 _).set b4 hB hu 4 _
theorem LruS.maskW {w : World} {g B : Nat} {budget : Int} {L : List En} (h : LruS w g B budget L) {b : Nat} {cs : List Value} (hb : Blk w b 35 cs) (m : Ms) (A : Option Addr) (c : Nat) : LruS (Proofs.Ytakgeeopfclmoaa.maskW w b m A c) g B budget L := by
  obtain ⟨⟨Y, S, l, fr, h1, ok⟩, h2, h3, h4⟩ := h
  exact ⟨⟨Y, S, l, fr, h1.maskW hb m A c, ok⟩, h2, h3, h4⟩
theorem blk_maskW {w : World} {b : Nat} {x0 x1 x2 x3 x4 : Value} (hb : Blk w b 35 [x0, x1, x2, x3, x4]) (m : Ms) (A : Option Addr) (c : Nat) : Blk (maskW w b m A c) b 35 [.int .i64 m.box.a, .int .i64 m.box.b, .int .i64 m.box.c, .int .i64 m.box.d, .slice A m.bs.length c] :=
  ((((hb.set 0 (.int .i64 m.box.a)).set 1 (.int .i64 m.box.b)).set 2 (.int .i64 m.box.c)).set 3 (.int .i64 m.box.d)).set 4 (.slice A m.bs.length c)
theorem last_hit {k : K4} {L : List En} {put : Bool} {m : Ms} (h : LastI k L put m) (hgb : gb k L = true) : put = true ∧ gm k L = m := by
  unfold gb at hgb
  cases hf : findL k L with
  | none => rw [hf] at hgb; cases hgb
  | some e =>
    obtain ⟨h1, h2⟩ := h e hf
    exact ⟨h1, by unfold gm; rw [hf]; exact h2⟩
def GHit (w : World) (B : Nat) (m : Ms) (e : Ending) (w' : World) : Prop :=
  ∃ A c, e = .returned (.tuple #[.agg #[.int .i64 m.box.a, .int .i64 m.box.b, .int .i64 m.box.c, .int .i64 m.box.d, .slice A m.bs.length c], .bool true]) ∧ Bu w' A m.bs c ∧ KeepT B w w'
theorem lget_hit {w : World} {g B : Nat} {budget : Int} {L : List En} {m : Ms} (h : LruS w g B budget L) (k : K4) (hk : k.wf) (hgb : gb k L = true) (hgm : gm k L = m) :
    Calls Try.prog 14 #[.pointer (some ⟨g, 0, none⟩), .agg #[.int .i64 k.g, .int .i64 k.p, .int .i64 k.x, .int .i64 k.y]] w (GHit w B m) := by
  refine (Get_any h k hk).mono ?_
  rintro e w' ⟨A, c, h1, h2, h3, h4⟩
  rw [hgm, hgb] at h1
  rw [hgm] at h2
  exact ⟨A, c, h1, h2, h4⟩
def GMiss (w : World) (B : Nat) (e : Ending) (w' : World) : Prop :=
  ∃ (m : Ms) (A : Option Addr) (c : Nat), e = .returned (.tuple #[.agg #[.int .i64 m.box.a, .int .i64 m.box.b, .int .i64 m.box.c, .int .i64 m.box.d, .slice A m.bs.length c], .bool false]) ∧ KeepT B w w'
theorem lget_miss {w : World} {g B : Nat} {budget : Int} {L : List En} (h : LruS w g B budget L) (k : K4) (hk : k.wf) (hgb : gb k L = false) :
    Calls Try.prog 14 #[.pointer (some ⟨g, 0, none⟩), .agg #[.int .i64 k.g, .int .i64 k.p, .int .i64 k.x, .int .i64 k.y]] w (GMiss w B) := by
  refine (Get_any h k hk).mono ?_
  rintro e w' ⟨A, c, h1, h2, h3, h4⟩
  rw [hgb] at h1
  exact ⟨_, A, c, h1, h4⟩
theorem last_put {w : World} {g B : Nat} {budget : Int} {L : List En} (h : LruS w g B budget L) (k : K4) (hk : k.wf) (m : Ms) (A : Option Addr) (c : Nat) (ha : Ar B w A m.bs c) (hm : maskM m = 0) :
    Calls Try.prog 12 #[.pointer (some ⟨g, 0, none⟩), .agg #[.int .i64 k.g, .int .i64 k.p, .int .i64 k.x, .int .i64 k.y], .agg #[.int .i64 m.box.a, .int .i64 m.box.b, .int .i64 m.box.c, .int .i64 m.box.d, .slice A m.bs.length c]] w fun e w' =>
      e = .returned (.tuple #[.bool (okP budget m), .int .i64 0]) ∧ LruS w' g B budget (putM budget k m L) ∧ KeepT B w w' := by
  refine (Put_any h k hk m A c ha (fun _ h => h.elim)).mono ?_
  rintro e w' ⟨h1, h2, h3⟩
  rw [hm] at h1
  exact ⟨h1, h2, h3⟩
set_option maxRecDepth 20000 in
set_option maxHeartbeats 8000000 in
theorem lruLast_in (budget : Int) {w : World} {A : Option Addr} {n c : Nat} {os : List Cq} (hl : os.length = n) (hA : CallsAt w A os) (hc : n ≤ c) (k : K4) (hkw : k.wf) (hbud : budB budget = true) :
    Calls Try.prog 3 #[.int .i64 budget, .slice A n c, .agg #[.int .i64 k.g, .int .i64 k.p, .int .i64 k.x, .int .i64 k.y]] w fun e w' => e = .returned (.bool true) ∧ Below w.heap.size w w' := by
  have h0 := (budB_true.1 hbud).1
  have hb2 := (budB_true.1 hbud).2
  have hn := fun w => New_yes (w := w) budget hbud
  have HN := Lib.hid hn
  have HCA := Lib.hid hA
  have HL := Lib.hid hl
  have HKW := Lib.hid hkw
  clear hn hA hl hbud hkw
  go_enter Try.func3, Try.ntmps3
  go_wp2_with (first
      | (go_at_call 8; (with_reducible refine (HN.out _).mono ?_); rintro e w1 ⟨g, rfl, hh, hb1⟩
         have hh2 : LruH w1 g (bz (w.heap.size + 1)) 0 budget [] := by simpa using hh
         have HS := Lib.hid (LruS.mk (L := []) hh2 h0 h0 (by omega))
         have HKB := Lib.hid (Blk.keepB (Blk.newAt w 24 [.int .i64 k.g, .int .i64 k.p, .int .i64 k.x, .int .i64 k.y] rfl) hb1)
         have HB := Lib.hid ((bel_alloc bel_refl).below.trans (hb1.mono (by simp)))
         clear hh hh2 hb1)
      | (go_at_call 9; (with_reducible refine (lives_any _).mono ?_); rintro e w2 ⟨rfl, hb2⟩
         have HS2 := Lib.hid (HS.out.keep hb2)
         have HKB2 := Lib.hid (HKB.out.keepB hb2)
         have HB2 := Lib.hid (HB.out.trans (hb2.mono HB.out.size))
         clear hb2))
  go_loopg [10, 11] n (fun r put i wr => LasR w g budget k w2.heap.size n r put i wr)
  case atStart =>
    have hbl := bel_alloc (o := .cells #[.int .i64 0, .int .i64 0, .int .i64 0, .int .i64 0, .slice none 0 0] 35) (bel_refl (a := w2))
    refine ⟨[], false, zMs, none, 0, Nat.le_refl _, by simp, rfl, HS2.out.keep hbl.below, fun e he => by simp [findL] at he, Blk.newAt _ _ [_, _, _, _, _] rfl, ⟨⟨⟨rfl, fun k hk => by simp [zMs] at hk⟩, Nat.le_refl _, Nat.zero_le _, fun h => by simp [zMs] at h⟩, fun h => by simp [zMs] at h⟩, HKB2.out.keepB hbl.below, HB2.out.trans (hbl.below.mono HB2.out.size), HKB2.out.lt⟩
  case round =>
    obtain ⟨L, pt, m, A9, cN, hr, rfl, rfl, hS, hI, h9, ha9, hkb, hbel, h9b⟩ := hrel
    obtain ⟨j, hj⟩ : ∃ j, n - gk = j := ⟨_, rfl⟩
    rw [hj]
    by_cases hin : j < n ∧ j < 100
    · obtain ⟨hjn, hj60⟩ := hin
      obtain ⟨o, ho⟩ : ∃ o, os[j]? = some o := ⟨_, List.getElem?_eq_getElem (by rw [HL.out]; exact hjn)⟩
      obtain ⟨b, off, hAA, hblt, hcell, hbw, hkwo⟩ := (HCA.out.keep hbel (Nat.le_refl _) hbel.size) j o ho
      have har : Ar (w.heap.size + 1) wr o.A o.m.bs o.c := by
        obtain ⟨_, _, _, _, _, hbw0, _⟩ := HCA.out j o ho
        exact ⟨hbw, fun h0 b hb => .inl (by have := hbw0.row h0 b hb; omega)⟩
      subst hAA
      have c0 : wr.cell? ⟨b, off + j * 11, none⟩ = some (.int .i64 o.kind) := by have := hcell 0 _ rfl; simpa [Nat.add_assoc] using this
      have c1 : wr.cell? ⟨b, off + j * 11 + 1, none⟩ = some (.int .i64 o.k.g) := by have := hcell 1 _ rfl; simpa [Nat.add_assoc] using this
      have c2 : wr.cell? ⟨b, off + j * 11 + 2, none⟩ = some (.int .i64 o.k.p) := by have := hcell 2 _ rfl; simpa [Nat.add_assoc] using this
      have c3 : wr.cell? ⟨b, off + j * 11 + 3, none⟩ = some (.int .i64 o.k.x) := by have := hcell 3 _ rfl; simpa [Nat.add_assoc] using this
      have c4 : wr.cell? ⟨b, off + j * 11 + 4, none⟩ = some (.int .i64 o.k.y) := by have := hcell 4 _ rfl; simpa [Nat.add_assoc] using this
      have c5 : wr.cell? ⟨b, off + j * 11 + 5, none⟩ = some (.int .i64 o.m.box.a) := by have := hcell 5 _ rfl; simpa [Nat.add_assoc] using this
      have c6 : wr.cell? ⟨b, off + j * 11 + 6, none⟩ = some (.int .i64 o.m.box.b) := by have := hcell 6 _ rfl; simpa [Nat.add_assoc] using this
      have c7 : wr.cell? ⟨b, off + j * 11 + 7, none⟩ = some (.int .i64 o.m.box.c) := by have := hcell 7 _ rfl; simpa [Nat.add_assoc] using this
      have c8 : wr.cell? ⟨b, off + j * 11 + 8, none⟩ = some (.int .i64 o.m.box.d) := by have := hcell 8 _ rfl; simpa [Nat.add_assoc] using this
      have c9 : wr.cell? ⟨b, off + j * 11 + 9, none⟩ = some (.slice o.A o.m.bs.length o.c) := by have := hcell 9 _ rfl; simpa [Nat.add_assoc] using this
      have c10 : wr.cell? ⟨b, off + j * 11 + 10, none⟩ = some (.int .i64 o.n) := by have := hcell 10 _ rfl; simpa [Nat.add_assoc] using this
      have hjn' : (j : Int) < n := by omega
      have hj60' : (j : Int) < 100 := by omega
      have hsm := hbw.small
      obtain ⟨r, rfl⟩ : ∃ r, gk = r + 1 := ⟨gk - 1, by omega⟩
      have hnx : n - r = j + 1 := by omega
      have hal := bel_alloc (o := .cells #[.int .i64 o.kind, .int .i64 o.k.g, .int .i64 o.k.p, .int .i64 o.k.x, .int .i64 o.k.y, .int .i64 o.m.box.a, .int .i64 o.m.box.b, .int .i64 o.m.box.c, .int .i64 o.m.box.d, .slice o.A o.m.bs.length o.c, .int .i64 o.n] 37) (bel_refl (a := wr))
      have HAR := Lib.hid (har.keepB hal.below)
      have HS := Lib.hid (hS.keep hal.below)
      have HI := Lib.hid hI
      have H9 := Lib.hid (h9.keepB hal.below)
      have HA9 := Lib.hid (ha9.keepB hal.below)
      have HKB3 := Lib.hid (hkb.keepB hal.below)
      have HMB := Lib.hid (Blk.newAt wr 37 [.int .i64 o.kind, .int .i64 o.k.g, .int .i64 o.k.p, .int .i64 o.k.x, .int .i64 o.k.y, .int .i64 o.m.box.a, .int .i64 o.m.box.b, .int .i64 o.m.box.c, .int .i64 o.m.box.d, .slice o.A o.m.bs.length o.c, .int .i64 o.n] rfl)
      have HBL := Lib.hid (hbel.trans (hal.below.mono hbel.size))
      have HKWO := Lib.hid hkwo
      have hfin : ∀ (L' : List En) (pt' : Bool) (m' : Ms) (A' : Option Addr) (c' : Nat) (w' : World), LruS w' g (bz (w.heap.size + 1)) budget L' → LastI k L' pt' m' → Blk w' w2.heap.size 35 [.int .i64 m'.box.a, .int .i64 m'.box.b, .int .i64 m'.box.c, .int .i64 m'.box.d, .slice A' m'.bs.length c'] → Ar (w.heap.size + 1) w' A' m'.bs c' → Blk w' w.heap.size 24 [.int .i64 k.g, .int .i64 k.p, .int .i64 k.x, .int .i64 k.y] → Below w.heap.size w w' →
          LasR w g budget k w2.heap.size n r (.bool pt') (.int .i64 ((j : Int) + 1)) w' := fun L' pt' m' A' c' w' g1 g2 g3 g4 g5 g6 => ⟨L', pt', m', A', c', by omega, by rw [hnx]; rfl, rfl, g1, g2, g3, g4, g5, g6, h9b⟩
      have HF := Lib.hid hfin
      clear hcell har hbw hkwo hS hI h9 ha9 hkb hbel ho hfin hj hal
      by_cases hbig : 16384 < o.m.bs.length
      · have hb' : (16384 : Int) < o.m.bs.length := by omega
        go_wp2_with fail
        go_roundg r
        case rel => exact HF.out L pt m A9 cN _ HS.out HI.out H9.out HA9.out HKB3.out HBL.out
        case measure => omega
      have hb' : (o.m.bs.length : Int) ≤ 16384 := by omega
      clear hbig
      by_cases hk1 : o.kind = 1
      · rw [hk1] at c0 HS H9 HA9 HKB3 HMB HBL HAR
        go_wp2_with (first
          | (go_at_call 14; (with_reducible refine (Get_any HS.out o.k HKWO.out).mono ?_); rintro e w3 ⟨A3, c3, rfl, hbu3, h3, k3⟩
             have HS3 := Lib.hid h3
             have HK3 := Lib.hid k3
             clear hbu3 h3 k3))
        go_roundg r
        case rel => exact HF.out _ pt m A9 cN _ HS3.out (last_get HI.out) (HK3.out.blk H9.out (by decide)) (HA9.out.keepT HK3.out) (HK3.out.blk HKB3.out (by decide)) (HBL.out.trans (HK3.out.toBelow.mono (by omega)))
        case measure => omega
      by_cases hk2 : o.kind = 2
      · rw [hk2] at c0 HS H9 HA9 HKB3 HMB HBL HAR
        clear hk1
        by_cases hmm : maskM o.m = 0
        · have hCK := fun w => rcheck_ms o.m o.A o.c hsm w
          rw [hmm] at hCK
          have HCK := Lib.hid hCK
          have HMM := Lib.hid hmm
          clear hCK hmm
          have hnd := HS.out.nodup
          have HND := Lib.hid hnd
          have hov : decide ((64 : Int) + o.m.bs.length > budget) = !okP budget o.m := by
            unfold okP costM
            rw [decide_eq_true HMM.out]
            simp
          have hpt := fun (w3 : World) (h : LruS w3 g (bz (w.heap.size + 1)) budget L) (ha : Ar (w.heap.size + 1) w3 o.A o.m.bs o.c) => last_put h o.k HKWO.out o.m o.A o.c ha HMM.out
          obtain ⟨ok, hok⟩ : ∃ ok, okP budget o.m = ok := ⟨_, rfl⟩
          rw [hok] at hov hpt
          have HPT := Lib.hid hpt
          clear hpt
          have HOK := Lib.hid hok
          clear hok hnd
          by_cases hkk : o.k = k
          · have he : eq4 o.k.g o.k.p o.k.x o.k.y k.g k.p k.x k.y = true := keyEq_true.2 hkk
            have HKK := Lib.hid hkk
            clear hkk
            cases ok <;>
            · go_wp2_with (first
                | (go_at_call 11; (with_reducible refine (HCK.out _).mono ?_); rintro e w3 ⟨rfl, hb3⟩
                   have hm3 := HMB.out.keepB hb3
                   have x0 : w3.cell? ⟨wr.heap.size, 0, none⟩ = some (.int .i64 2) := hm3.cell 0
                   have x1 : w3.cell? ⟨wr.heap.size, 1, none⟩ = some (.int .i64 o.k.g) := hm3.cell 1
                   have x2 : w3.cell? ⟨wr.heap.size, 2, none⟩ = some (.int .i64 o.k.p) := hm3.cell 2
                   have x3 : w3.cell? ⟨wr.heap.size, 3, none⟩ = some (.int .i64 o.k.x) := hm3.cell 3
                   have x4 : w3.cell? ⟨wr.heap.size, 4, none⟩ = some (.int .i64 o.k.y) := hm3.cell 4
                   have x5 : w3.cell? ⟨wr.heap.size, 5, none⟩ = some (.int .i64 o.m.box.a) := hm3.cell 5
                   have x6 : w3.cell? ⟨wr.heap.size, 6, none⟩ = some (.int .i64 o.m.box.b) := hm3.cell 6
                   have x7 : w3.cell? ⟨wr.heap.size, 7, none⟩ = some (.int .i64 o.m.box.c) := hm3.cell 7
                   have x8 : w3.cell? ⟨wr.heap.size, 8, none⟩ = some (.int .i64 o.m.box.d) := hm3.cell 8
                   have x9 : w3.cell? ⟨wr.heap.size, 9, none⟩ = some (.slice o.A o.m.bs.length o.c) := hm3.cell 9
                   have hml3 := hm3.lt
                   have HM3 := Lib.hid hm3
                   have HS3 := Lib.hid (HS.out.keep hb3)
                   have HAR3 := Lib.hid (HAR.out.keepB hb3)
                   have HA93 := Lib.hid (HA9.out.keepB hb3)
                   have H93 := Lib.hid (H9.out.keepB hb3)
                   have HKB4 := Lib.hid (HKB3.out.keepB hb3)
                   have HB3 := Lib.hid (HBL.out.trans (hb3.mono HBL.out.size))
                   clear hm3 hb3)
                | (go_at_call 12; (with_reducible refine (HPT.out _ HS3.out HAR3.out).mono ?_); rintro e w4 ⟨rfl, h4, k4⟩
                   have hm4 := k4.blk HM3.out (by decide)
                   have y0 : w4.cell? ⟨wr.heap.size, 0, none⟩ = some (.int .i64 2) := hm4.cell 0
                   have y1 : w4.cell? ⟨wr.heap.size, 1, none⟩ = some (.int .i64 o.k.g) := hm4.cell 1
                   have y2 : w4.cell? ⟨wr.heap.size, 2, none⟩ = some (.int .i64 o.k.p) := hm4.cell 2
                   have y3 : w4.cell? ⟨wr.heap.size, 3, none⟩ = some (.int .i64 o.k.x) := hm4.cell 3
                   have y4 : w4.cell? ⟨wr.heap.size, 4, none⟩ = some (.int .i64 o.k.y) := hm4.cell 4
                   have y5 : w4.cell? ⟨wr.heap.size, 5, none⟩ = some (.int .i64 o.m.box.a) := hm4.cell 5
                   have y6 : w4.cell? ⟨wr.heap.size, 6, none⟩ = some (.int .i64 o.m.box.b) := hm4.cell 6
                   have y7 : w4.cell? ⟨wr.heap.size, 7, none⟩ = some (.int .i64 o.m.box.c) := hm4.cell 7
                   have y8 : w4.cell? ⟨wr.heap.size, 8, none⟩ = some (.int .i64 o.m.box.d) := hm4.cell 8
                   have y9 : w4.cell? ⟨wr.heap.size, 9, none⟩ = some (.slice o.A o.m.bs.length o.c) := hm4.cell 9
                   have hml4 := hm4.lt
                   have HM4 := Lib.hid hm4
                   have HS4 := Lib.hid h4
                   have HAR4 := Lib.hid (HAR3.out.keepT k4)
                   have HA94 := Lib.hid (HA93.out.keepT k4)
                   have H94 := Lib.hid (k4.blk H93.out (by decide))
                   have hkb4 := k4.blk HKB4.out (by decide)
                   have kk0 : w4.cell? ⟨w.heap.size, 0, none⟩ = some (.int .i64 k.g) := hkb4.cell 0
                   have kk1 : w4.cell? ⟨w.heap.size, 1, none⟩ = some (.int .i64 k.p) := hkb4.cell 1
                   have kk2 : w4.cell? ⟨w.heap.size, 2, none⟩ = some (.int .i64 k.x) := hkb4.cell 2
                   have kk3 : w4.cell? ⟨w.heap.size, 3, none⟩ = some (.int .i64 k.y) := hkb4.cell 3
                   have hkl4 := hkb4.lt
                   have h94 := H94.out
                   have n0 : w4.cell? ⟨w2.heap.size, 0, none⟩ = some (.int .i64 m.box.a) := h94.cell 0
                   have n1 : w4.cell? ⟨w2.heap.size, 1, none⟩ = some (.int .i64 m.box.b) := h94.cell 1
                   have n2 : w4.cell? ⟨w2.heap.size, 2, none⟩ = some (.int .i64 m.box.c) := h94.cell 2
                   have n3 : w4.cell? ⟨w2.heap.size, 3, none⟩ = some (.int .i64 m.box.d) := h94.cell 3
                   have n4 : w4.cell? ⟨w2.heap.size, 4, none⟩ = some (.slice A9 m.bs.length cN) := h94.cell 4
                   have f0 := h94.frozen 0
                   have f1 := h94.frozen 1
                   have f2 := h94.frozen 2
                   have f3 := h94.frozen 3
                   have f4 := h94.frozen 4
                   have hl94 := h94.lt
                   have HKB5' := Lib.hid hkb4
                   have HB4 := Lib.hid (HB3.out.trans (k4.toBelow.mono (by omega)))
                   have HS5 := HS4
                   have HAR5 := HAR4
                   have HA95 := HA94
                   have H95 := H94
                   have HKB5 := HKB5'
                   have HB5 := HB4
                   clear hm4 h4 k4 hkb4 h94)
                | (go_at_call 13; (with_reducible refine (rcost_any o.m o.A o.c hsm _).mono ?_); rintro e w5 ⟨rfl, hb5⟩
                   have hm5 := HM4.out.keepB hb5
                   have z0 : w5.cell? ⟨wr.heap.size, 0, none⟩ = some (.int .i64 2) := hm5.cell 0
                   have z1 : w5.cell? ⟨wr.heap.size, 1, none⟩ = some (.int .i64 o.k.g) := hm5.cell 1
                   have z2 : w5.cell? ⟨wr.heap.size, 2, none⟩ = some (.int .i64 o.k.p) := hm5.cell 2
                   have z3 : w5.cell? ⟨wr.heap.size, 3, none⟩ = some (.int .i64 o.k.x) := hm5.cell 3
                   have z4 : w5.cell? ⟨wr.heap.size, 4, none⟩ = some (.int .i64 o.k.y) := hm5.cell 4
                   have z5 : w5.cell? ⟨wr.heap.size, 5, none⟩ = some (.int .i64 o.m.box.a) := hm5.cell 5
                   have z6 : w5.cell? ⟨wr.heap.size, 6, none⟩ = some (.int .i64 o.m.box.b) := hm5.cell 6
                   have z7 : w5.cell? ⟨wr.heap.size, 7, none⟩ = some (.int .i64 o.m.box.c) := hm5.cell 7
                   have z8 : w5.cell? ⟨wr.heap.size, 8, none⟩ = some (.int .i64 o.m.box.d) := hm5.cell 8
                   have z9 : w5.cell? ⟨wr.heap.size, 9, none⟩ = some (.slice o.A o.m.bs.length o.c) := hm5.cell 9
                   have hml5 := hm5.lt
                   have HS5 := Lib.hid (HS4.out.keep hb5)
                   have HAR5 := Lib.hid (HAR4.out.keepB hb5)
                   have HA95 := Lib.hid (HA94.out.keepB hb5)
                   have H95 := Lib.hid (H94.out.keepB hb5)
                   have HKB5 := Lib.hid (HKB5'.out.keepB hb5)
                   have hkb5 := HKB5.out
                   have kk0 : w5.cell? ⟨w.heap.size, 0, none⟩ = some (.int .i64 k.g) := hkb5.cell 0
                   have kk1 : w5.cell? ⟨w.heap.size, 1, none⟩ = some (.int .i64 k.p) := hkb5.cell 1
                   have kk2 : w5.cell? ⟨w.heap.size, 2, none⟩ = some (.int .i64 k.x) := hkb5.cell 2
                   have kk3 : w5.cell? ⟨w.heap.size, 3, none⟩ = some (.int .i64 k.y) := hkb5.cell 3
                   have hkl5 := hkb5.lt
                   have h95 := H95.out
                   have n0 : w5.cell? ⟨w2.heap.size, 0, none⟩ = some (.int .i64 m.box.a) := h95.cell 0
                   have n1 : w5.cell? ⟨w2.heap.size, 1, none⟩ = some (.int .i64 m.box.b) := h95.cell 1
                   have n2 : w5.cell? ⟨w2.heap.size, 2, none⟩ = some (.int .i64 m.box.c) := h95.cell 2
                   have n3 : w5.cell? ⟨w2.heap.size, 3, none⟩ = some (.int .i64 m.box.d) := h95.cell 3
                   have n4 : w5.cell? ⟨w2.heap.size, 4, none⟩ = some (.slice A9 m.bs.length cN) := h95.cell 4
                   have f0 := h95.frozen 0
                   have f1 := h95.frozen 1
                   have f2 := h95.frozen 2
                   have f3 := h95.frozen 3
                   have f4 := h95.frozen 4
                   have hl95 := h95.lt
                   have HB5 := Lib.hid (HB4.out.trans (hb5.mono HB4.out.size))
                   clear hm5 hb5 hkb5 h95))
              go_roundg r
              case rel =>
                have hI2 : LastI k (putM budget o.k o.m L) (okP budget o.m) o.m := by rw [HKK.out]; exact last_put_eq HND.out HMM.out
                rw [HOK.out] at hI2
                exact HF.out _ _ o.m o.A o.c _ (HS5.out.maskW H95.out o.m o.A o.c) hI2 (blk_maskW H95.out o.m o.A o.c) (HAR5.out.maskW H95.out (by omega) o.m o.A o.c) (((((HKB5.out.far (by simp; omega) _).far (by simp; omega) _).far (by simp; omega) _).far (by simp; omega) _).far (by simp; omega) _) (bel_set (bel_set (bel_set (bel_set (bel_set ⟨HB5.out, HB5.out.size⟩ (by simp; omega)) (by simp; omega)) (by simp; omega)) (by simp; omega)) (by simp; omega)).below
              case measure => omega
          · have he : eq4 o.k.g o.k.p o.k.x o.k.y k.g k.p k.x k.y = false := keyEq_false hkk
            have HKK := Lib.hid hkk
            clear hkk
            cases ok <;>
            · go_wp2_with (first
                | (go_at_call 11; (with_reducible refine (HCK.out _).mono ?_); rintro e w3 ⟨rfl, hb3⟩
                   have hm3 := HMB.out.keepB hb3
                   have x0 : w3.cell? ⟨wr.heap.size, 0, none⟩ = some (.int .i64 2) := hm3.cell 0
                   have x1 : w3.cell? ⟨wr.heap.size, 1, none⟩ = some (.int .i64 o.k.g) := hm3.cell 1
                   have x2 : w3.cell? ⟨wr.heap.size, 2, none⟩ = some (.int .i64 o.k.p) := hm3.cell 2
                   have x3 : w3.cell? ⟨wr.heap.size, 3, none⟩ = some (.int .i64 o.k.x) := hm3.cell 3
                   have x4 : w3.cell? ⟨wr.heap.size, 4, none⟩ = some (.int .i64 o.k.y) := hm3.cell 4
                   have x5 : w3.cell? ⟨wr.heap.size, 5, none⟩ = some (.int .i64 o.m.box.a) := hm3.cell 5
                   have x6 : w3.cell? ⟨wr.heap.size, 6, none⟩ = some (.int .i64 o.m.box.b) := hm3.cell 6
                   have x7 : w3.cell? ⟨wr.heap.size, 7, none⟩ = some (.int .i64 o.m.box.c) := hm3.cell 7
                   have x8 : w3.cell? ⟨wr.heap.size, 8, none⟩ = some (.int .i64 o.m.box.d) := hm3.cell 8
                   have x9 : w3.cell? ⟨wr.heap.size, 9, none⟩ = some (.slice o.A o.m.bs.length o.c) := hm3.cell 9
                   have hml3 := hm3.lt
                   have HM3 := Lib.hid hm3
                   have HS3 := Lib.hid (HS.out.keep hb3)
                   have HAR3 := Lib.hid (HAR.out.keepB hb3)
                   have HA93 := Lib.hid (HA9.out.keepB hb3)
                   have H93 := Lib.hid (H9.out.keepB hb3)
                   have HKB4 := Lib.hid (HKB3.out.keepB hb3)
                   have HB3 := Lib.hid (HBL.out.trans (hb3.mono HBL.out.size))
                   clear hm3 hb3)
                | (go_at_call 12; (with_reducible refine (HPT.out _ HS3.out HAR3.out).mono ?_); rintro e w4 ⟨rfl, h4, k4⟩
                   have hm4 := k4.blk HM3.out (by decide)
                   have y0 : w4.cell? ⟨wr.heap.size, 0, none⟩ = some (.int .i64 2) := hm4.cell 0
                   have y1 : w4.cell? ⟨wr.heap.size, 1, none⟩ = some (.int .i64 o.k.g) := hm4.cell 1
                   have y2 : w4.cell? ⟨wr.heap.size, 2, none⟩ = some (.int .i64 o.k.p) := hm4.cell 2
                   have y3 : w4.cell? ⟨wr.heap.size, 3, none⟩ = some (.int .i64 o.k.x) := hm4.cell 3
                   have y4 : w4.cell? ⟨wr.heap.size, 4, none⟩ = some (.int .i64 o.k.y) := hm4.cell 4
                   have y5 : w4.cell? ⟨wr.heap.size, 5, none⟩ = some (.int .i64 o.m.box.a) := hm4.cell 5
                   have y6 : w4.cell? ⟨wr.heap.size, 6, none⟩ = some (.int .i64 o.m.box.b) := hm4.cell 6
                   have y7 : w4.cell? ⟨wr.heap.size, 7, none⟩ = some (.int .i64 o.m.box.c) := hm4.cell 7
                   have y8 : w4.cell? ⟨wr.heap.size, 8, none⟩ = some (.int .i64 o.m.box.d) := hm4.cell 8
                   have y9 : w4.cell? ⟨wr.heap.size, 9, none⟩ = some (.slice o.A o.m.bs.length o.c) := hm4.cell 9
                   have hml4 := hm4.lt
                   have HM4 := Lib.hid hm4
                   have HS4 := Lib.hid h4
                   have HAR4 := Lib.hid (HAR3.out.keepT k4)
                   have HA94 := Lib.hid (HA93.out.keepT k4)
                   have H94 := Lib.hid (k4.blk H93.out (by decide))
                   have hkb4 := k4.blk HKB4.out (by decide)
                   have kk0 : w4.cell? ⟨w.heap.size, 0, none⟩ = some (.int .i64 k.g) := hkb4.cell 0
                   have kk1 : w4.cell? ⟨w.heap.size, 1, none⟩ = some (.int .i64 k.p) := hkb4.cell 1
                   have kk2 : w4.cell? ⟨w.heap.size, 2, none⟩ = some (.int .i64 k.x) := hkb4.cell 2
                   have kk3 : w4.cell? ⟨w.heap.size, 3, none⟩ = some (.int .i64 k.y) := hkb4.cell 3
                   have hkl4 := hkb4.lt
                   have h94 := H94.out
                   have n0 : w4.cell? ⟨w2.heap.size, 0, none⟩ = some (.int .i64 m.box.a) := h94.cell 0
                   have n1 : w4.cell? ⟨w2.heap.size, 1, none⟩ = some (.int .i64 m.box.b) := h94.cell 1
                   have n2 : w4.cell? ⟨w2.heap.size, 2, none⟩ = some (.int .i64 m.box.c) := h94.cell 2
                   have n3 : w4.cell? ⟨w2.heap.size, 3, none⟩ = some (.int .i64 m.box.d) := h94.cell 3
                   have n4 : w4.cell? ⟨w2.heap.size, 4, none⟩ = some (.slice A9 m.bs.length cN) := h94.cell 4
                   have f0 := h94.frozen 0
                   have f1 := h94.frozen 1
                   have f2 := h94.frozen 2
                   have f3 := h94.frozen 3
                   have f4 := h94.frozen 4
                   have hl94 := h94.lt
                   have HKB5' := Lib.hid hkb4
                   have HB4 := Lib.hid (HB3.out.trans (k4.toBelow.mono (by omega)))
                   have HS5 := HS4
                   have HAR5 := HAR4
                   have HA95 := HA94
                   have H95 := H94
                   have HKB5 := HKB5'
                   have HB5 := HB4
                   clear hm4 h4 k4 hkb4 h94)
                | (go_at_call 13; (with_reducible refine (rcost_any o.m o.A o.c hsm _).mono ?_); rintro e w5 ⟨rfl, hb5⟩
                   have hm5 := HM4.out.keepB hb5
                   have z0 : w5.cell? ⟨wr.heap.size, 0, none⟩ = some (.int .i64 2) := hm5.cell 0
                   have z1 : w5.cell? ⟨wr.heap.size, 1, none⟩ = some (.int .i64 o.k.g) := hm5.cell 1
                   have z2 : w5.cell? ⟨wr.heap.size, 2, none⟩ = some (.int .i64 o.k.p) := hm5.cell 2
                   have z3 : w5.cell? ⟨wr.heap.size, 3, none⟩ = some (.int .i64 o.k.x) := hm5.cell 3
                   have z4 : w5.cell? ⟨wr.heap.size, 4, none⟩ = some (.int .i64 o.k.y) := hm5.cell 4
                   have z5 : w5.cell? ⟨wr.heap.size, 5, none⟩ = some (.int .i64 o.m.box.a) := hm5.cell 5
                   have z6 : w5.cell? ⟨wr.heap.size, 6, none⟩ = some (.int .i64 o.m.box.b) := hm5.cell 6
                   have z7 : w5.cell? ⟨wr.heap.size, 7, none⟩ = some (.int .i64 o.m.box.c) := hm5.cell 7
                   have z8 : w5.cell? ⟨wr.heap.size, 8, none⟩ = some (.int .i64 o.m.box.d) := hm5.cell 8
                   have z9 : w5.cell? ⟨wr.heap.size, 9, none⟩ = some (.slice o.A o.m.bs.length o.c) := hm5.cell 9
                   have hml5 := hm5.lt
                   have HS5 := Lib.hid (HS4.out.keep hb5)
                   have HAR5 := Lib.hid (HAR4.out.keepB hb5)
                   have HA95 := Lib.hid (HA94.out.keepB hb5)
                   have H95 := Lib.hid (H94.out.keepB hb5)
                   have HKB5 := Lib.hid (HKB5'.out.keepB hb5)
                   have hkb5 := HKB5.out
                   have kk0 : w5.cell? ⟨w.heap.size, 0, none⟩ = some (.int .i64 k.g) := hkb5.cell 0
                   have kk1 : w5.cell? ⟨w.heap.size, 1, none⟩ = some (.int .i64 k.p) := hkb5.cell 1
                   have kk2 : w5.cell? ⟨w.heap.size, 2, none⟩ = some (.int .i64 k.x) := hkb5.cell 2
                   have kk3 : w5.cell? ⟨w.heap.size, 3, none⟩ = some (.int .i64 k.y) := hkb5.cell 3
                   have hkl5 := hkb5.lt
                   have h95 := H95.out
                   have n0 : w5.cell? ⟨w2.heap.size, 0, none⟩ = some (.int .i64 m.box.a) := h95.cell 0
                   have n1 : w5.cell? ⟨w2.heap.size, 1, none⟩ = some (.int .i64 m.box.b) := h95.cell 1
                   have n2 : w5.cell? ⟨w2.heap.size, 2, none⟩ = some (.int .i64 m.box.c) := h95.cell 2
                   have n3 : w5.cell? ⟨w2.heap.size, 3, none⟩ = some (.int .i64 m.box.d) := h95.cell 3
                   have n4 : w5.cell? ⟨w2.heap.size, 4, none⟩ = some (.slice A9 m.bs.length cN) := h95.cell 4
                   have f0 := h95.frozen 0
                   have f1 := h95.frozen 1
                   have f2 := h95.frozen 2
                   have f3 := h95.frozen 3
                   have f4 := h95.frozen 4
                   have hl95 := h95.lt
                   have HB5 := Lib.hid (HB4.out.trans (hb5.mono HB4.out.size))
                   clear hm5 hb5 hkb5 h95))
              go_roundg r
              case rel => exact HF.out _ pt m A9 cN _ HS5.out (last_put_ne HI.out HKK.out) H95.out HA95.out HKB5.out HB5.out
              case measure => omega
        · have hCK := fun w => rcheck_ms o.m o.A o.c hsm w
          have hm2 : (maskM o.m == 0) = false := by simpa using hmm
          obtain ⟨mz, hmz⟩ : ∃ mz, maskM o.m = mz := ⟨_, rfl⟩
          rw [hmz] at hCK hm2
          have HCK := Lib.hid hCK
          clear hCK hmm hmz
          go_wp2_with (first
            | (go_at_call 11; (with_reducible refine (HCK.out _).mono ?_); rintro e w3 ⟨rfl, hb3⟩
               have hm3 := HMB.out.keepB hb3
               have x0 : w3.cell? ⟨wr.heap.size, 0, none⟩ = some (.int .i64 2) := hm3.cell 0
               have hml3 := hm3.lt
               have HB3 := Lib.hid hb3
               clear hm3 hb3))
          go_roundg r
          case rel => exact HF.out L pt m A9 cN _ (HS.out.keep HB3.out) HI.out (H9.out.keepB HB3.out) (HA9.out.keepB HB3.out) (HKB3.out.keepB HB3.out) (HBL.out.trans (HB3.out.mono HBL.out.size))
          case measure => omega
      · have e1 : (o.kind != 1) = true := by simpa using hk1
        have e2 : (o.kind != 2) = true := by simpa using hk2
        clear hk1 hk2
        go_wp2_with fail
        go_roundg r
        case rel => exact HF.out L pt m A9 cN _ HS.out HI.out H9.out HA9.out HKB3.out HBL.out
        case measure => omega
    · have hd : n ≤ j ∨ (j < n ∧ 100 ≤ j) := by omega
      have q0 : wr.cell? ⟨w.heap.size, 0, none⟩ = some (.int .i64 k.g) := hkb.cell 0
      have q1 : wr.cell? ⟨w.heap.size, 1, none⟩ = some (.int .i64 k.p) := hkb.cell 1
      have q2 : wr.cell? ⟨w.heap.size, 2, none⟩ = some (.int .i64 k.x) := hkb.cell 2
      have q3 : wr.cell? ⟨w.heap.size, 3, none⟩ = some (.int .i64 k.y) := hkb.cell 3
      have hql := hkb.lt
      have H9 := Lib.hid h9
      have HA9 := Lib.hid ha9
      have HBL := Lib.hid hbel
      have h9l := h9.lt
      rcases Bool.eq_false_or_eq_true (gb k L) with hgb | hgb
      · obtain ⟨rfl, hgm⟩ := last_hit hI hgb
        have HG := Lib.hid (lget_hit hS k HKW.out hgb hgm)
        clear hS hI h9 ha9 hkb hbel hj hin hgb hgm hr
        rcases hd with hd | ⟨hd, hd2⟩
        all_goals
          have hd' : ((n : Int) ≤ j) ∨ ((j : Int) < n ∧ (100 : Int) ≤ j) := by omega
          first
            | (have hx : (n : Int) ≤ j := by omega)
            | (obtain ⟨hx, hx2⟩ : (j : Int) < n ∧ (100 : Int) ≤ j := by omega)
          clear hd'
          go_wp2_with (first
            | (go_at_call 14; (with_reducible refine HG.out.mono ?_); rintro e w3 ⟨A3, c3, rfl, hbu3, k3⟩
               have h93 := k3.blk H9.out (by decide)
               have n0 : w3.cell? ⟨w2.heap.size, 0, none⟩ = some (.int .i64 m.box.a) := h93.cell 0
               have n1 : w3.cell? ⟨w2.heap.size, 1, none⟩ = some (.int .i64 m.box.b) := h93.cell 1
               have n2 : w3.cell? ⟨w2.heap.size, 2, none⟩ = some (.int .i64 m.box.c) := h93.cell 2
               have n3 : w3.cell? ⟨w2.heap.size, 3, none⟩ = some (.int .i64 m.box.d) := h93.cell 3
               have n4 : w3.cell? ⟨w2.heap.size, 4, none⟩ = some (.slice A9 m.bs.length cN) := h93.cell 4
               have h9l3 := h93.lt
               have hal := (bel_alloc (o := .cells #[.int .i64 m.box.a, .int .i64 m.box.b, .int .i64 m.box.c, .int .i64 m.box.d, .slice A3 m.bs.length c3] 35) (bel_refl (a := w3))).below
               have HSM := Lib.hid (same_any _ m m A3 A9 c3 cN (hbu3.bs.bw.keep hal) (((HA9.out.keepT k3).br).keep hal))
               have hb3 : Below w.heap.size w w3 := HBL.out.trans (k3.toBelow.mono (by omega))
               have HB3 := Lib.hid (hb3.trans (hal.mono hb3.size))
               clear h93 hbu3 k3 hal hb3)
            | (go_at_call 15; (with_reducible refine HSM.out.mono ?_); rintro e w4 ⟨rfl, hb4⟩
               have HB4 := Lib.hid (HB3.out.trans (hb4.mono HB3.out.size))
               clear hb4))
          go_ret
          first
            | exact ⟨rfl, HB4.out⟩
            | exact ⟨by simp, HB4.out⟩
      · have HG := Lib.hid (lget_miss hS k HKW.out hgb)
        clear hS hI h9 ha9 hkb hbel hj hin hgb hr
        rcases hd with hd | ⟨hd, hd2⟩
        all_goals
          have hd' : ((n : Int) ≤ j) ∨ ((j : Int) < n ∧ (100 : Int) ≤ j) := by omega
          first
            | (have hx : (n : Int) ≤ j := by omega)
            | (obtain ⟨hx, hx2⟩ : (j : Int) < n ∧ (100 : Int) ≤ j := by omega)
          clear hd'
          go_wp2_with (first
            | (go_at_call 14; (with_reducible refine HG.out.mono ?_); rintro e w3 ⟨m3, A3, c3, rfl, k3⟩
               have hal := (bel_alloc (o := .cells #[.int .i64 m3.box.a, .int .i64 m3.box.b, .int .i64 m3.box.c, .int .i64 m3.box.d, .slice A3 m3.bs.length c3] 35) (bel_refl (a := w3))).below
               have hb3 : Below w.heap.size w w3 := HBL.out.trans (k3.toBelow.mono (by omega))
               have HB3 := Lib.hid (hb3.trans (hal.mono hb3.size))
               clear k3 hal hb3))
          go_ret
          exact ⟨rfl, HB3.out⟩
end Go.Proofs.Ytakgeeopfclmoaa
