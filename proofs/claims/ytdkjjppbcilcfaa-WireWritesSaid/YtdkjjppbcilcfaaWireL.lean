/-
  The walk of the law WireWrites.
-/
import Derived.Test.YtdkjjppbcilcfaaLives3
import Derived.Test.YtdkjjppbcilcfaaFlatB
namespace Go.Proofs.Ytdkjjppbcilcfaa
open Go.RowKit

structure OpR where
  kind : Int
  n : Int
  m : Int
  bs : List UInt8
  A : Option Addr
  c : Nat

/-- Operation i of the slice lies at i. -/
structure OpAt (w : World) (B : Nat) (b o : Nat) (i : Nat) (x : OpR) : Prop where
  c0 : w.cell? ⟨b, o + i * 4, none⟩ = some (.int .i64 x.kind)
  c1 : w.cell? ⟨b, o + i * 4 + 1, none⟩ = some (.int .i64 x.n)
  c2 : w.cell? ⟨b, o + i * 4 + 2, none⟩ = some (.int .i64 x.m)
  c3 : w.cell? ⟨b, o + i * 4 + 3, none⟩ = some (.slice x.A x.bs.length x.c)
  lt : b < B
  sl : SlAt w x.A x.bs.length (x.bs.map byteV)
  row : 0 < x.bs.length → ∀ k, rowOf x.A = some k → k < B
  small : x.bs.length ≤ 140737488355328
  lo : -9223372036854775808 ≤ x.n
  hi : x.n ≤ 9223372036854775807

theorem OpAt.keep {w w' : World} {B b o i : Nat} {x : OpR} (h : OpAt w B b o i x) (hb : Below B w w') : OpAt w' B b o i x := by
  have hc : ∀ j, w'.cell? ⟨b, j, none⟩ = w.cell? ⟨b, j, none⟩ := fun j => hb.cell (p := ⟨b, j, none⟩) h.lt
  refine ⟨(hc _).trans h.c0, (hc _).trans h.c1, (hc _).trans h.c2, (hc _).trans h.c3, h.lt, ?_, h.row, h.small, h.lo, h.hi⟩
  refine ⟨h.sl.1, fun k hk => ?_⟩
  obtain ⟨b', o', hA, hlt, hcc⟩ := h.sl.2 k hk
  have hlt' : b' < B := h.row (by omega) b' (by rw [hA]; rfl)
  exact ⟨b', o', hA, Nat.lt_of_lt_of_le hlt hb.size, (hb.cell (p := ⟨b', o' + k, none⟩) hlt').trans hcc⟩

def ops (w : World) (B : Nat) (A : Option Addr) (n : Nat) (l : List OpR) : Prop := l.length = n ∧ ∀ i x, l[i]? = some x → ∃ b o, A = some ⟨b, o, none⟩ ∧ OpAt w B b o i x

def runF (room : Int) (l : List OpR) (k : Nat) : List UInt8 × Bool := (l.take k).foldl (fun s x => opF room s x.kind x.n x.bs) ([], false)
theorem runF_succ (room : Int) (l : List OpR) (k : Nat) (x : OpR) (h : l[k]? = some x) : runF room l (k + 1) = opF room (runF room l k) x.kind x.n x.bs := by
  unfold runF
  obtain ⟨hk, rfl⟩ := List.getElem?_eq_some_iff.1 h
  rw [List.take_succ_eq_append_getElem hk, List.foldl_append]
  rfl

set_option maxHeartbeats 2000000 in
theorem writes_far (room : Int) (A : Option Addr) (n c : Nat) (w : World) (h : 5000 < room) :
    Calls Try.prog 3 #[.int .i64 room, .slice A n c] w fun e w' => e = .returned (.bool true) ∧ Below w.heap.size w w' := by
  go_enter Try.func3, Try.ntmps3
  go_wp2_with (first | (go_at_call 10; refine (lives3_any _).mono ?_; rintro e w1 ⟨rfl, hb1⟩; obtain ⟨hc1, hf1, hz1⟩ := bcell hb1; (try simp at hz1)))
  go_ret
  exact ⟨rfl, hb1⟩

set_option maxHeartbeats 4000000 in
theorem writes_near (room : Int) (A : Option Addr) (n c : Nat) (l : List OpR) (w : World) (h : room ≤ 5000) (hlo : -9223372036854775808 ≤ room) (ho : ops w w.heap.size A n l) :
    Calls Try.prog 3 #[.int .i64 room, .slice A n c] w fun e w' => e = .returned (.bool true) ∧ Below w.heap.size w w' := by
  have HO := Lib.hid ho
  clear ho
  go_enter Try.func3, Try.ntmps3
  go_wp2_with (first
    | (go_at_call 11; refine (to_E _ _).mono ?_; rintro e w2 ⟨g, hg0, rfl, hw2, hb2⟩; have hg2 := hw2.blk.lt; have HB2 := Lib.hid hb2; have HW2 := Lib.hid hw2; clear hw2 hb2)
    | (go_at_call 10; refine (lives3_any _).mono ?_; rintro e w3 ⟨rfl, hb3⟩; rw [World.size_alloc] at hb3; have HB3 := Lib.hid hb3; clear hb3))
  all_goals
    have hs3 := HB3.out.size
    rw [World.size_alloc] at hs3
    have HR : Hid (0 ≤ max room 0 ∧ max room 0 ≤ 1099511627776) := ⟨by omega, by omega⟩
    have HT : Hid (Two w3 w.heap.size g w2.heap.size ([], false) ([], false) (max room 0) none none 0 0) := by
      refine Lib.hid ⟨(HW2.out.alloc _).below HB3.out (by omega) (fun _ e => by cases e), ⟨?_, World.ownsRow_nil _ _ _ _, (by intro e; cases e)⟩, (by omega), (by intro e; cases e), (by intro e; cases e), (fun _ e => by cases e), HR.out.1, HR.out.1, hg0, HB2.out.size, (fun _ e => by cases e), (fun _ e => by cases e)⟩
      first
        | exact (Blk.to (Blk.new w2 _ [_, _, _]) (by rw [show max room 0 = room by omega]; rfl)).below HB3.out (by omega)
        | exact (Blk.to (Blk.new w2 _ [_, _, _]) (by rw [show max room 0 = 0 by omega]; rfl)).below HB3.out (by omega)
    have HB : Hid (Below w.heap.size w w3) := Lib.hid (((bel_alloc ⟨HB2.out, HB2.out.size⟩).below).trans (HB3.out.mono (by have := HB2.out.size; omega)))
    clear HB3 HW2
    obtain ⟨R, hR⟩ : ∃ R, max room 0 = R := ⟨_, rfl⟩
    rw [hR] at HR HT
    have hR1 : R ≤ 5000 := by omega
    clear hR
    go_wp2_with fail
    go_loopw [5, 7] (fun p i wr => p = .pointer (some ⟨g, 0, none⟩) ∧ ∃ k : Nat, k ≤ n ∧ i = .int .i64 k ∧ Hid (Below w.heap.size w wr) ∧ ∃ A1 A2 c1 c2, Hid (Two wr w.heap.size g w2.heap.size (runF R l k) (runF R l k) R A1 A2 c1 c2)) (fun _ i _ => n - (intOf i).toNat)
    case atStart => exact ⟨rfl, 0, Nat.zero_le _, rfl, HB, _, _, _, _, HT⟩
    case round =>
      obtain ⟨rfl, k, hk, rfl, HBk, A1, A2, c1, c2, HTk⟩ := hrel
      by_cases hlt : k < n ∧ k < 60
      · obtain ⟨hlt, h60⟩ := hlt
        obtain ⟨x, hx⟩ : ∃ x, l[k]? = some x := ⟨l[k]'(by rw [HO.out.1]; exact hlt), List.getElem?_eq_getElem _⟩
        obtain ⟨b, o, hAe, hop0⟩ := HO.out.2 k x hx
        have hop := hop0.keep HBk.out
        obtain ⟨k0, k1, k2, k3, kl, ksl, krow, ksm, klo, khi⟩ := hop
        subst hAe
        have HX := Lib.hid hx
        have HS := Lib.hid ksl
        have HRow := Lib.hid krow
        clear hx ksl krow hop0
        have hlt60 : decide ((k : Int) < 60) = true := by simp; omega
        have hRow : 0 < x.bs.length → ∀ q, rowOf x.A = some q → q < w.heap.size := HRow.out
        have HW := Lib.hid (write_W wr w.heap.size g w2.heap.size _ R A1 A2 c1 c2 x.kind x.n x.m x.bs x.A x.c HTk.out HR.out.1 HR.out.2 HS.out hRow ksm klo khi)
        clear hRow
        go_wp2_with (first
          | (go_at_call 12; refine HW.out.mono ?_; rintro e w4 ⟨rfl, A3, A4, c3, c4, ht4, hb4⟩; rw [← runF_succ _ _ _ _ HX.out] at ht4; have kx0 : w4.cell? ⟨w2.heap.size, 0, none⟩ = some (.slice A4 (runF R l (k + 1)).1.length c4) := (ht4.b.blk.cell 0).trans rfl; have HT4 := Lib.hid ht4; have HB4 := Lib.hid (HBk.out.trans hb4); clear ht4 hb4 k0 k1 k2 k3 HW))
        obtain ⟨L, hL⟩ : ∃ L : Nat, (runF R l (k + 1)).1.length = L := ⟨_, rfl⟩
        rw [hL] at kx0
        have HLen := fun n => Lib.hid (len_E (w4.drewN n) g _ R _ A3 c3 (L : Int) (HT4.out.a.drewN n) (by rw [hL]))
        clear hL
        go_quiet ((go_at_call 13; exact Calls.q_left ((HLen _).out)))
        clear HLen
        go_wp2_with fail
        go_roundw
        case rel => exact ⟨rfl, k + 1, by omega, by go_num, Lib.hid (below_drewN HB4.out _), A3, A4, c3, c4, Lib.hid (HT4.out.keep (bel_drewN bel_refl).below)⟩
        case measure => simp [intOf]; omega
      · have hg : n ≤ k ∨ (k < n ∧ 60 ≤ k) := by omega
        obtain ⟨bs, full, hst⟩ : ∃ bs full, runF R l k = (bs, full) := ⟨_, _, rfl⟩
        rw [hst] at HTk
        clear hst hlt HT
        have hfa := HTk.out.fa
        have kx0 : wr.cell? ⟨w2.heap.size, 0, none⟩ = some (.slice A2 bs.length c2) := (HTk.out.b.blk.cell 0).trans rfl
        have kx2 : wr.cell? ⟨w2.heap.size, 2, none⟩ = some (.bool full) := (HTk.out.b.blk.cell 2).trans rfl
        cases full with
        | true =>
          rcases hg with hg1 | ⟨hg1, hg2⟩
          all_goals
            go_wp2_with (first | (go_at_call 14; refine (done_full _ _ _ _ _ _ HTk.out.a).mono ?_; rintro e w5 ⟨rfl, rfl⟩))
            go_ret
            exact ⟨rfl, HBk.out⟩
        | false =>
          rcases hg with hg1 | ⟨hg1, hg2⟩
          all_goals
            go_wp2_with (first
              | (go_at_call 14; refine (done_W _ _ _ _ _ _ HTk.out.a (by omega)).mono ?_; rintro e w5 ⟨A5, c5, rfl, hs5, hb5, hr5⟩
                 have ht5 := HTk.out.keep hb5
                 have kx5 : w5.cell? ⟨w2.heap.size, 0, none⟩ = some (.slice A2 bs.length c2) := (ht5.b.blk.cell 0).trans rfl
                 have ky5 : w5.cell? ⟨w2.heap.size, 2, none⟩ = some (.bool false) := (ht5.b.blk.cell 2).trans rfl
                 have HB5 := Lib.hid (HBk.out.trans (hb5.mono HBk.out.size))
                 have hq1 : ∀ m c, (convert 27 9 (.slice A5 bs.length c)).run Try.prog (w5.drewN m) = .ok (.string (strB bs)) (w5.drewN m) := fun m c => run_str (P := Try.prog) (hs5.keep (bel_drewN bel_refl).below) Try.underlying27 Try.underlying5 Try.underlying9 c
                 have hq2 : ∀ m c, (convert 27 9 (.slice A2 bs.length c)).run Try.prog (w5.drewN m) = .ok (.string (strB bs)) (w5.drewN m) := fun m c => run_str (P := Try.prog) (ht5.b.sl.keep (bel_drewN bel_refl).below) Try.underlying27 Try.underlying5 Try.underlying9 c
                 clear hs5 hb5 hr5 ht5 kx0 kx2))
            go_quiet (fail)
            go_wp2_with fail
            go_ret
            exact ⟨rfl, below_drewN HB5.out _⟩

theorem writes_any (room : Int) (A : Option Addr) (n c : Nat) (l : List OpR) (w : World) (hlo : -9223372036854775808 ≤ room) (ho : ops w w.heap.size A n l) :
    Calls Try.prog 3 #[.int .i64 room, .slice A n c] w fun e w' => e = .returned (.bool true) ∧ Below w.heap.size w w' := by
  by_cases h : 5000 < room
  · exact writes_far room A n c w h
  · exact writes_near room A n c l w (by omega) hlo ho

theorem ops_of {w : World} {A : Option Addr} {n : Nat} (h : ∀ i, i < n → ∃ b o, A = some ⟨b, o, none⟩ ∧ b < w.heap.size ∧ CellsOk w [.int .i64, .int .i64, .int .i64, .sl 1 [.int .u8]] (fun j => w.cell? ⟨b, o + (i * 4 + j), none⟩)) :
    ∃ l, ops w w.heap.size A n l := by
  obtain ⟨l, hl, hp⟩ := list_of (p := fun i x => ∃ b o, A = some ⟨b, o, none⟩ ∧ OpAt w w.heap.size b o i x) n (fun i hi => by
    obtain ⟨b, o, hA, hb, hc⟩ := h i hi
    simp only [CellsOk, CellOk.eq_1, and_true, Nat.add_zero, Nat.zero_add, Nat.reduceAdd] at hc
    obtain ⟨⟨v0, h0, k, rfl, w0⟩, ⟨v1, h1, n1, rfl, w1⟩, ⟨v2, h2, m1, rfl, w2⟩, ⟨v3, h3, h4⟩⟩ := hc
    obtain ⟨A', bs, c', rfl, hs, _, _, hm, hr⟩ := bytes_of h4
    have hb1 := bounds_i64 w1
    exact ⟨⟨k, n1, m1, bs, A', c'⟩, b, o, hA, ⟨h0, h1, h2, h3, hb, hs, hr, by simp only; omega, hb1.1, hb1.2⟩⟩)
  exact ⟨l, hl, hp⟩

end Go.Proofs.Ytdkjjppbcilcfaa
