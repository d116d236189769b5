/-
  lives of law 03.
-/
import Derived.Test.YtdkjjppbcilcfaaWireK
import Derived.Test.YtdkjjppbcilcfaaReadB
import Derived.Test.YtdkjjppbcilcfaaStr
namespace Go.Proofs.Ytdkjjppbcilcfaa
open Go.RowKit

theorem Wr.turn {T : TypeId} {w w' : World} {g r : Nat} {bs : List UInt8} {room : Int} {full : Bool} {A : Option Addr} {c : Nat} (h : Wr T w g bs room full A c) (ht : Turn w w' r none) (hne : g ≠ r) (hr : rowOf A ≠ some r) : Wr T w' g bs room full A c :=
  h.frame fun k hk => hk.elim (fun e => e ▸ ht.block g h.blk.lt hne (fun e => by cases e)) (fun e => ht.block k (h.row_lt k e) (fun e2 => hr (by rw [e, e2])) (fun e => by cases e))

/-- The block's number is a letter. -/
theorem new_E (w : World) (bs : List UInt8) (A : Option Addr) (c : Nat) (h : SlAt w A bs.length (bs.map byteV)) (hc : bs.length ≤ c) (hs : bs.length ≤ 140737488355328) (hA : ∀ k, rowOf A = some k → k < w.heap.size) :
    Calls Try.prog 42 #[.slice A bs.length c] w fun e w' => ∃ g, w.heap.size ≤ g ∧ e = .returned (.pointer (some ⟨g, 0, none⟩)) ∧ Rd w' g bs 0 false A c ∧ Below w.heap.size w w' :=
  (new_W w bs A c h hc hs hA).mono fun _ _ ⟨he, hr, hb⟩ => ⟨_, Nat.le_refl _, he, hr, hb⟩
theorem to_E (w : World) (room : Int) :
    Calls Try.prog 11 #[.int .i64 room] w fun e w' => ∃ g, w.heap.size ≤ g ∧ e = .returned (.pointer (some ⟨g, 0, none⟩)) ∧ Wr 72 w' g [] (max room 0) false none 0 ∧ Below w.heap.size w w' :=
  (to_W w room).mono fun _ _ ⟨he, hb, hr⟩ => ⟨_, Nat.le_refl _, he, hr, hb⟩

/-- Where the bytes lie: from B on. -/
theorem WrS.rowB {T : TypeId} {w0 w : World} {g : Nat} {s : List UInt8 × Bool} {room : Int} {row0 : Option Nat} {A : Option Addr} {c B : Nat} (h : WrS T w0 w g s room row0 A c) (hB : B ≤ w0.heap.size) (hr : ∀ k, row0 = some k → B ≤ k) : ∀ k, rowOf A = some k → B ≤ k := by
  intro k e
  rcases h.row with e2 | e2
  · exact hr k (e2 ▸ e)
  · exact Nat.le_trans hB (e2 k e)
theorem WrS.belB {T : TypeId} {w0 w a : World} {g : Nat} {s : List UInt8 × Bool} {room : Int} {row0 : Option Nat} {A : Option Addr} {c B : Nat} (h : WrS T w0 w g s room row0 A c) (ha : Below B a w0) (hB : B ≤ w0.heap.size) (hg : B ≤ g) (hr : ∀ k, row0 = some k → B ≤ k) : Below B a w :=
  ha.trans (h.turn.below hB hg hr)

theorem rU16_E (w : World) (r : Nat) (bs : List UInt8) (pos : Nat) (A : Option Addr) (c : Nat) (n : Int) (h : Rd w r bs pos false A c) (hn : pos + 2 ≤ bs.length) (e : (numB ((bs.drop pos).take 2) : Int) = n) :
    Calls Try.prog 44 #[.pointer (some ⟨r, 0, none⟩)] w fun e w' => e = .returned (.int .i64 n) ∧ Rd w' r bs (pos + 2) false A c ∧ Turn w w' r none := by
  subst e
  exact rU16_ok w r bs pos A c h hn

theorem len_E (w : World) (g : Nat) (bs : List UInt8) (room : Int) (full : Bool) (A : Option Addr) (c : Nat) (n : Int) (h : Wr 72 w g bs room full A c) (e : (bs.length : Int) = n) :
    Calls Try.prog 13 #[.pointer (some ⟨g, 0, none⟩)] w fun e w' => e = .returned (.int .i64 n) ∧ w = w' := by
  subst e
  exact len_W w g bs room full A c h

set_option maxHeartbeats 2000000 in
theorem lives3_any (w : World) : Calls Try.prog 10 #[] w fun e w' => e = .returned (.bool true) ∧ Below w.heap.size w w' := by
  have hb0 : Below w.heap.size w (w.alloc (.cells #[.int .u8 1, .int .u8 2, .int .u8 3] 5)) := (bel_alloc bel_refl).below
  have hs0 : SlAt (w.alloc (.cells #[.int .u8 1, .int .u8 2, .int .u8 3] 5)) (some ⟨w.heap.size, 0, none⟩) ([1, 2, 3] : List UInt8).length (([1, 2, 3] : List UInt8).map byteV) :=
    ⟨rfl, fun j _ => ⟨w.heap.size, 0, rfl, by simp, by rw [Nat.zero_add]; exact (Blk.new w _ [_, _, _]).cell j⟩⟩
  go_enter Try.func10, Try.ntmps10
  go_wp2_with (first
    | (go_at_call 42; refine (new_E _ [1, 2, 3] _ 3 hs0 (by decide) (by decide) (by intro k hk; injection hk with hk; subst hk; simp)).mono ?_; rintro e w1 ⟨r, hr0, rfl, hr1, hb1⟩; rw [World.size_alloc] at hr0; have hlt1 := hr1.blk.lt; have HR1 := Lib.hid hr1; have HB1 := Lib.hid (hb0.trans (hb1.mono (by simp))); clear hr1 hb1)
    | (go_at_call 11; refine (to_E _ _).mono ?_; rintro e w2 ⟨g, hg0, rfl, hw2, hb2⟩; have hr2 := HR1.out.keep hb2; have HR2 := Lib.hid hr2; have HB2 := Lib.hid (HB1.out.trans (hb2.mono HB1.out.size)); have HW2 := Lib.hid hw2; clear hr2 hw2 hb2)
    | (go_at_call 43; refine (left_W _ _ _ _ _ _ _ HR2.out).mono ?_; rintro e w3 ⟨rfl, hb3⟩; have HR3 := Lib.hid (HR2.out.keep hb3); have HW3 := Lib.hid (HW2.out.keep hb3); have HB3 := Lib.hid (HB2.out.trans (hb3.mono HB2.out.size)); clear hb3)
    | (go_at_call 44; refine (rU16_E _ _ _ _ _ _ 258 HR3.out (by decide) rfl).mono ?_; rintro e w4 ⟨rfl, hr4, ht4⟩; have HR4 := Lib.hid hr4; have HW4 := Lib.hid (HW3.out.turn ht4 (by omega) (by intro e; cases e)); have HB4 := Lib.hid (HB3.out.trans (ht4.below HB3.out.size (by omega) (fun _ e => by cases e))); clear hr4 ht4)
    | (go_at_call 45; refine (at_W _ _ _ _ _ _ _ HR4.out).mono ?_; rintro e w5 ⟨rfl, rfl⟩)
    | (go_at_call 44; refine (rU16_bad _ _ _ _ _ _ _ HR4.out (.inr (by decide))).mono ?_; rintro e w6 ⟨rfl, hr6, ht6⟩; have HR6 := Lib.hid hr6; have HW6 := Lib.hid (HW4.out.turn ht6 (by omega) (by intro e; cases e)); have HB6 := Lib.hid (HB4.out.trans (ht6.below HB4.out.size (by omega) (fun _ e => by cases e))); clear hr6 ht6)
    | (go_at_call 46; refine (rdone_W _ _ _ _ _ _ _ HR6.out).mono ?_; rintro e w7 ⟨rfl, rfl⟩)
    | (go_at_call 47; refine (u16_W _ _ ([], false) _ _ _ _ HW6.out (by decide) (by decide) (by decide)).mono ?_; rintro e w8 ⟨rfl, A8, c8, hw8⟩; have HW8 := Lib.hid hw8; have HB8 := Lib.hid (hw8.belB HB6.out HB6.out.size (by omega) (fun _ e => by cases e)); have HR8 := Lib.hid (hw8.rowB HB6.out.size (fun _ e => by cases e)); clear hw8)
    | (go_at_call 48; refine (pad_W _ _ _ _ _ _ 4 HW8.out.wr (by decide) (by decide) HW8.out.fit (by decide) (by decide)).mono ?_; rintro e w9 ⟨rfl, A9, c9, hw9⟩; have HW9 := Lib.hid hw9; have HB9 := Lib.hid (hw9.belB HB8.out HB8.out.size (by omega) HR8.out); have HR9 := Lib.hid (hw9.rowB HB8.out.size HR8.out); clear hw9)
    | (go_at_call 49; refine (u8_W _ _ _ _ _ _ 7 HW9.out.wr (by decide) (by decide) HW9.out.fit).mono ?_; rintro e w10 ⟨rfl, A10, c10, hw10⟩; have HW10 := Lib.hid hw10; have HB10 := Lib.hid (hw10.belB HB9.out HB9.out.size (by omega) HR9.out); clear hw10)
    | (go_at_call 13; refine (len_E _ _ _ _ _ _ _ 5 HW10.out.wr rfl).mono ?_; rintro e w11 ⟨rfl, rfl⟩)
    | (go_at_call 14; refine (done_W _ _ [2, 3, 0, 0, 7] _ _ _ HW10.out.wr (by decide)).mono ?_; rintro e w12 ⟨A12, c12, rfl, hs12, hb12, hl12⟩; have HB12 := Lib.hid (HB10.out.trans (hb12.mono HB10.out.size)); have hq : ∀ c, (convert 27 9 (.slice A12 5 c)).run Try.prog w12 = .ok (.string (strB [2, 3, 0, 0, 7])) w12 := fun c => run_str (P := Try.prog) hs12 Try.underlying27 Try.underlying5 Try.underlying9 c; clear hs12 hb12 hl12))
  go_ret
  exact ⟨rfl, HB12.out⟩

end Go.Proofs.Ytdkjjppbcilcfaa
