/-
  Layer 15: what must come of every program: the walk.
-/
import Derived.Test.YtoofjkhigonppaaDcR
namespace Go.Proofs.Ytoofjkhigonppaa
open Go.RowKit

theorem slat_lit {W : World} {n : Nat} {bs : List UInt8} {cs : Array Value} (hn : bs.length = n) (h : cs.toList = bs.map byteV) : SlAt (W.alloc (.cells cs 5)) (some ⟨W.heap.size, 0, none⟩) n (bs.map byteV) := by
  subst hn
  have hcs : cs = (bs.map byteV).toArray := by rw [← h]
  rw [hcs]
  exact slat_blk (Blk.newAt W _ _ rfl) (by simp)
theorem slat_str15 {w w' : World} {A : Option Addr} {n : Nat} {bs : List UInt8} (h : SlAt w A n (bs.map byteV)) (hb : Below w.heap.size w w') : ∀ c, (convert 22 9 (.slice A n c)).run Try.prog w' = .ok (.string (strB bs)) w' := h.aft w' hb
set_option maxRecDepth 20000 in
set_option maxHeartbeats 8000000 in
theorem lives15_any (w : World) : Calls Try.prog 8 #[] w fun e w' => e = .returned (.bool true) ∧ Below w.heap.size w w' := by
  have HS1 := Lib.hid (slat_lit (W := w) (n := 5) (bs := [30, 226, 162, 95, 5]) (cs := #[.int .u8 30, .int .u8 226, .int .u8 162, .int .u8 95, .int .u8 5]) rfl rfl)
  have HK1 := Lib.hid (parse_lit (c := 5) (n := 5) p1 rfl (by decide) HS1.out (by decide) (fun k hk => by simp [rowOf] at hk; simp; omega))
  have HS3 := fun W => slat_lit (W := W) (n := 1) (bs := [139]) (cs := #[.int .u8 139]) rfl rfl
  have HK3 := Lib.hid (fun W => parse_none (c := 1) (n := 1) p2 rfl (by decide) (HS3 W) (by decide) (fun k hk => by simp [rowOf] at hk; simp; omega))
  clear HS3
  go_enter Try.func8, Try.ntmps8
  go_wp2_with (first
    | (go_at_call 9; (with_reducible refine HK1.out.mono ?_); rintro e w1 ⟨A1, c1, A2, c2, rfl, hl1, hb1⟩; have HL1 := Lib.hid hl1; have HB1 := Lib.hid (bel_call hb1 (bel_alloc bel_refl)); clear hb1 hl1)
    | (go_at_call 14; (with_reducible refine (put_lit (lit_at w1)).mono ?_); rintro e w2 ⟨A3, c3, rfl, hs2, hb2⟩; have HS2 := Lib.hid hs2; have HB2 := Lib.hid (bel_call hb2 (bel_alloc (bel_alloc bel_refl))); clear hb2 hs2)
    | (go_at_call 9; (with_reducible refine (HK3.out w2).mono ?_); rintro e w3 ⟨rfl, hb3⟩; have HB3 := Lib.hid (bel_call hb3 (bel_alloc HB2.out)); have HC3 := Lib.hid (bel_call hb3 (bel_alloc (bel_refl (a := w2)))); have HL3 := Lib.hid (HL1.out.keep HB3.out.below); clear hb3)
    | (go_at_call 19; (with_reducible refine (get_lit HL3.out).mono ?_); rintro e w4 ⟨A4, c4, rfl, hb4⟩; have HB4 := Lib.hid (bel_call hb4 HB3.out); have HC4 := Lib.hid (bel_call hb4 HC3.out); clear hb4)
    | (go_at_call 20; (with_reducible refine (num_lit (lit_at w4)).mono ?_); rintro e w5 ⟨rfl, hb5⟩; have HB5 := Lib.hid (bel_call hb5 (bel_alloc (bel_alloc HB4.out))); have HC5 := Lib.hid (bel_call hb5 (bel_alloc (bel_alloc HC4.out))); clear hb5)
    | (go_at_call 20; (with_reducible refine num_nil.mono ?_); rintro e w6 ⟨rfl, hb6⟩
       have HB6 := Lib.hid (bel_call hb6 HB5.out)
       have hq := slat_str15 HS2.out (bel_call hb6 HC5.out).below
       obtain ⟨b, o, rfl, hbl, q0, q1⟩ := (HL1.out.keep HB6.out.below).at_ (k := 0) rfl
       obtain ⟨b2, o2, rfl, hbl2, q2⟩ := ((HL1.out.keep HB6.out.below).args _ (List.mem_singleton.2 rfl)).2 0 (by simp)
       simp at q0 q1 q2
       clear hb6)
    | fail)
  go_ret
  exact ⟨rfl, (HB1.out.below.trans (HB6.out.below.mono HB1.out.le))⟩
end Go.Proofs.Ytoofjkhigonppaa
