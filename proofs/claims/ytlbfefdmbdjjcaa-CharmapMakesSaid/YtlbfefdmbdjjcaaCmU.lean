/-
  Layer 08: lives.
-/
import Derived.Test.YtlbfefdmbdjjcaaCmT
namespace Go.Proofs.Ytlbfefdmbdjjcaa
open Go.RowKit Go.Shelf

@[go_sem ↓] theorem eql_fn (W : World) (F : Fn) (a b : Array Value) : (binOp .eql 46 (.func F a b) .nilFunc).run Try.prog W = .ok (.bool false) W := by kernel_rfl
theorem all_exp (p : Value) (hp : (∃ m, p = .pointer (some ⟨m, 0, none⟩)) ∨ p = .pointer none) (fr tt : Int) (w : World) : Calls Try.prog 20 #[p, .int .i64 fr, .int .i64 tt] w fun e w' =>
    e = .returned (.func (.func 44) #[] #[.pointer (some ⟨w.heap.size, 0, none⟩), .pointer (some ⟨w.heap.size + 1, 0, none⟩), .pointer (some ⟨w.heap.size + 2, 0, none⟩)]) ∧ ((w.alloc (.cells #[p] 24)).alloc (.cells #[.int .i64 fr] 3)).alloc (.cells #[.int .i64 tt] 3) = w' := all_any p hp fr tt w
theorem all_bel (m : Nat) (fr tt : Int) (w : World) : Calls Try.prog 20 #[.pointer (some ⟨m, 0, none⟩), .int .i64 fr, .int .i64 tt] w fun e w' =>
    e = .returned (.func (.func 44) #[] #[.pointer (some ⟨w.heap.size, 0, none⟩), .pointer (some ⟨w.heap.size + 1, 0, none⟩), .pointer (some ⟨w.heap.size + 2, 0, none⟩)]) ∧ Below w.heap.size w w' :=
  (all_any _ (.inl ⟨m, rfl⟩) fr tt w).mono fun e w' ⟨h1, h2⟩ => ⟨h1, by rw [← h2]; exact (bel_alloc (bel_alloc (bel_alloc bel_refl))).below⟩
theorem gl_is {w : World} {m : Nat} {fmt n : Int} {A : Option Addr} {k c : Nat} {es : List Sg} {l : List Sv} {code x : Int} (he : es.map sgV = l) (hx : glS l n code = x) (h : Mp w m fmt n A k c es) :
    Calls Try.prog 12 #[.pointer (some ⟨m, 0, none⟩), .int .i64 code] w fun e w' => e = .returned (.int .i64 x) ∧ Below w.heap.size w w' := by
  subst he hx
  exact glyph_any code h
def abc : List Pr := [(65, 1), (66, 2), (67, 3)]
def abcB : List UInt8 := [0, 4, 0, 32, 0, 0, 0, 4, 0, 4, 0, 1, 0, 0, 0, 67, 255, 255, 0, 0, 0, 65, 255, 255, 255, 192, 0, 1, 0, 0, 0, 0]
def abcS : List Sv := [⟨65, 67, 65 + 65472, true, none, 65472⟩, ⟨65535, 65535, 65535 + 1, true, none, 1⟩]
theorem abc_mk : mkS 4 abc = .ok abcB := by kernel_rfl
theorem abc_ld : ldV abcB 3 = .ok 4 abcS := by kernel_rfl
theorem bad_ld : ldV [0, 2, 0, 0] 3 = .err 81 := by kernel_rfl
theorem abc_65 : glS abcS 3 65 = 1 := by kernel_rfl
theorem abc_66 : glS abcS 3 66 = 2 := by kernel_rfl
theorem abc_67 : glS abcS 3 67 = 0 := by kernel_rfl
theorem abc_68 : glS abcS 3 68 = 0 := by kernel_rfl
set_option maxRecDepth 20000 in
set_option maxHeartbeats 4000000 in
theorem lives_any (w : World) : Calls Try.prog 9 #[] w fun e w' => e = .returned (.bool true) ∧ Below w.heap.size w w' := by
  obtain ⟨w1, hw1⟩ : ∃ w1, w.alloc (.cells #[.int .i64 65, .int .i64 1, .int .i64 66, .int .i64 2, .int .i64 67, .int .i64 3] 43) = w1 := ⟨_, rfl⟩
  have hb1 : Below w.heap.size w w1 := by rw [← hw1]; exact (bel_alloc bel_refl).below
  have hr : RowsAt w1 (some ⟨w.heap.size, 0, none⟩) 3 2 (abc.map prC) := by rw [← hw1]; exact RowsAt.of_blk (rows := abc.map prC) (Blk.new w _ _) (fun r hr => by obtain ⟨p, _, rfl⟩ := List.mem_map.1 hr; rfl)
  have hmk := Make_any (c := 3) 4 hr (by omega) (Nat.le_refl _)
  rw [abc_mk] at hmk
  have hmk2 : Calls Try.prog 15 #[.int .i64 4, .slice (some ⟨w.heap.size, 0, none⟩) 3 3] w1 fun e w' => ∃ A c, e = .returned (.tuple #[.slice A 32 c, .int .i64 0]) ∧ Bs w' A abcB c ∧ Below w1.heap.size w1 w' := hmk
  have HMK := Lib.hid hmk2
  have HB1 := Lib.hid hb1
  have hld := fun (wi : World) (A : Option Addr) (c : Nat) (h : Bs wi A abcB c) => Load_any (m := 32) 3 rfl h.sl h.cap (by decide) h.row
  rw [abc_ld] at hld
  have HLD := Lib.hid hld
  have hl2 := fun (wi : World) => Load_any (w := wi.alloc (.cells #[.int .u8 0, .int .u8 2, .int .u8 0, .int .u8 0] 5)) (bs := [0, 2, 0, 0]) (A := some ⟨wi.heap.size, 0, none⟩) (m := 4) (c := 4) 3 rfl (slat_blk (Blk.new wi 5 (([0, 2, 0, 0] : List UInt8).map byteV)) rfl) (Nat.le_refl _) (by decide) (fun q hq => by have : wi.heap.size = q := Option.some.inj hq; simp; omega)
  rw [bad_ld] at hl2
  have HL2 := Lib.hid hl2
  have hw1' := hw1
  clear hb1 hr hmk hmk2 hld hl2
  go_enter Try.func9, Try.ntmps9
  go_wp2_with (first
    | (go_at_call 15; (with_reducible refine HMK.out.mono ?_); rintro e w2 ⟨A2, c2, rfl, hs2, hb2⟩; have HS2 := Lib.hid hs2; have HB2 := Lib.hid (HB1.out.trans (hb2.mono HB1.out.size)); clear hs2 hb2)
    | (go_at_call 10; (with_reducible refine (HLD.out _ _ _ HS2.out).mono ?_); rintro e w3 ⟨⟨m, A3, k3, c3, es, rfl, he, hm, hp⟩, hb3⟩; have HE := Lib.hid he; have HP3 := Lib.hid hp; have HB3 := Lib.hid (HB2.out.trans (hb3.mono HB2.out.size)); clear he hp hb3 HS2)
    | (go_at_call 10; (with_reducible refine (HL2.out _).mono ?_); rintro e w4 ⟨rfl, hb4⟩; have hb5 := (bel_alloc bel_refl).below.trans (hb4.mono (by simp)); have HP4 := Lib.hid (HP3.out.keep hb5); have HB4 := Lib.hid (HB3.out.trans (hb5.mono HB3.out.size)); clear hb4 hb5)
    | (go_at_call 20; (with_reducible refine (all_bel _ _ _ _).mono ?_); rintro e w5 ⟨rfl, hb5⟩; have HP5 := Lib.hid (HP4.out.keep hb5); have HB5 := Lib.hid (HB4.out.trans (hb5.mono HB4.out.size)); clear hb5)
    | (go_at_call 12; (with_reducible refine (gl_is HE.out abc_65 HP5.out).mono ?_); rintro e w6 ⟨rfl, hb6⟩; have HP6 := Lib.hid (HP5.out.keep hb6); have HB6 := Lib.hid (HB5.out.trans (hb6.mono HB5.out.size)); clear hb6)
    | (go_at_call 12; (with_reducible refine (gl_is HE.out abc_66 HP6.out).mono ?_); rintro e w7 ⟨rfl, hb7⟩; have HP7 := Lib.hid (HP6.out.keep hb7); have HB7 := Lib.hid (HB6.out.trans (hb7.mono HB6.out.size)); clear hb7)
    | (go_at_call 12; (with_reducible refine (gl_is HE.out abc_67 HP7.out).mono ?_); rintro e w8 ⟨rfl, hb8⟩; have HP8 := Lib.hid (HP7.out.keep hb8); have HB8 := Lib.hid (HB7.out.trans (hb8.mono HB7.out.size)); clear hb8)
    | (go_at_call 12; (with_reducible refine (gl_is HE.out abc_68 HP8.out).mono ?_); rintro e w9 ⟨rfl, hb9⟩; have HP9 := Lib.hid (HP8.out.keep hb9); have HB9 := Lib.hid (HB8.out.trans (hb9.mono HB8.out.size)); clear hb9)
    | (go_at_call 19; (with_reducible refine (format_any HP9.out).mono ?_); rintro e w10 ⟨rfl, rfl⟩)
    | fail)
  go_ret
  exact ⟨rfl, HB9.out⟩
theorem all_nil {u : World} (n pb : Nat) (_fr _tt : Value) (p1 p2 : Nat) (hp : Blk u pb 24 [.pointer none]) {Kp : World → World → Prop} :
    GivesB n Try.prog 44 #[.pointer (some ⟨pb, 0, none⟩), .pointer (some ⟨p1, 0, none⟩), .pointer (some ⟨p2, 0, none⟩)] ppR Kp (fun _ _ => False) (fun xs => xs = []) (fun _ => False) u := by
  intro l J Jx W hW hJ hJx hY h0
  have hp' := hp.keepB hW
  have c0 : W.cell? ⟨pb, 0, none⟩ = some (.pointer none) := hp'.cell 0
  have cl := hp'.lt
  clear hp hJx hY hp'
  refine callsIn_of_wp Try.func44 rfl trivial ?_ rfl
  simp only [Try.ntmps44, List.size_toArray, List.length_cons, List.length_nil, Nat.reduceAdd, Nat.reduceSub, Array.replicate_succ, Array.replicate_zero, List.push_toArray, List.append_toArray, List.nil_append, List.cons_append]
  gi_wp2_with fail
  refine bodyPost_ret (v := .tuple #[]) (by simp [results, Try.results44]) rfl ⟨⟨_, rfl⟩, .inl ⟨[], rfl, h0⟩⟩
theorem nil_stable {w0 : World} {n : Nat} : BStable n (fun (_ : List (Int × Int)) W => Below n w0 W) := fun _ _ _ h hb => h.trans hb
set_option maxRecDepth 100000 in
set_option maxHeartbeats 4000000 in
theorem charmapNobody_any (code : Int) (w : World) : Calls Try.prog 7 #[.int .i64 code] w fun e w' => e = .returned (.bool true) ∧ Below w.heap.size w w' := by
  refine (callsIn_wide (n := 9)).1 (callsIn_of_wp_marks Try.func7 rfl trivial ?_ rfl)
  simp only [Try.ntmps7, List.size_toArray, List.length_cons, List.length_nil, Nat.reduceAdd, Nat.reduceSub, Array.replicate_succ, Array.replicate_zero, List.push_toArray, List.append_toArray, List.nil_append, List.cons_append]
  refine wpIn_wide.2 ?_
  go_wp2_with (first
    | (go_at_call 20; (with_reducible refine (all_exp _ (.inr rfl) _ _ _).mono ?_); rintro e w1 ⟨rfl, rfl⟩)
    | (go_at_call 9; (with_reducible refine (lives_any _).mono ?_); rintro e w2 ⟨rfl, hb2⟩; obtain ⟨hc2, hf2, hz2⟩ := bcell hb2; (try simp at hz2); have HB2 := Lib.hid hb2; clear hb2))
  obtain ⟨W1, hW1⟩ : ∃ W1, (((w.alloc (.cells #[.bool false] 4)).alloc (.cells #[.pointer none] 24)).alloc (.cells #[.int .i64 0] 3)).alloc (.cells #[.int .i64 100] 3) = W1 := ⟨_, rfl⟩
  have hal : Below w.heap.size w W1 := by rw [← hW1]; exact (bel_alloc (bel_alloc (bel_alloc (bel_alloc bel_refl)))).below
  have hrb : Blk W1 w.heap.size 4 [.bool false] := by rw [← hW1]; exact (((Blk.new w 4 [_]).alloc _).alloc _).alloc _
  have hcb : Blk W1 (w.heap.size + 1) 24 [.pointer none] := by rw [← hW1]; exact ((Blk.newAt _ 24 [_] (by simp)).alloc _).alloc _
  rw [hW1] at HB2
  have hz3 : w.heap.size + 4 ≤ w2.heap.size := by omega
  clear hc2 hf2 hz2
  have HRB := Lib.hid (hrb.keepB HB2.out)
  have HCB := Lib.hid (hcb.keepB HB2.out)
  have HBW : Hid (Below w.heap.size w w2) := Lib.hid (hal.trans (HB2.out.mono hal.size))
  have HZ3 := Lib.hid hz3
  clear hal hrb hcb HB2 hW1
  refine (wpIn_wide (n := 9)).1 ?_
  refine wpIn_range_b (P := Try.prog) (n := 9) (gf := 44) (lb := #[.pointer (some ⟨w.heap.size + 1, 0, none⟩), .pointer (some ⟨w.heap.size + 1 + 1, 0, none⟩), .pointer (some ⟨w.heap.size + 1 + 2, 0, none⟩)]) rfl (enters_of Try.func44 (by kernel_rfl) rfl)
    (all_nil 8 (w.heap.size + 1) undef undef _ _ HCB.out (Kp := fun _ _ => True))
    (fun _ _ => trivial) (fun _ _ _ _ _ _ _ _ => trivial) (Below.refl _ _) (fun _ => rfl)
    (fun _ W => Below w2.heap.size w2 W) (fun _ _ _ => False) nil_stable (fun _ _ _ _ h _ => h) (Below.refl _ _)
    ?a1 (fun _ W => W) (fun _ _ => Below.refl _ _) (fun _ _ _ => trivial) ?assign (fun _ _ _ _ _ _ _ _ _ _ _ h => h.elim) ?done (fun _ _ _ _ _ h => h.elim)
  case assign =>
    intro l x W K hK
    simp only [ppR, List.zip_toArray, List.zip_cons_cons, List.zip_nil_right, List.foldl_toArray, List.foldl_cons, List.foldl_nil, List.setIfInBounds_toArray, List.set_cons_succ, List.set_cons_zero]
    gi_wp2
    exact hK
  case' done =>
    intro D xs W hD hS hI hDW
    have HR2 := Lib.hid (HRB.out.keepB hI)
    have HW2 := Lib.hid (HBW.out.trans (hI.mono HBW.out.size))
    have HD := Lib.hid (And.intro hD (And.intro hDW hI.size))
    have r0 : W.cell? ⟨w.heap.size, 0, none⟩ = some (.bool false) := HR2.out.cell 0
    have f0 := HR2.out.frozen 0
    have rl := HR2.out.lt
    clear hD hDW hI hS HRB HCB HBW
    go_wp2_with (first
      | (go_at_call 12; (with_reducible refine (glyph_nil _ _).mono ?_); rintro e w3 ⟨rfl, rfl⟩)
      | (go_at_call 19; (with_reducible refine (format_nil _).mono ?_); rintro e w3 ⟨rfl, rfl⟩)
      | fail)
  case done =>
    have hD := HD.out.1
    have hz2 := HZ3.out
    have hne : D ≠ w.heap.size := by omega
    have hD6 : (W.setCell ⟨w.heap.size, 0, none⟩ (.bool true)).heap[D]? = some (.deferred (some [])) := (Below.heap_setCell _ _ _ _ hne).trans HD.out.2.1
    have hR6 : Blk (W.setCell ⟨w.heap.size, 0, none⟩ (.bool true)) w.heap.size 4 [.bool true] := HR2.out.set 0 _
    have hpb : Below w2.heap.size (W.setCell ⟨w.heap.size, 0, none⟩ (.bool true)) ((W.setCell ⟨w.heap.size, 0, none⟩ (.bool true)).putObj D (.deferred none)) := belowK_b (w := w2) (Nat.le_refl _) _ D _ _ hD hD6 rfl rfl
    have hR7 := hR6.below hpb (by omega)
    have c7 : ((W.setCell ⟨w.heap.size, 0, none⟩ (.bool true)).putObj D (.deferred none)).cell? ⟨w.heap.size, 0, none⟩ = some (.bool true) := hR7.cell 0
    have hX : Below w.heap.size w (W.setCell ⟨w.heap.size, 0, none⟩ (.bool true)) := HW2.out.setCell (by simp) _
    refine ⟨by simp, .inl ⟨_, _, rfl, run_takeDeferred hD6, ?_⟩⟩
    refine ⟨.bool true, ?_, rfl, hX.trans (hpb.mono (by omega))⟩
    simp [results, Try.f7, go_sem, c7]
end Go.Proofs.Ytlbfefdmbdjjcaa
