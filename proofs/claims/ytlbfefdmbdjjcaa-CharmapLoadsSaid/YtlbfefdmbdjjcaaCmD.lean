/-
  Layer 08: segments that a call makes; format 0.
-/
import Derived.Test.YtlbfefdmbdjjcaaCmC
import Derived.Test.YtlbfefdmbdjjcaaOw
namespace Go.Proofs.Ytlbfefdmbdjjcaa
open Go.RowKit

theorem sgC_len (l : List Sg) : ∀ r ∈ l.map sgC, r.length = 6 := fun r hr => by obtain ⟨s, _, rfl⟩ := List.mem_map.1 hr; rfl
theorem sgC_one (l : List Sg) : ∀ u ∈ (l.map sgC).flatten, u.oneCell' = true := fun u hu => by
  obtain ⟨r, hr, hu⟩ := List.mem_flatten.1 hu
  obtain ⟨s, _, rfl⟩ := List.mem_map.1 hr
  simp only [sgC, List.mem_cons, List.mem_nil_iff, or_false] at hu
  rcases hu with rfl | rfl | rfl | rfl | rfl | rfl <;> rfl
theorem sg_info : (Try.prog.info? 65).map (fun i => (i.zero.map (fun z => z.cells.size), i.size, i.bytes)) = some (some 6, 6, 64) := by kernel_rfl
theorem sg_parts : ∃ i z, Try.prog.info? 65 = some i ∧ i.zero = some z ∧ i.size = 6 ∧ i.bytes = 64 ∧ z.cells.size = 6 := by
  have h := sg_info
  cases hi : Try.prog.info? 65 with
  | none => rw [hi] at h; cases h
  | some i =>
    rw [hi] at h
    simp only [Option.map_some, Option.some.injEq, Prod.mk.injEq] at h
    obtain ⟨h1, h2, h3⟩ := h
    cases hz : i.zero with
    | none => rw [hz] at h1; cases h1
    | some z =>
      rw [hz] at h1
      exact ⟨i, z, rfl, hz, h2, h3, by simpa using h1⟩
/-- Segments that a call made. -/
structure SgP (B : Nat) (w : World) (Al : Option Addr) (kl cl : Nat) (l : List Sg) : Prop where
  len : l.length = kl
  own : w.ownsRow B 65 6 (.slice Al kl cl) kl (l.map sgC).flatten
  le : B ≤ w.heap.size
  lists : ∀ v ∈ l, OwI B w v.A v.xs.length v.c v.xs
  ap : ∀ v ∈ l, ∀ k, rowOf v.A = some k → rowOf Al ≠ some k
section
variable {B : Nat} {w w' : World} {Al : Option Addr} {kl cl : Nat} {l : List Sg}
theorem SgP.row (h : SgP B w Al kl cl l) : ∀ k, rowOf Al = some k → B ≤ k ∧ k < w.heap.size := fun k hk => own_lt h.own k (by rw [ownBlock_slice]; exact hk)
theorem SgP.stay (h : SgP B w Al kl cl l) (hs : w.heap.size ≤ w'.heap.size) (hk : ∀ k, B ≤ k → k < w.heap.size → w'.heap[k]? = w.heap[k]?) : SgP B w' Al kl cl l :=
  ⟨h.len, own_keep h.own fun k e => hk k (own_lt h.own k e).1 (own_lt h.own k e).2, Nat.le_trans h.le hs, fun v hv => (h.lists v hv).stay hs hk, h.ap⟩
theorem SgP.keep (h : SgP B w Al kl cl l) (hb : Below w.heap.size w w') : SgP B w' Al kl cl l := h.stay hb.size fun k _ hk => hb.block k hk
theorem SgP.turn (h : SgP B w Al kl cl l) {S : Nat → Prop} (ht : Tn S w w') (hr : ∀ k, B ≤ k → ¬ S k) : SgP B w' Al kl cl l :=
  h.stay ht.size fun k hB hk => ht.block k hk (hr k hB)
theorem SgP.nil (h : B ≤ w.heap.size) : SgP B w none 0 0 [] := ⟨rfl, World.ownsRow_nil _ _ _ _, h, fun _ hv => (List.not_mem_nil hv).elim, fun _ hv => (List.not_mem_nil hv).elim⟩
theorem SgP.list (h : SgP B w Al kl cl l) : SgL w Al kl l := by
  refine ⟨?_, fun v hv => (h.lists v hv).sl⟩
  obtain ⟨A', c', e, h1, _⟩ := RowsAt.of_own h.own rfl (sgC_len l) (by omega)
  injection e with e1 e2 e3
  subst e1
  exact h1
/-- A segment more. -/
theorem SgP.more (h : SgP B w Al kl cl l) {v' : Value} {v : Sg} (hv : OwI B w v.A v.xs.length v.c v.xs) (hva : ∀ k, rowOf v.A = some k → rowOf Al ≠ some k) (hown : w'.ownsRow B 65 6 v' (kl + 1) ((l.map sgC).flatten ++ sgC v)) (hg : w.grownBy w' (Value.slice Al kl cl).ownBlock) (hrow : v'.ownBlock = (Value.slice Al kl cl).ownBlock ∨ v'.ownBlock = some w.heap.size) :
    ∃ A' c', v' = .slice A' (kl + 1) c' ∧ SgP B w' A' (kl + 1) c' (l ++ [v]) ∧ Below B w w' := by
  obtain ⟨A', c', rfl, _⟩ := RowsAt.of_own (rows := (l ++ [v]).map sgC) hown (by simp) (sgC_len _) (by omega)
  rw [ownBlock_slice] at hg
  rw [ownBlock_slice, ownBlock_slice] at hrow
  have hne : ∀ k, k < w.heap.size → rowOf Al ≠ some k → w'.heap[k]? = w.heap[k]? := fun k hk hn => hg.block k hk (fun e => hn e.symm)
  have hn : ∀ k, k < w.heap.size → rowOf Al ≠ some k → rowOf A' ≠ some k := fun k hk hn e => by
    rcases hrow with h1 | h1
    · rw [h1] at e; exact hn e
    · rw [h1] at e; injection e with e; omega
  have keep : ∀ {A : Option Addr} {c n : Nat} {xs : List Int}, OwI B w A n c xs → (∀ k, rowOf A = some k → rowOf Al ≠ some k) → OwI B w' A n c xs := fun {A c n xs} h1 h2 =>
    ⟨h1.len, own_keep h1.own fun k e => hne k (own_lt h1.own k e).2 (h2 k (by rw [← ownBlock_slice]; exact e)), Nat.le_trans h1.le hg.size⟩
  refine ⟨A', c', rfl, ⟨by simp [h.len], by simpa using hown, Nat.le_trans h.le hg.size, ?_, ?_⟩, grown_below' hg h.le (fun k hk => (h.row k hk).1)⟩
  · intro u hu
    rcases List.mem_append.1 hu with hu | hu
    · exact keep (h.lists u hu) (h.ap u hu)
    · rw [List.mem_singleton] at hu
      subst hu
      exact keep hv hva
  · intro u hu k hk
    rcases List.mem_append.1 hu with hu | hu
    · exact hn k ((h.lists u hu).row k hk).2 (h.ap u hu k hk)
    · rw [List.mem_singleton] at hu
      subst hu
      exact hn k (hv.row k hk).2 (hva k hk)
theorem SgP.one {B : Nat} {w : World} {v : Sg} (hB : B ≤ w.heap.size) (hv : OwI B w v.A v.xs.length v.c v.xs) : SgP B (w.alloc (.cells (sgC v).toArray 65)) (some ⟨w.heap.size, 0, none⟩) 1 1 [v] := by
  refine ⟨rfl, ?_, by simp; omega, ?_, ?_⟩
  · have := own_of_blk (size := 6) (n := 1) (Blk.newAt w 65 (sgC v) rfl) rfl hB (by unfold maxLen; omega)
    simpa using this
  · intro u hu
    rw [List.mem_singleton] at hu
    subst hu
    exact hv.keep (bel_alloc bel_refl).below
  · intro u hu k hk
    rw [List.mem_singleton] at hu
    subst hu
    intro e
    simp only [rowOf, Option.map_some, Option.some.injEq] at e
    have := (hv.row k hk).2
    omega
end
/-- What a loader answers. -/
def LdR (v : Option (List Sv)) (w : World) (e : Ending) (w' : World) : Prop :=
  (match v with
    | none => ∃ A k c, e = .returned (.tuple #[.slice A k c, .bool false])
    | some l => ∃ A k c es, e = .returned (.tuple #[.slice A k c, .bool true]) ∧ es.map sgV = l ∧ SgL w' A k es) ∧ Below w.heap.size w w'
theorem ld_no {v : Option (List Sv)} {w w' : World} {A : Option Addr} {k c : Nat} (h : v = none) (hb : Below w.heap.size w w') : LdR v w (.returned (.tuple #[.slice A k c, .bool false])) w' := by
  subst h; exact ⟨⟨_, _, _, rfl⟩, hb⟩
theorem ld_yes {v : Option (List Sv)} {w w' : World} {A : Option Addr} {k c : Nat} {es : List Sg} (h : v = some (es.map sgV)) (he : SgL w' A k es) (hb : Below w.heap.size w w') : LdR v w (.returned (.tuple #[.slice A k c, .bool true])) w' := by
  subst h; exact ⟨⟨_, _, _, _, rfl, rfl, he⟩, hb⟩
theorem OwI.set {B : Nat} {w : World} {A : Option Addr} {L c : Nat} {xs : List Int} (h : OwI B w A L c xs) {p : Addr} (hp : p.block < B) (v : Value) : OwI B (w.setCell p v) A L c xs :=
  h.stay (by simp) fun k hk _ => Below.heap_setCell _ _ _ _ (by omega)
theorem OwI.some {B : Nat} {w : World} {A : Option Addr} {L c : Nat} {xs : List Int} (h : OwI B w A L c xs) (h0 : 0 < L) : A.isSome = true := by
  obtain ⟨b, o, rfl, _⟩ := h.sl.2 0 h0
  rfl
theorem Blk.grown {w w' : World} {b : Nat} {t : TypeId} {cs : List Value} {row : Option Nat} (h : Blk w b t cs) (hg : w.grownBy w' row) (hr : row ≠ some b) : Blk w' b t cs := (hg.block b h.lt (fun e => hr e.symm)).trans h
def ints (bs : List UInt8) : List Int := bs.map fun u => (u.toNat : Int)
def load0S (bs : List UInt8) : Option (List Sv) := if bs.length < 262 then none else some [⟨0, 255, 0, false, some (ints ((bs.drop 6).take 256)), 0⟩]
theorem ints_snoc {bs : List UInt8} {k : Nat} {u : UInt8} (_hk : k < 256) (h : bs[6 + k]? = some u) : ints ((bs.drop 6).take (k + 1)) = ints ((bs.drop 6).take k) ++ [(u.toNat : Int)] := by
  unfold ints
  rw [take_snoc' (by rw [List.getElem?_drop]; exact h), List.map_append]
  rfl
set_option maxRecDepth 20000 in
set_option maxHeartbeats 8000000 in
theorem load0_any {w : World} {bs : List UInt8} {A : Option Addr} {n c : Nat} (hn : bs.length = n) (hs : SlAt w A n (bs.map byteV)) (hc : n ≤ c) (hm : n ≤ 140737488355328) :
    Calls Try.prog 50 #[.slice A n c] w (LdR (load0S bs) w) := by
  by_cases h262 : n < 262
  · have hv : load0S bs = none := by unfold load0S; rw [if_pos (by omega)]
    have HV := Lib.hid hv
    have h' : (n : Int) < 262 := by omega
    clear hv hs
    go_enter Try.func50, Try.ntmps50
    go_wp2_with fail
    go_ret2
    exact ld_no HV.out (Below.refl _ _)
  · have hv : load0S bs = some [⟨0, 255, 0, false, some (ints ((bs.drop 6).take 256)), 0⟩] := by unfold load0S; rw [if_neg (by omega)]
    have h' : ¬ (n : Int) < 262 := by omega
    have HV := Lib.hid hv
    have H := Lib.hid hs
    obtain ⟨b, o, rfl, hb, -⟩ := hs.2 0 (by omega)
    have hc2 : 262 ≤ c := by omega
    have hS := Blk.newAt w 65 [.int .i64 0, .int .i64 255, .int .i64 0, .bool false, .slice none 0 0, .int .i64 0] rfl
    have HS0 := Lib.hid hS
    have hW0 := (bel_alloc (o := .cells #[.int .i64 0, .int .i64 255, .int .i64 0, .bool false, .slice none 0 0, .int .i64 0] 65) (bel_refl (a := w)))
    have HW0 := Lib.hid hW0
    clear hv hs hS hW0
    go_enter Try.func50, Try.ntmps50
    go_wp2_with fail
    go_loopw [14] (fun i wr => ∃ (k : Nat) (A1 : Option Addr) (c1 : Nat), k ≤ 256 ∧ i = .int .i64 k ∧ Hid (Blk wr w.heap.size 65 [.int .i64 0, .int .i64 255, .int .i64 0, .bool false, .slice A1 k c1, .int .i64 0]) ∧ Hid (OwI (w.heap.size + 1) wr A1 k c1 (ints ((bs.drop 6).take k))) ∧ Hid (Below w.heap.size w wr)) (fun i _ => 256 - (intOf i).toNat)
    case atStart => exact ⟨0, none, 0, Nat.zero_le _, rfl, HS0, Lib.hid (OwI.nilB (by simp)), Lib.hid HW0.out.below⟩
    case round =>
      obtain ⟨k, A1, c1, hk, rfl, HS, HO, HW⟩ := hrel
      have s0 : wr.cell? ⟨w.heap.size, 0, none⟩ = some (.int .i64 0) := HS.out.cell 0
      have s1 : wr.cell? ⟨w.heap.size, 1, none⟩ = some (.int .i64 255) := HS.out.cell 1
      have s2 : wr.cell? ⟨w.heap.size, 2, none⟩ = some (.int .i64 0) := HS.out.cell 2
      have s3 : wr.cell? ⟨w.heap.size, 3, none⟩ = some (.bool false) := HS.out.cell 3
      have s4 : wr.cell? ⟨w.heap.size, 4, none⟩ = some (.slice A1 k c1) := HS.out.cell 4
      have s5 : wr.cell? ⟨w.heap.size, 5, none⟩ = some (.int .i64 0) := HS.out.cell 5
      have sl := HS.out.lt
      have hsz := HW.out.size
      by_cases hlt : k < 256
      · obtain ⟨u, hu⟩ := get_some' (l := bs) (k := 6 + k) (by omega)
        obtain ⟨b', o', hA', -, hcu⟩ := sl_byte H.out hu
        injection hA' with hA'
        injection hA' with hA1 hA2
        subst hA1 hA2
        have q0 : wr.cell? ⟨b, o + 6 + k, none⟩ = some (.int .u8 u.toNat) := by
          rw [Nat.add_assoc]
          exact (HW.out.cell (p := ⟨b, _, none⟩) hb).trans hcu
        have hul := u.toNat_lt
        have hsn := ints_snoc hlt hu
        obtain ⟨x, hx⟩ : ∃ x : Int, (u.toNat : Int) = x := ⟨_, rfl⟩
        have hxb : 0 ≤ x ∧ x ≤ 255 := by omega
        obtain ⟨x0, x1⟩ := hxb
        rw [hx] at q0 hsn
        have HSN := Lib.hid hsn
        have HOA := Lib.hid (HO.out.keep (w' := wr.alloc (.cells #[.int .i64 x] 3)) (bel_alloc bel_refl).below)
        have HSA := Lib.hid (HS.out.alloc (.cells #[.int .i64 x] 3))
        have HWA := Lib.hid (HW.out.trans ((bel_alloc (o := .cells #[.int .i64 x] 3) (bel_refl (a := wr))).below.mono hsz))
        clear hcu hu hx hsn
        go_wp2_with (first
          | (at_builtin; refine wpList_append_oi2 (by rfl) (.tmp 19) (.tmp 22) (by rfl) (by rfl) HOA.out (some ⟨wr.heap.size, 0, none⟩) 1 1 (by rfl) [x] (slat_int wr x) (by omega) ?_; intro A3 c3 w5 ho5 hg5 hr5; have HO5 := Lib.hid ho5; have HG5 := Lib.hid hg5; have HS5 := Lib.hid (HSA.out.grown hg5 (fun e => by have := (HOA.out.row _ e).1; omega)); have f5 := HS5.out.frozen 4; have t4 : w5.cell? ⟨w.heap.size, 4, none⟩ = some (.slice A1 k c1) := HS5.out.cell 4; have hl5 := HS5.out.lt; clear ho5 hg5 hr5)
          | fail)
        have HW5 := Lib.hid (HWA.out.trans (grown_below' HG5.out (by simp; omega) (fun j hj => by have := (HOA.out.row j hj).1; omega)))
        go_roundw
        case rel => exact ⟨k + 1, A3, c3, by omega, by go_num, Lib.hid (HS5.out.set 4 _), Lib.hid (by rw [HSN.out]; exact HO5.out.set (by simp) _), Lib.hid (HW5.out.setCell (Nat.le_refl _) _)⟩
        case measure => simp [intOf]; omega
      · obtain rfl : k = 256 := by omega
        have hol := HO.out.len
        have hv1 := SgP.one (B := w.heap.size + 1) (w := wr) (v := ⟨0, 255, 0, false, A1, c1, ints ((bs.drop 6).take 256), 0⟩) HO.out.le (by rw [hol]; exact HO.out)
        simp only [sgC] at hv1
        rw [hol] at hv1
        have HV1 := Lib.hid hv1.list
        have hsm := HO.out.some (by omega)
        have hval : load0S bs = some ([(⟨0, 255, 0, false, A1, c1, ints ((bs.drop 6).take 256), 0⟩ : Sg)].map sgV) := by rw [HV.out]; simp [sgV, hsm]
        have HVL := Lib.hid hval
        clear hv1 hval hol
        go_wp2_with fail
        go_ret2
        exact ld_yes HVL.out HV1.out (HW.out.trans ((bel_alloc bel_refl).below.mono hsz))
end Go.Proofs.Ytlbfefdmbdjjcaa
